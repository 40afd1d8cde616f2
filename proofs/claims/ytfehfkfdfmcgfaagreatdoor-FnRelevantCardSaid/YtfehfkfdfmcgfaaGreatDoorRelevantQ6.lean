/- Texts of this proof, joined: BFn, BTok, Laid, DT, Shelf, SortH, SortZ, LCompare, SortS, LAtoi, LItoa, Ext, Dp0, Dp1, Dp3. What each holds is said at its theorems. -/
import Derived.Test.YtfehfkfdfmcgfaaGreatDoorRelevantQ5
import Derived.Test.YtfehfkfdfmcgfaaGreatDoorRelevantQ1
import Derived.Test.YtfehfkfdfmcgfaaGreatDoorRelevantQ4
import GoSem.Claims
import Derived.Test.YtfehfkfdfmcgfaaGreatDoorRelevantQ2
import Derived.Test.YtfehfkfdfmcgfaaGreatDoorProg
import Derived.Lib.LaidTab
import Derived.Lib.ItoaNum
import Derived.Shelf.Small.Strs
import Derived.Shelf.Small.Wraps
import Derived.Shelf.Strconv.Atoi
import Derived.Shelf.Strconv.Itoa0
import Derived.Shelf.Strconv.Itoa1
import Derived.Shelf.LaysM
import Derived.Shelf.Strconv.Itoa2
import Derived.Shelf.Strconv.Itoa3
import Derived.Shelf.Strconv.AtoiErrFast
import Derived.Shelf.Strconv.ParseIntEmpty
import Derived.Shelf.Strconv.AtoiFail
import Derived.Shelf.Strconv.Clone
import Derived.Shelf.Strconv.SyntaxError
import Derived.Shelf.LaysC
import Derived.Shelf.Strconv.ToError
import Derived.Shelf.Strconv.AtoiErr
import Derived.Shelf.Strconv.ErrVar
import Derived.Shelf.Sort.Plain
import Derived.Shelf.Slices.In.SortNone
import Derived.Shelf.Slices.In.SortNone2
import Derived.Lib.AtoiErrMem
import Derived.Lib.AppendIntMem
import Derived.Lib.ItoaLen
set_option linter.unusedSimpArgs false
set_option linter.unusedVariables false
open Array renaming replicate→A5,getD_eq_getD_getElem?→AK,getElem?_append→AL,getElem?_eq_some_iff→AN,getElem?_eq_none→AQ,getElem?_toList→AU,getElem?_modify→AX
open Bool renaming and_eq_true→A6,not_eq_true'→AO,false_or→AZ,or_false→Aa
open Int renaming toNat_natCast→AD
open List renaming map→A0,mem_append→A4,size_toArray→AC,mem_map→AE,toArray→AF,nodup_append→AH,mapM_cons→AJ,all_eq_true→AM,eq_nil_of_length_eq_zero→AR,getElem?_take→AS,getElem?_drop→AT,getElem?_map→AW,map_map→AY
open List.Sublist renaming append→AI
open List.cons renaming injEq→AB
open Nat renaming le_refl→A8,le_of_ble_eq_true→A9,zero_le→AG
open Option renaming bind_eq_some_iff→A7,map_eq_some_iff→AA,bind_some→AP
open Option.some renaming inj→A1,injEq→A3
open Prod.mk renaming injEq→A2
open Go.Proofs.Tryz
namespace Go.Proofs.YtfehfkfdfmcgfaaGreatDoor
section
open Go.RowKit
section
variable {P:Program} {J:World→Prop} {JF:Nat→Prop} {W:Zaa} {U:Nat→Prop} {st:St} {w w':World} {a:Act} {tt:Nat→Option TI} {g:Gh}
def nK (g:Gh) (K:Nat→Prop) (b:Nat):Prop:=g.Z b∨∃k,K k∧b∈g.O k
theorem Zv3 {k e m n B:Nat} {cs:List Value} (h:w.ownsV 0 e m (g.val k) n cs) (hB:∀b∈(g.val k).ownBlock.toList,B≤b):w.ownsV B e m (g.val k) n cs:=by
 refine ⟨h.1,?_⟩
 rcases h.2 with h0 | ⟨q,o,cap,cur,hv,hg,r⟩
 ·exact .inl h0
 ·exact .inr ⟨q,o,cap,cur,hv,hB q (by simp [hv,Value.ownBlock]),r⟩
variable {K:Nat→Prop}
theorem ZqR [NW] (hI:HI W g st.ob w) (hK:∀k,K k→Zjf (st.ob k)=false∧∀e m xs d,st.ob k=.row e m xs d→d=2) {x:AV} {ct:Bool × CT} {ks:List Nat} {v:Value} (h:ZeV st x=some (ct,ks)) (hks:∀k∈ks,K k∧∀b∈g.O k++g.D k,W.heap.size≤b) (hx:AVR g w x v):OC w W.heap.size (nK g K) ct v (g.F ks):=by
 have hsub:∀b,nK g K b→g.own b:=fun b hb=>by
  rcases hb with hz | ⟨k,_,mk⟩
  ·exact .inr hz
  ·exact .inl ⟨k,mk⟩
 cases x with
 | c y=>
  obtain ⟨L,h1,h2⟩:=hx
  cases y<;>simp only[ZeV,A3,A2] at h<;>obtain ⟨rfl,rfl⟩:=h
  ·exact ⟨⟨h1.1,rfl⟩,by simp [Gh.F]⟩
  ·exact ⟨⟨h1.1,rfl⟩,by simp [Gh.F]⟩
  ·exact ⟨⟨h1.1,rfl,h1.2.2⟩,by simp [Gh.F]⟩
  ·exact ⟨by simp [Gh.F],L,h1,fun b mb hb=>h2 b mb (hsub b hb)⟩
  ·exact ⟨by simp [Gh.F],L,h1,fun b mb hb=>h2 b mb (hsub b hb)⟩
  ·exact ⟨by simp [Gh.F],L,h1,fun b mb hb=>h2 b mb (hsub b hb)⟩
  ·exact ⟨by simp [Gh.F],L,h1,fun b mb hb=>h2 b mb (hsub b hb)⟩
  ·exact ⟨⟨rfl,h1.2⟩,by simp [Gh.F]⟩
  ·exact ⟨by simp [Gh.F],L,h1,fun b mb hb=>h2 b mb (hsub b hb)⟩
  ·exact ⟨by simp [Gh.F],L,h1,fun b mb hb=>h2 b mb (hsub b hb)⟩
 | row k=>
  simp only[ZeV] at h
  split at h
  ·rename_i e m xs d hk
   obtain ⟨hm,cs,L,o1,o2,o3,o5⟩:=hI.deep hk
   split at h
   ·rename_i hd
    simp only[A3,A2] at h
    obtain ⟨rfl,rfl⟩:=h
    have hKk:=hks k (by simp)
    rcases o5 with ⟨_,q1,q2⟩ | ⟨q,_⟩ | ⟨q,_⟩
    ·refine ⟨hm,cs,L,by rw [hx.1];exact Zv3 o1 fun b mb=>hKk.2 b (by simp [q1,mb]),o2,by simp [Gh.F,q1,q2,hx.1],fun b mb=>.inr ⟨k,hKk.1,by rw [q1];rw [hx.1] at mb;exact mb⟩⟩
    ·omega
    ·omega
   ·rename_i hd
    simp only[A3,A2] at h
    obtain ⟨rfl,rfl⟩:=h
    have hnK:¬K k:=fun h=>hd ((hK k h).2 e m xs d hk)
    obtain ⟨A,cap,L0,s1,s2,s3,s4,s5⟩:=Sl.row o1
    refine ⟨by simp [Gh.F],L0++L,⟨A,cap,cs,L0,L,by rw [hx.1,s1],s2,s3,rfl,hm,s4,o2⟩,fun b mb hb=>?_⟩
    rcases A4.1 mb with m1 | m1
    ·have m2:=s5.subset m1
     rcases o5 with ⟨q,_⟩ | ⟨_,q1,q2⟩ | ⟨_,_,_,q⟩
     ·exact hd q
     ·have mk:b∈g.O k++g.D k:=by simp [q1,m2]
      rcases hb with hz | ⟨j,hj,mj⟩
      ·exact hI.nz mk hz
      ·exact hI.apart k j (fun e=>hnK (e ▸ hj)) b mk (by simp [mj])
     ·exact q b m2 (hsub b hb)
    ·exact o3 b m1 (hsub b hb)
  ·rename_i kk vk kv hk
   simp only[A3,A2] at h
   obtain ⟨rfl,rfl⟩:=h
   have ho:=hI.obs k
   rw [hk] at ho
   obtain ⟨b,es,c,q1,q2,q3,q4,q5,q6⟩:=ho
   have hnK:¬K k:=fun h=>by have:=(hK k h).1;rw [hk] at this;simp [Zjf] at this
   refine ⟨by simp [Gh.F],[b],⟨b,es,c,by rw [hx.1,q1],q4,q5,q6,rfl⟩,fun x mx hb=>?_⟩
   simp at mx;subst mx
   have mk:x∈g.O k++g.D k:=by simp [q2]
   rcases hb with hz | ⟨j,hj,mj⟩
   ·exact hI.nz mk hz
   ·exact hI.apart k j (fun e=>hnK (e ▸ hj)) x mk (by simp [mj])
  ·simp at h
 | nil e m=>
  simp only[ZeV] at h
  split at h
  ·rename_i hm
   simp only[A3,A2] at h
   obtain ⟨rfl,rfl⟩:=h
   have hx':v=.slice none 0 0:=hx
   subst hx'
   exact ⟨hm,[],[],ZjM _ _ _ _,⟨rfl,rfl⟩,by simp [Gh.F,Value.ownBlock],by simp [Value.ownBlock]⟩
  ·simp at h
 | n y=>
  obtain ⟨L,h1,h2⟩:=NR.toC hx
  simp only[ZeV,A3,A2] at h
  obtain ⟨rfl,rfl⟩:=h
  exact ⟨by simp [Gh.F],L,h1,fun b mb hb=>h2 b mb (hsub b hb)⟩
 | dead=>
  simp only[ZeV,A3,A2] at h
  obtain ⟨rfl,rfl⟩:=h
  exact ⟨by simp [Gh.F],[],⟨rfl,hx⟩,by simp⟩
theorem Zob [NW] (hI:HI W g st.ob w) (hK:∀k,K k→Zjf (st.ob k)=false∧∀e m xs d,st.ob k=.row e m xs d→d=2):∀{xs:List AV} {cts:List (Bool × CT)} {ks:List Nat} {vs:List Value},ZcI st xs=some (cts,ks)→(∀k∈ks,K k∧∀b∈g.O k++g.D k,W.heap.size≤b)→ZL (AVR g w) xs vs→OCs w W.heap.size (nK g K) cts vs (g.F ks)
 | [],_,_,[],h,_,_=>by
  simp only[ZcI,A3,A2] at h
  obtain ⟨rfl,rfl⟩:=h
  exact ⟨rfl,by simp [Gh.F]⟩
 | [],_,_,_::_,_,_,h=>h.elim
 | _::_,_,_,[],_,_,h=>h.elim
 | x::r,cts,ks,v::vs,h,hks,hr=>by
  simp only[ZcI] at h
  obtain ⟨⟨c1,k1⟩,h1,h⟩:=A7.1 h
  obtain ⟨⟨c2,k2⟩,h2,h⟩:=AA.1 h
  simp only[A2] at h
  obtain ⟨rfl,rfl⟩:=h
  exact ⟨v,vs,g.F k1,g.F k2,rfl,by simp [Gh.F],ZqR hI hK h1 (fun k mk=>hks k (by simp [mk])) hr.1,Zob hI hK h2 (fun k mk=>hks k (by simp [mk])) hr.2⟩
theorem ZrH [NW] (hI:HI W g st.ob w) (hK:∀k,K k→Zjf (st.ob k)=false∧∀e m xs d,st.ob k=.row e m xs d→d=2) {ag:Bool} {cs:List AV} {cts:List (Bool × CT)} {ks:List Nat} {v:Value} (h:ZcI st cs=some (cts,ks)) (hks:∀k∈ks,K k∧∀b∈g.O k++g.D k,W.heap.size≤b) (hx:PVR g w ag cs v):OP w W.heap.size (nK g K) (ag,cts) v (g.F ks):=by
 cases ag with
 | true=>obtain ⟨vs,rfl,h2⟩:=hx;exact .inl ⟨rfl,vs,rfl,Zob hI hK h hks h2⟩
 | false=>
  obtain ⟨x,rfl,h2⟩:=hx
  simp only[ZcI] at h
  obtain ⟨⟨c1,k1⟩,h1,h⟩:=A7.1 h
  simp at h
  obtain ⟨rfl,rfl⟩:=h
  exact .inr ⟨rfl,c1,rfl,ZqR hI hK h1 hks h2⟩
theorem OC.one {B:Nat} {n:Nat→Prop} {x:Bool × CT} {v:Value} {F:List Nat} (h:OC w B n x v F):v.oneCell'=true:=by
 obtain ⟨b,x⟩:=x
 cases b with
 | true=>obtain ⟨_,L,h1,_⟩:=h;exact h1.one
 | false=>
  cases x with
  | sl e q xs=>
   obtain ⟨_,cs,L,o1,_⟩:=h
   obtain ⟨A,cap,hv⟩:=Zax o1
   rw [hv];rfl
  | int k i=>exact h.1.one
  | bool b=>exact h.1.one
  | str s=>exact h.1.one
  | ifc s=>exact h.1.one
  | any=>exact h.1.one
  | _=>exact h.elim
/- what is given is said to be lent -/
theorem Zpc [NW] {B:Nat} {n:Nat→Prop}:∀{r res:List (Bool × CT)} {vs:List Value} {F:List Nat},OCs w B n r vs F→wkC r res→F.Nodup→∃F',F'.Sublist F∧∀m:Nat→Prop,(∀b∈F',n b→m b)→(∀b,m b→n b)→(∀b∈F,m b→b∈F')→OCs w B m res vs F'
 | [],[],vs,F,h,_,_=>⟨[],by simp,fun m _ _ _=>⟨h.1,rfl⟩⟩
 | [],_::_,_,_,_,h,_=>h.elim
 | _::_,[],_,_,_,h,_=>h.elim
 | x::r,y::res,_,_,⟨v,vs,F1,F2,rfl,rfl,h1,h2⟩,hw0,hnd=>by
  rw [AH] at hnd
  have hw0:wk1 x y (wkC r res):=hw0
  unfold wk1 at hw0
  by_cases hany:ZsX y.2=true
  ·rw [if_pos hany] at hw0
   obtain ⟨F2',s2,h2'⟩:=Zpc h2 hw0 hnd.2.1
   refine ⟨F2',s2.trans (List.sublist_append_right _ _),fun m m1 m2 m3=>⟨v,vs,[],F2',rfl,rfl,?_,h2' m m1 m2 fun b mb hb=>m3 b (by simp [mb]) hb⟩⟩
   have h1':=h1.one
   obtain ⟨b2,y⟩:=y
   cases y<;>simp [ZsX] at hany
   cases b2 with
   | true=>exact ⟨rfl,[],⟨rfl,h1'⟩,by simp⟩
   | false=>exact ⟨⟨rfl,h1'⟩,rfl⟩
  rw [if_neg hany] at hw0
  obtain ⟨e1,e2,hw⟩:=hw0
  obtain ⟨F2',s2,h2'⟩:=Zpc h2 hw hnd.2.1
  have key:∃F1',F1'.Sublist F1∧∀m:Nat→Prop,(∀b∈F1',n b→m b)→(∀b,m b→n b)→(∀b∈F1,m b→b∈F1')→OC w B m y v F1':=by
   obtain ⟨b1,x⟩:=x
   obtain ⟨b2,y⟩:=y
   simp only at e1 e2
   subst e1
   cases b1 with
   | true=>
    have:b2=true:=by rcases e2 with e | e<;>simp_all
    subst this
    obtain ⟨rfl,L,q1,q2⟩:=h1
    exact ⟨[],by simp,fun m _ m2 _=>⟨rfl,L,q1,fun b mb hb=>q2 b mb (m2 b hb)⟩⟩
   | false=>
    cases b2 with
    | false=>
     refine ⟨F1,List.Sublist.refl _,fun m m1 _ _=>?_⟩
     cases x with
     | sl e q xs=>
      obtain ⟨hm,cs,L,o1,o2,o3,o4⟩:=h1
      exact ⟨hm,cs,L,o1,o2,o3,fun b mb=>m1 b (by simp [o3,mb]) (o4 b mb)⟩
     | int k i=>exact h1
     | bool b=>exact h1
     | str s=>exact h1
     | ifc s=>exact h1
     | any=>exact h1
     | _=>exact h1.elim
    | true=>
     refine ⟨[],by simp,fun m _ _ m3=>⟨rfl,?_⟩⟩
     cases x with
     | sl e q xs=>
      obtain ⟨hm,cs,L,o1,o2,o3,o4⟩:=h1
      obtain ⟨A,cap,L0,s1,s2,s3,s4,s5⟩:=Sl.row o1
      refine ⟨L0++L,⟨A,cap,cs,L0,L,s1,s2,s3,rfl,hm,s4,o2⟩,fun b mb hb=>?_⟩
      have:b∈F1:=by
       rw [o3]
       rcases A4.1 mb with m1 | m1
       ·exact A4.2 (.inl (s5.subset m1))
       ·exact A4.2 (.inr m1)
      have:=m3 b this hb
      simp at this
     | int k i=>exact ⟨[],h1.1,by simp⟩
     | bool b=>exact ⟨[],h1.1,by simp⟩
     | str s=>exact ⟨[],h1.1,by simp⟩
     | ifc s=>exact ⟨[],h1.1,by simp⟩
     | any=>exact ⟨[],h1.1,by simp⟩
     | _=>exact h1.elim
  obtain ⟨F1',s1,h1'⟩:=key
  refine ⟨F1'++F2',AI s1 s2,fun m m1 m2 m3=>⟨v,vs,F1',F2',rfl,rfl,h1' m (fun b mb=>m1 b (by simp [mb])) m2 (fun b mb hb=>?_),h2' m (fun b mb=>m1 b (by simp [mb])) m2 (fun b mb hb=>?_)⟩⟩
  ·rcases A4.1 (m3 b (by simp [mb]) hb) with h | h
   ·exact h
   ·exact absurd rfl (hnd.2.2 b mb b (s2.subset h))
  ·rcases A4.1 (m3 b (by simp [mb]) hb) with h | h
   ·exact absurd rfl (hnd.2.2 b (s1.subset h) b mb)
   ·exact h
theorem Zzv [NW] {B:Nat} {n:Nat→Prop} {x y:RT} {v:Value} {F:List Nat} (h:OP w B n x v F) (e1:x.1=y.1) (hw:wkC x.2 y.2) (hnd:F.Nodup):∃F',F'.Sublist F∧∀m:Nat→Prop,(∀b∈F',n b→m b)→(∀b,m b→n b)→(∀b∈F,m b→b∈F')→OP w B m y v F':=by
 rcases h with ⟨h1,vs,rfl,h2⟩ | ⟨h1,ct,h2,h3⟩
 ·obtain ⟨F',s,h⟩:=Zpc h2 hw hnd
  exact ⟨F',s,fun m a b c=>.inl ⟨e1 ▸ h1,vs,rfl,h m a b c⟩⟩
 ·obtain ⟨F',s,h⟩:=Zpc (r:=x.2) (vs:=[v]) (F:=F) (by rw [h2];exact ⟨v,[],F,[],rfl,by simp,h3,rfl,rfl⟩) hw hnd
  refine ⟨F',s,fun m p1 p2 p3=>.inr ⟨e1 ▸ h1,?_⟩⟩
  have h4:=h m p1 p2 p3
  generalize y.2=l at h4 hw
  cases l with
  | nil=>rw [h2] at hw;exact hw.elim
  | cons c l=>
   cases l with
   | nil=>
    obtain ⟨v',vs',F1,F2,q1,rfl,q3,q4⟩:=h4
    simp only[AB] at q1
    obtain ⟨rfl,rfl⟩:=q1
    obtain ⟨_,rfl⟩:=q4
    exact ⟨c,rfl,by simpa using q3⟩
   | cons _ _=>
    rw [h2] at hw
    have hw:wk1 _ _ False:=hw
    unfold wk1 at hw
    split at hw
    ·exact hw.elim
    ·exact hw.2.2.elim
theorem Zvl [NW] {B:Nat} {n:Nat→Prop}:∀{r res:List RT} {vs:List Value} {F:List Nat},OPs w B n r vs F→wkR r res→F.Nodup→∃F',F'.Sublist F∧∀m:Nat→Prop,(∀b∈F',n b→m b)→(∀b,m b→n b)→(∀b∈F,m b→b∈F')→OPs w B m res vs F'
 | [],[],vs,F,h,_,_=>⟨[],by simp,fun m _ _ _=>⟨h.1,rfl⟩⟩
 | [],_::_,_,_,_,h,_=>h.elim
 | _::_,[],_,_,_,h,_=>h.elim
 | x::r,y::res,_,_,⟨v,vs,F1,F2,rfl,rfl,h1,h2⟩,⟨e1,e2,hw⟩,hnd=>by
  rw [AH] at hnd
  obtain ⟨F2',s2,h2'⟩:=Zvl h2 hw hnd.2.1
  obtain ⟨F1',s1,h1'⟩:=Zzv h1 e1 e2 hnd.1
  refine ⟨F1'++F2',AI s1 s2,fun m m1 m2 m3=>⟨v,vs,F1',F2',rfl,rfl,h1' m (fun b mb=>m1 b (by simp [mb])) m2 (fun b mb hb=>?_),h2' m (fun b mb=>m1 b (by simp [mb])) m2 (fun b mb hb=>?_)⟩⟩
  ·rcases A4.1 (m3 b (by simp [mb]) hb) with h | h
   ·exact h
   ·exact absurd rfl (hnd.2.2 b mb b (s2.subset h))
  ·rcases A4.1 (m3 b (by simp [mb]) hb) with h | h
   ·exact absurd rfl (hnd.2.2 b (s1.subset h) b mb)
   ·exact h
def Zfj (tmps:Array Value):ResultVar→Sem Value
 | .tmp t=>pure (tmps.getD t undef)
 | .cell b t=>do loadVar t (←asAddr (tmps.getD b undef))
theorem Zio (fn:Func) (tmps:Array Value):results fn tmps=(do let vs ←fn.results.mapM (Zfj tmps);pure (if h:vs.size=1 then vs[0] else .tuple vs)):=by
 unfold results
 congr 1
theorem Zlk [NW] (htt:∀t i,tt t=some i→TOk P t i) (hI:HI W g st.ob w) (hS:∀t,SVR g w (st.sl t) (a.tmps.getD t undef)) (hU:StU U st) (hK:∀k,K k→Zjf (st.ob k)=false∧∀e m xs d,st.ob k=.row e m xs d→d=2):∀{rs:List ResultVar} {res:List RT} {ks:List Nat},ZbD tt st rs=some (res,ks)→(∀k∈ks,K k∧∀b∈g.O k++g.D k,W.heap.size≤b)→
  ∃vs:List Value,(rs.mapM (Zfj a.tmps)).run P w=.ok vs w∧OPs w W.heap.size (nK g K) res vs (g.F ks)
 | [],res,ks,h,_=>by
  simp only[ZbD,A3,A2] at h
  obtain ⟨rfl,rfl⟩:=h
  exact ⟨[],by simp,rfl,by simp [Gh.F]⟩
 | .tmp t::r,res,ks,h,hks=>by
  simp only[ZbD] at h
  split at h
  ·rename_i ag cs hsl
   obtain ⟨⟨c1,k1⟩,h1,h⟩:=A7.1 h
   obtain ⟨⟨c2,k2⟩,h2,h⟩:=AA.1 h
   simp only[A2] at h
   obtain ⟨rfl,rfl⟩:=h
   obtain ⟨vs,i1,i2⟩:=Zlk htt hI hS hU hK h2 (fun k mk=>hks k (by simp [mk]))
   have hs:=hS t
   rw [hsl] at hs
   refine ⟨a.tmps.getD t undef::vs,?_,_,vs,g.F k1,g.F k2,rfl,by simp [Gh.F],ZrH hI hK h1 (fun k mk=>hks k (by simp [mk])) hs,i2⟩
   simp only[AJ,Zfj,Sem.run_bind,Sem.run_pure,Result.andThen_ok,i1]
  ·simp at h
 | .cell t ty::r,res,ks,h,hks=>by
  simp only[ZbD] at h
  split at h
  ·rename_i ag cs hsl
   obtain ⟨⟨c1,k1⟩,h1,h⟩:=A7.1 h
   obtain ⟨⟨c2,k2⟩,h2,h⟩:=AA.1 h
   simp only[A2] at h
   obtain ⟨rfl,rfl⟩:=h
   obtain ⟨vs,i1,i2⟩:=Zlk htt hI hS hU hK h2 (fun k mk=>hks k (by simp [mk]))
   obtain ⟨cv,l1,l2,_⟩:=ZsY (P:=P) (U:=U) htt hI hU hsl (hS t)
   have hl:(do loadVar ty (←asAddr (a.tmps.getD t undef)):Sem Value).run P w=.ok cv w:=by
    have:∃b,a.tmps.getD t undef=.pointer (some b):=by
     have hs:=hS t
     cases hsl':st.sl t with
     | bp k off=>rw [hsl'] at hs;obtain ⟨b,_,hv⟩:=hs;exact ⟨_,hv⟩
     | rp k m i off=>rw [hsl'] at hs;obtain ⟨b,_,_,_,_,hv⟩:=hs;exact ⟨_,hv⟩
     | ep e off=>rw [hsl'] at hs;obtain ⟨b,_,_,_,hv,_⟩:=hs;exact ⟨_,hv⟩
     | p ag2 cs2=>
      rw [hsl'] at hs hsl
      cases ag2 with
      | true=>simp [Qt] at hsl
      | false=>
       cases cs2 with
       | nil=>simp [Qt] at hsl
       | cons y q=>
        cases q with
        | cons _ _=>cases y<;>first | (simp [Qt] at hsl;done) | (rename_i z;cases z<;>simp [Qt] at hsl)
        | nil=>cases y with
         | c z=>cases z with
          | pt e=>obtain ⟨b,_,_,hv,_⟩:=ZsS hs;exact ⟨_,hv⟩
          | _=>simp [Qt] at hsl
         | _=>simp [Qt] at hsl
     | _=>rw [hsl'] at hsl;simp [Qt] at hsl
    obtain ⟨b,hb⟩:=this
    rw [hb] at l1 ⊢
    simpa [Instr.loadAt,Instr.sureAddr,asAddr] using l1
   refine ⟨cv::vs,?_,_,vs,g.F k1,g.F k2,rfl,by simp [Gh.F],ZrH hI hK h1 (fun k mk=>hks k (by simp [mk])) l2,i2⟩
   have hl':(Zfj a.tmps (.cell t ty)).run P w=.ok cv w:=hl
   simp only[AJ,Sem.run_bind,hl',i1,Sem.run_pure,Result.andThen_ok]
  ·simp at h
theorem ZsL:∀{xs:List AV} {cts:List (Bool × CT)} {ks:List Nat},ZcI st xs=some (cts,ks)→∀k∈ks,∃e m xs,st.ob k=.row e m xs 2
 | [],_,_,h,k,mk=>by
  simp only[ZcI,A3,A2] at h
  rw [←h.2] at mk;simp at mk
 | x::r,cts,ks,h,k,mk=>by
  simp only[ZcI] at h
  obtain ⟨⟨c1,k1⟩,h1,h⟩:=A7.1 h
  obtain ⟨⟨c2,k2⟩,h2,h⟩:=AA.1 h
  simp only[A2] at h
  obtain ⟨rfl,rfl⟩:=h
  rcases A4.1 mk with mk | mk
  ·cases x with
   | c y=>cases y<;>simp only[ZeV,A3,A2] at h1<;>(rw [←h1.2] at mk;simp at mk)
   | row j=>
    simp only[ZeV] at h1
    split at h1
    ·rename_i e m xs d hk
     split at h1
     ·rename_i hd
      simp only[A3,A2] at h1
      rw [←h1.2] at mk
      simp at mk
      subst mk
      exact ⟨e,m,xs,by rw [hk,hd]⟩
     ·simp only[A3,A2] at h1
      rw [←h1.2] at mk;simp at mk
    ·simp only[A3,A2] at h1
     rw [←h1.2] at mk;simp at mk
    ·simp at h1
   | nil e m=>
    simp only[ZeV] at h1
    split at h1
    ·simp only[A3,A2] at h1
     rw [←h1.2] at mk;simp at mk
    ·simp at h1
   | n y=>
    simp only[ZeV,A3,A2] at h1
    rw [←h1.2] at mk;simp at mk
   | dead=>
    simp only[ZeV,A3,A2] at h1
    rw [←h1.2] at mk;simp at mk
  ·exact ZsL h2 k mk
theorem Zi4 [NW]:∀{rs:List ResultVar} {res:List RT} {ks:List Nat},ZbD tt st rs=some (res,ks)→∀k∈ks,∃e m xs,st.ob k=.row e m xs 2
 | [],_,_,h,k,mk=>by
  simp only[ZbD,A3,A2] at h
  rw [←h.2] at mk;simp at mk
 | .tmp t::r,res,ks,h,k,mk=>by
  simp only[ZbD] at h
  split at h
  ·obtain ⟨⟨c1,k1⟩,h1,h⟩:=A7.1 h
   obtain ⟨⟨c2,k2⟩,h2,h⟩:=AA.1 h
   simp only[A2] at h
   obtain ⟨rfl,rfl⟩:=h
   rcases A4.1 mk with mk | mk
   ·exact ZsL h1 k mk
   ·exact Zi4 h2 k mk
  ·simp at h
 | .cell t ty::r,res,ks,h,k,mk=>by
  simp only[ZbD] at h
  split at h
  ·obtain ⟨⟨c1,k1⟩,h1,h⟩:=A7.1 h
   obtain ⟨⟨c2,k2⟩,h2,h⟩:=AA.1 h
   simp only[A2] at h
   obtain ⟨rfl,rfl⟩:=h
   rcases A4.1 mk with mk | mk
   ·exact ZsL h1 k mk
   ·exact Zi4 h2 k mk
  ·simp at h
theorem ZwF [NW] {z:Nat→Prop} {x:Bool × List CT} {v:Value} (hg:∀b,g.own b→z b) (h:ZkB w z x v):SVR g w (.p x.1 (x.2.map .c)) v:=by
 rcases h with ⟨h1,vs,L,rfl,h2,h4⟩ | ⟨h1,ct,L,h2,h3,h4⟩
 ·rw [h1];exact ⟨vs,rfl,h2.avr fun b mb hb=>h4 b mb (hg b hb)⟩
 ·rw [h1,h2];exact ⟨_,rfl,L,h3,fun b mb hb=>h4 b mb (hg b hb)⟩
theorem Ztk [NW] {x:CT} {v:Value} {L:List Nat} (h:RC w x v L) (hL:∀b∈L,¬g.own b):AVR g w (Zim x) v:=by
 cases x with
 | nl e m=>exact h.1
 | _=>exact ⟨L,h,hL⟩
theorem Zrg [NW]:∀{e:List CT} {cs:List Value} {L:List Nat},RCs w e cs L→(∀b∈L,¬g.own b)→ZL (AVR g w) (e.map Zim) cs
 | [],_,_,⟨h1,h2⟩,_=>by subst h1;trivial
 | x::r,_,_,⟨v,cs,L1,L2,h1,h2,h3,h4⟩,hL=>by
  subst h1 h2
  exact ⟨Ztk h3 fun b m=>hL b (by simp [m]),Zrg h4 fun b m=>hL b (by simp [m])⟩
theorem ZmE [NW] {z:Nat→Prop} {x:Bool × List CT} {v:Value} (hg:∀b,g.own b→z b) (h:ZkB w z x v):SVR g w (.p x.1 (x.2.map Zim)) v:=by
 rcases h with ⟨h1,vs,L,rfl,h2,h4⟩ | ⟨h1,ct,L,h2,h3,h4⟩
 ·rw [h1];exact ⟨vs,rfl,Zrg h2 fun b mb hb=>h4 b mb (hg b hb)⟩
 ·rw [h1,h2];exact ⟨_,rfl,Ztk h3 fun b mb hb=>h4 b mb (hg b hb)⟩
theorem Zmr (e:List CT):Qn U (e.map Zim):=fun y m=>by
 obtain ⟨x,_,rfl⟩:=AE.1 m
 cases x<;>trivial
theorem ZrX [NW] (htt:∀t i,tt t=some i→TOk P t i) {fn:Func} {res:List RT} (hI:Inv W U st a w) (hH:HI W g st.ob w) (hS:∀t,SVR g w (st.sl t) (a.tmps.getD t undef)) {r:List RT} {ks:List Nat} (hx:ZbD tt st fn.results.toList=some (r,ks)) (hnd:ks.Nodup) (hw:wkR r res)
  (hB:∀k∈ks,∀b∈g.O k++g.D k,W.heap.size≤b) (K0:Nat→Prop) (hK0:∀k,K0 k→Zjf (st.ob k)=false∧∀e m xs d,st.ob k=.row e m xs d→d=2):
  ∃v m,(results fn a.tmps).run P w=.ok v w∧ZjD w W.heap.size m res v∧(∀b,m b→g.own b)∧(∀b,m b→g.Z b∨(∃k,(k∈ks∨K0 k)∧b∈g.O k))∧∀b,b∉g.F ks→(g.Z b∨∃k,K0 k∧b∈g.O k)→m b:=by
 obtain ⟨us,r1,r2⟩:=Zlk (K:=fun k=>k∈ks∨K0 k) htt hH hS hI.wf (fun k hk=>by
  rcases hk with hk | hk
  ·obtain ⟨e',m',xs',h'⟩:=Zi4 hx k hk
   refine ⟨by rw [h'];rfl,fun e m xs d he=>?_⟩
   rw [he] at h'
   simp only[Ob.row.injEq] at h'
   exact h'.2.2.2
  ·exact hK0 k hk) hx (fun k mk=>⟨.inl mk,hB k mk⟩)
 have hndF:=hH.nodupF hnd
 obtain ⟨F',s,hF⟩:=Zvl r2 hw hndF
 have hge:∀b∈g.F ks,W.heap.size≤b:=fun b mb=>by
  obtain ⟨k,hk,mk⟩:=Zi5 mb
  exact hB k hk b mk
 refine ⟨(if h:us.toArray.size=1 then us.toArray[0] else .tuple us.toArray),fun b=>nK g (fun k=>k∈ks∨K0 k) b∧(b∈g.F ks→b∈F'),?_,⟨us,F',hF _ (fun b mb hb=>⟨hb,fun _=>mb⟩) (fun b hb=>hb.1) (fun b mb hb=>hb.2 mb),⟨hndF.sublist s,fun b mb=>hge b (s.subset mb),fun b mb=>?_⟩,rfl⟩,fun b hb=>?_,fun b hb=>hb.1,fun b hb hn=>⟨?_,fun mb=>absurd mb hb⟩⟩
 ·rw [Zio]
  have e:fn.results.mapM (Zfj a.tmps)=AF <$> fn.results.toList.mapM (Zfj a.tmps):=by
   rw [←List.mapM_toArray]
  have e2:(AF <$> fn.results.toList.mapM (Zfj a.tmps)).run P w=.ok us.toArray w:=by
   rw [map_eq_pure_bind]
   simp only[Sem.run_bind,r1,Result.andThen_ok,Sem.run_pure]
  rw [e]
  simp only[Sem.run_bind,e2,Result.andThen_ok,Sem.run_pure]
 ·obtain ⟨k,hk,mk⟩:=Zi5 (s.subset mb)
  obtain ⟨e',m',xs',h'⟩:=Zi4 hx k hk
  have:=(hH.plain k b mk).2
  rw [h'] at this
  exact this
 ·rcases hb.1 with hz | ⟨k,_,mk⟩
  ·exact .inr hz
  ·exact .inl ⟨k,mk⟩
 ·rcases hn with hz | ⟨k,hk,mk⟩
  ·exact .inl hz
  ·exact .inr ⟨k,.inr hk,mk⟩
theorem ZqU [NW] {g':Gh} (hv:∀k e m xs,st.ob k=.row e m xs 2→g'.val k=g.val k∧U k) {x:AV} {v:Value} (h:AVR g w x v):AVR g' w (ZiH st x) v∧avU U (ZiH st x):=by
 have one:=h.one
 unfold ZiH
 split
 ·obtain ⟨L,⟨h1,_⟩,_⟩:=h
  exact ⟨⟨[],⟨h1,rfl⟩,by simp⟩,trivial⟩
 ·obtain ⟨L,⟨h1,_⟩,_⟩:=h
  exact ⟨⟨[],⟨h1,rfl⟩,by simp⟩,trivial⟩
 ·obtain ⟨L,⟨h1,_,h3⟩,_⟩:=h
  exact ⟨⟨[],⟨h1,rfl,h3⟩,by simp⟩,trivial⟩
 ·rename_i k
  cases hk:st.ob k with
  | row e m xs d=>
   simp only[Ztb]
   split
   ·rename_i hd
    subst hd
    obtain ⟨e1,e2⟩:=hv k e m xs hk
    exact ⟨⟨h.1.trans e1.symm,one⟩,e2⟩
   ·exact ⟨one,trivial⟩
  | gone=>exact ⟨one,trivial⟩
  | box _ _=>exact ⟨one,trivial⟩
  | map _ _ _=>exact ⟨one,trivial⟩
 ·exact ⟨one,trivial⟩
theorem ZjT [NW] {g':Gh} (hv:∀k e m xs,st.ob k=.row e m xs 2→g'.val k=g.val k∧U k):∀{cs:List AV} {vs:List Value},ZL (AVR g w) cs vs→ZL (AVR g' w) (cs.map (ZiH st)) vs
 | [],[],_=>trivial
 | _::_,_::_,h=>⟨(ZqU hv h.1).1,ZjT hv h.2⟩
 | [],_::_,h=>h.elim
 | _::_,[],h=>h.elim
theorem Zwo [NW] {x:SV} {v:Value} {g':Gh} (hv:∀k e m xs,st.ob k=.row e m xs 2→g'.val k=g.val k∧U k) (hu:svU U x) (hvu:∀k,U k→g'.val k=g.val k) (h:SVR g w x v):SVR g' w (ZoD st x) v:=by
 cases x with
 | p ag cs=>
  cases ag with
  | true=>obtain ⟨vs,e,h⟩:=h;exact ⟨vs,e,ZjT hv h⟩
  | false=>obtain ⟨y,rfl,h⟩:=h;exact ⟨_,rfl,(ZqU hv h).1⟩
 | bp k off=>obtain ⟨b,h1,h2⟩:=h;exact ⟨b,(hvu k hu).trans h1,h2⟩
 | _=>trivial
theorem Ztt (hv:∀k e m xs,st.ob k=.row e m xs 2→U k) (x:AV):avU U (ZiH st x):=by
 unfold ZiH
 split
 ·trivial
 ·trivial
 ·trivial
 ·rename_i k
  cases hk:st.ob k with
  | row e m xs d=>
   simp only[Ztb]
   split
   ·rename_i hd
    subst hd
    exact hv k e m xs hk
   ·trivial
  | gone=>trivial
  | box _ _=>trivial
  | map _ _ _=>trivial
 ·trivial
theorem Zw8 (hv:∀k e m xs,st.ob k=.row e m xs 2→U k) (x:SV) (hu:svU U x):svU U (ZoD st x):=by
 cases x with
 | p ag cs=>
  intro y my
  obtain ⟨x,mx,rfl⟩:=AE.1 my
  exact Ztt hv x
 | bp k off=>exact hu
 | _=>trivial
theorem Zl6 {o:Ob} (h:Zan st o≠.gone):(∃e m xs,o=.row e m xs 2)∨∃t cs,o=.box t cs:=by
 cases o with
 | row e m xs d=>
  simp only[Zan] at h
  split at h
  ·rename_i hd
   subst hd
   exact .inl ⟨e,m,xs,rfl⟩
  ·exact absurd rfl h
 | gone=>exact absurd rfl h
 | box t cs=>exact .inr ⟨t,cs,rfl⟩
 | map _ _ _=>exact absurd rfl h
theorem ZvH [NW] (hB:W.heap.size≤NW.B0) (t:Nat) (hI:Inv W U st a w) (hkn:∀k,st.n≤k→¬U k):∃U',Inv W U' (st.thaw t) a w:=by
 obtain ⟨⟨g,hH,hS⟩,hU,hdef,hh⟩:=hI
 unfold St.thaw
 cases hv:st.sl t with
 | p ag cs=>
  by_cases hc:∃e m xs,ag=false∧cs=[.n (.sl e m xs)]
  ·obtain ⟨e,m,xs,rfl,rfl⟩:=hc
   have hs:=hS t
   rw [hv] at hs
   obtain ⟨_,_,_,cs,L,h1,h2,h3,h4,h5,h6⟩:=ZD0 hs
   simp only[CT.sl.injEq] at h1
   obtain ⟨rfl,rfl,rfl⟩:=h1
   let v:=a.tmps.getD t undef
   have hn:st.ob st.n=.gone:=hU.gone _ (hkn _ (A8 _))
   have hrow:∀k e m xs,st.ob k=.row e m xs 2→k≠st.n∧U k:=fun k e m xs hk=>⟨fun e=>by rw [e,hn] at hk;simp at hk,Classical.byContradiction fun h=>by rw [hU.gone k h] at hk;simp at hk⟩
   let g':Gh:=⟨fun k=>if k=st.n then v else g.val k,fun k=>if k=st.n then v.ownBlock.toList else (match Zan st (st.ob k) with | .gone=>[] | _=>g.O k),fun k=>if k=st.n then L else (match Zan st (st.ob k) with | .gone=>[] | _=>g.D k),g.Z⟩
   have gn:g'.val st.n=v∧g'.O st.n=v.ownBlock.toList∧g'.D st.n=L:=⟨if_pos rfl,if_pos rfl,if_pos rfl⟩
   have gk:∀k,k≠st.n→Zan st (st.ob k)≠.gone→g'.O k=g.O k∧g'.D k=g.D k:=fun k hk ho=>by
    rcases Zl6 ho with ⟨e',m',xs',e1⟩ | ⟨t',cs',e1⟩
    ·simp [g',if_neg hk,e1,Zan]
    ·simp [g',if_neg hk,e1,Zan]
   have gg:∀k,k≠st.n→Zan st (st.ob k)=.gone→g'.O k=[]∧g'.D k=[]:=fun k hk ho=>by
    simp only[g',if_neg hk,ho]
    exact ⟨trivial,trivial⟩
   have hOD:∀k b,b∈g'.O k++g'.D k→(k=st.n∧b∈v.ownBlock.toList++L)∨(k≠st.n∧Zan st (st.ob k)≠.gone∧b∈g.O k++g.D k):=fun k b mb=>by
    by_cases hk:k=st.n
    ·subst hk;rw [gn.2.1,gn.2.2] at mb;exact .inl ⟨rfl,mb⟩
    ·by_cases ho:Zan st (st.ob k)=.gone
     ·rw [(gg k hk ho).1,(gg k hk ho).2] at mb;simp at mb
     ·rw [(gk k hk ho).1,(gk k hk ho).2] at mb;exact .inr ⟨hk,ho,mb⟩
   have hlow:∀k b,b∈g.O k++g.D k→g.low b:=fun k b mb=>by
    rcases A4.1 mb with m1 | m1
    ·exact .inl (.inl ⟨k,m1⟩)
    ·exact .inr ⟨k,m1⟩
   refine ⟨fun k=>U k∨k=st.n,⟨g',⟨hH.below,fun k=>?_,fun k=>?_,fun k j hkj b mb mj=>?_,fun k b mb=>?_,hH.gz,hH.zx,hH.nw⟩,fun s=>?_⟩,⟨fun s=>?_,fun k=>?_,fun k hk=>?_⟩,hdef,hh⟩
   ·show ObR g' w k (if k=st.n then .row e m xs 2 else Zan st (st.ob k))
    by_cases hk:k=st.n
    ·subst hk
     rw [if_pos rfl]
     exact ⟨h2,cs,L,by rw [gn.1];exact h3,h4,.inl ⟨rfl,by rw [gn.2.1,gn.1],gn.2.2⟩⟩
    ·rw [if_neg hk]
     by_cases ho:Zan st (st.ob k)=.gone
     ·rw [ho];exact gg k hk ho
     ·have hob:=hH.obs k
      have ev:g'.val k=g.val k:=if_neg hk
      obtain ⟨eO,eD⟩:=gk k hk ho
      rcases Zl6 ho with ⟨e',m',xs',e1⟩ | ⟨t',cs',e1⟩
      ·rw [e1] at hob ⊢
       obtain ⟨p1,cs',L',p2,p3,p4⟩:=hob
       rw [show Zan st (.row e' m' xs' 2)=.row e' m' xs' 2 from by simp [Zan]]
       refine ⟨p1,cs',L',by rw [ev];exact p2,p3,?_⟩
       rw [ev,eO,eD]
       rcases p4 with p4 | ⟨q,_⟩ | ⟨q,_⟩
       ·exact .inl p4
       ·omega
       ·omega
      ·rw [e1] at hob ⊢
       obtain ⟨b,vs,p1,p2,p3,p4,p5⟩:=hob
       exact ⟨b,vs,ev.trans p1,eO.trans p2,eD.trans p3,p4,ZjT (U:=U) (fun k e m xs hk=>⟨if_neg (hrow k e m xs hk).1,(hrow k e m xs hk).2⟩) p5⟩
   ·by_cases hk:k=st.n
    ·subst hk;rw [gn.2.1,gn.2.2];exact h5
    ·by_cases ho:Zan st (st.ob k)=.gone
     ·rw [(gg k hk ho).1,(gg k hk ho).2];simp
     ·rw [(gk k hk ho).1,(gk k hk ho).2];exact hH.nodup k
   ·rcases hOD k b mb with ⟨rfl,m1⟩ | ⟨k1,k2,m1⟩
    ·rcases hOD j b mj with ⟨rfl,m2⟩ | ⟨j1,j2,m2⟩
     ·exact hkj rfl
     ·exact (h6 b m1).1 (hlow j b m2)
    ·rcases hOD j b mj with ⟨rfl,m2⟩ | ⟨j1,j2,m2⟩
     ·exact (h6 b m2).1 (hlow k b m1)
     ·exact hH.apart k j hkj b m1 m2
   ·show _∧Xx w (if k=st.n then .row e m xs 2 else Zan st (st.ob k)) b
    rcases hOD k b mb with ⟨rfl,m1⟩ | ⟨k1,k2,m1⟩
    ·rw [if_pos rfl]
     exact ⟨.inl (Nat.le_trans hB (h6 b m1).2.1),(h6 b m1).2.2⟩
    ·obtain ⟨q1,q2⟩:=hH.plain k b m1
     rw [if_neg k1]
     refine ⟨q1,q2.of ?_⟩
     rcases Zl6 k2 with ⟨e',m',xs',e1⟩ | ⟨t',cs',e1⟩
     ·rw [e1];rfl
     ·rw [e1];rfl
   ·show SVR g' w (if s=t then .p false [.row st.n] else ZoD st (st.sl s)) _
    by_cases hs':s=t
    ·subst hs'
     rw [if_pos rfl]
     obtain ⟨A,cap,hval⟩:=Zax h3
     exact ⟨_,rfl,gn.1.symm,by rw [hval];rfl⟩
    ·rw [if_neg hs']
     exact Zwo (U:=U) (fun k e m xs hk=>⟨if_neg (hrow k e m xs hk).1,(hrow k e m xs hk).2⟩) (hU.sl s) (fun k hk=>if_neg fun e=>hkn k (by omega) hk) (hS s)
   ·show svU _ (if s=t then .p false [.row st.n] else ZoD st (st.sl s))
    by_cases hs':s=t
    ·rw [if_pos hs'];intro y my;simp at my;subst my;exact .inr rfl
    ·rw [if_neg hs'];exact Zw8 (fun k e m xs hk=>.inl (hrow k e m xs hk).2) _ ((hU.sl s).mono fun _=>.inl)
   ·show obU _ (if k=st.n then .row e m xs 2 else Zan st (st.ob k))
    split
    ·trivial
    ·cases hk:st.ob k with
     | row e' m' xs' d'=>simp only[Zan];split<;>trivial
     | box t' cs'=>
      intro y my
      obtain ⟨x,mx,rfl⟩:=AE.1 my
      exact Ztt (fun k e m xs hk=>.inl (hrow k e m xs hk).2) x
     | _=>trivial
   ·show (if k=st.n then .row e m xs 2 else Zan st (st.ob k))=.gone
    rw [if_neg fun e=>hk (.inr e),hU.gone k fun h=>hk (.inl h)]
    rfl
  ·have e:Zqr st t (.p ag cs)=st:=by
    unfold Zqr
    split
    ·rename_i h
     simp only[SV.p.injEq] at h
     exact absurd ⟨_,_,_,h.1,h.2⟩ hc
    ·rfl
   rw [e]
   exact ⟨U,⟨g,hH,hS⟩,hU,hdef,hh⟩
 | _=>exact ⟨U,⟨g,hH,hS⟩,hU,hdef,hh⟩
end
abbrev nw0:NW:=⟨0⟩
section
variable {P:Program} {J:World→Prop} {JF:Nat→Prop} {W:Zaa} {U:Nat→Prop} {st:St} {w w':World} {a:Act} {tt:Nat→Option TI} {od:OD} {g:Gh}
structure JOk (J:World→Prop) (JF:Nat→Prop):Prop where
 below:∀(x:Nat→Prop) (w w':World),J w→(∀b,x b→JF b)→w'.os=w.os→w'.tape=w.tape→w'.output=w.output→w.heap.size≤w'.heap.size→(∀k,k<w.heap.size→¬x k→w'.heap[k]?=w.heap[k]?)→J w'
 new:∀(w:World) b,J w→w.heap.size≤b→JF b
theorem Ze0 {args:List (Bool × List CT)} {vs:List Value} {N t o:Nat} (h:vs.length≤N) (v:Value) (hv:vs[t]?=some v):(vs.toArray++A5 (N - vs.toArray.size) undef).getD t undef=v:=by
 have hl:t<vs.length:=(List.getElem?_eq_some_iff.1 hv).1
 simp only[AK,AL,AC,hl,if_true,List.getElem?_toArray,hv,Option.getD_some]
theorem Zi6 {vs:List Value} {N t:Nat} (ht:vs.length≤t):(vs.toArray++A5 (N - vs.toArray.size) undef).getD t undef=undef:=by
 simp only[AK,AL,AC,show ¬t<vs.length by omega,if_false,Array.getElem?_replicate]
 split<;>rfl
theorem Zv4 (htt : ∀ t i, tt t = some i → TOk P t i) (hJ : JOk J JF) (hmix : P.follows .mixedOrders = true) {hds : FuncId → Nat} {f : FuncId} {fn : Func} {c : Code} {args : List (Bool × List CT)} {res : List RT} (hf : P.funcs[f]? = some fn) (hname : (fn.name == "runtime.NumGoroutine") = false) (hb : fn.body = some c)
  (hok:Xh od tt hds false fn.ntmps c=true) (hlen:Nat.ble args.length fn.ntmps=true) (h:fnS od tt (SC P J JF hds) fn.results.toList c args res):Zk P J f args res:=by
 letI:NW:=nw0
 refine ⟨⟨fn,hf,hname,by rw [hb];rfl⟩,fun w z vs hj hz hargs=>?_⟩
 have hlen':args.length≤fn.ntmps:=A9 hlen
 have hvl:=hargs.len
 refine calls_of_wp hf hb ?_
 let W:Zaa:={ w with z:=z,x:=fun _=>False,hv:=none }
 let g0:Gh:=⟨fun _=>undef,fun _=>[],fun _=>[],z⟩
 have hg0:∀b,g0.own b→z b:=fun b hb=>by
  rcases hb with ⟨k,m⟩ | h
  ·simp [g0] at m
  ·exact h
 have hI0:Inv W (fun _=>False) (Zm args) { tmps:=vs.toArray++A5 (fn.ntmps - vs.toArray.size) undef,defers:=[] } w:=by
  refine ⟨⟨g0,⟨⟨rfl,rfl,rfl,A8 _,fun _ _ _=>rfl⟩,fun k=>⟨rfl,rfl⟩,fun k=>by simp [g0],fun k j _ b m=>by simp [g0] at m,fun k b m=>by simp [g0] at m,rfl,fun b hb=>⟨hz b hb,fun h=>h⟩,fun _ _=>AG _⟩,fun t=>?_⟩,⟨fun t=>?_,fun k=>trivial,fun k _=>rfl⟩,rfl,fun v hv=>by simp [W] at hv⟩
  ·show SVR g0 w (match args[t]? with | some x=>.p x.1 (x.2.map Zim) | none=>.und) _
   cases ht:args[t]? with
   | none=>exact Zi6 (by have:args.length≤t:=(by simpa using ht);omega)
   | some x=>
    obtain ⟨v,hv,hr⟩:=hargs.at ht
    show SVR g0 w (.p x.1 (x.2.map Zim)) ((vs.toArray++A5 (fn.ntmps - vs.toArray.size) undef).getD t undef)
    rw [Ze0 (args:=args) (o:=0) (by omega) v hv]
    exact ZmE hg0 hr
  ·show svU _ (match args[t]? with | some x=>.p x.1 (x.2.map Zim) | none=>.und)
   split
   ·exact Zmr _
   ·trivial
 have hM:MOk P J JF W tt:=⟨htt,fun w' hb=>hJ.below (fun _=>False) w w' hj (fun _ h=>h.elim) hb.os hb.tape hb.output hb.size (fun k hk hx=>hb.block k hk hx),fun b hb=>hJ.new w b hj hb,fun b h=>h.elim⟩
 refine Qo (W:=W) hM hmix (.inl rfl) c hok (Zrj tt fn.results.toList fun _ r _=>wkR r res) _ ?_ _ (Zm args) _ w hI0 (fun _ _ h=>h) (by simp;omega) h
 intro ex U' st' a' w' hI' _ _ hK
 have fin:(match ZbD tt st' fn.results.toList with | some x=>x.2.Nodup∧wkR x.1 res | none=>False)→a'.defers=[]∧∃v,(results fn a'.tmps).run P w'=.ok v w'∧∃u n,Ending.returned v=.returned u∧ZjD w' w.heap.size n res u∧(∀b,z b→n b)∧Below w.heap.size w w':=fun hK=>by
  split at hK
  ·rename_i x hx
   obtain ⟨r,ks⟩:=x
   obtain ⟨hnd,hw⟩:=hK
   obtain ⟨g,hH,hS⟩:=hI'.ex
   have hBg:∀k∈ks,∀b∈g.O k++g.D k,W.heap.size≤b:=fun k _ b mb=>(hH.plain k b mb).1.resolve_right fun h=>h
   obtain ⟨v,m,e1,e2,_,_,e4⟩:=ZrX htt hI' hH hS hx hnd hw hBg (fun _=>False) (fun _ h=>h.elim)
   have hbel:=hH.below
   exact ⟨hI'.defers,v,e1,v,m,rfl,e2,fun b hb=>e4 b (fun mb=>by obtain ⟨k,hk,mk⟩:=Zi5 mb;have:=hBg k hk b mk;have:=hz b hb;have e:W.heap.size=w.heap.size:=rfl;omega) (.inl (by rw [hH.gz];exact hb)),hbel.os,hbel.tape,hbel.output,hbel.size,fun k hk=>hbel.block k hk fun h=>h⟩
  ·exact hK.elim
 cases ex with
 | normal=>exact fin hK
 | exit id=>exact hK.elim
 | ret=>exact fin hK
theorem ZuH (htt : ∀ t i, tt t = some i → TOk P t i) (hJ : JOk J JF) (hmix : P.follows .mixedOrders = true) {hds : FuncId → Nat} {f : FuncId} {fn : Func} {c : Code} {args : List (Bool × List CT)} {res : List RT} (hf : P.funcs[f]? = some fn) (hname : (fn.name == "runtime.NumGoroutine") = false) (hb : fn.body = some c)
  (hok:Xh od tt hds false fn.ntmps c=true) (hlen:Nat.ble args.length fn.ntmps=true) (t0:Nat) (h:fnN od tt (SC P J JF hds) fn.results.toList t0 c args res):Zk P J f args res:=by
 refine ⟨⟨fn,hf,hname,by rw [hb];rfl⟩,fun w z vs hj hz hargs=>?_⟩
 letI:NW:=⟨w.heap.size⟩
 have hlen':args.length≤fn.ntmps:=A9 hlen
 have hvl:=hargs.len
 refine calls_of_wp hf hb ?_
 let W:Zaa:={ w with z:=z,x:=fun _=>False,hv:=none }
 let g0:Gh:=⟨fun _=>undef,fun _=>[],fun _=>[],z⟩
 have hg0:∀b,g0.own b→z b:=fun b hb=>by
  rcases hb with ⟨k,m⟩ | h
  ·simp [g0] at m
  ·exact h
 have hI0:Inv W (fun _=>False) (Zm args) { tmps:=vs.toArray++A5 (fn.ntmps - vs.toArray.size) undef,defers:=[] } w:=by
  refine ⟨⟨g0,⟨⟨rfl,rfl,rfl,A8 _,fun _ _ _=>rfl⟩,fun k=>⟨rfl,rfl⟩,fun k=>by simp [g0],fun k j _ b m=>by simp [g0] at m,fun k b m=>by simp [g0] at m,rfl,fun b hb=>⟨hz b hb,fun h=>h⟩,fun b hb=>hb.elim (fun h=>h) fun h=>h.elim⟩,fun t=>?_⟩,⟨fun t=>?_,fun k=>trivial,fun k _=>rfl⟩,rfl,fun v hv=>by simp [W] at hv⟩
  ·show SVR g0 w (match args[t]? with | some x=>.p x.1 (x.2.map Zim) | none=>.und) _
   cases ht:args[t]? with
   | none=>exact Zi6 (by have:args.length≤t:=(by simpa using ht);omega)
   | some x=>
    obtain ⟨v,hv,hr⟩:=hargs.at ht
    show SVR g0 w (.p x.1 (x.2.map Zim)) ((vs.toArray++A5 (fn.ntmps - vs.toArray.size) undef).getD t undef)
    rw [Ze0 (args:=args) (o:=0) (by omega) v hv]
    exact ZmE hg0 hr
  ·show svU _ (match args[t]? with | some x=>.p x.1 (x.2.map Zim) | none=>.und)
   split
   ·exact Zmr _
   ·trivial
 have hM:MOk P J JF W tt:=⟨htt,fun w' hb=>hJ.below (fun _=>False) w w' hj (fun _ h=>h.elim) hb.os hb.tape hb.output hb.size (fun k hk hx=>hb.block k hk hx),fun b hb=>hJ.new w b hj hb,fun b h=>h.elim⟩
 refine Qo (W:=W) hM hmix (.inl rfl) c hok (ZwX t0 (Zrj tt fn.results.toList fun _ r _=>wkR r res)) _ ?_ _ (Zm args) _ w hI0 (fun _ _ h=>h) (by simp;omega) h
 intro ex U1 st1 a' w' hI1 hn1 _ hK
 obtain ⟨U',hI'⟩:=ZvH (A8 _) t0 hI1 hn1
 generalize hst:st1.thaw t0=st' at hI'
 simp only[ZwX,hst] at hK
 have fin:(match ZbD tt st' fn.results.toList with | some x=>x.2.Nodup∧wkR x.1 res | none=>False)→a'.defers=[]∧∃v,(results fn a'.tmps).run P w'=.ok v w'∧∃u n,Ending.returned v=.returned u∧ZjD w' w.heap.size n res u∧(∀b,z b→n b)∧Below w.heap.size w w':=fun hK=>by
  split at hK
  ·rename_i x hx
   obtain ⟨r,ks⟩:=x
   obtain ⟨hnd,hw⟩:=hK
   obtain ⟨g,hH,hS⟩:=hI'.ex
   have hBg:∀k∈ks,∀b∈g.O k++g.D k,W.heap.size≤b:=fun k _ b mb=>(hH.plain k b mb).1.resolve_right fun h=>h
   obtain ⟨v,m,e1,e2,_,_,e4⟩:=ZrX htt hI' hH hS hx hnd hw hBg (fun _=>False) (fun _ h=>h.elim)
   have hbel:=hH.below
   exact ⟨hI'.defers,v,e1,v,m,rfl,e2,fun b hb=>e4 b (fun mb=>by obtain ⟨k,hk,mk⟩:=Zi5 mb;have:=hBg k hk b mk;have:=hz b hb;have e:W.heap.size=w.heap.size:=rfl;omega) (.inl (by rw [hH.gz];exact hb)),hbel.os,hbel.tape,hbel.output,hbel.size,fun k hk=>hbel.block k hk fun h=>h⟩
  ·exact hK.elim
 cases ex with
 | normal=>exact fin hK
 | exit id=>exact hK.elim
 | ret=>exact fin hK
theorem ZtB (htt : ∀ t i, tt t = some i → TOk P t i) (hJ : JOk J JF) (hmix : P.follows .mixedOrders = true) {hds : FuncId → Nat} {f : FuncId} {fn : Func} {c : Code} {args : List (Bool × List CT)} {nb : NB} (hf : P.funcs[f]? = some fn) (hname : (fn.name == "runtime.NumGoroutine") = false) (hb : fn.body = some c)
  (hok:Xh od tt hds false fn.ntmps c=true) (hlen:Nat.ble args.length fn.ntmps=true) (h:fnB od tt (SC P J JF hds) fn.results.toList c args nb):Zmx P J f args nb:=by
 letI:NW:=nw0
 refine ⟨⟨fn,hf,hname,by rw [hb];rfl⟩,fun w z vs hj hz hargs=>?_⟩
 have hlen':args.length≤fn.ntmps:=A9 hlen
 have hvl:=hargs.len
 refine calls_of_wp hf hb ?_
 let W:Zaa:={ w with z:=z,x:=fun _=>False,hv:=none }
 let g0:Gh:=⟨fun _=>undef,fun _=>[],fun _=>[],z⟩
 have hg0:∀b,g0.own b→z b:=fun b hb=>by
  rcases hb with ⟨k,m⟩ | h
  ·simp [g0] at m
  ·exact h
 have hI0:Inv W (fun _=>False) (Zm args) { tmps:=vs.toArray++A5 (fn.ntmps - vs.toArray.size) undef,defers:=[] } w:=by
  refine ⟨⟨g0,⟨⟨rfl,rfl,rfl,A8 _,fun _ _ _=>rfl⟩,fun k=>⟨rfl,rfl⟩,fun k=>by simp [g0],fun k j _ b m=>by simp [g0] at m,fun k b m=>by simp [g0] at m,rfl,fun b hb=>⟨hz b hb,fun h=>h⟩,fun _ _=>AG _⟩,fun t=>?_⟩,⟨fun t=>?_,fun k=>trivial,fun k _=>rfl⟩,rfl,fun v hv=>by simp [W] at hv⟩
  ·show SVR g0 w (match args[t]? with | some x=>.p x.1 (x.2.map Zim) | none=>.und) _
   cases ht:args[t]? with
   | none=>exact Zi6 (by have:args.length≤t:=(by simpa using ht);omega)
   | some x=>
    obtain ⟨v,hv,hr⟩:=hargs.at ht
    show SVR g0 w (.p x.1 (x.2.map Zim)) ((vs.toArray++A5 (fn.ntmps - vs.toArray.size) undef).getD t undef)
    rw [Ze0 (args:=args) (o:=0) (by omega) v hv]
    exact ZmE hg0 hr
  ·show svU _ (match args[t]? with | some x=>.p x.1 (x.2.map Zim) | none=>.und)
   split
   ·exact Zmr _
   ·trivial
 have hM:MOk P J JF W tt:=⟨htt,fun w' hb=>hJ.below (fun _=>False) w w' hj (fun _ h=>h.elim) hb.os hb.tape hb.output hb.size (fun k hk hx=>hb.block k hk hx),fun b hb=>hJ.new w b hj hb,fun b h=>h.elim⟩
 refine Qo (W:=W) hM hmix (.inl rfl) c hok (ZwE fn.results.toList nb) _ ?_ _ (Zm args) _ w hI0 (fun _ _ h=>h) (by simp;omega) h
 intro ex U' st' a' w' hI' _ _ hK
 have fin:Zft st' fn.results.toList nb→a'.defers=[]∧∃v,(results fn a'.tmps).run P w'=.ok v w'∧∃(b:Nat) (n:Nat→Prop),Ending.returned v=.returned (Zol b nb)∧w.heap.size≤b∧nbR w' n b nb∧n b∧(∀x,z x→n x)∧Below w.heap.size w w':=fun hK=>by
  unfold Zft at hK
  split at hK
  ·rename_i s hrs
   have er:fn.results=#[.tmp s]:=by
    have:=congrArg AF hrs
    simpa using this
   obtain ⟨g,hH,hS⟩:=hI'.ex
   have hs:=hS s
   have hbel:=hH.below
   cases nb with
   | box t cs=>
    obtain ⟨k,ds,k1,k2,k3,k4⟩:=hK
    rw [k1] at hs
    obtain ⟨b,b1,b2⟩:=hs
    have hob:=hH.obs k
    rw [k2] at hob
    obtain ⟨b',us,o1,o2,o3,o4,o5⟩:=hob
    have hbb:b'=b:=by rw [b1] at o1;simpa using o1.symm
    subst hbb
    obtain ⟨L,hL,hL2⟩:=ZeF hH k4 o5
    have hno:=hL2 fun y my=>by
     have:=AM.1 k3 y my
     cases y<;>simp [Zaw] at this<;>trivial
    refine ⟨hI'.defers,_,?_,b',fun x=>g.own x,rfl,(hH.plain k b' (by simp [o2])).1.resolve_right fun h=>h,⟨us,L,o4,hL,hno⟩,.inl ⟨k,by simp [o2]⟩,fun x hx=>.inr (by rw [hH.gz];exact hx),hbel.os,hbel.tape,hbel.output,hbel.size,fun k hk=>hbel.block k hk fun h=>h⟩
    rw [Zio,er]
    simp [Zfj,b2,Zol]
   | map kk vk kv=>
    obtain ⟨k,k1,k2⟩:=hK
    rw [k1] at hs
    obtain ⟨x,hx,hx3⟩:=hs
    simp only[AB,and_true] at hx
    subst hx
    obtain ⟨hx2,_⟩:=hx3
    have hob:=hH.obs k
    rw [k2] at hob
    obtain ⟨b,es,c,o1,o2,o3,o4,o5⟩:=hob
    refine ⟨hI'.defers,_,?_,b,fun x=>g.own x,rfl,(hH.plain k b (by simp [o2])).1.resolve_right fun h=>h,⟨es,c,o4,o5⟩,.inl ⟨k,by simp [o2]⟩,fun x hx=>.inr (by rw [hH.gz];exact hx),hbel.os,hbel.tape,hbel.output,hbel.size,fun k hk=>hbel.block k hk fun h=>h⟩
    rw [Zio,er]
    simp [Zfj,hx2,o1,Zol]
  ·exact hK.elim
 cases ex with
 | normal=>exact fin hK
 | exit id=>exact hK.elim
 | ret=>exact fin hK
theorem ZtM (htt : ∀ t i, tt t = some i → TOk P t i) (hJ : JOk J JF) (hmix : P.follows .mixedOrders = true) {hds : FuncId → Nat} {f : FuncId} {fn : Func} {c : Code} {h h' : ZgU} {args : List (Bool × List CT)} {res : List RT} (hf : P.funcs[f]? = some fn) (hname : (fn.name == "runtime.NumGoroutine") = false) (hb : fn.body = some c)
  (hok:Xh od tt hds true fn.ntmps c=true) (hlen:Nat.blt args.length fn.ntmps=true) (hh:fnH od tt (SC P J JF hds) fn.results.toList c h args res h'):Zbx P J JF f h args res h':=by
 letI:NW:=nw0
 refine ⟨⟨fn,hf,hname,by rw [hb];rfl⟩,fun w z q v0 vs hj hqf hz hhand hargs=>?_⟩
 have hlen':args.length<fn.ntmps:=A9 hlen
 have hvl:=hargs.len
 refine calls_of_wp hf hb ?_
 let W:Zaa:={ w with z:=z,x:=fun b=>q=some b,hv:=some v0 }
 let g0:Gh:=⟨fun k=>if k=0 then v0 else undef,fun k=>if k=0 then q.toList else [],fun _=>[],z⟩
 have hg0:∀b,g0.own b→inQ z q b:=fun b hb=>by
  rcases hb with ⟨k,m⟩ | h
  ·simp only[g0] at m
   split at m
   ·exact .inr (by simpa using m)
   ·simp at m
  ·exact .inl h
 have hqlt:∀b,q=some b→∃cur e,w.heap[b]?=some (.cells cur e (0,0)):=fun b hb=>by
  cases h with
  | row e m xs=>
   obtain ⟨_,_,h3,cs,h4,_⟩:=hhand
   rcases h4.2 with ⟨h0,_⟩ | ⟨gg,o,cap,cur,hv,_,hcc,_⟩
   ·rw [h0] at h3;simp [Value.ownBlock] at h3;rw [←h3] at hb;simp at hb
   ·rw [hv] at h3;simp only[Value.ownBlock] at h3;rw [hb] at h3;simp at h3;subst h3;exact ⟨_,_,hcc⟩
  | box t cs=>
   obtain ⟨b',vs,L,h1,h2,h3,_⟩:=hhand
   rw [hb] at h1;simp at h1;subst h1
   exact ⟨_,_,h3⟩
 have hob0:ObR g0 w 0 (Xp h):=by
  cases h with
  | row e m xs=>
   obtain ⟨h1,h2,h3,cs,h4,h5⟩:=hhand
   exact ⟨h2,cs,[],by simpa [g0] using h4,h5,.inl ⟨rfl,by simp [g0,h3],by simp [g0]⟩⟩
  | box t cs=>
   obtain ⟨b,vs,L,h1,h2,h3,h4,h5⟩:=hhand
   exact ⟨b,vs,by simpa [g0] using h2,by simp [g0,h1],by simp [g0],h3,h4.avr fun x mx hx=>h5 x mx (hg0 x hx)⟩
 have hsv0:SVR g0 w (Zdg h) v0:=by
  cases h with
  | row e m xs=>
   obtain ⟨h1,h2,h3,cs,h4,h5⟩:=hhand
   obtain ⟨A,cap,hv⟩:=Zax h4
   exact ⟨_,rfl,by simp [g0],by simp [hv,Value.oneCell']⟩
  | box t cs=>
   obtain ⟨b,vs,L,h1,h2,h3,h4,h5⟩:=hhand
   exact ⟨b,by simpa [g0] using h2,h2⟩
 have hI0:Inv W (fun k=>k=0) (Zdh h args) { tmps:=(v0::vs).toArray++A5 (fn.ntmps - (v0::vs).toArray.size) undef,defers:=[] } w:=by
  refine ⟨⟨g0,⟨⟨rfl,rfl,rfl,A8 _,fun _ _ _=>rfl⟩,fun k=>?_,fun k=>?_,fun k j hkj b m=>?_,fun k b m=>?_,rfl,fun b hb=>⟨(hz b hb).1,(hz b hb).2⟩,fun _ _=>AG _⟩,fun t=>?_⟩,⟨fun t=>?_,fun k=>?_,fun k hk=>by simp [Zdh,hk]⟩,rfl,fun v hv=>?_⟩
  ·show ObR g0 w k (if k=0 then Xp h else .gone)
   by_cases hk:k=0
   ·subst hk;exact hob0
   ·rw [if_neg hk];exact ⟨by simp [g0,hk],rfl⟩
  ·by_cases hk:k=0
   ·subst hk;cases q<;>simp [g0]
   ·simp [g0,hk]
  ·by_cases hk:k=0
   ·have:¬j=0:=fun e=>hkj (by omega)
    simp [g0,this]
   ·simp [g0,hk] at m
  ·by_cases hk:k=0
   ·subst hk
    have hb:q=some b:=by simpa [g0] using m
    refine ⟨.inr hb,?_⟩
    have hp:∃cur e,w.heap[b]?=some (.cells cur e (0,0)):=hqlt b hb
    show Xx w (if 0=0 then Xp h else .gone) b
    rw [if_pos rfl]
    cases h<;>exact hp
   ·simp [g0,hk] at m
  ·show SVR g0 w (match t with | 0=>Zdg h | t+1=>(match args[t]? with | some x=>.p x.1 (x.2.map .c) | none=>.und)) _
   cases t with
   | zero=>
    show SVR g0 w (Zdg h) (((v0::vs).toArray++A5 (fn.ntmps - (v0::vs).toArray.size) undef).getD 0 undef)
    rw [Ze0 (args:=args) (o:=0) (by simp;omega) v0 rfl]
    exact hsv0
   | succ t=>
    show SVR g0 w (match args[t]? with | some x=>.p x.1 (x.2.map .c) | none=>.und) _
    cases ht:args[t]? with
    | none=>exact Zi6 (by have:args.length≤t:=(by simpa using ht);simp;omega)
    | some x=>
     obtain ⟨v,hv,hr⟩:=hargs.at ht
     show SVR g0 w (.p x.1 (x.2.map .c)) (((v0::vs).toArray++A5 (fn.ntmps - (v0::vs).toArray.size) undef).getD (t+1) undef)
     rw [Ze0 (args:=args) (o:=0) (by simp;omega) v (by simpa using hv)]
     exact ZwF hg0 hr
  ·show svU _ (match t with | 0=>Zdg h | t+1=>(match args[t]? with | some x=>.p x.1 (x.2.map .c) | none=>.und))
   cases t with
   | zero=>cases h with
    | row e m xs=>intro y my;simp at my;subst my;rfl
    | box t cs=>rfl
   | succ t=>
    show svU _ (match args[t]? with | some x=>.p x.1 (x.2.map .c) | none=>.und)
    split
    ·exact Zmu true _
    ·trivial
  ·show obU _ (if k=0 then Xp h else .gone)
   by_cases hk:k=0
   ·rw [if_pos hk]
    cases h with
    | row e m xs=>trivial
    | box t cs=>exact Zmu true _
   ·rw [if_neg hk];trivial
  ·have:v0=v:=by simpa [W] using hv
   subst this
   exact Ze0 (args:=args) (o:=0) (by simp;omega) v0 rfl
 have hM:MOk P J JF W tt:=⟨htt,fun w' hb=>hJ.below (fun b=>q=some b) w w' hj hqf hb.os hb.tape hb.output hb.size (fun k hk hx=>hb.block k hk hx),fun b hb=>hJ.new w b hj hb,hqf⟩
 refine Qo (W:=W) hM hmix (.inr rfl) c hok (Zrj tt fn.results.toList fun st r ks=>wkR r res∧Zji st ks h') _ ?_ _ (Zdh h args) _ w hI0 (fun k hk h0=>by simp [Zdh] at hk;omega) (by simp;omega) hh
 intro ex U' st' a' w' hI' _ _ hK
 have fin:(match ZbD tt st' fn.results.toList with | some x=>x.2.Nodup∧wkR x.1 res∧Zji st' x.2 h' | none=>False)→a'.defers=[]∧∃v,(results fn a'.tmps).run P w'=.ok v w'∧∃u n,Ending.returned v=.returned u∧ZjD w' w.heap.size n res u∧(∀b,inQ z q b→n b)∧ZnA w' n q h' v0∧Zzh q w w':=fun hK=>by
  split at hK
  ·rename_i x hx
   obtain ⟨r,ks⟩:=x
   obtain ⟨hnd,hw,hbk⟩:=hK
   obtain ⟨g,hH,hS⟩:=hI'.ex
   have hv0:a'.tmps.getD 0 undef=v0:=hI'.hand v0 rfl
   have hS0:=hS 0
   rw [hv0] at hS0
   have hkey:∃k,g.val k=v0∧g.O k=q.toList∧g.D k=[]∧k∉ks∧(Zjf (st'.ob k)=false∧∀e m xs d,st'.ob k=.row e m xs d→d=2)∧∀n:Nat→Prop,(∀b,n b→g.own b)→ZnA w' n q h' v0:=by
    cases h' with
    | row e m xs=>
     obtain ⟨k,hk1,hk2,hk3,hk4⟩:=hbk
     rw [hk1] at hS0
     obtain ⟨x,hx1,hx2⟩:=hS0
     simp only[AB,and_true] at hx1
     subst hx1
     have hob:=hH.obs k
     rw [hk2] at hob
     obtain ⟨hm,cs,L,o1,o2,o3⟩:=hob
     obtain rfl:=Zf1 o2 hk3
     rcases o3 with ⟨_,q1,q2⟩ | ⟨q1,_⟩ | ⟨q1,_⟩
     ·have hq:v0.ownBlock=q:=by
       cases h with
       | row e1 m1 xs1=>exact hhand.2.2.1
       | box t1 cs1=>
        obtain ⟨b,vs,L,h1,h2,_⟩:=hhand
        obtain ⟨A,cap,hv⟩:=Zax o1
        rw [←hx2.1,h2] at hv
        simp at hv
      exact ⟨k,hx2.1.symm,by rw [q1,←hx2.1,hq],q2,hk4,⟨by rw [hk2];rfl,fun e' m' xs' d' h=>by rw [hk2] at h;simp only[Ob.row.injEq] at h;exact h.2.2.2.symm⟩,fun n _=>⟨hk3,hm,hq,cs,by rw [hx2.1];exact o1,o2⟩⟩
     ·omega
     ·omega
    | box t cs=>
     obtain ⟨k,ds,hk1,hk2,hk3,hk4⟩:=hbk
     rw [hk1] at hS0
     obtain ⟨b,hb1,hb2⟩:=hS0
     have hob:=hH.obs k
     rw [hk2] at hob
     obtain ⟨b',vs',o1,o2,o3,o4,o5⟩:=hob
     have hbb:b'=b:=by rw [hb1] at o1;simpa using o1.symm
     subst hbb
     have hq:q=some b':=by
      cases h with
      | row e1 m1 xs1=>
       obtain ⟨_,_,_,cs1,h4,_⟩:=hhand
       obtain ⟨A,cap,hv⟩:=Zax h4
       rw [hv] at hb2
       simp at hb2
      | box t1 cs1=>
       obtain ⟨b2,vs2,L2,h1,h2,_⟩:=hhand
       rw [h2] at hb2
       simp at hb2
       rw [h1,hb2]
     obtain ⟨L,hL,hL2⟩:=ZeF hH hk4 o5
     refine ⟨k,by rw [o1,hb2],by rw [o2,hq];rfl,o3,fun mk=>?_,⟨by rw [hk2];rfl,fun e' m' xs' d' h=>by rw [hk2] at h;simp at h⟩,fun n hn=>⟨b',vs',L,hq,hb2,o4,hL,fun x mx hx=>hL2 (fun y my=>?_) x mx (hn x hx)⟩⟩
     ·obtain ⟨e',m',xs',h'⟩:=Zi4 hx k mk
      rw [hk2] at h'
      simp at h'
     ·have:=AM.1 hk3 y my
      cases y<;>simp [Zaw] at this<;>trivial
   obtain ⟨k0,c1,c2,c3,c4,c5,c6⟩:=hkey
   have hBg:∀k∈ks,∀b∈g.O k++g.D k,W.heap.size≤b:=fun k hk b mb=>(hH.plain k b mb).1.resolve_right fun h=>hH.apart k k0 (fun e=>c4 (e ▸ hk)) b mb (by rw [c2];simp;exact .inl h)
   obtain ⟨v,m,e1,e2,e3,_,e4⟩:=ZrX htt hI' hH hS hx hnd hw hBg (fun k=>k=k0) (fun k hk=>hk ▸ c5)
   have hbel:=hH.below
   refine ⟨hI'.defers,v,e1,v,m,rfl,e2,fun b hb=>?_,c6 m e3,hbel.os,hbel.tape,hbel.output,hbel.size,fun k hk hq=>hbel.block k hk hq⟩
   refine e4 b (fun mb=>?_) ?_
   ·obtain ⟨k,hk,mk⟩:=Zi5 mb
    have hge:=hBg k hk b mk
    have e:W.heap.size=w.heap.size:=rfl
    rcases hb with hb | hb
    ·have:=(hz b hb).1;omega
    ·obtain ⟨cur,e',hc⟩:=hqlt b hb
     have:=(AN.1 hc).1
     omega
   ·rcases hb with hb | hb
    ·exact .inl (by rw [hH.gz];exact hb)
    ·exact .inr ⟨k0,rfl,by rw [c2,hb];simp⟩
  ·exact hK.elim
 cases ex with
 | normal=>exact fin hK
 | exit id=>exact hK.elim
 | ret=>exact fin hK
end
instance nwD:NW:=nw0
end
section
open Go.RowKit
def Zka {α β:Type} (f:α→β→Bool):List α→List β→Bool
 | [],[]=>true
 | a::l,b::r=>f a b&&Zka f l r
 | _,_=>false
theorem ZiR {α β:Type} {f:α→β→Bool} {R:α→β→Prop} (h:∀a b,f a b=true→R a b):∀{l:List α} {r:List β},Zka f l r=true→ZL R l r
 | [],[],_=>trivial
 | a::l,b::r,hh=>by
  simp only[Zka,A6] at hh
  exact ⟨h a b hh.1,ZiR h hh.2⟩
 | [],_::_,hh=>by simp [Zka] at hh
 | _::_,[],hh=>by simp [Zka] at hh
def Zvy (P:Program) (fi:FI) (f:Field):Bool:=
 f.offset==fi.off&&!(fi.size==0)&&match P.info? f.type,P.underlying f.type with
  | some j,some d=>j.size==fi.size&&(ZqC d==fi.agg)
  | _,_=>false
def Zzr:Value→Bool
 | .slice none 0 0=>true
 | _=>false
def Zup (P:Program):List PK→List Field→Nat→Bool
 | [],[],_=>true
 | k :: ks, f :: fs, n => (f.name != "_") && (f.offset == n) && (match P.underlying f.type with | some d => ZdO k d | none => false) && Zup P ks fs (n + 1)
 | _,_,_=>false
theorem Zts {P:Program}:∀{ks:List PK} {fs:List Field} {n:Nat},Zup P ks fs n=true→EqF P ks fs n
 | [],[],_,_=>trivial
 | k::ks,f::fs,n,h=>by
  simp only[Zup,A6,bne_iff_ne,beq_iff_eq] at h
  obtain ⟨⟨⟨h1,h2⟩,h3⟩,h4⟩:=h
  split at h3
  ·rename_i d hd;exact ⟨h1,h2,⟨d,hd,h3⟩,Zts h4⟩
  ·simp at h3
 | [],_::_,_,h=>by simp [Zup] at h
 | _::_,[],_,h=>by simp [Zup] at h
def Zn0:Option TypeDesc→Bool
 | some (.struct _)=>true
 | _=>false
def ZA4 (P:Program) (t:TypeId) (ks:List PK):Bool:=
 Nat.ble 4000 t&&Zn0 (P.underlying (t - 4000))&&!(P.stoodInHeld (t - 4000))&&!(P.eqGuardType P.depth (t - 4000))&&Zup P ks (P.fieldsOf (t - 4000)).toList 0
theorem Zxm {P:Program} {t:TypeId} {ks:List PK} (h:ZA4 P t ks=true):TOk P t (.eqs ks):=by
 simp only[ZA4,A6,AO] at h
 obtain ⟨⟨⟨⟨h1,h2⟩,h3⟩,h4⟩,h5⟩:=h
 refine ⟨t - 4000,?_,?_,h3,h4,Zts h5⟩
 ·have:4000≤t:=A9 h1
  exact (Nat.sub_add_cancel this).symm
 ·unfold Zn0 at h2
  split at h2
  ·rename_i fs e
   unfold Program.fieldsOf
   rw [e]
  ·simp at h2
def tOk (P:Program) (t:TypeId) (ti:TI):Bool:=
 match ti with
 | .eqs ks=>ZA4 P t ks
 | _=>
 match P.underlying t,P.info? t with
 | some d,some i=>match ti with
  | .atom z=>ZhA d z&&i.size==1&&match i.zero with | some zv=>Zai z zv | none=>false
  | .strct fs n z=>match d with
   | .struct fields=>i.size==n&&(match i.zero with | some (.agg zvs)=>Zka Zai z zvs.toList | _=>false)&&Zka (Zvy P) fs fields.toList
   | _=>false
  | .slice e m bytes z=>match d with
   | .slice e'=>e==e'&&Nat.blt 0 m&&Nat.ble bytes 131072&&(match P.info? e with
     | some ie=>ie.size==m&&ie.bytes==bytes&&(match ie.zero with | some zv=>Zka Zai z zv.cells.toList | none=>false)
     | none=>false)&&z.length==m&&i.size==1&&(match i.zero with | some zv=>Zzr zv | none=>false)
   | _=>false
  | .map kk vk=>match d with
   | .map kt et=>(match P.underlying kt with | some dk=>ZdO kk dk | none=>false)&&(match P.underlying et with | some dv=>ZdO vk dv | none=>false)&&(match P.info? et with | some ie=>(match ie.zero with | some zv=>Zai (Zes vk) zv | none=>false) | none=>false)
   | _=>false
  | .ifc=>match d with
   | .interface _=>true
   | _=>false
  | .eqs _=>false
 | _,_=>false
theorem Zxl {v:Value} (h:Zzr v=true):v=.slice none 0 0:=by
 unfold Zzr at h
 split at h
 ·rfl
 ·simp at h
theorem Zy0 {P:Program} {t:TypeId} {ti:TI} (h:tOk P t ti=true):TOk P t ti:=by
 unfold tOk at h
 split at h
 ·exact Zxm h
 split at h
 ·rename_i d i hd hi
  cases ti with
  | eqs ks=>simp at h
  | ifc=>
   simp only at h
   split at h
   ·exact ⟨_,hd⟩
   ·simp at h
  | map kk vk=>
   simp only at h
   split at h
   ·rename_i kt et
    simp only[A6] at h
    obtain ⟨⟨h1,h2⟩,h3⟩:=h
    split at h1
    ·rename_i dk hdk
     split at h2
     ·rename_i dv hdv
      split at h3
      ·rename_i ie hie
       split at h3
       ·rename_i zv hz
        exact ⟨kt,et,dk,dv,ie,zv,hd,hdk,h1,hdv,h2,hie,hz,h3⟩
       ·simp at h3
      ·simp at h3
     ·simp at h2
    ·simp at h1
   ·simp at h
  | atom z=>
   simp only[A6,beq_iff_eq] at h
   obtain ⟨⟨h1,h2⟩,h3⟩:=h
   split at h3
   ·rename_i zv hz;exact ⟨d,zv,i,hd,h1,hi,hz,h2,h3⟩
   ·simp at h3
  | strct fs n z=>
   simp only at h
   split at h
   ·rename_i fields
    simp only[A6,beq_iff_eq] at h
    obtain ⟨⟨h1,h2⟩,h3⟩:=h
    split at h2
    ·rename_i zvs hz
     refine ⟨fields,i,zvs,hd,hi,h1,hz,ZiR (fun _ _ h=>h) h2,ZiR (fun fi f hf=>?_) h3⟩
     unfold Zvy at hf
     simp only[A6,beq_iff_eq,AO,beq_eq_false_iff_ne] at hf
     obtain ⟨⟨f1,f2⟩,f3⟩:=hf
     split at f3
     ·rename_i j d' hj hd'
      simp only[A6,beq_iff_eq] at f3
      exact ⟨f1,f2,j,d',hj,f3.1,hd',f3.2⟩
     ·simp at f3
    ·simp at h2
   ·simp at h
  | slice e m bytes z=>
   simp only at h
   split at h
   ·rename_i e'
    simp only[A6,beq_iff_eq] at h
    obtain ⟨⟨⟨⟨⟨⟨h1,h2⟩,h3⟩,h4⟩,h5⟩,h6⟩,h7⟩:=h
    subst h1
    split at h4
    ·rename_i ie hie
     simp only[A6,beq_iff_eq] at h4
     obtain ⟨⟨k1,k2⟩,k3⟩:=h4
     split at k3
     ·rename_i zv hz
      split at h7
      ·rename_i zv' hz'
       exact ⟨hd,A9 h2,A9 h3,⟨ie,zv,hie,k1,k2,hz,ZiR (fun _ _ h=>h) k3,h5⟩,i,hi,h6,by rw [hz',Zxl h7]⟩
      ·simp at h7
     ·simp at k3
    ·simp at h4
   ·simp at h
 ·simp at h
def Zwj:List (Nat × TI)→Nat→Option TI
 | [],_=>none
 | p::r,t=>if p.1=t then some p.2 else Zwj r t
theorem Zwi {P:Program}:∀(l:List (Nat × TI)),(l.all fun p=>tOk P p.1 p.2)=true→∀t i,Zwj l t=some i→TOk P t i
 | [],_,t,i,h=>by simp [Zwj] at h
 | p::r,ha,t,i,h=>by
  simp only[List.all_cons,A6] at ha
  simp only[Zwj] at h
  split at h
  ·rename_i e
   simp only[A3] at h
   subst h e
   exact Zy0 ha.1
  ·exact Zwi r ha.2 t i h
end
section
open Go.RowKit
def ZxT (P:Program) (L:List (String × (Array Value→Prop))) (w:World):Prop:=∀x∈L,∃cs,w.var? P x.1=some cs∧x.2 cs
def Zx0 (P:Program) (L:List (String × (Array Value→Prop))) (b:Nat):Prop:=∀x∈L,¬P.globalNamed x.1=some b
theorem ZxO (P:Program) (L:List (String × (Array Value→Prop))):JOk (ZxT P L) (Zx0 P L) where
 below:=fun x w w' hj hx _ _ _ hs hb y my=>by
  obtain ⟨cs,h1,h2⟩:=hj y my
  refine ⟨cs,?_,h2⟩
  unfold World.var? at h1 ⊢
  obtain ⟨g,hg,h1⟩:=A7.1 h1
  rw [hg,AP]
  have hlt:g<w.heap.size:=by
   rcases Nat.lt_or_ge g w.heap.size with h | h
   ·exact h
   ·rw [AQ h] at h1;simp at h1
  rw [hb g hlt (fun h=>hx g h y my hg)]
  exact h1
 new:=fun w b hj hb y my hg=>by
  obtain ⟨cs,h1,_⟩:=hj y my
  unfold World.var? at h1
  rw [hg,AP,AQ hb] at h1
  simp at h1
theorem ZqW {w:World} {B:Nat} {n:Nat→Prop} {ct:CT} {v:Value} (h:OC w B n (false,ct) v []):ZjD w B n [(false,[(false,ct)])] v:=
 ⟨[v],[],⟨v,[],[],[],rfl,rfl,.inr ⟨rfl,_,rfl,h⟩,rfl,rfl⟩,Own.nil _ _,by simp⟩
theorem ZpQ {w:World} {B:Nat} {n:Nat→Prop} {c1 c2:CT} {v1 v2:Value} (h1:OC w B n (false,c1) v1 []) (h2:OC w B n (false,c2) v2 []):ZjD w B n [(false,[(false,c1)]),(false,[(false,c2)])] (.tuple #[v1,v2]):=
 ⟨[v1,v2],[],⟨v1,[v2],[],[],rfl,rfl,.inr ⟨rfl,_,rfl,h1⟩,v2,[],[],[],rfl,rfl,.inr ⟨rfl,_,rfl,h2⟩,rfl,rfl⟩,Own.nil _ _,by simp⟩
theorem Zs9 {w:World} {z:Nat→Prop} {c:CT} {v:Value} (h:ZkB w z (false,[c]) v):∃L,RC w c v L:=by
 rcases h with ⟨h,_⟩ | ⟨_,ct,L,h,hr,_⟩
 ·simp at h
 ·simp only[AB,and_true] at h
  subst h
  exact ⟨L,hr⟩
theorem Zmc {w:World} {z:Nat→Prop} {c:CT} {vs:List Value} (h:ZL (ZkB w z) [(false,[c])] vs):∃v L,vs=[v]∧RC w c v L:=by
 cases vs with
 | nil=>exact h.elim
 | cons v r=>
  cases r with
  | nil=>obtain ⟨L,hr⟩:=Zs9 h.1;exact ⟨v,L,rfl,hr⟩
  | cons _ _=>exact h.2.elim
theorem Zwg {w:World} {z:Nat→Prop} {c d:CT} {vs:List Value} (h:ZL (ZkB w z) [(false,[c]),(false,[d])] vs):∃v u L M,vs=[v,u]∧RC w c v L∧RC w d u M:=by
 cases vs with
 | nil=>exact h.elim
 | cons v r=>
  obtain ⟨u,M,rfl,hu⟩:=Zmc h.2
  obtain ⟨L,hr⟩:=Zs9 h.1
  exact ⟨v,u,L,M,rfl,hr,hu⟩
end
section
open Go.RowKit
def ttL:List (Nat × TI):=[
 (2,.atom (.c (.int .i64 0))),
 (3,.atom (.c (.int .i64 0))),
 (4,.atom (.c (.bool false))),
 (5,.atom (.c (.int .u8 0))),
 (9,.atom (.c (.str ⟨#[]⟩))),
 (12,.atom (.c (.int .u64 0))),
 (14,.strct [⟨0,1,false⟩,⟨1,1,false⟩] 2 [.c (.str ⟨#[]⟩),.c (.int .u64 0)]),
 (20,.ifc),
 (21,.atom (.c (.int .i32 0))),
 (22,.slice 5 1 1 [.c (.int .u8 0)]),
 (24,.slice 42 4 72 [.c (.str ⟨#[]⟩),.c (.int .i64 0),.nil 173 5,.nil 50 3]),
 (25,.slice 45 2 40 [.c (.str ⟨#[]⟩),.nil 9 1]),
 (33,.slice 38 3 64 [.c (.str ⟨#[]⟩),.nil 45 2,.nil 166 2]),
 (36,.slice 166 2 32 [.c (.str ⟨#[]⟩),.c (.str ⟨#[]⟩)]),
 (38,.strct [⟨0,1,false⟩,⟨1,1,false⟩,⟨2,1,false⟩] 3 [.c (.str ⟨#[]⟩),.nil 45 2,.nil 166 2]),
 (39,.slice 173 5 80 [.c (.int .i64 0),.c (.str ⟨#[]⟩),.nil 9 1,.c (.str ⟨#[]⟩),.c (.str ⟨#[]⟩)]),
 (40,.slice 50 3 48 [.c (.int .i64 0),.c (.str ⟨#[]⟩),.nil 9 1]),
 (42,.strct [⟨0,1,false⟩,⟨1,1,false⟩,⟨2,1,false⟩,⟨3,1,false⟩] 4 [.c (.str ⟨#[]⟩),.c (.int .i64 0),.nil 173 5,.nil 50 3]),
 (43,.slice 9 1 16 [.c (.str ⟨#[]⟩)]),
 (45,.strct [⟨0,1,false⟩,⟨1,1,false⟩] 2 [.c (.str ⟨#[]⟩),.nil 9 1]),
 (48,.strct [⟨0,1,false⟩,⟨1,1,false⟩] 2 [.c (.str ⟨#[]⟩),.nil 9 1]),
 (50,.strct [⟨0,1,false⟩,⟨1,2,true⟩] 3 [.c (.int .i64 0),.c (.str ⟨#[]⟩),.nil 9 1]),
 (58,.slice 126 4 72 [.c (.str ⟨#[]⟩),.c (.int .i64 0),.nil 228 5,.nil 231 3]),
 (59,.slice 86 2 40 [.c (.str ⟨#[]⟩),.nil 9 1]),
 (62,.slice 199 3 56 [.c (.int .i64 0),.nil 3 1,.nil 3 1]),
 (64,.strct [⟨0,1,false⟩,⟨1,1,false⟩] 2 [.c (.int .i64 0),.nil 199 3]),
 (65,.slice 3 1 8 [.c (.int .i64 0)]),
 (67,.strct [⟨0,2,true⟩,⟨2,1,false⟩,⟨3,1,false⟩] 4 [.c (.int .i64 0),.nil 199 3,.nil 3 1,.nil 3 1]),
 (80,.slice 25 1 24 [.nil 45 2]),
 (86,.strct [⟨0,1,false⟩,⟨1,1,false⟩] 2 [.c (.str ⟨#[]⟩),.nil 9 1]),
 (110,.map .str .bool),
 (116,.slice 120 2 48 [.nil 45 2,.nil 166 2]),
 (120,.strct [⟨0,1,false⟩,⟨1,1,false⟩] 2 [.nil 45 2,.nil 166 2]),
 (123,.slice 228 5 80 [.c (.int .i64 0),.c (.str ⟨#[]⟩),.nil 9 1,.c (.str ⟨#[]⟩),.c (.str ⟨#[]⟩)]),
 (124,.slice 231 3 48 [.c (.int .i64 0),.c (.str ⟨#[]⟩),.nil 9 1]),
 (126,.strct [⟨0,1,false⟩,⟨1,1,false⟩,⟨2,1,false⟩,⟨3,1,false⟩] 4 [.c (.str ⟨#[]⟩),.c (.int .i64 0),.nil 228 5,.nil 231 3]),
 (152,.strct [⟨0,1,false⟩,⟨1,1,false⟩,⟨2,1,false⟩] 3 [.nil 5 1,.c (.int .i64 0),.c (.int .i64 0)]),
 (155,.slice 204 2 40 [.c (.str ⟨#[]⟩),.nil 45 2]),
 (158,.slice 4 1 1 [.c (.bool false)]),
 (160,.slice 208 3 64 [.c (.str ⟨#[]⟩),.nil 45 2,.nil 166 2]),
 (166,.strct [⟨0,1,false⟩,⟨1,1,false⟩] 2 [.c (.str ⟨#[]⟩),.c (.str ⟨#[]⟩)]),
 (173,.strct [⟨0,1,false⟩,⟨1,2,true⟩,⟨3,1,false⟩,⟨4,1,false⟩] 5 [.c (.int .i64 0),.c (.str ⟨#[]⟩),.nil 9 1,.c (.str ⟨#[]⟩),.c (.str ⟨#[]⟩)]),
 (199,.strct [⟨0,1,false⟩,⟨1,1,false⟩,⟨2,1,false⟩] 3 [.c (.int .i64 0),.nil 3 1,.nil 3 1]),
 (204,.strct [⟨0,1,false⟩,⟨1,1,false⟩] 2 [.c (.str ⟨#[]⟩),.nil 45 2]),
 (208,.strct [⟨0,1,false⟩,⟨1,2,true⟩] 3 [.c (.str ⟨#[]⟩),.nil 45 2,.nil 166 2]),
 (226,.strct [⟨0,1,false⟩,⟨1,1,false⟩] 2 [.c (.str ⟨#[]⟩),.nil 9 1]),
 (228,.strct [⟨0,1,false⟩,⟨1,2,true⟩,⟨3,1,false⟩,⟨4,1,false⟩] 5 [.c (.int .i64 0),.c (.str ⟨#[]⟩),.nil 9 1,.c (.str ⟨#[]⟩),.c (.str ⟨#[]⟩)]),
 (231,.strct [⟨0,1,false⟩,⟨1,2,true⟩] 3 [.c (.int .i64 0),.c (.str ⟨#[]⟩),.nil 9 1]),
 (241,.atom (.c (.int .u64 0))),
 (270,.ifc),
 (271,.ifc),
 (283,.atom (.c (.int .u32 0))),
 (285,.atom (.c (.int .u64 0))),
 (330,.strct [⟨0,1,false⟩] 1 [.c (.str ⟨#[]⟩)])]
def tt (t:Nat):Option TI:=Zwj ttL t
theorem htt:∀t i,tt t=some i→TOk prog t i:=Zwi ttL (by kernel_rfl)
theorem hmix:prog.follows .mixedOrders=true:=by kernel_rfl
def ZxG : List (String × (Array Value → Prop)) := [("internal/strconv.uint64pow10", fun cs => cs = (Lib.pow10Tab.map fun z => Value.int .u64 z).toArray), ("strconv.ErrSyntax", fun cs => ∃ tp p, cs = #[.iface tp p])]
def J0:World→Prop:=ZxT prog ZxG
def JF0:Nat→Prop:=Zx0 prog ZxG
theorem hJ0:JOk J0 JF0:=ZxO _ _
theorem ZzO (w : World) (h : J0 w) : Lib.TabIs prog w "internal/strconv.uint64pow10" .u64 Lib.pow10Tab := by
 obtain ⟨cs,h1,h2⟩:=h _ (List.mem_cons_self ..)
 rw [h2] at h1
 exact h1
theorem ZAB (w : World) (h : J0 w) : ∃ tp p, w.var? prog "strconv.ErrSyntax" = some #[.iface tp p] := by
 obtain ⟨cs, h1, tp, p, h2⟩ := h ("strconv.ErrSyntax", fun cs => ∃ tp p, cs = #[.iface tp p]) (by simp [ZxG])
 rw [h2] at h1
 exact ⟨tp,p,h1⟩
def hdL:List (Nat × Nat):=[(17,2),(18,2),(30,2),(45,2),(48,2),(58,3),(59,1),(60,1),(67,2),(70,2),(77,3),(84,2),(85,2),(108,1),(110,1),(111,1),(112,1),(118,1),(124,1),(126,1),(164,1),(172,2),(173,1),(174,1),(175,1),(186,1),(210,1),(239,1),(240,1),(250,1),(251,1),(255,4),(284,1),(285,1),(286,1),(287,1),(288,1),(315,1),(316,1),(317,1),(340,1),(341,1),(342,1),(355,1),(356,1)]
def ZxZ:List (Nat × Nat)→Nat→Nat
 | [],_=>0
 | p::r,f=>match Nat.beq p.1 f with | true=>p.2 | false=>ZxZ r f
def hds (f:FuncId):Nat:=ZxZ hdL f
theorem ZEK:(SC prog J0 JF0 hds).hd 3=0:=yi (by kernel_rfl)
theorem ZEv:(SC prog J0 JF0 hds).hd 4=0:=yi (by kernel_rfl)
theorem ZEt:(SC prog J0 JF0 hds).hd 5=0:=yi (by kernel_rfl)
theorem ZNl:(SC prog J0 JF0 hds).hd 7=0:=yi (by kernel_rfl)
theorem ZE3:(SC prog J0 JF0 hds).hd 8=0:=yi (by kernel_rfl)
theorem ZEp:(SC prog J0 JF0 hds).hd 9=0:=yi (by kernel_rfl)
theorem ZDO:(SC prog J0 JF0 hds).hd 11=0:=yi (by kernel_rfl)
theorem ZD7:(SC prog J0 JF0 hds).hd 12=0:=yi (by kernel_rfl)
theorem ZDh:(SC prog J0 JF0 hds).hd 13=0:=yi (by kernel_rfl)
theorem ZCr:(SC prog J0 JF0 hds).hd 14=0:=yi (by kernel_rfl)
theorem ZDN:(SC prog J0 JF0 hds).hd 15=0:=yi (by kernel_rfl)
theorem ZDF:(SC prog J0 JF0 hds).hd 16=0:=yi (by kernel_rfl)
theorem ZCx:(SC prog J0 JF0 hds).hd 17=2:=yi (by kernel_rfl)
theorem ZDT:(SC prog J0 JF0 hds).hd 18=2:=yi (by kernel_rfl)
theorem ZDz:(SC prog J0 JF0 hds).hd 19=0:=yi (by kernel_rfl)
theorem ZDD:(SC prog J0 JF0 hds).hd 20=0:=yi (by kernel_rfl)
theorem ZDf:(SC prog J0 JF0 hds).hd 21=0:=yi (by kernel_rfl)
theorem ZC4:(SC prog J0 JF0 hds).hd 22=0:=yi (by kernel_rfl)
theorem ZEk:(SC prog J0 JF0 hds).hd 23=0:=yi (by kernel_rfl)
theorem ZDs:(SC prog J0 JF0 hds).hd 24=0:=yi (by kernel_rfl)
theorem ZDi:(SC prog J0 JF0 hds).hd 25=0:=yi (by kernel_rfl)
theorem ZCt:(SC prog J0 JF0 hds).hd 26=0:=yi (by kernel_rfl)
theorem ZDg:(SC prog J0 JF0 hds).hd 27=0:=yi (by kernel_rfl)
theorem ZEd:(SC prog J0 JF0 hds).hd 28=0:=yi (by kernel_rfl)
theorem ZEh:(SC prog J0 JF0 hds).hd 29=0:=yi (by kernel_rfl)
theorem ZD6:(SC prog J0 JF0 hds).hd 30=2:=yi (by kernel_rfl)
theorem ZD3:(SC prog J0 JF0 hds).hd 33=0:=yi (by kernel_rfl)
theorem ZDE:(SC prog J0 JF0 hds).hd 36=0:=yi (by kernel_rfl)
theorem ZDU:(SC prog J0 JF0 hds).hd 45=2:=yi (by kernel_rfl)
theorem ZCI:(SC prog J0 JF0 hds).hd 46=0:=yi (by kernel_rfl)
theorem ZCz:(SC prog J0 JF0 hds).hd 47=0:=yi (by kernel_rfl)
theorem ZCH:(SC prog J0 JF0 hds).hd 48=2:=yi (by kernel_rfl)
theorem ZDJ:(SC prog J0 JF0 hds).hd 49=0:=yi (by kernel_rfl)
theorem ZCA:(SC prog J0 JF0 hds).hd 50=0:=yi (by kernel_rfl)
theorem ZC2:(SC prog J0 JF0 hds).hd 58=3:=yi (by kernel_rfl)
theorem ZCp:(SC prog J0 JF0 hds).hd 59=1:=yi (by kernel_rfl)
theorem ZCY:(SC prog J0 JF0 hds).hd 60=1:=yi (by kernel_rfl)
theorem ZDe:(SC prog J0 JF0 hds).hd 61=0:=yi (by kernel_rfl)
theorem ZDA:(SC prog J0 JF0 hds).hd 62=0:=yi (by kernel_rfl)
theorem ZEb:(SC prog J0 JF0 hds).hd 63=0:=yi (by kernel_rfl)
theorem ZCX:(SC prog J0 JF0 hds).hd 64=0:=yi (by kernel_rfl)
theorem ZDc:(SC prog J0 JF0 hds).hd 65=0:=yi (by kernel_rfl)
theorem ZEg:(SC prog J0 JF0 hds).hd 66=0:=yi (by kernel_rfl)
theorem ZEa:(SC prog J0 JF0 hds).hd 67=2:=yi (by kernel_rfl)
theorem ZC6:(SC prog J0 JF0 hds).hd 68=0:=yi (by kernel_rfl)
theorem ZDC:(SC prog J0 JF0 hds).hd 69=0:=yi (by kernel_rfl)
theorem ZCG:(SC prog J0 JF0 hds).hd 70=2:=yi (by kernel_rfl)
theorem ZDM:(SC prog J0 JF0 hds).hd 71=0:=yi (by kernel_rfl)
theorem ZCM:(SC prog J0 JF0 hds).hd 72=0:=yi (by kernel_rfl)
theorem ZDK:(SC prog J0 JF0 hds).hd 73=0:=yi (by kernel_rfl)
theorem ZDb:(SC prog J0 JF0 hds).hd 74=0:=yi (by kernel_rfl)
theorem ZD8:(SC prog J0 JF0 hds).hd 75=0:=yi (by kernel_rfl)
theorem ZDV:(SC prog J0 JF0 hds).hd 76=0:=yi (by kernel_rfl)
theorem ZDX:(SC prog J0 JF0 hds).hd 77=3:=yi (by kernel_rfl)
theorem ZEe:(SC prog J0 JF0 hds).hd 78=0:=yi (by kernel_rfl)
theorem ZEc:(SC prog J0 JF0 hds).hd 79=0:=yi (by kernel_rfl)
theorem ZDa:(SC prog J0 JF0 hds).hd 80=0:=yi (by kernel_rfl)
theorem ZCQ:(SC prog J0 JF0 hds).hd 81=0:=yi (by kernel_rfl)
theorem ZCE:(SC prog J0 JF0 hds).hd 82=0:=yi (by kernel_rfl)
theorem ZDy:(SC prog J0 JF0 hds).hd 83=0:=yi (by kernel_rfl)
theorem ZC8:(SC prog J0 JF0 hds).hd 84=2:=yi (by kernel_rfl)
theorem ZEj:(SC prog J0 JF0 hds).hd 85=2:=yi (by kernel_rfl)
theorem ZD9:(SC prog J0 JF0 hds).hd 86=0:=yi (by kernel_rfl)
theorem ZEi:(SC prog J0 JF0 hds).hd 87=0:=yi (by kernel_rfl)
theorem ZDQ:(SC prog J0 JF0 hds).hd 88=0:=yi (by kernel_rfl)
theorem ZC1:(SC prog J0 JF0 hds).hd 89=0:=yi (by kernel_rfl)
theorem ZDS:(SC prog J0 JF0 hds).hd 91=0:=yi (by kernel_rfl)
theorem ZDv:(SC prog J0 JF0 hds).hd 92=0:=yi (by kernel_rfl)
theorem ZCs:(SC prog J0 JF0 hds).hd 94=0:=yi (by kernel_rfl)
theorem ZDu:(SC prog J0 JF0 hds).hd 95=0:=yi (by kernel_rfl)
theorem ZBQ:(SC prog J0 JF0 hds).hd 108=1:=yi (by kernel_rfl)
theorem ZAn:(SC prog J0 JF0 hds).hd 109=0:=yi (by kernel_rfl)
theorem Zz2:(SC prog J0 JF0 hds).hd 110=1:=yi (by kernel_rfl)
theorem ZAb:(SC prog J0 JF0 hds).hd 111=1:=yi (by kernel_rfl)
theorem ZB8:(SC prog J0 JF0 hds).hd 112=1:=yi (by kernel_rfl)
theorem ZAu:(SC prog J0 JF0 hds).hd 113=0:=yi (by kernel_rfl)
theorem Zyr:(SC prog J0 JF0 hds).hd 114=0:=yi (by kernel_rfl)
theorem Zyp:(SC prog J0 JF0 hds).hd 115=0:=yi (by kernel_rfl)
theorem Zyz:(SC prog J0 JF0 hds).hd 116=0:=yi (by kernel_rfl)
theorem ZAM:(SC prog J0 JF0 hds).hd 117=0:=yi (by kernel_rfl)
theorem ZBD:(SC prog J0 JF0 hds).hd 118=1:=yi (by kernel_rfl)
theorem ZCm:(SC prog J0 JF0 hds).hd 119=0:=yi (by kernel_rfl)
theorem ZyY:(SC prog J0 JF0 hds).hd 120=0:=yi (by kernel_rfl)
theorem ZA5:(SC prog J0 JF0 hds).hd 124=1:=yi (by kernel_rfl)
theorem ZyI:(SC prog J0 JF0 hds).hd 125=0:=yi (by kernel_rfl)
theorem ZAx:(SC prog J0 JF0 hds).hd 126=1:=yi (by kernel_rfl)
theorem Zzk:(SC prog J0 JF0 hds).hd 127=0:=yi (by kernel_rfl)
theorem ZyR:(SC prog J0 JF0 hds).hd 128=0:=yi (by kernel_rfl)
theorem Zx3:(SC prog J0 JF0 hds).hd 129=0:=yi (by kernel_rfl)
theorem ZAD:(SC prog J0 JF0 hds).hd 130=0:=yi (by kernel_rfl)
theorem ZB4:(SC prog J0 JF0 hds).hd 131=0:=yi (by kernel_rfl)
theorem ZzN:(SC prog J0 JF0 hds).hd 132=0:=yi (by kernel_rfl)
theorem ZAp:(SC prog J0 JF0 hds).hd 133=0:=yi (by kernel_rfl)
theorem ZyG:(SC prog J0 JF0 hds).hd 134=0:=yi (by kernel_rfl)
theorem ZzR:(SC prog J0 JF0 hds).hd 135=0:=yi (by kernel_rfl)
theorem ZB9:(SC prog J0 JF0 hds).hd 136=0:=yi (by kernel_rfl)
theorem ZzP:(SC prog J0 JF0 hds).hd 137=0:=yi (by kernel_rfl)
theorem ZBm:(SC prog J0 JF0 hds).hd 138=0:=yi (by kernel_rfl)
theorem ZAH:(SC prog J0 JF0 hds).hd 139=0:=yi (by kernel_rfl)
theorem ZAE:(SC prog J0 JF0 hds).hd 140=0:=yi (by kernel_rfl)
theorem ZBi:(SC prog J0 JF0 hds).hd 141=0:=yi (by kernel_rfl)
theorem ZA3:(SC prog J0 JF0 hds).hd 142=0:=yi (by kernel_rfl)
theorem Zzj:(SC prog J0 JF0 hds).hd 143=0:=yi (by kernel_rfl)
theorem ZAy:(SC prog J0 JF0 hds).hd 144=0:=yi (by kernel_rfl)
theorem Zx4:(SC prog J0 JF0 hds).hd 145=0:=yi (by kernel_rfl)
theorem ZyH:(SC prog J0 JF0 hds).hd 146=0:=yi (by kernel_rfl)
theorem ZyS:(SC prog J0 JF0 hds).hd 147=0:=yi (by kernel_rfl)
theorem Zyk:(SC prog J0 JF0 hds).hd 148=0:=yi (by kernel_rfl)
theorem ZAd:(SC prog J0 JF0 hds).hd 149=0:=yi (by kernel_rfl)
theorem ZBG:(SC prog J0 JF0 hds).hd 150=0:=yi (by kernel_rfl)
theorem ZBE:(SC prog J0 JF0 hds).hd 151=0:=yi (by kernel_rfl)
theorem ZzS:(SC prog J0 JF0 hds).hd 152=0:=yi (by kernel_rfl)
theorem ZBh:(SC prog J0 JF0 hds).hd 153=0:=yi (by kernel_rfl)
theorem ZzZ:(SC prog J0 JF0 hds).hd 154=0:=yi (by kernel_rfl)
theorem ZB2:(SC prog J0 JF0 hds).hd 155=0:=yi (by kernel_rfl)
theorem ZBy:(SC prog J0 JF0 hds).hd 158=0:=yi (by kernel_rfl)
theorem ZBa:(SC prog J0 JF0 hds).hd 159=0:=yi (by kernel_rfl)
theorem ZzL:(SC prog J0 JF0 hds).hd 162=0:=yi (by kernel_rfl)
theorem ZAN:(SC prog J0 JF0 hds).hd 163=0:=yi (by kernel_rfl)
theorem Zy4:(SC prog J0 JF0 hds).hd 164=1:=yi (by kernel_rfl)
theorem ZzW:(SC prog J0 JF0 hds).hd 170=0:=yi (by kernel_rfl)
theorem ZBz:(SC prog J0 JF0 hds).hd 171=0:=yi (by kernel_rfl)
theorem ZA8:(SC prog J0 JF0 hds).hd 172=2:=yi (by kernel_rfl)
theorem ZBV:(SC prog J0 JF0 hds).hd 173=1:=yi (by kernel_rfl)
theorem Zz9:(SC prog J0 JF0 hds).hd 174=1:=yi (by kernel_rfl)
theorem ZB6:(SC prog J0 JF0 hds).hd 175=1:=yi (by kernel_rfl)
theorem ZB3:(SC prog J0 JF0 hds).hd 176=0:=yi (by kernel_rfl)
theorem ZzQ:(SC prog J0 JF0 hds).hd 177=0:=yi (by kernel_rfl)
theorem Zyn:(SC prog J0 JF0 hds).hd 178=0:=yi (by kernel_rfl)
theorem Zyx:(SC prog J0 JF0 hds).hd 179=0:=yi (by kernel_rfl)
theorem ZyZ:(SC prog J0 JF0 hds).hd 180=0:=yi (by kernel_rfl)
theorem ZBF:(SC prog J0 JF0 hds).hd 181=0:=yi (by kernel_rfl)
theorem ZAX:(SC prog J0 JF0 hds).hd 182=0:=yi (by kernel_rfl)
theorem Zzs:(SC prog J0 JF0 hds).hd 183=0:=yi (by kernel_rfl)
theorem ZzI:(SC prog J0 JF0 hds).hd 184=0:=yi (by kernel_rfl)
theorem ZzT:(SC prog J0 JF0 hds).hd 185=0:=yi (by kernel_rfl)
theorem ZA9:(SC prog J0 JF0 hds).hd 186=1:=yi (by kernel_rfl)
theorem ZAP:(SC prog J0 JF0 hds).hd 187=0:=yi (by kernel_rfl)
theorem Zzg:(SC prog J0 JF0 hds).hd 188=0:=yi (by kernel_rfl)
theorem ZyV:(SC prog J0 JF0 hds).hd 189=0:=yi (by kernel_rfl)
theorem ZyB:(SC prog J0 JF0 hds).hd 190=0:=yi (by kernel_rfl)
theorem Zzz:(SC prog J0 JF0 hds).hd 191=0:=yi (by kernel_rfl)
theorem ZBS:(SC prog J0 JF0 hds).hd 192=0:=yi (by kernel_rfl)
theorem ZBL:(SC prog J0 JF0 hds).hd 193=0:=yi (by kernel_rfl)
theorem ZBw:(SC prog J0 JF0 hds).hd 194=0:=yi (by kernel_rfl)
theorem ZzF:(SC prog J0 JF0 hds).hd 195=0:=yi (by kernel_rfl)
theorem Zy7:(SC prog J0 JF0 hds).hd 196=0:=yi (by kernel_rfl)
theorem ZAq:(SC prog J0 JF0 hds).hd 197=0:=yi (by kernel_rfl)
theorem ZzY:(SC prog J0 JF0 hds).hd 198=0:=yi (by kernel_rfl)
theorem ZAo:(SC prog J0 JF0 hds).hd 199=0:=yi (by kernel_rfl)
theorem ZzG:(SC prog J0 JF0 hds).hd 200=0:=yi (by kernel_rfl)
theorem ZyT:(SC prog J0 JF0 hds).hd 201=0:=yi (by kernel_rfl)
theorem ZyL:(SC prog J0 JF0 hds).hd 202=0:=yi (by kernel_rfl)
theorem Zys:(SC prog J0 JF0 hds).hd 203=0:=yi (by kernel_rfl)
theorem Zzt:(SC prog J0 JF0 hds).hd 204=0:=yi (by kernel_rfl)
theorem ZAl:(SC prog J0 JF0 hds).hd 205=0:=yi (by kernel_rfl)
theorem Zyf:(SC prog J0 JF0 hds).hd 206=0:=yi (by kernel_rfl)
theorem ZBq:(SC prog J0 JF0 hds).hd 207=0:=yi (by kernel_rfl)
theorem ZAv:(SC prog J0 JF0 hds).hd 208=0:=yi (by kernel_rfl)
theorem Zzi:(SC prog J0 JF0 hds).hd 209=0:=yi (by kernel_rfl)
theorem ZAw:(SC prog J0 JF0 hds).hd 210=1:=yi (by kernel_rfl)
theorem ZCh:(SC prog J0 JF0 hds).hd 211=0:=yi (by kernel_rfl)
theorem Zyi:(SC prog J0 JF0 hds).hd 212=0:=yi (by kernel_rfl)
theorem ZCo:(SC prog J0 JF0 hds).hd 213=0:=yi (by kernel_rfl)
theorem ZAI:(SC prog J0 JF0 hds).hd 214=0:=yi (by kernel_rfl)
theorem ZCe:(SC prog J0 JF0 hds).hd 215=0:=yi (by kernel_rfl)
theorem ZBM:(SC prog J0 JF0 hds).hd 216=0:=yi (by kernel_rfl)
theorem ZAh:(SC prog J0 JF0 hds).hd 219=0:=yi (by kernel_rfl)
theorem ZBP:(SC prog J0 JF0 hds).hd 220=0:=yi (by kernel_rfl)
theorem ZAY:(SC prog J0 JF0 hds).hd 221=0:=yi (by kernel_rfl)
theorem ZAk:(SC prog J0 JF0 hds).hd 222=0:=yi (by kernel_rfl)
theorem Zze:(SC prog J0 JF0 hds).hd 223=0:=yi (by kernel_rfl)
theorem ZyO:(SC prog J0 JF0 hds).hd 224=0:=yi (by kernel_rfl)
theorem ZBR:(SC prog J0 JF0 hds).hd 225=0:=yi (by kernel_rfl)
theorem Zy5:(SC prog J0 JF0 hds).hd 226=0:=yi (by kernel_rfl)
theorem Zx6:(SC prog J0 JF0 hds).hd 227=0:=yi (by kernel_rfl)
theorem ZCn:(SC prog J0 JF0 hds).hd 234=0:=yi (by kernel_rfl)
theorem ZAF:(SC prog J0 JF0 hds).hd 235=0:=yi (by kernel_rfl)
theorem ZCg:(SC prog J0 JF0 hds).hd 236=0:=yi (by kernel_rfl)
theorem ZyJ:(SC prog J0 JF0 hds).hd 237=0:=yi (by kernel_rfl)
theorem ZzB:(SC prog J0 JF0 hds).hd 238=0:=yi (by kernel_rfl)
theorem Zzc:(SC prog J0 JF0 hds).hd 239=1:=yi (by kernel_rfl)
theorem Zzn:(SC prog J0 JF0 hds).hd 240=1:=yi (by kernel_rfl)
theorem ZAU:(SC prog J0 JF0 hds).hd 241=0:=yi (by kernel_rfl)
theorem ZCa:(SC prog J0 JF0 hds).hd 242=0:=yi (by kernel_rfl)
theorem Zzu:(SC prog J0 JF0 hds).hd 243=0:=yi (by kernel_rfl)
theorem ZBg:(SC prog J0 JF0 hds).hd 244=0:=yi (by kernel_rfl)
theorem ZyP:(SC prog J0 JF0 hds).hd 245=0:=yi (by kernel_rfl)
theorem Zyy:(SC prog J0 JF0 hds).hd 246=0:=yi (by kernel_rfl)
theorem ZzV:(SC prog J0 JF0 hds).hd 247=0:=yi (by kernel_rfl)
theorem ZzX:(SC prog J0 JF0 hds).hd 248=0:=yi (by kernel_rfl)
theorem ZBl:(SC prog J0 JF0 hds).hd 249=0:=yi (by kernel_rfl)
theorem ZzA:(SC prog J0 JF0 hds).hd 250=1:=yi (by kernel_rfl)
theorem ZB7:(SC prog J0 JF0 hds).hd 251=1:=yi (by kernel_rfl)
theorem Zzl:(SC prog J0 JF0 hds).hd 252=0:=yi (by kernel_rfl)
theorem ZAm:(SC prog J0 JF0 hds).hd 253=0:=yi (by kernel_rfl)
theorem ZAz:(SC prog J0 JF0 hds).hd 254=0:=yi (by kernel_rfl)
theorem ZAG:(SC prog J0 JF0 hds).hd 255=4:=yi (by kernel_rfl)
theorem ZyA:(SC prog J0 JF0 hds).hd 256=0:=yi (by kernel_rfl)
theorem Zz5:(SC prog J0 JF0 hds).hd 257=0:=yi (by kernel_rfl)
theorem ZAW:(SC prog J0 JF0 hds).hd 258=0:=yi (by kernel_rfl)
theorem ZyW:(SC prog J0 JF0 hds).hd 259=0:=yi (by kernel_rfl)
theorem Zzf:(SC prog J0 JF0 hds).hd 260=0:=yi (by kernel_rfl)
theorem ZAj:(SC prog J0 JF0 hds).hd 261=0:=yi (by kernel_rfl)
theorem ZAR:(SC prog J0 JF0 hds).hd 262=0:=yi (by kernel_rfl)
theorem Zy9:(SC prog J0 JF0 hds).hd 263=0:=yi (by kernel_rfl)
theorem Zym:(SC prog J0 JF0 hds).hd 264=0:=yi (by kernel_rfl)
theorem ZCf:(SC prog J0 JF0 hds).hd 266=0:=yi (by kernel_rfl)
theorem ZAO:(SC prog J0 JF0 hds).hd 268=0:=yi (by kernel_rfl)
theorem ZBk:(SC prog J0 JF0 hds).hd 269=0:=yi (by kernel_rfl)
theorem ZyX:(SC prog J0 JF0 hds).hd 271=0:=yi (by kernel_rfl)
theorem ZCj:(SC prog J0 JF0 hds).hd 276=0:=yi (by kernel_rfl)
theorem Zyt:(SC prog J0 JF0 hds).hd 277=0:=yi (by kernel_rfl)
theorem Zz3:(SC prog J0 JF0 hds).hd 278=0:=yi (by kernel_rfl)
theorem Zx7:(SC prog J0 JF0 hds).hd 279=0:=yi (by kernel_rfl)
theorem ZAs:(SC prog J0 JF0 hds).hd 280=0:=yi (by kernel_rfl)
theorem ZAA:(SC prog J0 JF0 hds).hd 281=0:=yi (by kernel_rfl)
theorem ZAQ:(SC prog J0 JF0 hds).hd 282=0:=yi (by kernel_rfl)
theorem Zyl:(SC prog J0 JF0 hds).hd 283=0:=yi (by kernel_rfl)
theorem Zyb:(SC prog J0 JF0 hds).hd 284=1:=yi (by kernel_rfl)
theorem ZBn:(SC prog J0 JF0 hds).hd 285=1:=yi (by kernel_rfl)
theorem ZBf:(SC prog J0 JF0 hds).hd 286=1:=yi (by kernel_rfl)
theorem ZBd:(SC prog J0 JF0 hds).hd 287=1:=yi (by kernel_rfl)
theorem ZA7:(SC prog J0 JF0 hds).hd 288=1:=yi (by kernel_rfl)
theorem Zzw:(SC prog J0 JF0 hds).hd 289=0:=yi (by kernel_rfl)
theorem ZBN:(SC prog J0 JF0 hds).hd 290=0:=yi (by kernel_rfl)
theorem Zzy:(SC prog J0 JF0 hds).hd 291=0:=yi (by kernel_rfl)
theorem ZAK:(SC prog J0 JF0 hds).hd 292=0:=yi (by kernel_rfl)
theorem ZBZ:(SC prog J0 JF0 hds).hd 293=0:=yi (by kernel_rfl)
theorem ZBs:(SC prog J0 JF0 hds).hd 294=0:=yi (by kernel_rfl)
theorem ZAZ:(SC prog J0 JF0 hds).hd 295=0:=yi (by kernel_rfl)
theorem ZBU:(SC prog J0 JF0 hds).hd 297=0:=yi (by kernel_rfl)
theorem ZBA:(SC prog J0 JF0 hds).hd 298=0:=yi (by kernel_rfl)
theorem ZBB:(SC prog J0 JF0 hds).hd 311=0:=yi (by kernel_rfl)
theorem Zyq:(SC prog J0 JF0 hds).hd 312=0:=yi (by kernel_rfl)
theorem Zz8:(SC prog J0 JF0 hds).hd 313=0:=yi (by kernel_rfl)
theorem Zyv:(SC prog J0 JF0 hds).hd 314=0:=yi (by kernel_rfl)
theorem ZBe:(SC prog J0 JF0 hds).hd 315=1:=yi (by kernel_rfl)
theorem Zz1:(SC prog J0 JF0 hds).hd 316=1:=yi (by kernel_rfl)
theorem ZyD:(SC prog J0 JF0 hds).hd 317=1:=yi (by kernel_rfl)
theorem Zyo:(SC prog J0 JF0 hds).hd 318=0:=yi (by kernel_rfl)
theorem ZA0:(SC prog J0 JF0 hds).hd 319=0:=yi (by kernel_rfl)
theorem ZBb:(SC prog J0 JF0 hds).hd 322=0:=yi (by kernel_rfl)
theorem ZAS:(SC prog J0 JF0 hds).hd 338=0:=yi (by kernel_rfl)
theorem ZBT:(SC prog J0 JF0 hds).hd 339=0:=yi (by kernel_rfl)
theorem ZCd:(SC prog J0 JF0 hds).hd 340=1:=yi (by kernel_rfl)
theorem ZB0:(SC prog J0 JF0 hds).hd 341=1:=yi (by kernel_rfl)
theorem ZBx:(SC prog J0 JF0 hds).hd 342=1:=yi (by kernel_rfl)
theorem Zye:(SC prog J0 JF0 hds).hd 343=0:=yi (by kernel_rfl)
theorem ZAL:(SC prog J0 JF0 hds).hd 355=1:=yi (by kernel_rfl)
theorem ZzM:(SC prog J0 JF0 hds).hd 356=1:=yi (by kernel_rfl)
theorem tt2:tt 2=some (.atom (.c (.int .i64 0))):=yi rfl
theorem tt3:tt 3=some (.atom (.c (.int .i64 0))):=yi rfl
theorem tt4:tt 4=some (.atom (.c (.bool false))):=yi rfl
theorem tt5:tt 5=some (.atom (.c (.int .u8 0))):=yi rfl
theorem tt9:tt 9=some (.atom (.c (.str ⟨#[]⟩))):=yi rfl
theorem ZEN:tt 12=some (.atom (.c (.int .u64 0))):=yi rfl
theorem ZEZ:tt 14=some (.strct [⟨0,1,false⟩,⟨1,1,false⟩] 2 [.c (.str ⟨#[]⟩),.c (.int .u64 0)]):=yi rfl
theorem ZEW:tt 20=some (.ifc):=yi rfl
theorem ZE2:tt 21=some (.atom (.c (.int .i32 0))):=yi rfl
theorem ZEV:tt 22=some (.slice 5 1 1 [.c (.int .u8 0)]):=yi rfl
theorem ZEH:tt 24=some (.slice 42 4 72 [.c (.str ⟨#[]⟩),.c (.int .i64 0),.nil 173 5,.nil 50 3]):=yi rfl
theorem ZES:tt 25=some (.slice 45 2 40 [.c (.str ⟨#[]⟩),.nil 9 1]):=yi rfl
theorem ZER:tt 33=some (.slice 38 3 64 [.c (.str ⟨#[]⟩),.nil 45 2,.nil 166 2]):=yi rfl
theorem ZEA:tt 36=some (.slice 166 2 32 [.c (.str ⟨#[]⟩),.c (.str ⟨#[]⟩)]):=yi rfl
theorem ZEB:tt 38=some (.strct [⟨0,1,false⟩,⟨1,1,false⟩,⟨2,1,false⟩] 3 [.c (.str ⟨#[]⟩),.nil 45 2,.nil 166 2]):=yi rfl
theorem ZEJ:tt 39=some (.slice 173 5 80 [.c (.int .i64 0),.c (.str ⟨#[]⟩),.nil 9 1,.c (.str ⟨#[]⟩),.c (.str ⟨#[]⟩)]):=yi rfl
theorem ZED:tt 40=some (.slice 50 3 48 [.c (.int .i64 0),.c (.str ⟨#[]⟩),.nil 9 1]):=yi rfl
theorem ZEo:tt 42=some (.strct [⟨0,1,false⟩,⟨1,1,false⟩,⟨2,1,false⟩,⟨3,1,false⟩] 4 [.c (.str ⟨#[]⟩),.c (.int .i64 0),.nil 173 5,.nil 50 3]):=yi rfl
theorem ZEQ:tt 43=some (.slice 9 1 16 [.c (.str ⟨#[]⟩)]):=yi rfl
theorem ZE9:tt 45=some (.strct [⟨0,1,false⟩,⟨1,1,false⟩] 2 [.c (.str ⟨#[]⟩),.nil 9 1]):=yi rfl
theorem ZFa:tt 48=some (.strct [⟨0,1,false⟩,⟨1,1,false⟩] 2 [.c (.str ⟨#[]⟩),.nil 9 1]):=yi rfl
theorem ZEs:tt 50=some (.strct [⟨0,1,false⟩,⟨1,2,true⟩] 3 [.c (.int .i64 0),.c (.str ⟨#[]⟩),.nil 9 1]):=yi rfl
theorem ZE7:tt 58=some (.slice 126 4 72 [.c (.str ⟨#[]⟩),.c (.int .i64 0),.nil 228 5,.nil 231 3]):=yi rfl
theorem ZE5:tt 59=some (.slice 86 2 40 [.c (.str ⟨#[]⟩),.nil 9 1]):=yi rfl
theorem ZEP:tt 62=some (.slice 199 3 56 [.c (.int .i64 0),.nil 3 1,.nil 3 1]):=yi rfl
theorem ZEI:tt 64=some (.strct [⟨0,1,false⟩,⟨1,1,false⟩] 2 [.c (.int .i64 0),.nil 199 3]):=yi rfl
theorem ZEm:tt 65=some (.slice 3 1 8 [.c (.int .i64 0)]):=yi rfl
theorem ZEM:tt 67=some (.strct [⟨0,2,true⟩,⟨2,1,false⟩,⟨3,1,false⟩] 4 [.c (.int .i64 0),.nil 199 3,.nil 3 1,.nil 3 1]):=yi rfl
theorem ZEw:tt 80=some (.slice 25 1 24 [.nil 45 2]):=yi rfl
theorem ZE8:tt 86=some (.strct [⟨0,1,false⟩,⟨1,1,false⟩] 2 [.c (.str ⟨#[]⟩),.nil 9 1]):=yi rfl
theorem ZCO:tt 110=some (.map .str .bool):=yi rfl
theorem ZD4:tt 116=some (.slice 120 2 48 [.nil 45 2,.nil 166 2]):=yi rfl
theorem ZDm:tt 120=some (.strct [⟨0,1,false⟩,⟨1,1,false⟩] 2 [.nil 45 2,.nil 166 2]):=yi rfl
theorem ZDd:tt 123=some (.slice 228 5 80 [.c (.int .i64 0),.c (.str ⟨#[]⟩),.nil 9 1,.c (.str ⟨#[]⟩),.c (.str ⟨#[]⟩)]):=yi rfl
theorem ZDt:tt 124=some (.slice 231 3 48 [.c (.int .i64 0),.c (.str ⟨#[]⟩),.nil 9 1]):=yi rfl
theorem ZDx:tt 126=some (.strct [⟨0,1,false⟩,⟨1,1,false⟩,⟨2,1,false⟩,⟨3,1,false⟩] 4 [.c (.str ⟨#[]⟩),.c (.int .i64 0),.nil 228 5,.nil 231 3]):=yi rfl
theorem ZDk:tt 152=some (.strct [⟨0,1,false⟩,⟨1,1,false⟩,⟨2,1,false⟩] 3 [.nil 5 1,.c (.int .i64 0),.c (.int .i64 0)]):=yi rfl
theorem ZCD:tt 155=some (.slice 204 2 40 [.c (.str ⟨#[]⟩),.nil 45 2]):=yi rfl
theorem ZCS:tt 158=some (.slice 4 1 1 [.c (.bool false)]):=yi rfl
theorem ZDZ:tt 160=some (.slice 208 3 64 [.c (.str ⟨#[]⟩),.nil 45 2,.nil 166 2]):=yi rfl
theorem ZCv:tt 166=some (.strct [⟨0,1,false⟩,⟨1,1,false⟩] 2 [.c (.str ⟨#[]⟩),.c (.str ⟨#[]⟩)]):=yi rfl
theorem ZDn:tt 173=some (.strct [⟨0,1,false⟩,⟨1,2,true⟩,⟨3,1,false⟩,⟨4,1,false⟩] 5 [.c (.int .i64 0),.c (.str ⟨#[]⟩),.nil 9 1,.c (.str ⟨#[]⟩),.c (.str ⟨#[]⟩)]):=yi rfl
theorem ZD1:tt 199=some (.strct [⟨0,1,false⟩,⟨1,1,false⟩,⟨2,1,false⟩] 3 [.c (.int .i64 0),.nil 3 1,.nil 3 1]):=yi rfl
theorem ZCU:tt 204=some (.strct [⟨0,1,false⟩,⟨1,1,false⟩] 2 [.c (.str ⟨#[]⟩),.nil 45 2]):=yi rfl
theorem ZCF:tt 208=some (.strct [⟨0,1,false⟩,⟨1,2,true⟩] 3 [.c (.str ⟨#[]⟩),.nil 45 2,.nil 166 2]):=yi rfl
theorem ZC3:tt 226=some (.strct [⟨0,1,false⟩,⟨1,1,false⟩] 2 [.c (.str ⟨#[]⟩),.nil 9 1]):=yi rfl
theorem ZCL:tt 228=some (.strct [⟨0,1,false⟩,⟨1,2,true⟩,⟨3,1,false⟩,⟨4,1,false⟩] 5 [.c (.int .i64 0),.c (.str ⟨#[]⟩),.nil 9 1,.c (.str ⟨#[]⟩),.c (.str ⟨#[]⟩)]):=yi rfl
theorem ZCN:tt 231=some (.strct [⟨0,1,false⟩,⟨1,2,true⟩] 3 [.c (.int .i64 0),.c (.str ⟨#[]⟩),.nil 9 1]):=yi rfl
theorem ZCq:tt 241=some (.atom (.c (.int .u64 0))):=yi rfl
theorem ZEf:tt 270=some (.ifc):=yi rfl
theorem ZD5:tt 271=some (.ifc):=yi rfl
theorem ZCZ:tt 283=some (.atom (.c (.int .u32 0))):=yi rfl
theorem ZCR:tt 285=some (.atom (.c (.int .u64 0))):=yi rfl
theorem ZDl:tt 330=some (.strct [⟨0,1,false⟩] 1 [.c (.str ⟨#[]⟩)]):=yi rfl
theorem fnk {f : FuncId} {fn : Func} {c : Code} {args : List (Bool × List CT)} {res : List RT} (hf : prog.funcs[f]? = some fn) (hb : fn.body = some c) (h : fnS (fun _ => none) tt (SC prog J0 JF0 hds) fn.results.toList c args res) (hname : (fn.name == "runtime.NumGoroutine") = false := by kernel_rfl) (hok : Xh (fun _ => none) tt hds false fn.ntmps c = true := by kernel_rfl) (hlen : Nat.ble args.length fn.ntmps = true := by kernel_rfl) : Zk prog J0 f args res := Zv4 htt hJ0 hmix hf hname hb hok hlen h
theorem fnh {f : FuncId} {fn : Func} {c : Code} {h h' : ZgU} {args : List (Bool × List CT)} {res : List RT} (hf : prog.funcs[f]? = some fn) (hb : fn.body = some c) (hh : fnH (fun _ => none) tt (SC prog J0 JF0 hds) fn.results.toList c h args res h') (hname : (fn.name == "runtime.NumGoroutine") = false := by kernel_rfl) (hok : Xh (fun _ => none) tt hds true fn.ntmps c = true := by kernel_rfl) (hlen : Nat.blt args.length fn.ntmps = true := by kernel_rfl) : Zbx prog J0 JF0 f h args res h' := ZtM htt hJ0 hmix hf hname hb hok hlen hh
theorem fnb {f : FuncId} {fn : Func} {c : Code} {args : List (Bool × List CT)} {nb : NB} (hf : prog.funcs[f]? = some fn) (hb : fn.body = some c) (h : fnB (fun _ => none) tt (SC prog J0 JF0 hds) fn.results.toList c args nb) (hname : (fn.name == "runtime.NumGoroutine") = false := by kernel_rfl) (hok : Xh (fun _ => none) tt hds false fn.ntmps c = true := by kernel_rfl) (hlen : Nat.ble args.length fn.ntmps = true := by kernel_rfl) : Zmx prog J0 f args nb := ZtB htt hJ0 hmix hf hname hb hok hlen h
theorem fnn (t0 : Nat) {f : FuncId} {fn : Func} {c : Code} {args : List (Bool × List CT)} {res : List RT} (hf : prog.funcs[f]? = some fn) (hb : fn.body = some c) (h : fnN (fun _ => none) tt (SC prog J0 JF0 hds) fn.results.toList t0 c args res) (hname : (fn.name == "runtime.NumGoroutine") = false := by kernel_rfl) (hok : Xh (fun _ => none) tt hds false fn.ntmps c = true := by kernel_rfl) (hlen : Nat.ble args.length fn.ntmps = true := by kernel_rfl) : Zk prog J0 f args res := ZuH htt hJ0 hmix hf hname hb hok hlen t0 h
def Zl (x:Zb):List CT:=[.str x.rel,.sl 9 1 (A0 Zx x.args)]
theorem ZvR (x:Zb):Zl x=[.str x.rel,.sl 9 1 (A0 Zx x.args)]:=yi rfl
def Z4 (x:Zs):List CT:=[.str x.var,.str x.value]
theorem Zu9 (x:Zs):Z4 x=[.str x.var,.str x.value]:=yi rfl
theorem Zsc (l:List Zs):ZaN (l.map Z4)=true:=ZbO (fun _=>rfl) l
def Zc8 (x:Qg):List CT:=[.str x.rule,.sl 45 2 (A0 Zl x.facts),.sl 166 2 (A0 Z4 x.binding)]
theorem ZtT (x:Qg):Zc8 x=[.str x.rule,.sl 45 2 (A0 Zl x.facts),.sl 166 2 (A0 Z4 x.binding)]:=yi rfl
def QA (x:Zv):List CT:=[.str x.rel,.sl 9 1 (A0 Zx x.args)]
theorem Zq5 (x:Zv):QA x=[.str x.rel,.sl 9 1 (A0 Zx x.args)]:=yi rfl
def ZK (x:Zt):List CT:=[.int .i64 x.kind,.str x.pattern.rel,.sl 9 1 (A0 Zx x.pattern.args),.str x.left,.str x.right]
theorem Zwb (x:Zt):ZK x=[.int .i64 x.kind,.str x.pattern.rel,.sl 9 1 (A0 Zx x.pattern.args),.str x.left,.str x.right]:=yi rfl
def ZG (x:Zz):List CT:=[.int .i64 x.kind,.str x.pattern.rel,.sl 9 1 (A0 Zx x.pattern.args)]
theorem Zsr (x:Zz):ZG x=[.int .i64 x.kind,.str x.pattern.rel,.sl 9 1 (A0 Zx x.pattern.args)]:=yi rfl
def ZF (x:Zg):List CT:=[.str x.name,.int .i64 x.priority,.sl 173 5 (A0 ZK x.cond),.sl 50 3 (A0 ZG x.thn)]
theorem Zvs (x:Zg):ZF x=[.str x.name,.int .i64 x.priority,.sl 173 5 (A0 ZK x.cond),.sl 50 3 (A0 ZG x.thn)]:=yi rfl
def ZE (x:Zf):List CT:=[.int .i64 x.for_,.sl 3 1 (A0 ZI x.inn),.sl 3 1 (A0 ZI x.outs)]
theorem Zsg (x:Zf):ZE x=[.int .i64 x.for_,.sl 3 1 (A0 ZI x.inn),.sl 3 1 (A0 ZI x.outs)]:=yi rfl
def XY (x:Zr):List CT:=[.int .i64 x.nodes,.sl 199 3 (A0 ZE x.reasons)]
theorem ZqM (x:Zr):XY x=[.int .i64 x.nodes,.sl 199 3 (A0 ZE x.reasons)]:=yi rfl
def ZAT (x:QZ):List CT:=[.int .i64 x.beliefs.nodes,.sl 199 3 (A0 ZE x.beliefs.reasons),.sl 3 1 (A0 ZI x.assumed),.sl 3 1 (A0 ZI x.bad)]
theorem Zut (x:QZ):ZAT x=[.int .i64 x.beliefs.nodes,.sl 199 3 (A0 ZE x.beliefs.reasons),.sl 3 1 (A0 ZI x.assumed),.sl 3 1 (A0 ZI x.bad)]:=yi rfl
def YK (x:Zu):List CT:=[.sl 45 2 (A0 Zl x.facts),.sl 166 2 (A0 Z4 x.binding)]
theorem ZuG (x:Zu):YK x=[.sl 45 2 (A0 Zl x.facts),.sl 166 2 (A0 Z4 x.binding)]:=yi rfl
def Zbj (x:ZJ):List CT:=[.sl 5 1 (A0 ZeK x.b),.int .i64 x.i,.int .i64 x.h]
theorem Zug (x:ZJ):Zbj x=[.sl 5 1 (A0 ZeK x.b),.int .i64 x.i,.int .i64 x.h]:=yi rfl
def Zhi (x:ZaA):List CT:=[.str x.rule,.sl 45 2 (A0 Zl x.facts)]
theorem Zst (x:ZaA):Zhi x=[.str x.rule,.sl 45 2 (A0 Zl x.facts)]:=yi rfl
def Ze9 (x:Xr):List CT:=[.str x.rule,.sl 45 2 (A0 Zl x.token.facts),.sl 166 2 (A0 Z4 x.token.binding)]
theorem ZoU (x:Xr):Ze9 x=[.str x.rule,.sl 45 2 (A0 Zl x.token.facts),.sl 166 2 (A0 Z4 x.token.binding)]:=yi rfl
def Zse (x:(List Zb)):List CT:=[.sl 45 2 (A0 Zl x)]
theorem Zna (x:(List Zb)):Zse x=[.sl 45 2 (A0 Zl x)]:=yi rfl
attribute [go_sem] tt2 tt3 tt4 tt5 tt9 ZEN ZEZ ZEW ZE2 ZEV ZEH ZES ZER ZEA ZEB ZEJ ZED ZEo ZEQ ZE9 ZFa ZEs ZE7 ZE5 ZEP ZEI ZEm ZEM ZEw ZE8 ZCO ZD4 ZDm ZDd ZDt ZDx ZDk ZCD ZCS ZDZ
attribute [go_sem] ZCv ZDn ZD1 ZCU ZCF ZC3 ZCL ZCN ZCq ZEf ZD5 ZCZ ZCR ZDl ZEK ZEv ZEt ZNl ZE3 ZEp ZDO ZD7 ZDh ZCr ZDN ZDF ZCx ZDT ZDz ZDD ZDf ZC4 ZEk ZDs ZDi ZCt ZDg ZEd ZEh ZD6
attribute [go_sem] ZD3 ZDE ZDU ZCI ZCz ZCH ZDJ ZCA ZC2 ZCp ZCY ZDe ZDA ZEb ZCX ZDc ZEg ZEa ZC6 ZDC ZCG ZDM ZCM ZDK ZDb ZD8 ZDV ZDX ZEe ZEc ZDa ZCQ ZCE ZDy ZC8 ZEj ZD9 ZEi ZDQ ZC1
attribute [go_sem] ZDS ZDv ZCs ZDu ZBQ ZAn Zz2 ZAb ZB8 ZAu Zyr Zyp Zyz ZAM ZBD ZCm ZyY ZA5 ZyI ZAx Zzk ZyR Zx3 ZAD ZB4 ZzN ZAp ZyG ZzR ZB9 ZzP ZBm ZAH ZAE ZBi ZA3 Zzj ZAy Zx4 ZyH
attribute [go_sem] ZyS Zyk ZAd ZBG ZBE ZzS ZBh ZzZ ZB2 ZBy ZBa ZzL ZAN Zy4 ZzW ZBz ZA8 ZBV Zz9 ZB6 ZB3 ZzQ Zyn Zyx ZyZ ZBF ZAX Zzs ZzI ZzT ZA9 ZAP Zzg ZyV ZyB Zzz ZBS ZBL ZBw ZzF
attribute [go_sem] Zy7 ZAq ZzY ZAo ZzG ZyT ZyL Zys Zzt ZAl Zyf ZBq ZAv Zzi ZAw ZCh Zyi ZCo ZAI ZCe ZBM ZAh ZBP ZAY ZAk Zze ZyO ZBR Zy5 Zx6 ZCn ZAF ZCg ZyJ ZzB Zzc Zzn ZAU ZCa Zzu
attribute [go_sem] ZBg ZyP Zyy ZzV ZzX ZBl ZzA ZB7 Zzl ZAm ZAz ZAG ZyA Zz5 ZAW ZyW Zzf ZAj ZAR Zy9 Zym ZCf ZAO ZBk ZyX ZCj Zyt Zz3 Zx7 ZAs ZAA ZAQ Zyl Zyb ZBn ZBf ZBd ZA7 Zzw ZBN
attribute [go_sem] Zzy ZAK ZBZ ZBs ZAZ ZBU ZBA ZBB Zyq Zz8 Zyv ZBe Zz1 ZyD Zyo ZA0 ZBb ZAS ZBT ZCd ZB0 ZBx Zye ZAL ZzM ZvR Zsc Zu9 ZtT Zq5 Zwb Zsr Zvs Zsg ZqM Zut ZuG Zug Zst ZoU
attribute [go_sem] Zna
end
end Go.Proofs.YtfehfkfdfmcgfaaGreatDoor
namespace Go.Proofs
open Go.Shelf
def lays106_ren:Go.Shelf.Ren:=⟨fun | 106=>203 | 213=>265 | 265=>296 | n=>n,fun | 9=>9 | 3=>3 | n=>n,fun | n=>n⟩
theorem lays106:Go.Proofs.Lays.n106 prog lays106_ren:={
 mixed:=by kernel_rfl
 f106:=func203.trans (congrArg some (by kernel_rfl))
 f213:=func265.trans (congrArg some (by kernel_rfl))
 f265:=func296.trans (congrArg some (by kernel_rfl))
 t3:=underlying3
 a3:=isAgg3
 z3:=sizeOf3
 v3:=zeroValue3
 t9:=underlying9
 a9:=isAgg9
 z9:=sizeOf9
 v9:=zeroValue9 }
open Go.RowKit in
theorem strings_Compare (a b:ByteArray) (w:World):
  Calls prog 203 #[.string a,.string b] w fun e w'=>e=.returned (.int .i64 (Lib.compareBytes a.data.toList b.data.toList))∧w'=w:=Any.strings_Compare lays106 a b w
def lays172_ren:Go.Shelf.Ren:=⟨fun | 172=>297 | 244=>320 | 245=>321 | 247=>344 | 279=>345 | 280=>346 | 281=>347 | 282=>348 | 287=>357 | 316=>358 | 171=>322 | 205=>359 | 321=>362 | 322=>363 | 243=>349 | 246=>360 | 283=>364 | 284=>365 | 285=>366 | 286=>367 | 129=>310 | 317=>368 | 318=>369 | 319=>370 | 320=>371 | 337=>372 | 338=>373 | n=>n,fun | 9=>9 | 3=>3 | 75=>271 | 76=>272 | 4=>4 | 5=>5 | 167=>306 | 37=>22 | 0=>0 | 85=>307 | 2=>2 | 168=>309 | 53=>285 | 175=>318 | 46=>241 | 210=>322 | 127=>327 | 145=>330 | 143=>328 | 21=>21 | 171=>331 | 173=>333 | 212=>337 | 51=>283 | 20=>20 | 213=>338 | 232=>339 | 233=>340 | 80=>341 | n=>n,fun | 15=>1 | 16=>2 | 17=>3 | 18=>4 | 19=>5 | n=>n⟩
theorem lays172:Go.Proofs.Lays.n172 prog lays172_ren:={
 mixed:=by kernel_rfl
 f129:=func310.trans (congrArg some (by kernel_rfl))
 f171:=func322.trans (congrArg some (by kernel_rfl))
 f172:=func297.trans (congrArg some (by kernel_rfl))
 f205:=func359.trans (congrArg some (by kernel_rfl))
 f243:=func349.trans (congrArg some (by kernel_rfl))
 f244:=func320.trans (congrArg some (by kernel_rfl))
 f245:=func321.trans (congrArg some (by kernel_rfl))
 f246:=func360.trans (congrArg some (by kernel_rfl))
 f247:=func344.trans (congrArg some (by kernel_rfl))
 f279:=func345.trans (congrArg some (by kernel_rfl))
 f280:=func346.trans (congrArg some (by kernel_rfl))
 f281:=func347.trans (congrArg some (by kernel_rfl))
 f282:=func348.trans (congrArg some (by kernel_rfl))
 f283:=func364.trans (congrArg some (by kernel_rfl))
 f284:=func365.trans (congrArg some (by kernel_rfl))
 f285:=func366.trans (congrArg some (by kernel_rfl))
 f286:=func367.trans (congrArg some (by kernel_rfl))
 f287:=func357.trans (congrArg some (by kernel_rfl))
 f316:=func358.trans (congrArg some (by kernel_rfl))
 f317:=func368.trans (congrArg some (by kernel_rfl))
 f318:=func369.trans (congrArg some (by kernel_rfl))
 f319:=func370.trans (congrArg some (by kernel_rfl))
 f320:=func371.trans (congrArg some (by kernel_rfl))
 f321:=func362.trans (congrArg some (by kernel_rfl))
 f322:=func363.trans (congrArg some (by kernel_rfl))
 f337:=func372.trans (congrArg some (by kernel_rfl))
 f338:=func373.trans (congrArg some (by kernel_rfl))
 t0:=underlying0
 a0:=isAgg0
 z0:=sizeOf0
 v0:=zeroValue0
 t2:=underlying2
 a2:=isAgg2
 z2:=sizeOf2
 v2:=zeroValue2
 t3:=underlying3
 a3:=isAgg3
 z3:=sizeOf3
 v3:=zeroValue3
 t4:=underlying4
 a4:=isAgg4
 z4:=sizeOf4
 v4:=zeroValue4
 t5:=underlying5
 a5:=isAgg5
 z5:=sizeOf5
 v5:=zeroValue5
 t9:=underlying9
 a9:=isAgg9
 z9:=sizeOf9
 v9:=zeroValue9
 t20:=underlying20
 a20:=isAgg20
 z20:=sizeOf20
 v20:=zeroValue20
 t21:=underlying21
 a21:=isAgg21
 z21:=sizeOf21
 v21:=zeroValue21
 t37:=underlying22
 a37:=isAgg22
 z37:=sizeOf22
 v37:=zeroValue22
 t46:=underlying241
 a46:=isAgg241
 z46:=sizeOf241
 v46:=zeroValue241
 t51:=underlying283
 a51:=isAgg283
 z51:=sizeOf283
 v51:=zeroValue283
 t53:=underlying285
 a53:=isAgg285
 z53:=sizeOf285
 v53:=zeroValue285
 t75:=underlying271
 a75:=isAgg271
 z75:=sizeOf271
 v75:=zeroValue271
 t76:=underlying272
 a76:=isAgg272
 z76:=sizeOf272
 v76:=zeroValue272
 t85:=underlying307
 a85:=isAgg307
 z85:=sizeOf307
 v85:=zeroValue307
 t127:=underlying327
 a127:=isAgg327
 z127:=sizeOf327
 v127:=zeroValue327
 t143:=underlying328
 a143:=isAgg328
 z143:=sizeOf328
 v143:=zeroValue328
 t145:=underlying330
 a145:=isAgg330
 z145:=sizeOf330
 v145:=zeroValue330
 t167:=underlying306
 a167:=isAgg306
 z167:=sizeOf306
 v167:=zeroValue306
 t168:=underlying309
 a168:=isAgg309
 z168:=sizeOf309
 v168:=zeroValue309
 t171:=underlying331
 a171:=isAgg331
 z171:=sizeOf331
 v171:=zeroValue331
 t173:=underlying333
 a173:=isAgg333
 z173:=sizeOf333
 v173:=zeroValue333
 t175:=underlying318
 a175:=isAgg318
 z175:=sizeOf318
 v175:=zeroValue318
 t210:=underlying322
 a210:=isAgg322
 z210:=sizeOf322
 v210:=zeroValue322
 t212:=underlying337
 a212:=isAgg337
 z212:=sizeOf337
 v212:=zeroValue337
 t213:=underlying338
 a213:=isAgg338
 z213:=sizeOf338
 t232:=underlying339
 a232:=isAgg339
 z232:=sizeOf339
 v232:=zeroValue339
 t233:=underlying340
 a233:=isAgg340
 z233:=sizeOf340
 v233:=zeroValue340
 g15:=by kernel_rfl
 g16:=by kernel_rfl
 g17:=by kernel_rfl
 g18:=by kernel_rfl
 g19:=by kernel_rfl }
open Go.RowKit in
theorem strconv_Atoi (s:ByteArray) (n:Int) (hl:s.size≤18) (h:Lib.atoi s.data.toList=some n) (w:World):
  Calls prog 297 #[.string s] w fun e w'=>e=.returned (.tuple #[.int .i64 n,.nilIface])∧∃t,w'=Lib.bytesWorld w 5 t:=Any.strconv_Atoi lays172 s n hl h w
def laysM171_ren:Go.Shelf.Ren:=⟨fun | 171=>322 | 243=>349 | 246=>360 | 283=>364 | 284=>365 | 285=>366 | 286=>367 | 129=>310 | 317=>368 | 318=>369 | 319=>370 | 320=>371 | 337=>372 | 338=>373 | n=>n,fun | 3=>3 | 9=>9 | 2=>2 | 4=>4 | 171=>331 | 0=>0 | 53=>285 | 37=>22 | 5=>5 | 173=>333 | 212=>337 | 51=>283 | 20=>20 | 213=>338 | 46=>241 | 232=>339 | 233=>340 | n=>n,fun | 17=>3 | 18=>4 | 19=>5 | n=>n⟩
theorem laysM171:Go.Proofs.LaysM.n171 prog laysM171_ren:={
 mixed:=by kernel_rfl
 f129:=func310.trans (congrArg some (by kernel_rfl))
 f171:=func322.trans (congrArg some (by kernel_rfl))
 f243:=func349.trans (congrArg some (by kernel_rfl))
 f246:=func360.trans (congrArg some (by kernel_rfl))
 f283:=func364.trans (congrArg some (by kernel_rfl))
 f284:=func365.trans (congrArg some (by kernel_rfl))
 f285:=func366.trans (congrArg some (by kernel_rfl))
 f286:=func367.trans (congrArg some (by kernel_rfl))
 f317:=func368.trans (congrArg some (by kernel_rfl))
 f318:=func369.trans (congrArg some (by kernel_rfl))
 f319:=func370.trans (congrArg some (by kernel_rfl))
 f320:=func371.trans (congrArg some (by kernel_rfl))
 f337:=func372.trans (congrArg some (by kernel_rfl))
 f338:=func373.trans (congrArg some (by kernel_rfl))
 t0:=underlying0
 a0:=isAgg0
 z0:=sizeOf0
 v0:=zeroValue0
 t2:=underlying2
 a2:=isAgg2
 z2:=sizeOf2
 v2:=zeroValue2
 t3:=underlying3
 a3:=isAgg3
 z3:=sizeOf3
 v3:=zeroValue3
 t4:=underlying4
 a4:=isAgg4
 z4:=sizeOf4
 v4:=zeroValue4
 t5:=underlying5
 a5:=isAgg5
 z5:=sizeOf5
 v5:=zeroValue5
 t9:=underlying9
 a9:=isAgg9
 z9:=sizeOf9
 v9:=zeroValue9
 t20:=underlying20
 a20:=isAgg20
 z20:=sizeOf20
 v20:=zeroValue20
 t37:=underlying22
 a37:=isAgg22
 z37:=sizeOf22
 v37:=zeroValue22
 t46:=underlying241
 a46:=isAgg241
 z46:=sizeOf241
 v46:=zeroValue241
 t51:=underlying283
 a51:=isAgg283
 z51:=sizeOf283
 v51:=zeroValue283
 t53:=underlying285
 a53:=isAgg285
 z53:=sizeOf285
 v53:=zeroValue285
 t171:=underlying331
 a171:=isAgg331
 z171:=sizeOf331
 v171:=zeroValue331
 t173:=underlying333
 a173:=isAgg333
 z173:=sizeOf333
 v173:=zeroValue333
 t212:=underlying337
 a212:=isAgg337
 z212:=sizeOf337
 v212:=zeroValue337
 t213:=underlying338
 a213:=isAgg338
 z213:=sizeOf338
 t232:=underlying339
 a232:=isAgg339
 z232:=sizeOf339
 v232:=zeroValue339
 t233:=underlying340
 a233:=isAgg340
 z233:=sizeOf340
 v233:=zeroValue340
 g17:=by kernel_rfl
 g18:=by kernel_rfl
 g19:=by kernel_rfl
 i0:=by kernel_rfl
 i2:=by kernel_rfl
 i3:=by kernel_rfl
 i4:=by kernel_rfl
 i5:=by kernel_rfl
 i9:=by kernel_rfl
 i20:=by kernel_rfl
 i37:=by kernel_rfl
 i46:=by kernel_rfl
 i51:=by kernel_rfl
 i53:=by kernel_rfl
 i171:=by kernel_rfl
 i173:=by kernel_rfl
 i212:=by kernel_rfl
 i232:=by kernel_rfl
 i233:=by kernel_rfl
 m17:=by kernel_rfl
 m18:=by kernel_rfl
 m19:=by kernel_rfl }
open Go.RowKit Go.Sort Go.Lib in
theorem strconv_Itoa (n : Int) (h0 : -9223372036854775808 ≤ n) (h1 : n ≤ 9223372036854775807) (w : World) (htab : Lib.TabIs prog w "internal/strconv.uint64pow10" .u64 Lib.pow10Tab) :
  Calls prog 322 #[.int .i64 n] w fun e w'=>e=.returned (.string ⟨(Lib.itoa n).toArray⟩)∧∃k os,w'=grow (w.drewN k) os:=Any.strconv_Itoa laysM171 n h0 h1 w htab
def laysC172_ren:Go.Shelf.Ren:=⟨fun | 172=>297 | 244=>320 | 245=>321 | 247=>344 | 279=>345 | 280=>346 | 281=>347 | 282=>348 | 287=>357 | 316=>358 | 171=>322 | 205=>359 | 321=>362 | 322=>363 | 243=>349 | 246=>360 | 283=>364 | 284=>365 | 285=>366 | 286=>367 | 129=>310 | 317=>368 | 318=>369 | 319=>370 | 320=>371 | 337=>372 | 338=>373 | n=>n,fun | 9=>9 | 3=>3 | 75=>271 | 76=>272 | 4=>4 | 5=>5 | 167=>306 | 37=>22 | 0=>0 | 85=>307 | 2=>2 | 168=>309 | 53=>285 | 175=>318 | 46=>241 | 210=>322 | 127=>327 | 145=>330 | 143=>328 | 21=>21 | 171=>331 | 173=>333 | 212=>337 | 51=>283 | 20=>20 | 213=>338 | 232=>339 | 233=>340 | 80=>341 | n=>n,fun | 15=>1 | 16=>2 | 17=>3 | 18=>4 | 19=>5 | n=>n⟩
theorem laysC172:Go.Proofs.LaysC.n172 prog laysC172_ren:={
 mixed:=by kernel_rfl
 f129:=func310.trans (congrArg some (by kernel_rfl))
 f171:=func322.trans (congrArg some (by kernel_rfl))
 f172:=func297.trans (congrArg some (by kernel_rfl))
 f205:=func359.trans (congrArg some (by kernel_rfl))
 f243:=func349.trans (congrArg some (by kernel_rfl))
 f244:=func320.trans (congrArg some (by kernel_rfl))
 f245:=func321.trans (congrArg some (by kernel_rfl))
 f246:=func360.trans (congrArg some (by kernel_rfl))
 f247:=func344.trans (congrArg some (by kernel_rfl))
 f279:=func345.trans (congrArg some (by kernel_rfl))
 f280:=func346.trans (congrArg some (by kernel_rfl))
 f281:=func347.trans (congrArg some (by kernel_rfl))
 f282:=func348.trans (congrArg some (by kernel_rfl))
 f283:=func364.trans (congrArg some (by kernel_rfl))
 f284:=func365.trans (congrArg some (by kernel_rfl))
 f285:=func366.trans (congrArg some (by kernel_rfl))
 f286:=func367.trans (congrArg some (by kernel_rfl))
 f287:=func357.trans (congrArg some (by kernel_rfl))
 f316:=func358.trans (congrArg some (by kernel_rfl))
 f317:=func368.trans (congrArg some (by kernel_rfl))
 f318:=func369.trans (congrArg some (by kernel_rfl))
 f319:=func370.trans (congrArg some (by kernel_rfl))
 f320:=func371.trans (congrArg some (by kernel_rfl))
 f321:=func362.trans (congrArg some (by kernel_rfl))
 f322:=func363.trans (congrArg some (by kernel_rfl))
 f337:=func372.trans (congrArg some (by kernel_rfl))
 f338:=func373.trans (congrArg some (by kernel_rfl))
 t0:=underlying0
 a0:=isAgg0
 z0:=sizeOf0
 v0:=zeroValue0
 t2:=underlying2
 a2:=isAgg2
 z2:=sizeOf2
 v2:=zeroValue2
 t3:=underlying3
 a3:=isAgg3
 z3:=sizeOf3
 v3:=zeroValue3
 t4:=underlying4
 a4:=isAgg4
 z4:=sizeOf4
 v4:=zeroValue4
 t5:=underlying5
 a5:=isAgg5
 z5:=sizeOf5
 v5:=zeroValue5
 t9:=underlying9
 a9:=isAgg9
 z9:=sizeOf9
 v9:=zeroValue9
 t20:=underlying20
 a20:=isAgg20
 z20:=sizeOf20
 v20:=zeroValue20
 t21:=underlying21
 a21:=isAgg21
 z21:=sizeOf21
 v21:=zeroValue21
 t37:=underlying22
 a37:=isAgg22
 z37:=sizeOf22
 v37:=zeroValue22
 t46:=underlying241
 a46:=isAgg241
 z46:=sizeOf241
 v46:=zeroValue241
 t51:=underlying283
 a51:=isAgg283
 z51:=sizeOf283
 v51:=zeroValue283
 t53:=underlying285
 a53:=isAgg285
 z53:=sizeOf285
 v53:=zeroValue285
 t75:=underlying271
 a75:=isAgg271
 z75:=sizeOf271
 v75:=zeroValue271
 t76:=underlying272
 a76:=isAgg272
 z76:=sizeOf272
 v76:=zeroValue272
 t85:=underlying307
 a85:=isAgg307
 z85:=sizeOf307
 v85:=zeroValue307
 t127:=underlying327
 a127:=isAgg327
 z127:=sizeOf327
 v127:=zeroValue327
 t143:=underlying328
 a143:=isAgg328
 z143:=sizeOf328
 v143:=zeroValue328
 t145:=underlying330
 a145:=isAgg330
 z145:=sizeOf330
 v145:=zeroValue330
 t167:=underlying306
 a167:=isAgg306
 z167:=sizeOf306
 v167:=zeroValue306
 t168:=underlying309
 a168:=isAgg309
 z168:=sizeOf309
 v168:=zeroValue309
 t171:=underlying331
 a171:=isAgg331
 z171:=sizeOf331
 v171:=zeroValue331
 t173:=underlying333
 a173:=isAgg333
 z173:=sizeOf333
 v173:=zeroValue333
 t175:=underlying318
 a175:=isAgg318
 z175:=sizeOf318
 v175:=zeroValue318
 t210:=underlying322
 a210:=isAgg322
 z210:=sizeOf322
 v210:=zeroValue322
 t212:=underlying337
 a212:=isAgg337
 z212:=sizeOf337
 v212:=zeroValue337
 t213:=underlying338
 a213:=isAgg338
 z213:=sizeOf338
 t232:=underlying339
 a232:=isAgg339
 z232:=sizeOf339
 v232:=zeroValue339
 t233:=underlying340
 a233:=isAgg340
 z233:=sizeOf340
 v233:=zeroValue340
 g15:=by kernel_rfl
 g16:=by kernel_rfl
 g17:=by kernel_rfl
 g18:=by kernel_rfl
 g19:=by kernel_rfl
 t80:=underlying341
 a80:=isAgg341
 z80:=sizeOf341
 v80:=zeroValue341
 i0:=by kernel_rfl
 i2:=by kernel_rfl
 i3:=by kernel_rfl
 i4:=by kernel_rfl
 i5:=by kernel_rfl
 i9:=by kernel_rfl
 i20:=by kernel_rfl
 i21:=by kernel_rfl
 i37:=by kernel_rfl
 i46:=by kernel_rfl
 i51:=by kernel_rfl
 i53:=by kernel_rfl
 i75:=by kernel_rfl
 i76:=by kernel_rfl
 i80:=by kernel_rfl
 i85:=by kernel_rfl
 i127:=by kernel_rfl
 i143:=by kernel_rfl
 i145:=by kernel_rfl
 i167:=by kernel_rfl
 i168:=by kernel_rfl
 i171:=by kernel_rfl
 i173:=by kernel_rfl
 i175:=by kernel_rfl
 i210:=by kernel_rfl
 i212:=by kernel_rfl
 i232:=by kernel_rfl
 i233:=by kernel_rfl
 m15:=by kernel_rfl
 m16:=by kernel_rfl
 m17:=by kernel_rfl
 m18:=by kernel_rfl
 m19:=by kernel_rfl
 c0:=by kernel_rfl
 c2:=by kernel_rfl
 c3:=by kernel_rfl
 c4:=by kernel_rfl
 c5:=by kernel_rfl
 c9:=by kernel_rfl
 c20:=by kernel_rfl
 c21:=by kernel_rfl
 c37:=by kernel_rfl
 c46:=by kernel_rfl
 c51:=by kernel_rfl
 c53:=by kernel_rfl
 c75:=by kernel_rfl
 c76:=by kernel_rfl
 c80:=by kernel_rfl
 c85:=by kernel_rfl
 c127:=by kernel_rfl
 c143:=by kernel_rfl
 c145:=by kernel_rfl
 c167:=by kernel_rfl
 c168:=by kernel_rfl
 c171:=by kernel_rfl
 c173:=by kernel_rfl
 c175:=by kernel_rfl
 c210:=by kernel_rfl
 c212:=by kernel_rfl
 c213:=by kernel_rfl
 c232:=by kernel_rfl
 c233:=by kernel_rfl }
open Go.RowKit in
theorem strconv_Atoi_err_var (s : ByteArray) (hl : s.size ≤ 18) (h : Lib.atoi s.data.toList = none) (tp : TypeId) (p : Value) (w : World) (hvar : w.var? prog "strconv.ErrSyntax" = some #[.iface tp p]) :
  Calls prog 297 #[.string s] w fun e w'=>∃N,e=.returned (.tuple #[.int .i64 0,.iface 309 (.pointer (some ⟨N,0,none⟩))])∧w.heap.size≤N∧w'.heap[N]?=some (.cells #[.string ⟨#[65,116,111,105]⟩,.string s,.iface tp p] 322 (0,0))∧Below w.heap.size w w':=Any.strconv_Atoi_err_var laysC172 s hl h tp p w hvar
def lays191_ren:Go.Shelf.Ren:=⟨fun | 191=>164 | 189=>230 | 125=>274 | 257=>273 | 128=>309 | 129=>310 | 294=>300 | 295=>301 | 296=>302 | 297=>303 | 298=>304 | 299=>305 | 216=>306 | 300=>307 | 301=>308 | 328=>332 | 329=>333 | 330=>334 | 331=>335 | 332=>336 | 215=>337 | 343=>354 | n=>n,fun | 28=>65 | 0=>0 | 3=>3 | 46=>241 | 51=>283 | 53=>285 | 4=>4 | 183=>277 | 182=>276 | 131=>167 | 5=>5 | 9=>9 | 218=>297 | 222=>301 | 228=>314 | 229=>315 | n=>n,fun | n=>n⟩
theorem lays191:Go.Proofs.Lays.n191 prog lays191_ren:={
 mixed:=by kernel_rfl
 f125:=func274.trans (congrArg some (by kernel_rfl))
 f128:=func309.trans (congrArg some (by kernel_rfl))
 f129:=func310.trans (congrArg some (by kernel_rfl))
 f189:=func230.trans (congrArg some (by kernel_rfl))
 f191:=func164.trans (congrArg some (by kernel_rfl))
 f215:=func337.trans (congrArg some (by kernel_rfl))
 f216:=func306.trans (congrArg some (by kernel_rfl))
 f257:=func273.trans (congrArg some (by kernel_rfl))
 f294:=func300.trans (congrArg some (by kernel_rfl))
 f295:=func301.trans (congrArg some (by kernel_rfl))
 f296:=func302.trans (congrArg some (by kernel_rfl))
 f297:=func303.trans (congrArg some (by kernel_rfl))
 f298:=func304.trans (congrArg some (by kernel_rfl))
 f299:=func305.trans (congrArg some (by kernel_rfl))
 f300:=func307.trans (congrArg some (by kernel_rfl))
 f301:=func308.trans (congrArg some (by kernel_rfl))
 f328:=func332.trans (congrArg some (by kernel_rfl))
 f329:=func333.trans (congrArg some (by kernel_rfl))
 f330:=func334.trans (congrArg some (by kernel_rfl))
 f331:=func335.trans (congrArg some (by kernel_rfl))
 f332:=func336.trans (congrArg some (by kernel_rfl))
 f343:=func354.trans (congrArg some (by kernel_rfl))
 t0:=underlying0
 a0:=isAgg0
 z0:=sizeOf0
 v0:=zeroValue0
 t3:=underlying3
 a3:=isAgg3
 z3:=sizeOf3
 v3:=zeroValue3
 t4:=underlying4
 a4:=isAgg4
 z4:=sizeOf4
 v4:=zeroValue4
 t5:=underlying5
 a5:=isAgg5
 z5:=sizeOf5
 v5:=zeroValue5
 t9:=underlying9
 a9:=isAgg9
 z9:=sizeOf9
 v9:=zeroValue9
 t28:=underlying65
 a28:=isAgg65
 z28:=sizeOf65
 v28:=zeroValue65
 t46:=underlying241
 a46:=isAgg241
 z46:=sizeOf241
 v46:=zeroValue241
 t51:=underlying283
 a51:=isAgg283
 z51:=sizeOf283
 v51:=zeroValue283
 t53:=underlying285
 a53:=isAgg285
 z53:=sizeOf285
 v53:=zeroValue285
 t131:=underlying167
 a131:=isAgg167
 z131:=sizeOf167
 v131:=zeroValue167
 t182:=underlying276
 a182:=isAgg276
 z182:=sizeOf276
 v182:=zeroValue276
 t183:=underlying277
 a183:=isAgg277
 z183:=sizeOf277
 v183:=zeroValue277
 t218:=underlying297
 a218:=isAgg297
 z218:=sizeOf297
 v218:=zeroValue297
 t222:=underlying301
 a222:=isAgg301
 z222:=sizeOf301
 v222:=zeroValue301
 t228:=underlying314
 a228:=isAgg314
 z228:=sizeOf314
 v228:=zeroValue314
 t229:=underlying315
 a229:=isAgg315
 z229:=sizeOf315
 v229:=zeroValue315 }
open Go.Sort Go.RowKit in
theorem sort_Ints (blk off cap:Nat) (zs:List Int) (w:World) (hH:Holds (Value.int .i64) w blk off zs.toArray) (hblk:blk<w.heap.size) (hsz:zs.length<4611686018427387904):
  Calls prog 164 #[.slice (some ⟨blk,off,none⟩) zs.length cap] w fun e w'=>
   e=.returned (.tuple #[])∧∃n os,w'=grow (putRow (Value.int .i64) (Sort.ahead w n) blk off (zs.mergeSort fun x y=>decide (x≤y)).toArray) os:=Any.sort_Ints lays191 blk off cap zs w hH hblk hsz
def lays192_ren:Go.Shelf.Ren:=⟨fun | 192=>210 | 190=>267 | 125=>274 | 258=>299 | 128=>309 | 129=>310 | 302=>323 | 303=>324 | 304=>325 | 305=>326 | 306=>327 | 307=>328 | 308=>329 | 309=>330 | 310=>331 | 333=>350 | 329=>333 | 330=>334 | 334=>351 | 335=>352 | 336=>353 | 344=>361 | n=>n,fun | 31=>43 | 0=>0 | 9=>9 | 3=>3 | 46=>241 | 51=>283 | 53=>285 | 4=>4 | 183=>277 | 182=>276 | 131=>167 | 5=>5 | 218=>297 | 222=>301 | 228=>314 | 229=>315 | n=>n,fun | n=>n⟩
theorem lays192:Go.Proofs.Lays.n192 prog lays192_ren:={
 mixed:=by kernel_rfl
 f125:=func274.trans (congrArg some (by kernel_rfl))
 f128:=func309.trans (congrArg some (by kernel_rfl))
 f129:=func310.trans (congrArg some (by kernel_rfl))
 f190:=func267.trans (congrArg some (by kernel_rfl))
 f192:=func210.trans (congrArg some (by kernel_rfl))
 f258:=func299.trans (congrArg some (by kernel_rfl))
 f302:=func323.trans (congrArg some (by kernel_rfl))
 f303:=func324.trans (congrArg some (by kernel_rfl))
 f304:=func325.trans (congrArg some (by kernel_rfl))
 f305:=func326.trans (congrArg some (by kernel_rfl))
 f306:=func327.trans (congrArg some (by kernel_rfl))
 f307:=func328.trans (congrArg some (by kernel_rfl))
 f308:=func329.trans (congrArg some (by kernel_rfl))
 f309:=func330.trans (congrArg some (by kernel_rfl))
 f310:=func331.trans (congrArg some (by kernel_rfl))
 f329:=func333.trans (congrArg some (by kernel_rfl))
 f330:=func334.trans (congrArg some (by kernel_rfl))
 f333:=func350.trans (congrArg some (by kernel_rfl))
 f334:=func351.trans (congrArg some (by kernel_rfl))
 f335:=func352.trans (congrArg some (by kernel_rfl))
 f336:=func353.trans (congrArg some (by kernel_rfl))
 f344:=func361.trans (congrArg some (by kernel_rfl))
 t0:=underlying0
 a0:=isAgg0
 z0:=sizeOf0
 v0:=zeroValue0
 t3:=underlying3
 a3:=isAgg3
 z3:=sizeOf3
 v3:=zeroValue3
 t4:=underlying4
 a4:=isAgg4
 z4:=sizeOf4
 v4:=zeroValue4
 t5:=underlying5
 a5:=isAgg5
 z5:=sizeOf5
 v5:=zeroValue5
 t9:=underlying9
 a9:=isAgg9
 z9:=sizeOf9
 v9:=zeroValue9
 t31:=underlying43
 a31:=isAgg43
 z31:=sizeOf43
 v31:=zeroValue43
 t46:=underlying241
 a46:=isAgg241
 z46:=sizeOf241
 v46:=zeroValue241
 t51:=underlying283
 a51:=isAgg283
 z51:=sizeOf283
 v51:=zeroValue283
 t53:=underlying285
 a53:=isAgg285
 z53:=sizeOf285
 v53:=zeroValue285
 t131:=underlying167
 a131:=isAgg167
 z131:=sizeOf167
 v131:=zeroValue167
 t182:=underlying276
 a182:=isAgg276
 z182:=sizeOf276
 v182:=zeroValue276
 t183:=underlying277
 a183:=isAgg277
 z183:=sizeOf277
 v183:=zeroValue277
 t218:=underlying297
 a218:=isAgg297
 z218:=sizeOf297
 v218:=zeroValue297
 t222:=underlying301
 a222:=isAgg301
 z222:=sizeOf301
 v222:=zeroValue301
 t228:=underlying314
 a228:=isAgg314
 z228:=sizeOf314
 v228:=zeroValue314
 t229:=underlying315
 a229:=isAgg315
 z229:=sizeOf315
 v229:=zeroValue315 }
open Go.Sort Go.RowKit in
theorem sort_Strings (blk off cap:Nat) (ss:List (List UInt8)) (w:World) (hH:Holds encStr w blk off ss.toArray) (hblk:blk<w.heap.size) (hsz:ss.length<4611686018427387904):
  Calls prog 210 #[.slice (some ⟨blk,off,none⟩) ss.length cap] w fun e w'=>
   e=.returned (.tuple #[])∧∃n os,w'=grow (putRow encStr (Sort.ahead w n) blk off (ss.mergeSort fun x y=>decide (x≤y)).toArray) os:=Any.sort_Strings lays192 blk off cap ss w hH hblk hsz
open Go.RowKit Go.Sort in
theorem sort_Strings_none (p:Option Addr) (cap:Nat) (w:World):
  Calls prog 210 #[.slice p 0 cap] w fun e w'=>e=.returned (.tuple #[])∧w'=w:=Any.sort_Strings_none lays192 p cap w
open Go.RowKit Go.Sort in
theorem sort_Ints_none (p:Option Addr) (cap:Nat) (w:World):
  Calls prog 164 #[.slice p 0 cap] w fun e w'=>e=.returned (.tuple #[])∧w'=w:=Any.sort_Ints_none lays191 p cap w
end Go.Proofs
namespace Go.Proofs.YtfehfkfdfmcgfaaGreatDoor
section
open Go.RowKit Go.Sort
theorem Zn6 {α:Type} [Inhabited α] {P:Program} {J:World→Prop} {JF:Nat→Prop} (enc:α→Value) (el:α→List CT) (hel:∀(w:World) x v L,RCs w (el x) v L→v=[enc x]) (hmv:∀(w w':World) x,RCs w (el x) [enc x] []→RCs w' (el x) [enc x] []) (hflat:∀l:List α,ZaN (l.map el)=true) {f:FuncId} {e:TypeId} {zs d:List α} (hc:ZdV P f) (hd:d.length=zs.length) (hsub:∀x∈d,x∈zs)
  (hN:∀p cap w,Calls P f #[.slice p 0 cap] w fun e w'=>e=.returned (.tuple #[])∧w'=w)
  (hC:∀blk off cap w,Holds enc w blk off zs.toArray→blk<w.heap.size→Calls P f #[.slice (some ⟨blk,off,none⟩) zs.length cap] w fun e w'=>e=.returned (.tuple #[])∧∃n os,w'=grow (putRow enc (Sort.ahead w n) blk off d.toArray) os):
  Zbx P J JF f (.row e 1 (zs.map el)) [] [] (.row e 1 (d.map el)):=by
 refine ⟨hc,fun w z q v0 vs hj hqf hz hh ha=>?_⟩
 cases vs with
 | cons _ _=>exact ha.elim
 | nil=>
 obtain ⟨hfl,hm,hq,cs,hown,hre⟩:=hh
 have hcs:∀(l:List α) (cs:List Value) (L:List Nat),REs w 1 (l.map el) cs L→cs=l.map enc∧(L=[]→∀x∈l,RCs w (el x) [enc x] []):=by
  intro l
  induction l with
  | nil=>intro cs L h;exact ⟨h.1,fun _ x mx=>by simp at mx⟩
  | cons x l ih=>
   rintro cs L ⟨c1,c2,L1,L2,rfl,rfl,h3,h4⟩
   obtain ⟨i1,i2⟩:=ih _ _ h4
   have e1:=hel _ _ _ _ h3.1
   refine ⟨by rw [e1,i1];rfl,fun hL y my=>?_⟩
   obtain ⟨l1,l2⟩:=List.append_eq_nil_iff.1 hL
   rcases List.mem_cons.1 my with rfl | my
   ·rw [←e1,←l1];exact h3.1
   ·exact i2 l2 y my
 obtain ⟨e1,e2⟩:=hcs zs cs [] hre
 have e2:=e2 rfl
 subst e1
 have hre':∀(w':World) (l:List α),(∀x∈l,x∈zs)→REs w' 1 (l.map el) (l.map enc) []:=by
  intro w' l
  induction l with
  | nil=>intro _;exact ⟨rfl,rfl⟩
  | cons x l ih=>intro hl;exact ⟨[enc x],l.map enc,[],[],rfl,rfl,⟨hmv w w' x (e2 x (hl x (by simp))),rfl⟩,ih fun y my=>hl y (by simp [my])⟩
 have hzl:(zs.map el).length=zs.length:=by simp
 rw [hzl] at hown
 have done:∀w':World,w'.os=w.os→w'.tape=w.tape→w'.output=w.output→w.heap.size≤w'.heap.size→(∀k,k<w.heap.size→¬q=some k→w'.heap[k]?=w.heap[k]?)→w'.ownsV 0 e 1 v0 d.length (d.map enc)→∃v n,Ending.returned (.tuple #[])=.returned v∧ZjD w' w.heap.size n [] v∧(∀b,inQ z q b→n b)∧ZnA w' n q (.row e 1 (d.map el)) v0∧Zzh q w w':=
  fun w' h1 h2 h3 h4 h5 h6=>⟨_,inQ z q,rfl,⟨[],[],⟨rfl,rfl⟩,Own.nil _ _,rfl⟩,fun _ h=>h,⟨hflat d,by omega,hq,d.map enc,by simpa using h6,hre' w' d hsub⟩,⟨h1,h2,h3,h4,h5⟩⟩
 rcases Nat.eq_zero_or_pos zs.length with h0 | h0
 ·have hz0:zs=[]:=AR h0
  have hd0:d=[]:=AR (hd.trans h0)
  obtain ⟨A,cap,hv⟩:=Zax hown
  rw [h0] at hv
  subst hv
  refine (hN A cap w).mono ?_
  rintro e' w' ⟨rfl,rfl⟩
  exact done w' rfl rfl rfl (A8 _) (fun _ _ _=>rfl) (by rw [hd0];rw [hz0] at hown;exact hown)
 ·rcases hown.2 with ⟨h',hl0⟩ | ⟨g,o,cap,cur,h',hb,hg,hnc,hcm,hcsz,htake⟩
  ·omega
  ·subst h'
   have hlt:g<w.heap.size:=(AN.1 hg).1
   have hcur:∀j,j<zs.length→cur[o+j]?=some (enc zs[j]!):=fun j hj=>by
    have:=congrArg (fun l=>l[j]?) htake
    simp only[Nat.mul_one,AS,hj,if_true,AT,AU,AW] at this
    rw [this]
    simp [List.getElem!_eq_getElem?_getD,hj]
   refine (hC g o cap w (fun j hj=>?_) hlt).mono ?_
   ·have hj':j<zs.length:=by simpa using hj
    refine ⟨?_,by simp [World.frozen?,hg]⟩
    simp only[World.cell?,hg,Option.isSome_none,Bool.false_eq_true,if_false]
    rw [hcur j hj']
    simp [hj']
   ·rintro e' w' ⟨rfl,n,os,rfl⟩
    have hh:(putRow enc (Sort.ahead w n) g o d.toArray).heap[g]?=some (.cells (putCells enc o d.toArray cur) e (0,0)):=by
     simp only[putRow,mapBlock,heap_ahead,AX,if_true,hg,Option.map_some,onCells]
    refine done _ rfl rfl rfl (by simp) (fun k hk hqk=>?_) ⟨by simp,.inr ⟨g,o,cap,putCells enc o d.toArray cur,by rw [hd],by omega,?_,by omega,hcm,by simpa [putCells] using hcsz,?_⟩⟩
    ·rw [heap_grow_old _ _ (by simpa using hk)]
     simp only[putRow,mapBlock,heap_ahead,AX]
     rw [if_neg (fun e=>hqk (by rw [←hq];simp [Value.ownBlock,e]))]
    ·rw [heap_grow_old _ _ (by simpa using hlt)];exact hh
    ·apply List.ext_getElem?
     intro j
     simp only[Nat.mul_one,AS,AT,AW,AU,putCells,Array.getElem?_mapIdx,AC]
     by_cases hj:j<d.length
     ·have hjc:o+j<cur.size:=by omega
      simp [hj,hjc]
     ·simp [hj]
end
section
open Go.RowKit Go.Sort
theorem ZsM {J:World→Prop} {JF:Nat→Prop} {l r:List Int} (h:ZfG l=some r):Zbx prog J JF 164 (.row 3 1 (l.map ZI)) [] [] (.row 3 1 (r.map ZI)):=by
 obtain ⟨h1,h2⟩:=Zq h
 obtain rfl:=A1 h2
 refine Zn6 (Value.int .i64) ZI (fun w x v L h=>?_) (fun w w' x h=>h) ZnX ⟨f164,func164,by kernel_rfl,by kernel_rfl⟩ (by simp [Zkx]) (fun x hx=>by simpa [Zkx] using hx) (fun p cap w=>sort_Ints_none p cap w) (fun blk off cap w hH hb=>sort_Ints blk off cap l w hH hb (by omega))
 obtain ⟨u,vs,L1,L2,rfl,rfl,q1,rfl,rfl⟩:=h
 rw [q1.1]
end
section
open Go.RowKit
theorem Zul {J:World→Prop} {a b:ByteArray} {r:Int} (h:ZeP a b=some r):Zk prog J 203 [(false,[.str a]),(false,[.str b])] [(false,[(false,.int .i64 r)])]:=by
 obtain rfl:=A1 h
 refine ⟨⟨f203,func203,by kernel_rfl,by kernel_rfl⟩,fun w z vs hj hz hargs=>?_⟩
 obtain ⟨v,u,L,M,rfl,⟨rfl,_⟩,rfl,_⟩:=Zwg hargs
 refine (strings_Compare a b w).mono ?_
 rintro e w' ⟨rfl,rfl⟩
 exact ⟨_,z,rfl,ZqW ⟨⟨rfl,rfl⟩,rfl⟩,fun b h=>h,Below.refl _ _⟩
end
section
open Go.RowKit Go.Sort
theorem ZmW {J:World→Prop} {JF:Nat→Prop} {l r:List ByteArray} (h:Zcb l=some r):Zbx prog J JF 210 (.row 9 1 (l.map Zx)) [] [] (.row 9 1 (r.map Zx)):=by
 obtain ⟨h1,h2⟩:=Zq h
 obtain rfl:=A1 h2
 have e1:l.map Zx=(l.map toL).map fun x=>Zx (ofL x):=by rw [AY];exact List.map_congr_left fun x _=>by simp [ZiP]
 have e2:(Ze2 l).map Zx=((l.map toL).mergeSort fun x y=>decide (x≤y)).map fun x=>Zx (ofL x):=by simp [Ze2,AY,Function.comp_def]
 rw [e1,e2]
 refine Zn6 encStr (fun x=>Zx (ofL x)) (fun w x v L h=>?_) (fun w w' x h=>h) (fun l=>ZbO (fun _=>rfl) l) ⟨f210,func210,by kernel_rfl,by kernel_rfl⟩ (by simp) (fun x hx=>by simpa using hx) (fun p cap w=>sort_Strings_none p cap w) (fun blk off cap w hH hb=>sort_Strings blk off cap (l.map toL) w hH hb (by simp;omega))
 obtain ⟨u,vs,L1,L2,rfl,rfl,q1,rfl,rfl⟩:=h
 rw [q1.1]
 rfl
end
section
open Go.RowKit
theorem ZyE {J : World → Prop} (hJ : ∀ w, J w → ∃ tp p, w.var? prog "strconv.ErrSyntax" = some #[.iface tp p]) {s : ByteArray} {r : Int × Bool} (h : Zl4 s = some r) : Zk prog J 297 [(false, [.str s])] [(false, [(false, .int .i64 r.1)]), (false, [(false, .ifc r.2)])] := by
 obtain ⟨h1,h2⟩:=Zq h
 refine ⟨⟨f297,func297,by kernel_rfl,by kernel_rfl⟩,fun w z vs hj hz hargs=>?_⟩
 obtain ⟨v,L,rfl,rfl,_⟩:=Zmc hargs
 cases ha:Lib.atoi (toL s) with
 | some n=>
  rw [ha] at h2
  obtain rfl:=A1 h2
  refine (strconv_Atoi s n h1 ha w).mono ?_
  rintro e w' ⟨rfl,t,rfl⟩
  exact ⟨_,z,rfl,ZpQ ⟨⟨rfl,rfl⟩,rfl⟩ ⟨⟨rfl,rfl,rfl⟩,rfl⟩,fun b h=>h,Lib.bytesWorld_below _ _ _⟩
 | none=>
  rw [ha] at h2
  obtain rfl:=A1 h2
  obtain ⟨tp,p,hv⟩:=hJ w hj
  refine (strconv_Atoi_err_var s h1 ha tp p w hv).mono ?_
  rintro e w' ⟨N,rfl,_,_,hb⟩
  exact ⟨_,z,rfl,ZpQ ⟨⟨rfl,rfl⟩,rfl⟩ ⟨⟨rfl,rfl,_,_,rfl⟩,rfl⟩,fun b h=>h,hb⟩
end
section
open Go.RowKit Go.Sort Go.Lib
theorem ZCl {J : World → Prop} (hJ : ∀ w, J w → Lib.TabIs prog w "internal/strconv.uint64pow10" .u64 Lib.pow10Tab) {n : Int} {r : ByteArray} (h : Zpj n = some r) : Zk prog J 322 [(false, [.int .i64 n])] [(false, [(false, .str r)])] := by
 obtain ⟨h1,h2⟩:=Zq h
 obtain rfl:=A1 h2
 refine ⟨⟨f322,func322,by kernel_rfl,by kernel_rfl⟩,fun w z vs hj hz hargs=>?_⟩
 obtain ⟨v,L,rfl,rfl,_⟩:=Zmc hargs
 refine (strconv_Itoa n h1.1 h1.2 w (hJ w hj)).mono ?_
 rintro e w' ⟨rfl,k,os,rfl⟩
 refine ⟨_,z,rfl,ZqW ⟨⟨rfl,rfl,?_⟩,rfl⟩,fun b h=>h,below_grow _ _ (A8 _) _ _⟩
 have:=Lib.itoa_length_le n h1.1 h1.2
 show (Lib.itoa n).toArray.size≤_
 rw [AC]
 omega
end
theorem ZmZ {l r:List Int} (h:ZfG l=some r):Zbx prog J0 JF0 164 (.row 3 1 (l.map ZI)) [] [] (.row 3 1 (r.map ZI)):=ZsM h
theorem Zjc {a b:ByteArray} {r:Int} (h:ZeP a b=some r):Zk prog J0 203 [(false,[.str a]),(false,[.str b])] [(false,[(false,.int .i64 r)])]:=Zul h
theorem Zju {l r:List ByteArray} (h:Zcb l=some r):Zbx prog J0 JF0 210 (.row 9 1 (l.map Zx)) [] [] (.row 9 1 (r.map Zx)):=ZmW h
theorem Zt2 {s:ByteArray} {r:Int × Bool} (h:Zl4 s=some r):Zk prog J0 297 [(false,[.str s])] [(false,[(false,.int .i64 r.1)]),(false,[(false,.ifc r.2)])]:=ZyE ZAB h
theorem ZtG {n:Int} {r:ByteArray} (h:Zpj n=some r):Zk prog J0 322 [(false,[.int .i64 n])] [(false,[(false,.str r)])]:=ZCl ZzO h
section
set_option linter.unusedSimpArgs false
set_option linter.unusedVariables false
set_option maxRecDepth 1000000
set_option maxHeartbeats 4000000
theorem ZvY {code_0:(List Int)} {r:Bool} (h:ZsU code_0=some r):Zk prog J0 11 [(false,[.sl 5 1 (A0 ZeK code_0)])] [(false,[(false,.bool r)])]:=by
 refine fnk func11 rfl ?_
 unfold ZsU at h
 simp only[fnS,f11,Zm,go_sem,seval]
 cases h
 simp only[*,go_sem,seval]
theorem Zsi {code_0:(List Int)} {r:ZJ} (h:Zjn code_0=some r):Zmx prog J0 58 [(false,[.sl 5 1 (A0 ZeK code_0)])] (.box 152 (Zbj r)):=by
 refine fnb func58 rfl ?_
 unfold Zjn at h
 simp only[fnB,f58,Zm,go_sem,seval]
 refine Zi h (fun i a st=>IV [(0,.p false [.c (.sl 5 1 (A0 ZeK code_0))]),(3,.p false [.c (.int .i64 a)]),(4,.p false [.c (.int .i64 ((i:Nat):Int))])] [] st) [] [] (by decide) ?_ ?_ ?_
 simp only[*,go_sem,seval]
 rintro _ _ a ⟨sl,ob,n⟩ _ b d f h g
 simp only[go_sem,seval,Zc] at d
 obtain ⟨⟨k,_,_⟩,hn⟩:=d
 subst hn
 have l:=WF.slotL f k (j:=0) rfl
 have:=ZA b
 have:=ZC b
 have:=Zj (ZB b) l
 simp only[*,go_sem,seval]
 refine Ze h (fun _ h=>?_) fun _ h=>?_<;>try simp only[*,go_sem,seval]
 refine ⟨_,[],[],(A1 h).symm,by decide,?_⟩
 simp only[*,go_sem,seval]
 replace h:=Zn h g
 cases h
 simp only[*,go_sem,seval]
 rintro a ⟨sl,ob,n⟩ e _ h
 simp only[go_sem,seval,Zc] at e
 obtain ⟨⟨_,_,_⟩,hn⟩:=e
 subst hn
 have:=Zy (code_0.length)
 cases h
 simp only[*,go_sem,seval]
theorem Zef {c_0:ZJ} {r:(Int × ZJ)} (h:Zcy c_0=some r):Zbx prog J0 JF0 173 (.box 152 (Zbj c_0)) [] [(false,[(false,.int .i64 r.1)])] (.box 152 (Zbj r.2)):=by
 refine fnh func173 rfl ?_
 unfold Zcy at h
 have a:¬((35:Int)<0):=by decide
 have b:¬((45:Int)<0):=by decide
 simp only[fnH,f173,Zdh,Zdg,Xp,go_sem,seval,a,b]
 refine Ze h (fun _ h=>?_) fun _ h=>?_<;>try simp only[*,go_sem,seval]
 obtain ⟨_,_,_,_,h⟩:=ZbQ h
 iterate 2 (cases h;simp only[*,go_sem,seval])
theorem ZjH {a:Int} {r:ByteArray} (h:Zat a=some r):Zk prog J0 125 [(false,[.int .i64 a])] [(false,[(false,.str r)])]:=by
 refine fnk func125 rfl ?_
 unfold Zat at h
 have g:Z9 ⟨#[45,57,50,50,51,51,55,50,48,51,54,56,53,52,55,55,53,56,48,56]⟩=true:=by decide
 have i:Z9 ⟨#[]⟩=true:=by decide
 have j:¬((10:Int)=0):=by decide
 simp only[fnS,f125,Zm,go_sem,seval,g,i,j]
 refine Ze h (fun _ h=>?_) fun _ h=>?_<;>try simp only[*,go_sem,seval]
 cases h
 simp only[*,go_sem,seval]
 refine Ze h (fun _ h=>?_) fun _ h=>?_<;>try simp only[*,go_sem,seval]
 cases h
 refine Yo h (fun s st=>match s with | (b,d)=>IV [(0,.p false [.c (.int .i64 b)]),(3,.p false [.c (.str d)])] [] st) [] [] (by decide) ?_ ?_
 simp only[*,go_sem,seval]
 rintro ⟨b,d⟩ ⟨sl,ob,n⟩ _ e _ h k
 simp only[go_sem,seval,Zc] at e
 obtain ⟨⟨_,_⟩,hn⟩:=e
 subst hn
 obtain ⟨_,h⟩:=Zq h
 simp only[*,go_sem,seval]
 refine Ze h (fun _ h=>?_) fun _ h=>?_<;>try simp only[*,go_sem,seval]
 replace h:=Zn h k
 cases h
 simp only[*,go_sem,seval]
 refine ⟨_,[],[],(A1 h).symm,by decide,?_⟩
 simp only[*,go_sem,seval]
theorem ZgG {n_0:Int} {r:ByteArray} (h:X3 n_0=some r):Zk prog J0 125 [(false,[.int .i64 n_0])] [(false,[(false,.str r)])]:=by
 refine fnk func125 rfl ?_
 unfold X3 at h
 have f:Z9 ⟨#[45,57,50,50,51,51,55,50,48,51,54,56,53,52,55,55,53,56,48,56]⟩=true:=by decide
 have g:Z9 ⟨#[45]⟩=true:=by decide
 have i:Z9 ⟨#[]⟩=true:=by decide
 have j:¬((10:Int)=0):=by decide
 simp only[fnS,f125,Zm,go_sem,seval,f,g,i,j]
 refine Ze h (fun _ h=>?_) fun _ h=>?_<;>try simp only[*,go_sem,seval]
 cases h
 simp only[*,go_sem,seval]
 refine Ze h (fun _ h=>?_) fun _ h=>?_<;>try simp only[*,go_sem,seval]
 refine ZMH h fun _ k h=>Zd (ZjH k) ?_
 obtain ⟨l,h⟩:=Zq h
 simp only[go_sem] at l
 cases h
 simp only[*,go_sem,seval]
 refine Yo h (fun s st=>match s with | (a,b)=>IV [(0,.p false [.c (.int .i64 a)]),(3,.p false [.c (.str b)])] [] st) [] [] (by decide) ?_ ?_
 simp only[*,go_sem,seval]
 rintro ⟨a,b⟩ ⟨sl,ob,n⟩ _ d _ h m
 simp only[go_sem,seval,Zc] at d
 obtain ⟨⟨_,_⟩,hn⟩:=d
 subst hn
 obtain ⟨_,h⟩:=Zq h
 simp only[*,go_sem,seval]
 refine Ze h (fun _ h=>?_) fun _ h=>?_<;>try simp only[*,go_sem,seval]
 replace h:=Zn h m
 cases h
 simp only[*,go_sem,seval]
 refine ⟨_,[],[],(A1 h).symm,by decide,?_⟩
 simp only[*,go_sem,seval]
theorem XU {x_0:Int} {least_1:Int} {most_2:Int} {r:Bool} (h:X7 x_0 least_1 most_2=some r):Zk prog J0 209 [(false,[.int .i64 x_0]),(false,[.int .i64 least_1]),(false,[.int .i64 most_2])] [(false,[(false,.bool r)])]:=by
 refine fnk func209 rfl ?_
 unfold X7 at h
 simp only[fnS,f209,Zm,go_sem,seval]
 refine Ze h (fun _ h=>?_) fun _ h=>?_<;>try simp only[*,go_sem,seval]
 iterate 2 (cases h;simp only[*,go_sem,seval])
theorem Qd {a:ByteArray} {b:ByteArray} {r:(List ByteArray)} (h:Qx a b=some r):Zk prog J0 254 [(false,[.str a]),(false,[.str b])] [(false,[(false,.sl 9 1 (A0 Zx r))])]:=by
 refine fnk func254 rfl ?_
 unfold Qx at h
 have i:Z9 ⟨#[]⟩=true:=by decide
 simp only[fnS,f254,Zm,go_sem,seval,i]
 refine Ze h (fun _ h=>?_) fun _ h=>?_<;>try simp only[*,go_sem,seval]
 cases h
 simp only[*,go_sem,seval]
 refine Yo h (fun s st=>match s with | (d,e,f)=>IV [(0,.p false [.c (.str a)]),(1,.p false [.c (.str b)]),(5,.p false [.row 0]),(6,.p false [.c (.int .i64 e)]),(7,.p false [.c (.int .i64 f)])] [.row 9 1 (A0 Zx d) 2] st) [] [16] (by decide) ?_ ?_
 simp only[*,go_sem,seval]
 rintro ⟨d,e,f⟩ ⟨sl,ob,n⟩ _ g _ h k
 simp only[go_sem,seval,Zc] at g
 obtain ⟨⟨_,_,_,_,_⟩,_,hn⟩:=g
 subst hn
 simp only[*,go_sem,seval]
 refine Ze h (fun _ h=>?_) fun _ h=>?_<;>try simp only[*,go_sem,seval]
 obtain ⟨_,h⟩:=Zq h
 simp only[*,go_sem,seval]
 refine Ze h (fun _ h=>?_) fun _ h=>?_<;>try simp only[*,go_sem,seval]
 obtain ⟨_,h⟩:=Zq h
 obtain ⟨l,h⟩:=Zq h
 try simp only[Nat.reduceLeDiff] at l
 simp only[*,go_sem,seval]
 refine ⟨_,[],[353],(A1 h).symm,by decide,?_⟩
 simp only[*,go_sem,seval]
 refine ⟨_,[],[0],(A1 h).symm,by decide,?_⟩
 simp only[*,go_sem,seval]
 obtain ⟨_,h⟩:=Zq h
 obtain ⟨m,h⟩:=Zq h
 try simp only[Nat.reduceLeDiff] at m
 replace h:=Zn h k
 cases h
 simp only[*,go_sem,seval]
theorem Xg {a:(List ByteArray)} {b:ByteArray} {r:(List ByteArray)} (h:XO a b=some r):Zk prog J0 271 [(false,[.sl 9 1 (A0 Zx a)]),(false,[.str b])] [(false,[(false,.sl 9 1 (A0 Zx r))])]:=by
 refine fnk func271 rfl ?_
 unfold XO at h
 simp only[fnS,f271,Zm,go_sem,seval]
 refine Zi h (fun i s st=>match s with | (d,e)=>IV [(0,.p false [.c (.sl 9 1 (A0 Zx a))]),(1,.p false [.c (.str b)]),(5,.p false [.row 0]),(6,.p false [.c (.bool e)]),(7,.p false [.c (.int .i64 ((i:Nat):Int))])] [.row 9 1 (A0 Zx d) 2] st) [] [16] (by decide) ?_ ?_ ?_
 simp only[*,go_sem,seval]
 rintro _ _ ⟨d,e⟩ ⟨sl,ob,n⟩ _ f g l h _
 simp only[go_sem,seval,Zc] at g
 obtain ⟨⟨m,_,_,_,_⟩,_,hn⟩:=g
 subst hn
 have o:=WF.slotL l m (j:=0) rfl
 have:=ZA f
 have:=ZC f
 have:=Zj (ZB f) o
 simp only[*,go_sem,seval]
 refine Ze h (fun _ h=>?_) fun _ h=>?_<;>try simp only[*,go_sem,seval]
 obtain ⟨q,h⟩:=Zq h
 try simp only[Nat.reduceLeDiff] at q
 simp only[*,go_sem,seval]
 refine ⟨_,[],[321],(A1 h).symm,by decide,?_⟩
 simp only[*,go_sem,seval]
 refine Ze h (fun _ h=>?_) fun _ h=>?_<;>try simp only[*,go_sem,seval]
 obtain ⟨t,h⟩:=Zq h
 try simp only[Nat.reduceLeDiff] at t
 simp only[*,go_sem,seval]
 refine ⟨_,[],[321],(A1 h).symm,by decide,?_⟩
 simp only[*,go_sem,seval]
 refine Ze h (fun _ h=>?_) fun _ h=>?_<;>try simp only[*,go_sem,seval]
 obtain ⟨u,h⟩:=Zq h
 try simp only[Nat.reduceLeDiff] at u
 simp only[*,go_sem,seval]
 refine ⟨_,[],[433],(A1 h).symm,by decide,?_⟩
 simp only[*,go_sem,seval]
 obtain ⟨v,h⟩:=Zq h
 try simp only[Nat.reduceLeDiff] at v
 obtain ⟨w,h⟩:=Zq h
 try simp only[Nat.reduceLeDiff] at w
 simp only[*,go_sem,seval]
 refine ⟨_,[],[513],(A1 h).symm,by decide,?_⟩
 simp only[*,go_sem,seval]
 rintro ⟨d,e⟩ ⟨sl,ob,n⟩ k _ h
 simp only[go_sem,seval,Zc] at k
 obtain ⟨⟨_,_,_,_,_⟩,_,hn⟩:=k
 subst hn
 have:=Zy (a.length)
 simp only[*,go_sem,seval]
 refine Ze h (fun _ h=>?_) fun _ h=>?_<;>try simp only[*,go_sem,seval]
 cases h
 simp only[*,go_sem,seval]
 obtain ⟨x,h⟩:=Zq h
 try simp only[Nat.reduceLeDiff] at x
 cases h
 simp only[*,go_sem,seval]
theorem Yz {l_0:(List ByteArray)} {s_1:ByteArray} {r:Bool} (h:ZV l_0 s_1=some r):Zk prog J0 222 [(false,[.sl 9 1 (A0 Zx l_0)]),(false,[.str s_1])] [(false,[(false,.bool r)])]:=by
 refine fnk func222 rfl ?_
 unfold ZV at h
 simp only[fnS,f222,Zm,go_sem,seval]
 refine Zi h (fun i _ st=>IV [(0,.p false [.c (.sl 9 1 (A0 Zx l_0))]),(1,.p false [.c (.str s_1)]),(5,.p false [.c (.int .i64 ((i:Nat):Int))])] [] st) [] [] (by decide) ?_ ?_ ?_
 simp only[*,go_sem,seval]
 rintro _ _ ⟨⟩ ⟨sl,ob,n⟩ _ a b e h f
 simp only[go_sem,seval,Zc] at b
 obtain ⟨⟨g,_,_⟩,hn⟩:=b
 subst hn
 have k:=WF.slotL e g (j:=0) rfl
 have:=ZA a
 have:=ZC a
 have:=Zj (ZB a) k
 simp only[*,go_sem,seval]
 refine Ze h (fun _ h=>?_) fun _ h=>?_<;>try simp only[*,go_sem,seval]
 replace h:=Zn h f
 cases h
 simp only[*,go_sem,seval]
 refine ⟨_,[],[],(A1 h).symm,by decide,?_⟩
 simp only[*,go_sem,seval]
 rintro ⟨⟩ ⟨sl,ob,n⟩ d _ h
 simp only[go_sem,seval,Zc] at d
 obtain ⟨⟨_,_,_⟩,hn⟩:=d
 subst hn
 have:=Zy (l_0.length)
 cases h
 simp only[*,go_sem,seval]
theorem ZrB {kind_0:Int} {r:ByteArray} (h:Zgi kind_0=some r):Zk prog J0 318 [(false,[.int .i64 kind_0])] [(false,[(false,.str r)])]:=by
 refine fnk func318 rfl ?_
 unfold Zgi at h
 have ks0:Z9 ⟨#[32,33,61,32]⟩=true:=by decide
 have ks1:Z9 ⟨#[32,60,32]⟩=true:=by decide
 have ks2:Z9 ⟨#[32,61,32]⟩=true:=by decide
 have ks3:Z9 ⟨#[]⟩=true:=by decide
 simp only[fnS,f318,Zm,go_sem,seval,ks0,ks1,ks2,ks3]
 refine Ze h (fun _ h=>?_) fun _ h=>?_<;>try simp only[*,go_sem,seval]
 ·cases h
  simp only[*,go_sem,seval]
 ·refine Ze h (fun _ h=>?_) fun _ h=>?_<;>try simp only[*,go_sem,seval]
  ·cases h
   simp only[*,go_sem,seval]
  ·cases h
   simp only[*,go_sem,seval]
theorem Zle {a_0:ByteArray} {b_1:ByteArray} {r:Int} (h:Zhp a_0 b_1=some r):Zk prog J0 74 [(false,[.str a_0]),(false,[.str b_1])] [(false,[(false,.int .i64 r)])]:=by
 refine fnk func74 rfl ?_
 unfold Zhp at h
 simp only[fnS,f74,Zm,go_sem,seval]
 refine Ze h (fun a h=>?_) (fun a h=>?_)<;>try simp only[*,go_sem,seval]
 cases h
 simp only[*,go_sem,seval]
 refine Ze h (fun b h=>?_) (fun b h=>?_)
 have c:=b
 try simp only[a,AZ,Aa] at c
 cases h
 simp only[*,go_sem,seval]
 have c:=b
 try simp only[a,AZ,Aa] at c
 cases h
 simp only[*,go_sem,seval]
theorem ZpE {l_0:(List ByteArray)} {r:(List ByteArray)} (h:Zfc l_0=some r):Zk prog J0 151 [(false,[.sl 9 1 (A0 Zx l_0)])] [(false,[(false,.sl 9 1 (A0 Zx r))])]:=by
 refine fnk func151 rfl ?_
 unfold Zfc at h
 simp only[fnS,f151,Zm,go_sem,seval]
 obtain ⟨_,h⟩:=Zq h
 cases h
 simp only[*,go_sem,seval]
theorem X4 {s_0:ByteArray} {r:Bool} (h:Qm s_0=some r):Zk prog J0 202 [(false,[.str s_0])] [(false,[(false,.bool r)])]:=by
 refine fnk func202 rfl ?_
 unfold Qm at h
 simp only[fnS,f202,Zm,go_sem,seval]
 refine Ze h (fun _ h=>?_) fun _ h=>?_<;>try simp only[*,go_sem,seval]
 ·cases h
  simp only[*,go_sem,seval]
 ·refine Ze h (fun _ h=>?_) fun _ h=>?_<;>try simp only[*,go_sem,seval]
  ·cases h
   simp only[*,go_sem,seval]
  ·refine Zi h (fun i _ st=>IV [(0,.p false [.c (.str s_0)]),(3,.p false [.c (.int .i64 ((i:Nat):Int))])] [] st) [] [] (by decide) ?_ ?_ ?_
   ·simp only[*,go_sem,seval]
   ·rintro i4 x5 ⟨⟩ ⟨sl,ob,n⟩ y3 hx4 hI5 hW6 h hy3
    simp only[go_sem,seval,Zc] at hI5
    obtain ⟨⟨g7_0,g7_3⟩,hn⟩:=hI5
    subst hn
    have hlhx4:=WF.slotS hW6 g7_0 (j:=0) rfl
    have q8:=Zpp hx4
    have q9:=Zva hx4
    have q10:=Zj (Zta hx4) hlhx4
    simp only[*,go_sem,seval]
    refine Ze h (fun _ h=>?_) fun _ h=>?_<;>try simp only[*,go_sem,seval]
    ·refine Ze h (fun _ h=>?_) fun _ h=>?_<;>try simp only[*,go_sem,seval]
     ·replace h:=Zn h hy3
      cases h
      simp only[*,go_sem,seval]
     ·refine Ze h (fun _ h=>?_) fun _ h=>?_<;>try simp only[*,go_sem,seval]
      ·replace h:=Zn h hy3
       cases h
       simp only[*,go_sem,seval]
      ·refine ⟨_,[],[],(A1 h).symm,by decide,?_⟩
       simp only[*,go_sem,seval]
    ·refine Ze h (fun _ h=>?_) fun _ h=>?_<;>try simp only[*,go_sem,seval]
     ·refine Ze h (fun _ h=>?_) fun _ h=>?_<;>try simp only[*,go_sem,seval]
      ·replace h:=Zn h hy3
       cases h
       simp only[*,go_sem,seval]
      ·refine Ze h (fun _ h=>?_) fun _ h=>?_<;>try simp only[*,go_sem,seval]
       ·replace h:=Zn h hy3
        cases h
        simp only[*,go_sem,seval]
       ·refine ⟨_,[],[],(A1 h).symm,by decide,?_⟩
        simp only[*,go_sem,seval]
     ·refine ⟨_,[],[],(A1 h).symm,by decide,?_⟩
      simp only[*,go_sem,seval]
   ·rintro ⟨⟩ ⟨sl,ob,n⟩ hI17 hW18 h
    simp only[go_sem,seval,Zc] at hI17
    obtain ⟨⟨g19_0,g19_3⟩,hn⟩:=hI17
    subst hn
    have q20:=Zy (s_0.size)
    cases h
    simp only[*,go_sem,seval]
theorem ZbW {a_0:Int} {b_1:Int} {r:Int} (h:XG a_0 b_1=some r):Zk prog J0 205 [(false,[.int .i64 a_0]),(false,[.int .i64 b_1])] [(false,[(false,.int .i64 r)])]:=by
 refine fnk func205 rfl ?_
 unfold XG at h
 simp only[fnS,f205,Zm,go_sem,seval]
 refine Ze h (fun _ h=>?_) fun _ h=>?_<;>try simp only[*,go_sem,seval]
 ·cases h
  simp only[*,go_sem,seval]
 ·refine Ze h (fun _ h=>?_) fun _ h=>?_<;>try simp only[*,go_sem,seval]
  ·cases h
   simp only[*,go_sem,seval]
  ·cases h
   simp only[*,go_sem,seval]
theorem ZkY {n_0:Int} {r:ByteArray} (h:Za4 n_0=some r):Zk prog J0 298 [(false,[.int .i64 n_0])] [(false,[(false,.str r)])]:=by
 refine fnk func298 rfl ?_
 unfold Za4 at h
 have a:Z9 ⟨#[]⟩=true:=by decide
 simp only[fnS,f298,Zm,go_sem,seval,a]
 refine ZMH h fun _ b h=>Zd (ZtG b) ?_
 cases h
 simp only[*,go_sem,seval]
theorem Zls {a_0:(List ByteArray)} {b_1:(List ByteArray)} {r:Bool} (h:Zct a_0 b_1=some r):Zk prog J0 208 [(false,[.sl 9 1 (A0 Zx a_0)]),(false,[.sl 9 1 (A0 Zx b_1)])] [(false,[(false,.bool r)])]:=by
 refine fnk func208 rfl ?_
 unfold Zct at h
 simp only[fnS,f208,Zm,go_sem,seval]
 refine Ze h (fun _ h=>?_) fun _ h=>?_<;>try simp only[*,go_sem,seval]
 cases h
 simp only[*,go_sem,seval]
 refine Zi h (fun i _ st=>IV [(0,.p false [.c (.sl 9 1 (A0 Zx a_0))]),(1,.p false [.c (.sl 9 1 (A0 Zx b_1))]),(12,.p false [.c (.int .i64 ((a_0.length:Nat):Int))]),(13,.p false [.c (.int .i64 ((i:Nat):Int))])] [] st) [] [] (by decide) ?_ ?_ ?_
 simp only[*,go_sem,seval]
 rintro _ _ ⟨⟩ ⟨sl,ob,n⟩ _ a b e h f
 simp only[go_sem,seval,Zc] at b
 obtain ⟨⟨g,_,_,_⟩,hn⟩:=b
 subst hn
 have k:=WF.slotL e g (j:=0) rfl
 have:=ZA a
 have:=ZC a
 have:=Zj (ZB a) k
 obtain ⟨_,_,_,l,h⟩:=ZbQ h
 simp only[AD] at l
 simp only[*,go_sem,seval]
 refine Ze h (fun _ h=>?_) fun _ h=>?_<;>try simp only[*,go_sem,seval]
 refine ⟨_,[],[],(A1 h).symm,by decide,?_⟩
 simp only[*,go_sem,seval]
 replace h:=Zn h f
 cases h
 simp only[*,go_sem,seval]
 rintro ⟨⟩ ⟨sl,ob,n⟩ d _ h
 simp only[go_sem,seval,Zc] at d
 obtain ⟨⟨_,_,_,_⟩,hn⟩:=d
 subst hn
 have:=Zy (a_0.length)
 cases h
 simp only[*,go_sem,seval]
theorem Zac {l_0:(List ByteArray)} {s_1:ByteArray} {r:Bool} (h:Xc l_0 s_1=some r):Zk prog J0 145 [(false,[.sl 9 1 (A0 Zx l_0)]),(false,[.str s_1])] [(false,[(false,.bool r)])]:=by
 refine fnk func145 rfl ?_
 unfold Xc at h
 simp only[fnS,f145,Zm,go_sem,seval]
 refine Zi h (fun i _ st=>IV [(1,.p false [.c (.str s_1)]),(7,.p false [.c (.sl 9 1 (A0 Zx l_0))]),(8,.p false [.c (.int .i64 ((l_0.length:Nat):Int))]),(9,.p false [.c (.int .i64 ((i:Nat):Int))])] [] st) [] [] (by decide) ?_ ?_ ?_
 simp only[*,go_sem,seval]
 rintro _ _ ⟨⟩ ⟨sl,ob,n⟩ _ a b e h f
 simp only[go_sem,seval,Zc] at b
 obtain ⟨⟨_,g,_,_⟩,hn⟩:=b
 subst hn
 have k:=WF.slotL e g (j:=0) rfl
 have:=ZA a
 have:=ZC a
 have:=Zj (ZB a) k
 simp only[*,go_sem,seval]
 refine Ze h (fun _ h=>?_) fun _ h=>?_<;>try simp only[*,go_sem,seval]
 replace h:=Zn h f
 cases h
 simp only[*,go_sem,seval]
 refine ⟨_,[],[],(A1 h).symm,by decide,?_⟩
 simp only[*,go_sem,seval]
 rintro ⟨⟩ ⟨sl,ob,n⟩ d _ h
 simp only[go_sem,seval,Zc] at d
 obtain ⟨⟨_,_,_,_⟩,hn⟩:=d
 subst hn
 have:=Zy (l_0.length)
 cases h
 simp only[*,go_sem,seval]
theorem XX {l_0:(List ByteArray)} {r:(List ByteArray)} (h:Ym l_0=some r):Zk prog J0 147 [(false,[.sl 9 1 (A0 Zx l_0)])] [(false,[(false,.sl 9 1 (A0 Zx r))])]:=by
 refine fnk func147 rfl ?_
 unfold Ym at h
 simp only[fnS,f147,Zm,go_sem,seval]
 obtain ⟨_,h⟩:=Zq h
 simp only[*,go_sem,seval]
 obtain ⟨a,g,h⟩:=Za h
 refine QL (Zju g) ?_
 simp only[*,go_sem,seval]
 refine Zi h (fun i b st=>IV [(3,.p false [.row 0]),(4,.p false [.row 1]),(11,.p false [.row 0]),(12,.p false [.c (.int .i64 ((a.length:Nat):Int))]),(13,.p false [.c (.int .i64 ((i:Nat):Int))])] [.row 9 1 (A0 Zx a) 2,.row 9 1 (A0 Zx b) 2] st) [(false,4,0)] [32,160] (by decide) ?_ ?_ ?_
 simp only[*,go_sem,seval]
 rintro _ _ b ⟨sl,ob,n⟩ _ d e j h _
 simp only[go_sem,seval,Zc] at e
 obtain ⟨⟨_,_,_,_,_⟩,k,_,hn⟩:=e
 subst hn
 have l:=WF.rowL j k
 have:=ZA d
 have:=ZC d
 have:=Zj (ZB d) l
 simp only[*,go_sem,seval]
 refine Ze h (fun _ h=>?_) fun _ h=>?_<;>try simp only[*,go_sem,seval]
 obtain ⟨m,h⟩:=Zq h
 try simp only[Nat.reduceLeDiff] at m
 simp only[*,go_sem,seval]
 refine ⟨_,[],[0,322],(A1 h).symm,by decide,?_⟩
 simp only[*,go_sem,seval]
 obtain ⟨_,h⟩:=Zq h
 obtain ⟨_,_,h⟩:=Za h
 simp only[*,go_sem,seval]
 refine Ze h (fun _ h=>?_) fun _ h=>?_<;>try simp only[*,go_sem,seval]
 refine ⟨_,[],[0,1],(A1 h).symm,by decide,?_⟩
 simp only[*,go_sem,seval]
 obtain ⟨o,h⟩:=Zq h
 try simp only[Nat.reduceLeDiff] at o
 simp only[*,go_sem,seval]
 refine ⟨_,[],[0,322],(A1 h).symm,by decide,?_⟩
 simp only[*,go_sem,seval]
 rintro b ⟨sl,ob,n⟩ f _ h
 simp only[go_sem,seval,Zc] at f
 obtain ⟨⟨_,_,_,_,_⟩,_,_,hn⟩:=f
 subst hn
 have:=Zy (a.length)
 cases h
 simp only[*,go_sem,seval]
theorem Q8 {p_0:Zv} {r:Bool} (h:Y8 p_0=some r):Zk prog J0 263 [(true,QA p_0)] [(false,[(false,.bool r)])]:=by
 refine fnk func263 rfl ?_
 unfold Y8 at h
 have a:Z9 ⟨#[]⟩=true:=by decide
 simp only[fnS,f263,Zm,go_sem,seval,a]
 refine Ze h (fun _ h=>?_) fun _ h=>?_<;>try simp only[*,go_sem,seval]
 iterate 2 (cases h;simp only[*,go_sem,seval])
theorem Zgx {l_0:(List ByteArray)} {r:(List ByteArray)} (h:Za6 l_0=some r):Zk prog J0 182 [(false,[.sl 9 1 (A0 Zx l_0)])] [(false,[(false,.sl 9 1 (A0 Zx r))])]:=by
 refine fnk func182 rfl ?_
 unfold Za6 at h
 simp only[fnS,f182,Zm,go_sem,seval]
 obtain ⟨_,h⟩:=Zq h
 cases h
 simp only[*,go_sem,seval]
theorem ZmU {l_0:(List Zg)} {name_1:ByteArray} {r:Int} (h:QF l_0 name_1=some r):Zk prog J0 133 [(false,[.sl 42 4 (A0 ZF l_0)]),(false,[.str name_1])] [(false,[(false,.int .i64 r)])]:=by
 refine fnk func133 rfl ?_
 unfold QF at h
 simp only[fnS,f133,Zm,go_sem,seval]
 refine Zi h (fun i _ st=>IV [(1,.p false [.c (.str name_1)]),(7,.p false [.c (.sl 42 4 (A0 ZF l_0))]),(8,.p false [.c (.int .i64 ((l_0.length:Nat):Int))]),(9,.p false [.c (.int .i64 ((i:Nat):Int))])] [] st) [] [] (by decide) ?_ ?_ ?_
 simp only[*,go_sem,seval]
 rintro _ _ ⟨⟩ ⟨sl,ob,n⟩ _ a b e h f
 simp only[go_sem,seval,Zc] at b
 obtain ⟨⟨_,g,_,_⟩,hn⟩:=b
 subst hn
 have k:=WF.slotL e g (j:=0) rfl
 have:=ZA a
 have:=ZC a
 have:=Zj (ZB a) k
 simp only[*,go_sem,seval]
 refine Ze h (fun _ h=>?_) fun _ h=>?_<;>try simp only[*,go_sem,seval]
 replace h:=Zn h f
 cases h
 simp only[*,go_sem,seval]
 refine ⟨_,[],[],(A1 h).symm,by decide,?_⟩
 simp only[*,go_sem,seval]
 rintro ⟨⟩ ⟨sl,ob,n⟩ d _ h
 simp only[go_sem,seval,Zc] at d
 obtain ⟨⟨_,_,_,_⟩,hn⟩:=d
 subst hn
 have:=Zy (l_0.length)
 cases h
 simp only[*,go_sem,seval]
theorem Zm5 {r_0:Zg} {r:Bool} (h:ZdJ r_0=some r):Zk prog J0 162 [(true,ZF r_0)] [(false,[(false,.bool r)])]:=by
 refine fnk func162 rfl ?_
 unfold ZdJ at h
 simp only[fnS,f162,Zm,go_sem,seval]
 refine Zi h (fun i _ st=>IV [(6,.p false [.c (.sl 50 3 (A0 ZG r_0.thn))]),(7,.p false [.c (.int .i64 ((r_0.thn.length:Nat):Int))]),(8,.p false [.c (.int .i64 ((i:Nat):Int))])] [] st) [] [] (by decide) ?_ ?_ ?_
 simp only[*,go_sem,seval]
 rintro _ _ ⟨⟩ ⟨sl,ob,n⟩ _ a b e h f
 simp only[go_sem,seval,Zc] at b
 obtain ⟨⟨g,_,_⟩,hn⟩:=b
 subst hn
 have k:=WF.slotL e g (j:=0) rfl
 have:=ZA a
 have:=ZC a
 have:=Zj (ZB a) k
 simp only[*,go_sem,seval]
 refine Ze h (fun _ h=>?_) fun _ h=>?_<;>try simp only[*,go_sem,seval]
 replace h:=Zn h f
 cases h
 simp only[*,go_sem,seval]
 refine ⟨_,[],[],(A1 h).symm,by decide,?_⟩
 simp only[*,go_sem,seval]
 rintro ⟨⟩ ⟨sl,ob,n⟩ d _ h
 simp only[go_sem,seval,Zc] at d
 obtain ⟨⟨_,_,_⟩,hn⟩:=d
 subst hn
 have:=Zy (r_0.thn.length)
 cases h
 simp only[*,go_sem,seval]
theorem Zgp {b_0:(List Zs)} {r:(List Zs)} (h:ZaT b_0=some r):Zk prog J0 215 [(false,[.sl 166 2 (A0 Z4 b_0)])] [(false,[(false,.sl 166 2 (A0 Z4 r))])]:=by
 refine fnk func215 rfl ?_
 unfold ZaT at h
 simp only[fnS,f215,Zm,go_sem,seval]
 obtain ⟨_,h⟩:=Zq h
 cases h
 simp only[*,go_sem,seval]
theorem ZeI {r_0:Zg} {r:(List Zt)} (h:YP r_0=some r):Zk prog J0 85 [(true,ZF r_0)] [(false,[(true,.sl 173 5 (A0 ZK r))])]:=by
 refine fnk func85 rfl ?_
 unfold YP at h
 simp only[fnS,f85,Zm,go_sem,seval]
 refine Zi h (fun i a st=>IV [(3,.p false [.row 0]),(7,.p false [.c (.sl 173 5 (A0 ZK r_0.cond))]),(8,.p false [.c (.int .i64 ((r_0.cond.length:Nat):Int))]),(9,.p false [.c (.int .i64 ((i:Nat):Int))])] [.row 173 5 (A0 ZK a) 1] st) [(false,3,0),(true,112,1)] [112] (by decide) ?_ ?_ ?_
 simp only[*,go_sem,seval]
 rintro _ _ a ⟨sl,ob,n⟩ _ b d f h _
 simp only[go_sem,seval,Zc] at d
 obtain ⟨⟨_,g,_,_⟩,_,hn⟩:=d
 subst hn
 have k:=WF.slotL f g (j:=0) rfl
 have:=ZA b
 have:=ZC b
 have:=Zj (ZB b) k
 simp only[*,go_sem,seval]
 refine Ze h (fun _ h=>?_) fun _ h=>?_<;>try simp only[*,go_sem,seval]
 obtain ⟨l,h⟩:=Zq h
 try simp only[Nat.reduceLeDiff] at l
 simp only[*,go_sem,seval]
 refine ⟨_,[],[177],(A1 h).symm,by decide,?_⟩
 simp only[*,go_sem,seval]
 refine ⟨_,[],[0],(A1 h).symm,by decide,?_⟩
 simp only[*,go_sem,seval]
 rintro a ⟨sl,ob,n⟩ e _ h
 simp only[go_sem,seval,Zc] at e
 obtain ⟨⟨_,_,_,_⟩,_,hn⟩:=e
 subst hn
 have:=Zy (r_0.cond.length)
 cases h
 simp only[*,go_sem,seval]
theorem ZqS {l_0:(List Int)} {n_1:Int} {r:Bool} (h:Zgz l_0 n_1=some r):Zk prog J0 163 [(false,[.sl 3 1 (A0 ZI l_0)]),(false,[.int .i64 n_1])] [(false,[(false,.bool r)])]:=by
 refine fnk func163 rfl ?_
 unfold Zgz at h
 simp only[fnS,f163,Zm,go_sem,seval]
 refine Zi h (fun i _ st=>IV [(1,.p false [.c (.int .i64 n_1)]),(7,.p false [.c (.sl 3 1 (A0 ZI l_0))]),(8,.p false [.c (.int .i64 ((l_0.length:Nat):Int))]),(9,.p false [.c (.int .i64 ((i:Nat):Int))])] [] st) [] [] (by decide) ?_ ?_ ?_
 simp only[*,go_sem,seval]
 rintro _ _ ⟨⟩ ⟨sl,ob,n⟩ _ a b e h f
 simp only[go_sem,seval,Zc] at b
 obtain ⟨⟨_,g,_,_⟩,hn⟩:=b
 subst hn
 have k:=WF.slotL e g (j:=0) rfl
 have:=ZA a
 have:=ZC a
 have:=Zj (ZB a) k
 simp only[*,go_sem,seval]
 refine Ze h (fun _ h=>?_) fun _ h=>?_<;>try simp only[*,go_sem,seval]
 replace h:=Zn h f
 cases h
 simp only[*,go_sem,seval]
 refine ⟨_,[],[],(A1 h).symm,by decide,?_⟩
 simp only[*,go_sem,seval]
 rintro ⟨⟩ ⟨sl,ob,n⟩ d _ h
 simp only[go_sem,seval,Zc] at d
 obtain ⟨⟨_,_,_,_⟩,hn⟩:=d
 subst hn
 have:=Zy (l_0.length)
 cases h
 simp only[*,go_sem,seval]
theorem ZhM {a_0:(List Int)} {b_1:(List Int)} {r:Bool} (h:ZbL a_0 b_1=some r):Zk prog J0 292 [(false,[.sl 3 1 (A0 ZI a_0)]),(false,[.sl 3 1 (A0 ZI b_1)])] [(false,[(false,.bool r)])]:=by
 refine fnk func292 rfl ?_
 unfold ZbL at h
 simp only[fnS,f292,Zm,go_sem,seval]
 refine Ze h (fun _ h=>?_) fun _ h=>?_<;>try simp only[*,go_sem,seval]
 cases h
 simp only[*,go_sem,seval]
 refine Zi h (fun i _ st=>IV [(0,.p false [.c (.sl 3 1 (A0 ZI a_0))]),(1,.p false [.c (.sl 3 1 (A0 ZI b_1))]),(12,.p false [.c (.int .i64 ((a_0.length:Nat):Int))]),(13,.p false [.c (.int .i64 ((i:Nat):Int))])] [] st) [] [] (by decide) ?_ ?_ ?_
 simp only[*,go_sem,seval]
 rintro _ _ ⟨⟩ ⟨sl,ob,n⟩ _ a b e h f
 simp only[go_sem,seval,Zc] at b
 obtain ⟨⟨g,_,_,_⟩,hn⟩:=b
 subst hn
 have k:=WF.slotL e g (j:=0) rfl
 have:=ZA a
 have:=ZC a
 have:=Zj (ZB a) k
 obtain ⟨_,_,_,l,h⟩:=ZbQ h
 simp only[AD] at l
 simp only[*,go_sem,seval]
 refine Ze h (fun _ h=>?_) fun _ h=>?_<;>try simp only[*,go_sem,seval]
 replace h:=Zn h f
 cases h
 simp only[*,go_sem,seval]
 refine ⟨_,[],[],(A1 h).symm,by decide,?_⟩
 simp only[*,go_sem,seval]
 rintro ⟨⟩ ⟨sl,ob,n⟩ d _ h
 simp only[go_sem,seval,Zc] at d
 obtain ⟨⟨_,_,_,_⟩,hn⟩:=d
 subst hn
 have:=Zy (a_0.length)
 cases h
 simp only[*,go_sem,seval]
end
section
set_option linter.unusedSimpArgs false
set_option linter.unusedVariables false
set_option maxRecDepth 1000000
set_option maxHeartbeats 4000000
theorem Zp7 {append_0:Zr} {r:(List Int)} (h:ZgJ append_0=some r):Zk prog J0 257 [(true,XY append_0)] [(false,[(false,.sl 3 1 (A0 ZI r))])]:=by
 refine fnk func257 rfl ?_
 unfold ZgJ at h
 simp only[fnS,f257,Zm,go_sem,seval]
 obtain ⟨p1,h⟩:=Zq h
 simp only[*,go_sem,seval]
 refine Yo h (fun s st=>match s with | (row_92,u_93)=>IV [(1,.bp 0 0),(3,.p false [.row 1]),(4,.p false [.c (.bool u_93)])] [.box 64 [.c (.int .i64 append_0.nodes),.c (.sl 199 3 (A0 ZE append_0.reasons))],.row 3 1 (A0 ZI row_92) 2] st) [] [0,64] (by decide) ?_ ?_
 ·simp only[*,go_sem,seval]
 ·rintro ⟨row_92,u_93⟩ ⟨sl,ob,n⟩ y2 hI3 hW4 h hy2
  simp only[go_sem,seval,Zc] at hI3
  obtain ⟨⟨g5_1,g5_3,g5_4⟩,og5_0,og5_1,hn⟩:=hI3
  subst hn
  simp only[*,go_sem,seval]
  refine Ze h (fun _ h=>?_) fun _ h=>?_<;>try simp only[*,go_sem,seval]
  ·refine Zi h (fun i s st=>match s with | (row_123,u_125)=>IV [(1,.bp 0 0),(3,.p false [.row 1]),(4,.p false [.c (.bool u_125)]),(17,.p false [.c (.sl 199 3 (A0 ZE append_0.reasons))]),(18,.p false [.c (.int .i64 ((append_0.reasons.length:Nat):Int))]),(19,.p false [.c (.int .i64 ((i:Nat):Int))])] [.box 64 [.c (.int .i64 append_0.nodes),.c (.sl 199 3 (A0 ZE append_0.reasons))],.row 3 1 (A0 ZI row_123) 2] st) [] [0,1] (by decide) ?_ ?_ ?_
   ·simp only[*,go_sem,seval]
   ·rintro i155 x156 ⟨row_123,u_125⟩ ⟨sl,ob,n⟩ y7 hx8 hI9 hW10 h hy7
    simp only[go_sem,seval,Zc] at hI9
    obtain ⟨⟨g11_1,g11_3,g11_4,g11_17,g11_18,g11_19⟩,og11_0,og11_1,hn⟩:=hI9
    subst hn
    have hlhx8:=WF.slotL hW10 g11_17 (j:=0) rfl
    have q12:=ZA hx8
    have q13:=ZC hx8
    have q14:=Zj (ZB hx8) hlhx8
    obtain ⟨p15,h⟩:=Zq h
    obtain ⟨x157,e16,h⟩:=Za h
    simp only[*,go_sem,seval]
    refine Zi h (fun i u_161 st=>IV [(1,.bp 0 0),(3,.p false [.row 1]),(4,.p false [.c (.bool u_125)]),(6,.bp 2 0),(7,.p false [.c (.int .i64 u_161)]),(17,.p false [.c (.sl 199 3 (A0 ZE append_0.reasons))]),(18,.p false [.c (.int .i64 ((append_0.reasons.length:Nat):Int))]),(19,.p false [.c (.int .i64 ((i155:Nat):Int))]),(29,.p false [.c (.sl 3 1 (A0 ZI x156.inn))]),(30,.p false [.c (.int .i64 ((x156.inn.length:Nat):Int))]),(31,.p false [.c (.int .i64 ((i:Nat):Int))])] [.box 64 [.c (.int .i64 append_0.nodes),.c (.sl 199 3 (A0 ZE append_0.reasons))],.row 3 1 (A0 ZI row_123) 2,.box 199 [.c (.int .i64 x156.for_),.c (.sl 3 1 (A0 ZI x156.inn)),.c (.sl 3 1 (A0 ZI x156.outs))]] st) [] [0,1,50] (by decide) ?_ ?_ ?_
    ·simp only[*,go_sem,seval]
    ·rintro i173 x174 u_161 ⟨sl,ob,n⟩ y17 hx18 hI19 hW20 h hy17
     simp only[go_sem,seval,Zc] at hI19
     obtain ⟨⟨g21_1,g21_3,g21_4,g21_6,g21_7,g21_17,g21_18,g21_19,g21_29,g21_30,g21_31⟩,og21_0,og21_1,og21_2,hn⟩:=hI19
     subst hn
     have hlhx18:=WF.slotL hW20 g21_29 (j:=0) rfl
     have q22:=ZA hx18
     have q23:=ZC hx18
     have q24:=Zj (ZB hx18) hlhx18
     obtain ⟨p25,h⟩:=Zq h
     obtain ⟨x175,e26,h⟩:=Za h
     simp only[*,go_sem,seval]
     refine ⟨_,[],[0,1,2],(A1 h).symm,by decide,?_⟩
     simp only[*,go_sem,seval]
    ·rintro u_161 ⟨sl,ob,n⟩ hI27 hW28 h
     simp only[go_sem,seval,Zc] at hI27
     obtain ⟨⟨g29_1,g29_3,g29_4,g29_6,g29_7,g29_17,g29_18,g29_19,g29_29,g29_30,g29_31⟩,og29_0,og29_1,og29_2,hn⟩:=hI27
     subst hn
     have q30:=Zy (x156.inn.length)
     simp only[*,go_sem,seval]
     refine Zi h (fun i u_179 st=>IV [(1,.bp 0 0),(3,.p false [.row 1]),(4,.p false [.c (.bool u_125)]),(6,.bp 2 0),(7,.p false [.c (.int .i64 u_179)]),(17,.p false [.c (.sl 199 3 (A0 ZE append_0.reasons))]),(18,.p false [.c (.int .i64 ((append_0.reasons.length:Nat):Int))]),(19,.p false [.c (.int .i64 ((i155:Nat):Int))]),(43,.p false [.c (.sl 3 1 (A0 ZI x156.outs))]),(44,.p false [.c (.int .i64 ((x156.outs.length:Nat):Int))]),(45,.p false [.c (.int .i64 ((i:Nat):Int))])] [.box 64 [.c (.int .i64 append_0.nodes),.c (.sl 199 3 (A0 ZE append_0.reasons))],.row 3 1 (A0 ZI row_123) 2,.box 199 [.c (.int .i64 x156.for_),.c (.sl 3 1 (A0 ZI x156.inn)),.c (.sl 3 1 (A0 ZI x156.outs))]] st) [] [0,1,2] (by decide) ?_ ?_ ?_
     ·simp only[*,go_sem,seval]
     ·rintro i182 x183 u_179 ⟨sl,ob,n⟩ y31 hx32 hI33 hW34 h hy31
      simp only[go_sem,seval,Zc] at hI33
      obtain ⟨⟨g35_1,g35_3,g35_4,g35_6,g35_7,g35_17,g35_18,g35_19,g35_43,g35_44,g35_45⟩,og35_0,og35_1,og35_2,hn⟩:=hI33
      subst hn
      have hlhx32:=WF.slotL hW34 g35_43 (j:=0) rfl
      have q36:=ZA hx32
      have q37:=ZC hx32
      have q38:=Zj (ZB hx32) hlhx32
      obtain ⟨p39,h⟩:=Zq h
      obtain ⟨x184,e40,h⟩:=Za h
      simp only[*,go_sem,seval]
      refine ⟨_,[],[0,1,2],(A1 h).symm,by decide,?_⟩
      simp only[*,go_sem,seval]
     ·rintro u_179 ⟨sl,ob,n⟩ hI41 hW42 h
      simp only[go_sem,seval,Zc] at hI41
      obtain ⟨⟨g43_1,g43_3,g43_4,g43_6,g43_7,g43_17,g43_18,g43_19,g43_43,g43_44,g43_45⟩,og43_0,og43_1,og43_2,hn⟩:=hI41
      subst hn
      have q44:=Zy (x156.outs.length)
      simp only[*,go_sem,seval]
      refine Ze h (fun _ h=>?_) fun _ h=>?_<;>try simp only[*,go_sem,seval]
      ·refine ⟨_,[],[0,1],(A1 h).symm,by decide,?_⟩
       simp only[*,go_sem,seval]
      ·refine ⟨_,[],[0,1],(A1 h).symm,by decide,?_⟩
       simp only[*,go_sem,seval]
   ·rintro ⟨row_123,u_125⟩ ⟨sl,ob,n⟩ hI46 hW47 h
    simp only[go_sem,seval,Zc] at hI46
    obtain ⟨⟨g48_1,g48_3,g48_4,g48_17,g48_18,g48_19⟩,og48_0,og48_1,hn⟩:=hI46
    subst hn
    have q49:=Zy (append_0.reasons.length)
    simp only[*,go_sem,seval]
    refine ⟨_,[],[0,1],(A1 h).symm,by decide,?_⟩
    simp only[*,go_sem,seval]
  ·replace h:=Zn h hy2
   cases h
   simp only[*,go_sem,seval]
theorem ZlJ {r_0:Zf} {rounds_1:(List Int)} {before_2:Int} {r:Bool} (h:ZaY r_0 rounds_1 before_2=some r):Zk prog J0 258 [(true,ZE r_0),(false,[.sl 3 1 (A0 ZI rounds_1)]),(false,[.int .i64 before_2])] [(false,[(false,.bool r)])]:=by
 refine fnk func258 rfl ?_
 unfold ZaY at h
 simp only[fnS,f258,Zm,go_sem,seval]
 refine Zi h (fun i _ st=>IV [(1,.p false [.c (.sl 3 1 (A0 ZI rounds_1))]),(2,.p false [.c (.int .i64 before_2)]),(3,.bp 0 0),(12,.p false [.c (.sl 3 1 (A0 ZI r_0.inn))]),(13,.p false [.c (.int .i64 ((r_0.inn.length:Nat):Int))]),(14,.p false [.c (.int .i64 ((i:Nat):Int))])] [.box 199 [.c (.int .i64 r_0.for_),.c (.sl 3 1 (A0 ZI r_0.inn)),.c (.sl 3 1 (A0 ZI r_0.outs))]] st) [] [0] (by decide) ?_ ?_ ?_
 simp only[*,go_sem,seval]
 rintro _ _ ⟨⟩ ⟨sl,ob,n⟩ _ a d l h e
 simp only[go_sem,seval,Zc] at d
 obtain ⟨⟨_,_,_,m,_,_⟩,_,hn⟩:=d
 subst hn
 have o:=WF.slotL l m (j:=0) rfl
 have:=ZA a
 have:=ZC a
 have:=Zj (ZB a) o
 obtain ⟨_,_,_,_,h⟩:=ZbQ h
 simp only[*,go_sem,seval]
 refine Ze h (fun _ h=>?_) fun _ h=>?_<;>try simp only[*,go_sem,seval]
 replace h:=Zn h e
 cases h
 simp only[*,go_sem,seval]
 refine Ze h (fun _ h=>?_) fun _ h=>?_<;>try simp only[*,go_sem,seval]
 replace h:=Zn h e
 cases h
 simp only[*,go_sem,seval]
 refine ⟨_,[],[0],(A1 h).symm,by decide,?_⟩
 simp only[*,go_sem,seval]
 rintro ⟨⟩ ⟨sl,ob,n⟩ f _ h
 simp only[go_sem,seval,Zc] at f
 obtain ⟨⟨_,_,_,_,_,_⟩,_,hn⟩:=f
 subst hn
 have:=Zy (r_0.inn.length)
 simp only[*,go_sem,seval]
 refine Zi h (fun i _ st=>IV [(1,.p false [.c (.sl 3 1 (A0 ZI rounds_1))]),(33,.p false [.c (.sl 3 1 (A0 ZI r_0.outs))]),(34,.p false [.c (.int .i64 ((r_0.outs.length:Nat):Int))]),(35,.p false [.c (.int .i64 ((i:Nat):Int))])] [] st) [] [] (by decide) ?_ ?_ ?_
 simp only[*,go_sem,seval]
 rintro _ _ ⟨⟩ ⟨sl,ob,n⟩ _ b g q h t
 simp only[go_sem,seval,Zc] at g
 obtain ⟨⟨_,u,_,_⟩,hn⟩:=g
 subst hn
 have v:=WF.slotL q u (j:=0) rfl
 have:=ZA b
 have:=ZC b
 have:=Zj (ZB b) v
 obtain ⟨_,_,_,_,h⟩:=ZbQ h
 simp only[*,go_sem,seval]
 refine Ze h (fun _ h=>?_) fun _ h=>?_<;>try simp only[*,go_sem,seval]
 replace h:=Zn h t
 cases h
 simp only[*,go_sem,seval]
 refine ⟨_,[],[],(A1 h).symm,by decide,?_⟩
 simp only[*,go_sem,seval]
 rintro ⟨⟩ ⟨sl,ob,n⟩ k _ h
 simp only[go_sem,seval,Zc] at k
 obtain ⟨⟨_,_,_,_⟩,hn⟩:=k
 subst hn
 have:=Zy (r_0.outs.length)
 cases h
 simp only[*,go_sem,seval]
theorem ZjC {a_0:(List ByteArray)} {b_1:(List ByteArray)} {r:Bool} (h:Zev a_0 b_1=some r):Zk prog J0 150 [(false,[.sl 9 1 (A0 Zx a_0)]),(false,[.sl 9 1 (A0 Zx b_1)])] [(false,[(false,.bool r)])]:=by
 refine fnk func150 rfl ?_
 unfold Zev at h
 simp only[fnS,f150,Zm,go_sem,seval]
 refine Ze h (fun _ h=>?_) fun _ h=>?_<;>try simp only[*,go_sem,seval]
 cases h
 simp only[*,go_sem,seval]
 refine Zi h (fun i _ st=>IV [(0,.p false [.c (.sl 9 1 (A0 Zx a_0))]),(1,.p false [.c (.sl 9 1 (A0 Zx b_1))]),(5,.p false [.c (.int .i64 ((i:Nat):Int))])] [] st) [] [] (by decide) ?_ ?_ ?_
 simp only[*,go_sem,seval]
 rintro _ _ ⟨⟩ ⟨sl,ob,n⟩ _ a b e h f
 simp only[go_sem,seval,Zc] at b
 obtain ⟨⟨g,_,_⟩,hn⟩:=b
 subst hn
 have k:=WF.slotL e g (j:=0) rfl
 have:=ZA a
 have:=ZC a
 have:=Zj (ZB a) k
 obtain ⟨_,_,_,l,h⟩:=ZbQ h
 simp only[AD] at l
 simp only[*,go_sem,seval]
 refine Ze h (fun _ h=>?_) fun _ h=>?_<;>try simp only[*,go_sem,seval]
 refine ⟨_,[],[],(A1 h).symm,by decide,?_⟩
 simp only[*,go_sem,seval]
 replace h:=Zn h f
 cases h
 simp only[*,go_sem,seval]
 rintro ⟨⟩ ⟨sl,ob,n⟩ d _ h
 simp only[go_sem,seval,Zc] at d
 obtain ⟨⟨_,_,_⟩,hn⟩:=d
 subst hn
 have:=Zy (a_0.length)
 cases h
 simp only[*,go_sem,seval]
theorem ZhP {l_0:(List Zg)} {name_1:ByteArray} {r:Int} (h:ZdZ l_0 name_1=some r):Zk prog J0 19 [(false,[.sl 42 4 (A0 ZF l_0)]),(false,[.str name_1])] [(false,[(false,.int .i64 r)])]:=by
 refine fnk func19 rfl ?_
 unfold ZdZ at h
 simp only[fnS,f19,Zm,go_sem,seval]
 refine Zi h (fun i _ st=>IV [(0,.p false [.c (.sl 42 4 (A0 ZF l_0))]),(1,.p false [.c (.str name_1)]),(5,.p false [.c (.int .i64 ((i:Nat):Int))])] [] st) [] [] (by decide) ?_ ?_ ?_
 simp only[*,go_sem,seval]
 rintro _ _ ⟨⟩ ⟨sl,ob,n⟩ _ a b e h f
 simp only[go_sem,seval,Zc] at b
 obtain ⟨⟨g,_,_⟩,hn⟩:=b
 subst hn
 have k:=WF.slotL e g (j:=0) rfl
 have:=ZA a
 have:=ZC a
 have:=Zj (ZB a) k
 simp only[*,go_sem,seval]
 refine Ze h (fun _ h=>?_) fun _ h=>?_<;>try simp only[*,go_sem,seval]
 replace h:=Zn h f
 cases h
 simp only[*,go_sem,seval]
 refine ⟨_,[],[],(A1 h).symm,by decide,?_⟩
 simp only[*,go_sem,seval]
 rintro ⟨⟩ ⟨sl,ob,n⟩ d _ h
 simp only[go_sem,seval,Zc] at d
 obtain ⟨⟨_,_,_⟩,hn⟩:=d
 subst hn
 have:=Zy (l_0.length)
 cases h
 simp only[*,go_sem,seval]
theorem ZgL {b_0:(List Zs)} {r:(List Zs)} (h:ZcA b_0=some r):Zk prog J0 313 [(false,[.sl 166 2 (A0 Z4 b_0)])] [(false,[(false,.sl 166 2 (A0 Z4 r))])]:=by
 refine fnk func313 rfl ?_
 unfold ZcA at h
 simp only[fnS,f313,Zm,go_sem,seval]
 obtain ⟨_,h⟩:=Zq h
 cases h
 simp only[*,go_sem,seval]
theorem ZsA {a:(List Zs)} {b:ByteArray} {d:ByteArray} {r:(List Zs)} (h:ZiO a b d=some r):Zk prog J0 339 [(false,[.sl 166 2 (A0 Z4 a)]),(false,[.str b]),(false,[.str d])] [(false,[(false,.sl 166 2 (A0 Z4 r))])]:=by
 refine fnk func339 rfl ?_
 unfold ZiO at h
 simp only[fnS,f339,Zm,go_sem,seval]
 refine Zi h (fun i s st=>match s with | (e,f)=>IV [(0,.p false [.c (.sl 166 2 (A0 Z4 a))]),(1,.p false [.c (.str b)]),(2,.p false [.c (.str d)]),(7,.p false [.row 0]),(8,.p false [.c (.bool f)]),(9,.p false [.c (.int .i64 ((i:Nat):Int))])] [.row 166 2 (A0 Z4 e) 2] st) [] [16] (by decide) ?_ ?_ ?_
 simp only[*,go_sem,seval]
 rintro _ _ ⟨e,f⟩ ⟨sl,ob,n⟩ _ g l o h _
 simp only[go_sem,seval,Zc] at l
 obtain ⟨⟨q,_,_,_,_,_⟩,_,hn⟩:=l
 subst hn
 have t:=WF.slotL o q (j:=0) rfl
 have:=ZA g
 have:=ZC g
 have:=Zj (ZB g) t
 simp only[*,go_sem,seval]
 refine Ze h (fun _ h=>?_) fun _ h=>?_<;>try simp only[*,go_sem,seval]
 obtain ⟨u,h⟩:=Zq h
 try simp only[Nat.reduceLeDiff] at u
 simp only[*,go_sem,seval]
 refine ⟨_,[],[337],(A1 h).symm,by decide,?_⟩
 simp only[*,go_sem,seval]
 refine Ze h (fun k h=>?_) (fun k h=>?_)
 have v:=k
 obtain ⟨w,h⟩:=Zq h
 try simp only[Nat.reduceLeDiff] at w
 simp only[*,go_sem,seval]
 refine ⟨_,[],[337],(A1 h).symm,by decide,?_⟩
 simp only[*,go_sem,seval]
 have v:=k
 obtain ⟨x,h⟩:=Zq h
 try simp only[Nat.reduceLeDiff] at x
 obtain ⟨y,h⟩:=Zq h
 try simp only[Nat.reduceLeDiff] at y
 simp only[*,go_sem,seval]
 refine ⟨_,[],[465],(A1 h).symm,by decide,?_⟩
 simp only[*,go_sem,seval]
 rintro ⟨e,f⟩ ⟨sl,ob,n⟩ m _ h
 simp only[go_sem,seval,Zc] at m
 obtain ⟨⟨_,_,_,_,_,_⟩,_,hn⟩:=m
 subst hn
 have:=Zy (a.length)
 simp only[*,go_sem,seval]
 refine Ze h (fun _ h=>?_) fun _ h=>?_<;>try simp only[*,go_sem,seval]
 cases h
 simp only[*,go_sem,seval]
 obtain ⟨z,h⟩:=Zq h
 try simp only[Nat.reduceLeDiff] at z
 cases h
 simp only[*,go_sem,seval]
theorem ZeY {r_0:Zg} {r:(List Zt)} (h:XJ r_0=some r):Zk prog J0 172 [(true,ZF r_0)] [(false,[(true,.sl 173 5 (A0 ZK r))])]:=by
 refine fnk func172 rfl ?_
 unfold XJ at h
 simp only[fnS,f172,Zm,go_sem,seval]
 refine Zi h (fun i a st=>IV [(1,.bp 0 0),(3,.p false [.row 1]),(4,.p false [.c (.int .i64 ((i:Nat):Int))])] [.box 42 [.c (.str r_0.name),.c (.int .i64 r_0.priority),.c (.sl 173 5 (A0 ZK r_0.cond)),.c (.sl 50 3 (A0 ZG r_0.thn))],.row 173 5 (A0 ZK a) 1] st) [(true,32,1)] [0,32] (by decide) ?_ ?_ ?_
 simp only[*,go_sem,seval]
 rintro _ _ a ⟨sl,ob,n⟩ _ b d f h _
 simp only[go_sem,seval,Zc] at d
 obtain ⟨⟨_,_,_⟩,g,_,hn⟩:=d
 subst hn
 have k:=WF.boxL f g (j:=2) rfl
 have:=ZA b
 have:=ZC b
 have:=Zj (ZB b) k
 simp only[*,go_sem,seval]
 refine Ze h (fun _ h=>?_) fun _ h=>?_<;>try simp only[*,go_sem,seval]
 obtain ⟨l,h⟩:=Zq h
 try simp only[Nat.reduceLeDiff] at l
 simp only[*,go_sem,seval]
 refine ⟨_,[],[0,306],(A1 h).symm,by decide,?_⟩
 simp only[*,go_sem,seval]
 refine ⟨_,[],[0,1],(A1 h).symm,by decide,?_⟩
 simp only[*,go_sem,seval]
 rintro a ⟨sl,ob,n⟩ e _ h
 simp only[go_sem,seval,Zc] at e
 obtain ⟨⟨_,_,_⟩,_,_,hn⟩:=e
 subst hn
 have:=Zy (r_0.cond.length)
 cases h
 simp only[*,go_sem,seval]
theorem ZpR {a:(List Int)} {b:Int} {r:(List Int)} (h:Zgk a b=some r):Zk prog J0 159 [(false,[.sl 3 1 (A0 ZI a)]),(false,[.int .i64 b])] [(false,[(false,.sl 3 1 (A0 ZI r))])]:=by
 refine fnk func159 rfl ?_
 unfold Zgk at h
 simp only[fnS,f159,Zm,go_sem,seval]
 refine Zi h (fun i s st=>match s with | (d,e)=>IV [(0,.p false [.c (.sl 3 1 (A0 ZI a))]),(1,.p false [.c (.int .i64 b)]),(5,.p false [.row 0]),(6,.p false [.c (.bool e)]),(7,.p false [.c (.int .i64 ((i:Nat):Int))])] [.row 3 1 (A0 ZI d) 2] st) [] [16] (by decide) ?_ ?_ ?_
 simp only[*,go_sem,seval]
 rintro _ _ ⟨d,e⟩ ⟨sl,ob,n⟩ _ f k m h _
 simp only[go_sem,seval,Zc] at k
 obtain ⟨⟨o,_,_,_,_⟩,_,hn⟩:=k
 subst hn
 have q:=WF.slotL m o (j:=0) rfl
 have:=ZA f
 have:=ZC f
 have:=Zj (ZB f) q
 simp only[*,go_sem,seval]
 refine Ze h (fun _ h=>?_) fun _ h=>?_<;>try simp only[*,go_sem,seval]
 obtain ⟨t,h⟩:=Zq h
 try simp only[Nat.reduceLeDiff] at t
 simp only[*,go_sem,seval]
 refine ⟨_,[],[321],(A1 h).symm,by decide,?_⟩
 simp only[*,go_sem,seval]
 iterate 2 refine Ze h (fun _ h=>?_) fun _ h=>?_<;>try simp only[*,go_sem,seval]
 obtain ⟨u,h⟩:=Zq h
 try simp only[Nat.reduceLeDiff] at u
 obtain ⟨v,h⟩:=Zq h
 try simp only[Nat.reduceLeDiff] at v
 simp only[*,go_sem,seval]
 refine ⟨_,[],[513],(A1 h).symm,by decide,?_⟩
 simp only[*,go_sem,seval]
 obtain ⟨w,h⟩:=Zq h
 try simp only[Nat.reduceLeDiff] at w
 simp only[*,go_sem,seval]
 refine ⟨_,[],[433],(A1 h).symm,by decide,?_⟩
 simp only[*,go_sem,seval]
 obtain ⟨x,h⟩:=Zq h
 try simp only[Nat.reduceLeDiff] at x
 simp only[*,go_sem,seval]
 refine ⟨_,[],[321],(A1 h).symm,by decide,?_⟩
 simp only[*,go_sem,seval]
 rintro ⟨d,e⟩ ⟨sl,ob,n⟩ l _ h
 simp only[go_sem,seval,Zc] at l
 obtain ⟨⟨_,_,_,_,_⟩,_,hn⟩:=l
 subst hn
 have:=Zy (a.length)
 simp only[*,go_sem,seval]
 refine Ze h (fun _ h=>?_) fun _ h=>?_<;>try simp only[*,go_sem,seval]
 cases h
 simp only[*,go_sem,seval]
 obtain ⟨y,h⟩:=Zq h
 try simp only[Nat.reduceLeDiff] at y
 cases h
 simp only[*,go_sem,seval]
theorem ZfS {a_0:(List Int)} {b_1:(List Int)} {r:Bool} (h:Zbi a_0 b_1=some r):Zk prog J0 259 [(false,[.sl 3 1 (A0 ZI a_0)]),(false,[.sl 3 1 (A0 ZI b_1)])] [(false,[(false,.bool r)])]:=by
 refine fnk func259 rfl ?_
 unfold Zbi at h
 simp only[fnS,f259,Zm,go_sem,seval]
 refine Ze h (fun _ h=>?_) fun _ h=>?_<;>try simp only[*,go_sem,seval]
 cases h
 simp only[*,go_sem,seval]
 refine Zi h (fun i _ st=>IV [(0,.p false [.c (.sl 3 1 (A0 ZI a_0))]),(1,.p false [.c (.sl 3 1 (A0 ZI b_1))]),(5,.p false [.c (.int .i64 ((i:Nat):Int))])] [] st) [] [] (by decide) ?_ ?_ ?_
 simp only[*,go_sem,seval]
 rintro _ _ ⟨⟩ ⟨sl,ob,n⟩ _ a b e h f
 simp only[go_sem,seval,Zc] at b
 obtain ⟨⟨g,_,_⟩,hn⟩:=b
 subst hn
 have k:=WF.slotL e g (j:=0) rfl
 have:=ZA a
 have:=ZC a
 have:=Zj (ZB a) k
 obtain ⟨_,_,_,l,h⟩:=ZbQ h
 simp only[AD] at l
 simp only[*,go_sem,seval]
 refine Ze h (fun _ h=>?_) fun _ h=>?_<;>try simp only[*,go_sem,seval]
 replace h:=Zn h f
 cases h
 simp only[*,go_sem,seval]
 refine ⟨_,[],[],(A1 h).symm,by decide,?_⟩
 simp only[*,go_sem,seval]
 rintro ⟨⟩ ⟨sl,ob,n⟩ d _ h
 simp only[go_sem,seval,Zc] at d
 obtain ⟨⟨_,_,_⟩,hn⟩:=d
 subst hn
 have:=Zy (a_0.length)
 cases h
 simp only[*,go_sem,seval]
theorem ZqB {l_0:(List Int)} {r:(List Int)} (h:ZiE l_0=some r):Zk prog J0 289 [(false,[.sl 3 1 (A0 ZI l_0)])] [(false,[(false,.sl 3 1 (A0 ZI r))])]:=by
 refine fnk func289 rfl ?_
 unfold ZiE at h
 simp only[fnS,f289,Zm,go_sem,seval]
 obtain ⟨_,h⟩:=Zq h
 cases h
 simp only[*,go_sem,seval]
theorem Zmj {l_0:(List Int)} {rounds_1:(List Int)} {round_2:Int} {r:Bool} (h:Zcz l_0 rounds_1 round_2=some r):Zk prog J0 294 [(false,[.sl 3 1 (A0 ZI l_0)]),(false,[.sl 3 1 (A0 ZI rounds_1)]),(false,[.int .i64 round_2])] [(false,[(false,.bool r)])]:=by
 refine fnk func294 rfl ?_
 unfold Zcz at h
 simp only[fnS,f294,Zm,go_sem,seval]
 refine Zi h (fun i _ st=>IV [(0,.p false [.c (.sl 3 1 (A0 ZI l_0))]),(1,.p false [.c (.sl 3 1 (A0 ZI rounds_1))]),(2,.p false [.c (.int .i64 round_2)]),(7,.p false [.c (.int .i64 ((i:Nat):Int))])] [] st) [] [] (by decide) ?_ ?_ ?_
 simp only[*,go_sem,seval]
 rintro _ _ ⟨⟩ ⟨sl,ob,n⟩ _ a b f h d
 simp only[go_sem,seval,Zc] at b
 obtain ⟨⟨g,_,_,_⟩,hn⟩:=b
 subst hn
 have k:=WF.slotL f g (j:=0) rfl
 have:=ZA a
 have:=ZC a
 have:=Zj (ZB a) k
 obtain ⟨_,_,_,_,h⟩:=ZbQ h
 simp only[*,go_sem,seval]
 refine Ze h (fun _ h=>?_) fun _ h=>?_<;>try simp only[*,go_sem,seval]
 replace h:=Zn h d
 cases h
 simp only[*,go_sem,seval]
 refine Ze h (fun _ h=>?_) fun _ h=>?_<;>try simp only[*,go_sem,seval]
 replace h:=Zn h d
 cases h
 simp only[*,go_sem,seval]
 refine ⟨_,[],[],(A1 h).symm,by decide,?_⟩
 simp only[*,go_sem,seval]
 rintro ⟨⟩ ⟨sl,ob,n⟩ e _ h
 simp only[go_sem,seval,Zc] at e
 obtain ⟨⟨_,_,_,_⟩,hn⟩:=e
 subst hn
 have:=Zy (l_0.length)
 cases h
 simp only[*,go_sem,seval]
theorem Zpl {l_0:(List Int)} {rounds_1:(List Int)} {r:Bool} (h:Ze5 l_0 rounds_1=some r):Zk prog J0 295 [(false,[.sl 3 1 (A0 ZI l_0)]),(false,[.sl 3 1 (A0 ZI rounds_1)])] [(false,[(false,.bool r)])]:=by
 refine fnk func295 rfl ?_
 unfold Ze5 at h
 simp only[fnS,f295,Zm,go_sem,seval]
 refine Zi h (fun i _ st=>IV [(0,.p false [.c (.sl 3 1 (A0 ZI l_0))]),(1,.p false [.c (.sl 3 1 (A0 ZI rounds_1))]),(5,.p false [.c (.int .i64 ((i:Nat):Int))])] [] st) [] [] (by decide) ?_ ?_ ?_
 simp only[*,go_sem,seval]
 rintro _ _ ⟨⟩ ⟨sl,ob,n⟩ _ a b e h f
 simp only[go_sem,seval,Zc] at b
 obtain ⟨⟨g,_,_⟩,hn⟩:=b
 subst hn
 have k:=WF.slotL e g (j:=0) rfl
 have:=ZA a
 have:=ZC a
 have:=Zj (ZB a) k
 obtain ⟨_,_,_,_,h⟩:=ZbQ h
 simp only[*,go_sem,seval]
 refine Ze h (fun _ h=>?_) fun _ h=>?_<;>try simp only[*,go_sem,seval]
 replace h:=Zn h f
 cases h
 simp only[*,go_sem,seval]
 refine ⟨_,[],[],(A1 h).symm,by decide,?_⟩
 simp only[*,go_sem,seval]
 rintro ⟨⟩ ⟨sl,ob,n⟩ d _ h
 simp only[go_sem,seval,Zc] at d
 obtain ⟨⟨_,_,_⟩,hn⟩:=d
 subst hn
 have:=Zy (l_0.length)
 cases h
 simp only[*,go_sem,seval]
theorem ZFM {code_0:(List Int)} {i_1:Int} {r:Int} (h:ZFL code_0 i_1=some r):Zk prog J0 23 [(false,[.sl 5 1 (A0 ZeK code_0)]),(false,[.int .i64 i_1])] [(false,[(false,.int .i64 r)])]:=by
 refine fnk func23 rfl ?_
 unfold ZFL at h
 simp only[fnS,f23,Zm,go_sem,seval]
 refine Ze h (fun _ h=>?_) fun _ h=>?_<;>try simp only[*,go_sem,seval]
 cases h
 simp only[*,go_sem,seval]
 obtain ⟨_,_,_,_,h⟩:=ZbQ h
 cases h
 simp only[*,go_sem,seval]
end
section
set_option linter.unusedSimpArgs false
set_option linter.unusedVariables false
set_option maxRecDepth 1000000
set_option maxHeartbeats 4000000
theorem Q7 {c_0:ZJ} {n_1:Int} {r:(Int × ZJ)} (h:Xv c_0 n_1=some r):Zbx prog J0 JF0 111 (.box 152 (Zbj c_0)) [(false,[.int .i64 n_1])] [(false,[(false,.int .i64 r.1)])] (.box 152 (Zbj r.2)):=by
 refine fnh func111 rfl ?_
 unfold Xv at h
 simp only[fnH,f111,Zdh,Zdg,Xp,go_sem,seval]
 refine Ze h (fun _ h=>?_) fun _ h=>?_<;>try simp only[*,go_sem,seval]
 cases h
 simp only[*,go_sem,seval]
 refine Ze h (fun _ h=>?_) fun _ h=>?_<;>try simp only[*,go_sem,seval]
 obtain ⟨_,a,h⟩:=Za h
 refine QL (Zef a) ?_
 obtain ⟨_,h⟩:=Zq h
 cases h
 simp only[*,go_sem,seval]
 obtain ⟨_,b,h⟩:=Za h
 refine QL (Zef b) ?_
 simp only[*,go_sem,seval]
 obtain ⟨_,c,h⟩:=Za h
 refine QL (Zef c) ?_
 simp only[*,go_sem,seval]
 obtain ⟨_,d,h⟩:=Za h
 refine QL (Zef d) ?_
 obtain ⟨_,h⟩:=Zq h
 cases h
 simp only[*,go_sem,seval]
theorem Zb1 {s_0:ByteArray} {r:(Int × Bool)} (h:Qe s_0=some r):Zk prog J0 144 [(false,[.str s_0])] [(false,[(false,.int .i64 r.1)]),(false,[(false,.bool r.2)])]:=by
 refine fnk func144 rfl ?_
 unfold Qe at h
 simp only[fnS,f144,Zm,go_sem,seval]
 refine ZMH h fun _ g h=>Zd (XU g) ?_
 simp only[*,go_sem,seval]
 refine Ze h (fun _ h=>?_) fun _ h=>?_<;>try simp only[*,go_sem,seval]
 refine Zi h (fun i a st=>IV [(0,.p false [.c (.str s_0)]),(4,.p false [.c (.int .i64 a)]),(5,.p false [.c (.int .i64 ((i:Nat):Int))])] [] st) [] [] (by decide) ?_ ?_ ?_
 simp only[*,go_sem,seval]
 rintro _ _ a ⟨sl,ob,n⟩ _ b d k h e
 simp only[go_sem,seval,Zc] at d
 obtain ⟨⟨l,_,_⟩,hn⟩:=d
 subst hn
 have m:=WF.slotS k l (j:=0) rfl
 have:=Zpp b
 have:=Zva b
 have:=Zj (Zta b) m
 simp only[*,go_sem,seval]
 refine Ze h (fun _ h=>?_) fun _ h=>?_<;>try simp only[*,go_sem,seval]
 replace h:=Zn h e
 cases h
 simp only[*,go_sem,seval]
 refine Ze h (fun _ h=>?_) fun _ h=>?_<;>try simp only[*,go_sem,seval]
 replace h:=Zn h e
 cases h
 simp only[*,go_sem,seval]
 refine ⟨_,[],[],(A1 h).symm,by decide,?_⟩
 simp only[*,go_sem,seval]
 rintro a ⟨sl,ob,n⟩ f _ h
 simp only[go_sem,seval,Zc] at f
 obtain ⟨⟨_,_,_⟩,hn⟩:=f
 subst hn
 have:=Zy (s_0.size)
 simp only[*,go_sem,seval]
 refine ZMH h fun _ o h=>Zd (ZgG o) ?_
 simp only[*,go_sem,seval]
 refine Ze h (fun _ h=>?_) fun _ h=>?_<;>try simp only[*,go_sem,seval]
 iterate 3 (cases h;simp only[*,go_sem,seval])
theorem X0 {s_0:ByteArray} {r:Bool} (h:Qk s_0=some r):Zk prog J0 143 [(false,[.str s_0])] [(false,[(false,.bool r)])]:=by
 refine fnk func143 rfl ?_
 unfold Qk at h
 simp only[fnS,f143,Zm,go_sem,seval]
 refine Zi h (fun i _ st=>IV [(0,.p false [.c (.str s_0)]),(3,.p false [.c (.int .i64 ((i:Nat):Int))])] [] st) [] [] (by decide) ?_ ?_ ?_
 simp only[*,go_sem,seval]
 rintro _ _ ⟨⟩ ⟨sl,ob,n⟩ _ a b e h f
 simp only[go_sem,seval,Zc] at b
 obtain ⟨⟨g,_⟩,hn⟩:=b
 subst hn
 have k:=WF.slotS e g (j:=0) rfl
 have:=Zpp a
 have:=Zva a
 have:=Zj (Zta a) k
 simp only[*,go_sem,seval]
 refine ZMH h fun _ l h=>Zd (XU l) ?_
 simp only[*,go_sem,seval]
 refine Ze h (fun _ h=>?_) fun _ h=>?_<;>try simp only[*,go_sem,seval]
 refine ⟨_,[],[],(A1 h).symm,by decide,?_⟩
 simp only[*,go_sem,seval]
 refine ZMH h fun _ m h=>Zd (XU m) ?_
 simp only[*,go_sem,seval]
 refine Ze h (fun _ h=>?_) fun _ h=>?_<;>try simp only[*,go_sem,seval]
 refine ⟨_,[],[],(A1 h).symm,by decide,?_⟩
 simp only[*,go_sem,seval]
 replace h:=Zn h f
 cases h
 simp only[*,go_sem,seval]
 rintro ⟨⟩ ⟨sl,ob,n⟩ d _ h
 simp only[go_sem,seval,Zc] at d
 obtain ⟨⟨_,_⟩,hn⟩:=d
 subst hn
 have:=Zy (s_0.size)
 simp only[*,go_sem,seval]
 refine ZMH h fun _ o h=>Zd (XU o) ?_
 cases h
 simp only[*,go_sem,seval]
theorem ZoF {s_0:ByteArray} {r:(ByteArray × (List ByteArray) × Bool)} (h:ZeH s_0=some r):Zk prog J0 343 [(false,[.str s_0])] [(false,[(false,.str r.1)]),(false,[(false,.sl 9 1 (A0 Zx r.2.1))]),(false,[(false,.bool r.2.2)])]:=by
 refine fnk func343 rfl ?_
 unfold ZeH at h
 have a:Z9 ⟨#[40]⟩=true:=by decide
 have b:Z9 ⟨#[44]⟩=true:=by decide
 have c:Z9 ⟨#[]⟩=true:=by decide
 simp only[fnS,f343,Zm,go_sem,seval,a,b,c]
 refine ZMH h fun _ d h=>Zd (Qd d) ?_
 simp only[*,go_sem,seval]
 refine Ze h (fun _ h=>?_) fun _ h=>?_<;>try simp only[*,go_sem,seval]
 cases h
 simp only[*,go_sem,seval]
 obtain ⟨_,h⟩:=Zq h
 obtain ⟨_,e,h⟩:=Za h
 try simp only[seval] at e
 simp only[*,go_sem,seval]
 refine Ze h (fun _ h=>?_) fun _ h=>?_<;>try simp only[*,go_sem,seval]
 cases h
 simp only[*,go_sem,seval]
 obtain ⟨_,_,_,h⟩:=ZpS h
 simp only[*,go_sem,seval]
 refine Ze h (fun _ h=>?_) fun _ h=>?_<;>try simp only[*,go_sem,seval]
 cases h
 simp only[*,go_sem,seval]
 obtain ⟨_,h⟩:=Zq h
 simp only[*,go_sem,seval]
 refine Ze h (fun _ h=>?_) fun _ h=>?_<;>try simp only[*,go_sem,seval]
 obtain ⟨_,h⟩:=Zq h
 obtain ⟨_,f,h⟩:=Za h
 try simp only[seval] at f
 cases h
 simp only[*,go_sem,seval]
 obtain ⟨_,h⟩:=Zq h
 obtain ⟨_,g,h⟩:=Za h
 try simp only[seval] at g
 simp only[*,go_sem,seval]
 refine ZMH h fun _ i h=>Zd (Qd i) ?_
 cases h
 simp only[*,go_sem,seval]
theorem Xa {f_0:Zb} {r:Zb} (h:Xj f_0=some r):Zk prog J0 81 [(true,Zl f_0)] [(true,[(false,.str r.rel),(false,.sl 9 1 (A0 Zx r.args))])]:=by
 refine fnk func81 rfl ?_
 unfold Xj at h
 simp only[fnS,f81,Zm,go_sem,seval]
 refine ZMH h fun _ a h=>Zd (ZpE a) ?_
 cases h
 simp only[*,go_sem,seval]
theorem Zgl {s_0:ByteArray} {r:Bool} (h:Zd1 s_0=some r):Zk prog J0 195 [(false,[.str s_0])] [(false,[(false,.bool r)])]:=by
 refine fnk func195 rfl ?_
 unfold Zd1 at h
 simp only[fnS,f195,Zm,go_sem,seval]
 refine ZMH h fun _ a h=>Zd (X4 a) ?_
 simp only[*,go_sem,seval]
 refine Ze h (fun _ h=>?_) fun _ h=>?_<;>try simp only[*,go_sem,seval]
 obtain ⟨_,_,b,h⟩:=ZpS h
 try simp only[seval] at b
 iterate 2 (cases h;simp only[*,go_sem,seval])
theorem Zcf {s_0:ByteArray} {r:(Int × Bool)} (h:QE s_0=some r):Zk prog J0 266 [(false,[.str s_0])] [(false,[(false,.int .i64 r.1)]),(false,[(false,.bool r.2)])]:=by
 refine fnk func266 rfl ?_
 unfold QE at h
 simp only[fnS,f266,Zm,go_sem,seval]
 refine Ze h (fun _ h=>?_) fun _ h=>?_<;>try simp only[*,go_sem,seval]
 ·cases h
  simp only[*,go_sem,seval]
 ·refine Ze h (fun _ h=>?_) fun _ h=>?_<;>try simp only[*,go_sem,seval]
  ·cases h
   simp only[*,go_sem,seval]
  ·refine ZMH h fun v1 e3 h=>Zd (Zt2 e3) ?_
   simp only[*,go_sem,seval]
   refine Ze h (fun _ h=>?_) fun _ h=>?_<;>try simp only[*,go_sem,seval]
   ·refine Ze h (fun _ h=>?_) fun _ h=>?_<;>try simp only[*,go_sem,seval]
    ·cases h
     simp only[*,go_sem,seval]
    ·refine Ze h (fun _ h=>?_) fun _ h=>?_<;>try simp only[*,go_sem,seval]
     ·cases h
      simp only[*,go_sem,seval]
     ·refine ZMH h fun v2 e7 h=>Zd (ZkY e7) ?_
      simp only[*,go_sem,seval]
      refine Ze h (fun _ h=>?_) fun _ h=>?_<;>try simp only[*,go_sem,seval]
      ·cases h
       simp only[*,go_sem,seval]
      ·cases h
       simp only[*,go_sem,seval]
   ·cases h
    simp only[*,go_sem,seval]
theorem Zdc {s_0:ByteArray} {r:Bool} (h:ZcP s_0=some r):Zk prog J0 207 [(false,[.str s_0])] [(false,[(false,.bool r)])]:=by
 refine fnk func207 rfl ?_
 unfold ZcP at h
 simp only[fnS,f207,Zm,go_sem,seval]
 refine Ze h (fun _ h=>?_) fun _ h=>?_<;>try simp only[*,go_sem,seval]
 obtain ⟨_,_,a,h⟩:=ZpS h
 try simp only[seval] at a
 simp only[*,go_sem,seval]
 refine Ze h (fun _ h=>?_) fun _ h=>?_<;>try simp only[*,go_sem,seval]
 obtain ⟨_,h⟩:=Zq h
 simp only[*,go_sem,seval]
 refine ZMH h fun _ b h=>Zd (X4 b) ?_
 iterate 3 (cases h;simp only[*,go_sem,seval])
theorem ZmL {a_0:Zb} {b_1:Zb} {r:Bool} (h:ZbR a_0 b_1=some r):Zk prog J0 139 [(true,Zl a_0),(true,Zl b_1)] [(false,[(false,.bool r)])]:=by
 refine fnk func139 rfl ?_
 unfold ZbR at h
 simp only[fnS,f139,Zm,go_sem,seval]
 refine Ze h (fun _ h=>?_) fun _ h=>?_<;>try simp only[*,go_sem,seval]
 refine ZMH h fun _ a h=>Zd (Zls a) ?_
 iterate 2 (cases h;simp only[*,go_sem,seval])
theorem ZpH {x_0:Zt} {r:(List ByteArray)} (h:Zhu x_0=some r):Zk prog J0 268 [(true,ZK x_0)] [(false,[(false,.sl 9 1 (A0 Zx r))])]:=by
 refine fnk func268 rfl ?_
 unfold Zhu at h
 simp only[fnS,f268,Zm,go_sem,seval]
 refine ZMH h fun _ a h=>Zd (Zgx a) ?_
 obtain ⟨b,h⟩:=Zq h
 try simp only[Nat.reduceLeDiff] at b
 cases h
 simp only[*,go_sem,seval]
theorem ZhN {r_0:Zg} {r:(List ByteArray)} (h:Qf r_0=some r):Zk prog J0 78 [(true,ZF r_0)] [(false,[(false,.sl 9 1 (A0 Zx r))])]:=by
 refine fnk func78 rfl ?_
 unfold Qf at h
 simp only[fnS,f78,Zm,go_sem,seval]
 refine Zi h (fun i a st=>IV [(3,.p false [.row 0]),(7,.p false [.c (.sl 50 3 (A0 ZG r_0.thn))]),(8,.p false [.c (.int .i64 ((r_0.thn.length:Nat):Int))]),(9,.p false [.c (.int .i64 ((i:Nat):Int))])] [.row 9 1 (A0 Zx a) 2] st) [(false,3,0)] [112] (by decide) ?_ ?_ ?_
 simp only[*,go_sem,seval]
 rintro _ _ a ⟨sl,ob,n⟩ _ b d f h _
 simp only[go_sem,seval,Zc] at d
 obtain ⟨⟨_,g,_,_⟩,_,hn⟩:=d
 subst hn
 have k:=WF.slotL f g (j:=0) rfl
 have:=ZA b
 have:=ZC b
 have:=Zj (ZB b) k
 simp only[*,go_sem,seval]
 refine Ze h (fun _ h=>?_) fun _ h=>?_<;>try simp only[*,go_sem,seval]
 obtain ⟨l,h⟩:=Zq h
 try simp only[Nat.reduceLeDiff] at l
 simp only[*,go_sem,seval]
 refine ⟨_,[],[289],(A1 h).symm,by decide,?_⟩
 simp only[*,go_sem,seval]
 refine Ze h (fun _ h=>?_) fun _ h=>?_<;>try simp only[*,go_sem,seval]
 obtain ⟨m,h⟩:=Zq h
 try simp only[Nat.reduceLeDiff] at m
 simp only[*,go_sem,seval]
 refine ⟨_,[],[289],(A1 h).symm,by decide,?_⟩
 simp only[*,go_sem,seval]
 refine ⟨_,[],[0],(A1 h).symm,by decide,?_⟩
 simp only[*,go_sem,seval]
 rintro a ⟨sl,ob,n⟩ e _ h
 simp only[go_sem,seval,Zc] at e
 obtain ⟨⟨_,_,_,_⟩,_,hn⟩:=e
 subst hn
 have:=Zy (r_0.thn.length)
 simp only[*,go_sem,seval]
 refine ZMH h fun _ o h=>Zd (XX o) ?_
 cases h
 simp only[*,go_sem,seval]
theorem Zo9 {r_0:Zg} {r:(List ByteArray)} (h:ZbX r_0=some r):Zk prog J0 146 [(true,ZF r_0)] [(false,[(false,.sl 9 1 (A0 Zx r))])]:=by
 refine fnk func146 rfl ?_
 unfold ZbX at h
 simp only[fnS,f146,Zm,go_sem,seval]
 refine Zi h (fun i a st=>IV [(3,.p false [.row 0]),(7,.p false [.c (.sl 173 5 (A0 ZK r_0.cond))]),(8,.p false [.c (.int .i64 ((r_0.cond.length:Nat):Int))]),(9,.p false [.c (.int .i64 ((i:Nat):Int))])] [.row 9 1 (A0 Zx a) 2] st) [(false,3,0)] [112] (by decide) ?_ ?_ ?_
 simp only[*,go_sem,seval]
 rintro _ _ a ⟨sl,ob,n⟩ _ b d f h _
 simp only[go_sem,seval,Zc] at d
 obtain ⟨⟨_,g,_,_⟩,_,hn⟩:=d
 subst hn
 have k:=WF.slotL f g (j:=0) rfl
 have:=ZA b
 have:=ZC b
 have:=Zj (ZB b) k
 simp only[*,go_sem,seval]
 refine Ze h (fun _ h=>?_) fun _ h=>?_<;>try simp only[*,go_sem,seval]
 obtain ⟨l,h⟩:=Zq h
 try simp only[Nat.reduceLeDiff] at l
 simp only[*,go_sem,seval]
 refine ⟨_,[],[289],(A1 h).symm,by decide,?_⟩
 simp only[*,go_sem,seval]
 refine Ze h (fun _ h=>?_) fun _ h=>?_<;>try simp only[*,go_sem,seval]
 obtain ⟨m,h⟩:=Zq h
 try simp only[Nat.reduceLeDiff] at m
 simp only[*,go_sem,seval]
 refine ⟨_,[],[289],(A1 h).symm,by decide,?_⟩
 simp only[*,go_sem,seval]
 refine ⟨_,[],[0],(A1 h).symm,by decide,?_⟩
 simp only[*,go_sem,seval]
 rintro a ⟨sl,ob,n⟩ e _ h
 simp only[go_sem,seval,Zc] at e
 obtain ⟨⟨_,_,_,_⟩,_,hn⟩:=e
 subst hn
 have:=Zy (r_0.cond.length)
 simp only[*,go_sem,seval]
 refine ZMH h fun _ o h=>Zd (XX o) ?_
 cases h
 simp only[*,go_sem,seval]
theorem YO {f_0:Zb} {r:Zb} (h:YA f_0=some r):Zk prog J0 115 [(true,Zl f_0)] [(true,[(false,.str r.rel),(false,.sl 9 1 (A0 Zx r.args))])]:=by
 refine fnk func115 rfl ?_
 unfold YA at h
 simp only[fnS,f115,Zm,go_sem,seval]
 refine ZMH h fun _ a h=>Zd (Zgx a) ?_
 cases h
 simp only[*,go_sem,seval]
theorem ZkG {a_0:Zf} {b_1:Zf} {r:Bool} (h:Zbw a_0 b_1=some r):Zk prog J0 256 [(true,ZE a_0),(true,ZE b_1)] [(false,[(false,.bool r)])]:=by
 refine fnk func256 rfl ?_
 unfold Zbw at h
 simp only[fnS,f256,Zm,go_sem,seval]
 refine Ze h (fun _ h=>?_) fun _ h=>?_<;>try simp only[*,go_sem,seval]
 refine ZMH h fun _ a h=>Zd (ZhM a) ?_
 simp only[*,go_sem,seval]
 refine Ze h (fun _ h=>?_) fun _ h=>?_<;>try simp only[*,go_sem,seval]
 refine ZMH h fun _ b h=>Zd (ZhM b) ?_
 iterate 3 (cases h;simp only[*,go_sem,seval])
theorem Zqy {append_0:Zr} {r:(List Int)} (h:ZfZ append_0=some r):Zk prog J0 191 [(true,XY append_0)] [(false,[(false,.sl 3 1 (A0 ZI r))])]:=by
 refine fnk func191 rfl ?_
 unfold ZfZ at h
 simp only[fnS,f191,Zm,go_sem,seval]
 refine ZMH h fun v1 e1 h=>Zd (Zp7 e1) ?_
 obtain ⟨p2,h⟩:=Zq h
 simp only[*,go_sem,seval]
 refine Yo h (fun s st=>match s with | (row_4,u_5,u_6)=>IV [(1,.bp 0 0),(3,.p false [.row 1]),(4,.p false [.row 2]),(5,.p false [.c (.int .i64 u_6)]),(20,.p false [.c (.int .i64 ((Int.toNat append_0.nodes:Nat):Int))]),(21,.p false [.c (.int .i64 u_5)])] [.box 64 [.c (.int .i64 append_0.nodes),.c (.sl 199 3 (A0 ZE append_0.reasons))],.row 3 1 (A0 ZI v1) 2,.row 3 1 (A0 ZI row_4) 2] st) [] [0,48,112] (by decide) ?_ ?_
 ·simp only[*,go_sem,seval]
 ·rintro ⟨row_4,u_5,u_6⟩ ⟨sl,ob,n⟩ y3 hI4 hW5 h hy3
  simp only[go_sem,seval,Zc] at hI4
  obtain ⟨⟨g6_1,g6_3,g6_4,g6_5,g6_20,g6_21⟩,og6_0,og6_1,og6_2,hn⟩:=hI4
  subst hn
  simp only[*,go_sem,seval]
  refine Ze h (fun _ h=>?_) fun _ h=>?_<;>try simp only[*,go_sem,seval]
  ·obtain ⟨p8,h⟩:=Zq h
   obtain ⟨x7,e9,h⟩:=Za h
   obtain ⟨p10,h⟩:=Zq h
   obtain ⟨x8,e11,h⟩:=Za h
   simp only[*,go_sem,seval]
   refine ⟨_,[],[0,1,2],(A1 h).symm,by decide,?_⟩
   simp only[*,go_sem,seval]
  ·refine Yo h (fun s st=>match s with | (row_84,u_85,u_46)=>IV [(1,.bp 0 0),(3,.p false [.row 1]),(4,.p false [.row 2]),(5,.p false [.c (.int .i64 u_6)]),(7,.p false [.c (.int .i64 u_85)]),(8,.p false [.c (.int .i64 u_46)])] [.box 64 [.c (.int .i64 append_0.nodes),.c (.sl 199 3 (A0 ZE append_0.reasons))],.row 3 1 (A0 ZI v1) 2,.row 3 1 (A0 ZI row_84) 2] st) [] [0,1,2] (by decide) ?_ ?_
   ·simp only[*,go_sem,seval]
   ·rintro ⟨row_84,u_85,u_46⟩ ⟨sl,ob,n⟩ y12 hI13 hW14 h hy12
    simp only[go_sem,seval,Zc] at hI13
    obtain ⟨⟨g15_1,g15_3,g15_4,g15_5,g15_7,g15_8⟩,og15_0,og15_1,og15_2,hn⟩:=hI13
    subst hn
    simp only[*,go_sem,seval]
    refine Ze h (fun _ h=>?_) fun _ h=>?_<;>try simp only[*,go_sem,seval]
    ·refine Zi h (fun i row_94 st=>IV [(1,.bp 0 0),(3,.p false [.row 1]),(4,.p false [.row 2]),(5,.p false [.c (.int .i64 u_6)]),(7,.p false [.c (.int .i64 u_85)]),(8,.p false [.c (.int .i64 u_46)]),(9,.p false [.row 3]),(38,.p false [.c (.sl 199 3 (A0 ZE append_0.reasons))]),(39,.p false [.c (.int .i64 ((append_0.reasons.length:Nat):Int))]),(40,.p false [.c (.int .i64 ((i:Nat):Int))])] [.box 64 [.c (.int .i64 append_0.nodes),.c (.sl 199 3 (A0 ZE append_0.reasons))],.row 3 1 (A0 ZI v1) 2,.row 3 1 (A0 ZI row_84) 2,.row 3 1 (A0 ZI row_94) 2] st) [(false,9,0)] [0,1,2,131] (by decide) ?_ ?_ ?_
     ·simp only[*,go_sem,seval]
     ·rintro i109 x110 row_94 ⟨sl,ob,n⟩ y17 hx18 hI19 hW20 h hy17
      simp only[go_sem,seval,Zc] at hI19
      obtain ⟨⟨g21_1,g21_3,g21_4,g21_5,g21_7,g21_8,g21_9,g21_38,g21_39,g21_40⟩,og21_0,og21_1,og21_2,og21_3,hn⟩:=hI19
      subst hn
      have hlhx18:=WF.slotL hW20 g21_38 (j:=0) rfl
      have q22:=ZA hx18
      have q23:=ZC hx18
      have q24:=Zj (ZB hx18) hlhx18
      obtain ⟨p25,h⟩:=Zq h
      obtain ⟨x111,e26,h⟩:=Za h
      simp only[*,go_sem,seval]
      refine Ze h (fun _ h=>?_) fun _ h=>?_<;>try simp only[*,go_sem,seval]
      ·obtain ⟨p28,h⟩:=Zq h
       obtain ⟨x112,e29,h⟩:=Za h
       simp only[*,go_sem,seval]
       refine Ze h (fun _ h=>?_) fun _ h=>?_<;>try simp only[*,go_sem,seval]
       ·refine ZMH h fun v113 e31 h=>Zd (ZlJ e31) ?_
        simp only[*,go_sem,seval]
        refine Ze h (fun _ h=>?_) fun _ h=>?_<;>try simp only[*,go_sem,seval]
        ·obtain ⟨p33,h⟩:=Zq h
         try simp only[Nat.reduceLeDiff] at p33
         simp only[*,go_sem,seval]
         refine ⟨_,[],[0,1,2,484],(A1 h).symm,by decide,?_⟩
         simp only[*,go_sem,seval]
        ·refine ⟨_,[],[0,1,2,3],(A1 h).symm,by decide,?_⟩
         simp only[*,go_sem,seval]
       ·refine ⟨_,[],[0,1,2,3],(A1 h).symm,by decide,?_⟩
        simp only[*,go_sem,seval]
      ·refine ⟨_,[],[0,1,2,3],(A1 h).symm,by decide,?_⟩
       simp only[*,go_sem,seval]
     ·rintro row_94 ⟨sl,ob,n⟩ hI34 hW35 h
      simp only[go_sem,seval,Zc] at hI34
      obtain ⟨⟨g36_1,g36_3,g36_4,g36_5,g36_7,g36_8,g36_9,g36_38,g36_39,g36_40⟩,og36_0,og36_1,og36_2,og36_3,hn⟩:=hI34
      subst hn
      have q37:=Zy (append_0.reasons.length)
      simp only[*,go_sem,seval]
      refine Ze h (fun _ h=>?_) fun _ h=>?_<;>try simp only[*,go_sem,seval]
      ·refine ⟨_,[],[0,1,2],(A1 h).symm,by decide,?_⟩
       simp only[*,go_sem,seval]
      ·refine Zi h (fun i row_116 st=>IV [(1,.bp 0 0),(3,.p false [.row 1]),(4,.p false [.row 2]),(5,.p false [.c (.int .i64 u_6)]),(7,.p false [.c (.int .i64 u_85)]),(8,.p false [.c (.int .i64 u_46)]),(76,.p false [.row 3]),(77,.p false [.c (.int .i64 ((row_94.length:Nat):Int))]),(78,.p false [.c (.int .i64 ((i:Nat):Int))])] [.box 64 [.c (.int .i64 append_0.nodes),.c (.sl 199 3 (A0 ZE append_0.reasons))],.row 3 1 (A0 ZI v1) 2,.row 3 1 (A0 ZI row_116) 2,.row 3 1 (A0 ZI row_94) 2] st) [] [0,1,2,3] (by decide) ?_ ?_ ?_
       ·simp only[*,go_sem,seval]
       ·rintro i120 x121 row_116 ⟨sl,ob,n⟩ y39 hx40 hI41 hW42 h hy39
        simp only[go_sem,seval,Zc] at hI41
        obtain ⟨⟨g43_1,g43_3,g43_4,g43_5,g43_7,g43_8,g43_76,g43_77,g43_78⟩,og43_0,og43_1,og43_2,og43_3,hn⟩:=hI41
        subst hn
        have hlhx40:=WF.rowL hW42 og43_3
        have q44:=ZA hx40
        have q45:=ZC hx40
        have q46:=Zj (ZB hx40) hlhx40
        obtain ⟨p47,h⟩:=Zq h
        obtain ⟨x122,e48,h⟩:=Za h
        simp only[*,go_sem,seval]
        refine ⟨_,[],[0,1,2,3],(A1 h).symm,by decide,?_⟩
        simp only[*,go_sem,seval]
       ·rintro row_116 ⟨sl,ob,n⟩ hI49 hW50 h
        simp only[go_sem,seval,Zc] at hI49
        obtain ⟨⟨g51_1,g51_3,g51_4,g51_5,g51_7,g51_8,g51_76,g51_77,g51_78⟩,og51_0,og51_1,og51_2,og51_3,hn⟩:=hI49
        subst hn
        have q52:=Zy (row_94.length)
        simp only[*,go_sem,seval]
        refine ⟨_,[],[0,1,2],(A1 h).symm,by decide,?_⟩
        simp only[*,go_sem,seval]
    ·replace h:=Zn h hy12
     replace h:=Zn h hy3
     cases h
     simp only[*,go_sem,seval]
theorem Zry {a_0:Zb} {b_1:Zb} {r:Bool} (h:Zmh a_0 b_1=some r):Zk prog J0 80 [(true,Zl a_0),(true,Zl b_1)] [(false,[(false,.bool r)])]:=by
 refine fnk func80 rfl ?_
 unfold Zmh at h
 simp only[fnS,f80,Zm,go_sem,seval]
 refine Ze h (fun _ h=>?_) fun _ h=>?_<;>try simp only[*,go_sem,seval]
 refine ZMH h fun _ a h=>Zd (ZjC a) ?_
 iterate 2 (cases h;simp only[*,go_sem,seval])
theorem Znk {a_0:(List ByteArray)} {b_1:(List ByteArray)} {r:Bool} (h:Zdm a_0 b_1=some r):Zk prog J0 276 [(false,[.sl 9 1 (A0 Zx a_0)]),(false,[.sl 9 1 (A0 Zx b_1)])] [(false,[(false,.bool r)])]:=by
 refine fnk func276 rfl ?_
 unfold Zdm at h
 simp only[fnS,f276,Zm,go_sem,seval]
 refine Zi h (fun i _ st=>IV [(0,.p false [.c (.sl 9 1 (A0 Zx a_0))]),(1,.p false [.c (.sl 9 1 (A0 Zx b_1))]),(5,.p false [.c (.int .i64 ((i:Nat):Int))])] [] st) [] [] (by decide) ?_ ?_ ?_
 simp only[*,go_sem,seval]
 rintro _ _ ⟨⟩ ⟨sl,ob,n⟩ _ a b e h f
 simp only[go_sem,seval,Zc] at b
 obtain ⟨⟨g,_,_⟩,hn⟩:=b
 subst hn
 have k:=WF.slotL e g (j:=0) rfl
 have:=ZA a
 have:=ZC a
 have:=Zj (ZB a) k
 simp only[*,go_sem,seval]
 refine ZMH h fun _ l h=>Zd (Yz l) ?_
 simp only[*,go_sem,seval]
 refine Ze h (fun _ h=>?_) fun _ h=>?_<;>try simp only[*,go_sem,seval]
 refine ⟨_,[],[],(A1 h).symm,by decide,?_⟩
 simp only[*,go_sem,seval]
 replace h:=Zn h f
 cases h
 simp only[*,go_sem,seval]
 rintro ⟨⟩ ⟨sl,ob,n⟩ d _ h
 simp only[go_sem,seval,Zc] at d
 obtain ⟨⟨_,_,_⟩,hn⟩:=d
 subst hn
 have:=Zy (a_0.length)
 cases h
 simp only[*,go_sem,seval]
theorem ZhE {r_0:Zg} {r:(List ByteArray)} (h:QR r_0=some r):Zk prog J0 235 [(true,ZF r_0)] [(false,[(false,.sl 9 1 (A0 Zx r))])]:=by
 refine fnk func235 rfl ?_
 unfold QR at h
 simp only[fnS,f235,Zm,go_sem,seval]
 refine Zi h (fun i a st=>IV [(1,.bp 0 0),(3,.p false [.row 1]),(4,.p false [.c (.int .i64 ((i:Nat):Int))])] [.box 42 [.c (.str r_0.name),.c (.int .i64 r_0.priority),.c (.sl 173 5 (A0 ZK r_0.cond)),.c (.sl 50 3 (A0 ZG r_0.thn))],.row 9 1 (A0 Zx a) 2] st) [] [0,32] (by decide) ?_ ?_ ?_
 simp only[*,go_sem,seval]
 rintro _ _ a ⟨sl,ob,n⟩ _ b d f h _
 simp only[go_sem,seval,Zc] at d
 obtain ⟨⟨_,_,_⟩,g,_,hn⟩:=d
 subst hn
 have k:=WF.boxL f g (j:=3) rfl
 have:=ZA b
 have:=ZC b
 have:=Zj (ZB b) k
 simp only[*,go_sem,seval]
 refine Ze h (fun _ h=>?_) fun _ h=>?_<;>try simp only[*,go_sem,seval]
 refine ZMH h fun _ l h=>Zd (Xg l) ?_
 simp only[*,go_sem,seval]
 refine ⟨_,[],[0,466],(A1 h).symm,by decide,?_⟩
 simp only[*,go_sem,seval]
 refine Ze h (fun _ h=>?_) fun _ h=>?_<;>try simp only[*,go_sem,seval]
 refine ZMH h fun _ m h=>Zd (Xg m) ?_
 simp only[*,go_sem,seval]
 refine ⟨_,[],[0,466],(A1 h).symm,by decide,?_⟩
 simp only[*,go_sem,seval]
 refine ⟨_,[],[0,1],(A1 h).symm,by decide,?_⟩
 simp only[*,go_sem,seval]
 rintro a ⟨sl,ob,n⟩ e _ h
 simp only[go_sem,seval,Zc] at e
 obtain ⟨⟨_,_,_⟩,_,_,hn⟩:=e
 subst hn
 have:=Zy (r_0.thn.length)
 cases h
 simp only[*,go_sem,seval]
theorem Zpg {r_0:Zg} {r:(List ByteArray)} (h:ZbY r_0=some r):Zk prog J0 277 [(true,ZF r_0)] [(false,[(false,.sl 9 1 (A0 Zx r))])]:=by
 refine fnk func277 rfl ?_
 unfold ZbY at h
 simp only[fnS,f277,Zm,go_sem,seval]
 refine Zi h (fun i a st=>IV [(1,.bp 0 0),(3,.p false [.row 1]),(4,.p false [.c (.int .i64 ((i:Nat):Int))])] [.box 42 [.c (.str r_0.name),.c (.int .i64 r_0.priority),.c (.sl 173 5 (A0 ZK r_0.cond)),.c (.sl 50 3 (A0 ZG r_0.thn))],.row 9 1 (A0 Zx a) 2] st) [] [0,32] (by decide) ?_ ?_ ?_
 simp only[*,go_sem,seval]
 rintro _ _ a ⟨sl,ob,n⟩ _ b d f h _
 simp only[go_sem,seval,Zc] at d
 obtain ⟨⟨_,_,_⟩,g,_,hn⟩:=d
 subst hn
 have k:=WF.boxL f g (j:=2) rfl
 have:=ZA b
 have:=ZC b
 have:=Zj (ZB b) k
 simp only[*,go_sem,seval]
 refine Ze h (fun _ h=>?_) fun _ h=>?_<;>try simp only[*,go_sem,seval]
 refine ZMH h fun _ l h=>Zd (Xg l) ?_
 simp only[*,go_sem,seval]
 refine ⟨_,[],[0,466],(A1 h).symm,by decide,?_⟩
 simp only[*,go_sem,seval]
 refine Ze h (fun _ h=>?_) fun _ h=>?_<;>try simp only[*,go_sem,seval]
 refine ZMH h fun _ m h=>Zd (Xg m) ?_
 simp only[*,go_sem,seval]
 refine ⟨_,[],[0,466],(A1 h).symm,by decide,?_⟩
 simp only[*,go_sem,seval]
 refine ⟨_,[],[0,1],(A1 h).symm,by decide,?_⟩
 simp only[*,go_sem,seval]
 rintro a ⟨sl,ob,n⟩ e _ h
 simp only[go_sem,seval,Zc] at e
 obtain ⟨⟨_,_,_⟩,_,_,hn⟩:=e
 subst hn
 have:=Zy (r_0.cond.length)
 cases h
 simp only[*,go_sem,seval]
theorem Zo7 {l_0:(List Zf)} {r_1:Zf} {r:Int} (h:ZeD l_0 r_1=some r):Zk prog J0 193 [(false,[.sl 199 3 (A0 ZE l_0)]),(true,ZE r_1)] [(false,[(false,.int .i64 r)])]:=by
 refine fnk func193 rfl ?_
 unfold ZeD at h
 simp only[fnS,f193,Zm,go_sem,seval]
 refine Zi h (fun i _ st=>IV [(0,.p false [.c (.sl 199 3 (A0 ZE l_0))]),(3,.bp 0 0),(5,.p false [.c (.int .i64 ((i:Nat):Int))])] [.box 199 [.c (.int .i64 r_1.for_),.c (.sl 3 1 (A0 ZI r_1.inn)),.c (.sl 3 1 (A0 ZI r_1.outs))]] st) [] [0] (by decide) ?_ ?_ ?_
 simp only[*,go_sem,seval]
 rintro _ _ ⟨⟩ ⟨sl,ob,n⟩ _ a b e h f
 simp only[go_sem,seval,Zc] at b
 obtain ⟨⟨g,_,_⟩,_,hn⟩:=b
 subst hn
 have k:=WF.slotL e g (j:=0) rfl
 have:=ZA a
 have:=ZC a
 have:=Zj (ZB a) k
 simp only[*,go_sem,seval]
 refine Ze h (fun _ h=>?_) fun _ h=>?_<;>try simp only[*,go_sem,seval]
 refine ZMH h fun _ l h=>Zd (ZfS l) ?_
 simp only[*,go_sem,seval]
 refine Ze h (fun _ h=>?_) fun _ h=>?_<;>try simp only[*,go_sem,seval]
 refine ZMH h fun _ m h=>Zd (ZfS m) ?_
 simp only[*,go_sem,seval]
 refine Ze h (fun _ h=>?_) fun _ h=>?_<;>try simp only[*,go_sem,seval]
 replace h:=Zn h f
 cases h
 simp only[*,go_sem,seval]
 refine ⟨_,[],[0],(A1 h).symm,by decide,?_⟩
 simp only[*,go_sem,seval]
 refine ⟨_,[],[0],(A1 h).symm,by decide,?_⟩
 simp only[*,go_sem,seval]
 refine ⟨_,[],[0],(A1 h).symm,by decide,?_⟩
 simp only[*,go_sem,seval]
 rintro ⟨⟩ ⟨sl,ob,n⟩ d _ h
 simp only[go_sem,seval,Zc] at d
 obtain ⟨⟨_,_,_⟩,_,hn⟩:=d
 subst hn
 have:=Zy (l_0.length)
 cases h
 simp only[*,go_sem,seval]
theorem Zi0 {l_0:(List Int)} {n_1:Int} {r:Bool} (h:ZbS l_0 n_1=some r):Zk prog J0 282 [(false,[.sl 3 1 (A0 ZI l_0)]),(false,[.int .i64 n_1])] [(false,[(false,.bool r)])]:=by
 refine fnk func282 rfl ?_
 unfold ZbS at h
 simp only[fnS,f282,Zm,go_sem,seval]
 refine Zi h (fun i _ st=>IV [(0,.p false [.c (.sl 3 1 (A0 ZI l_0))]),(1,.p false [.c (.int .i64 n_1)]),(5,.p false [.c (.int .i64 ((i:Nat):Int))])] [] st) [] [] (by decide) ?_ ?_ ?_
 simp only[*,go_sem,seval]
 rintro _ _ ⟨⟩ ⟨sl,ob,n⟩ _ a b f h d
 simp only[go_sem,seval,Zc] at b
 obtain ⟨⟨g,_,_⟩,hn⟩:=b
 subst hn
 have k:=WF.slotL f g (j:=0) rfl
 have:=ZA a
 have:=ZC a
 have:=Zj (ZB a) k
 simp only[*,go_sem,seval]
 refine ZMH h fun _ l h=>Zd (XU l) ?_
 simp only[*,go_sem,seval]
 iterate 2 refine Ze h (fun _ h=>?_) fun _ h=>?_<;>try simp only[*,go_sem,seval]
 obtain ⟨_,_,_,_,h⟩:=ZbQ h
 simp only[*,go_sem,seval]
 refine Ze h (fun _ h=>?_) fun _ h=>?_<;>try simp only[*,go_sem,seval]
 replace h:=Zn h d
 cases h
 simp only[*,go_sem,seval]
 refine ⟨_,[],[],(A1 h).symm,by decide,?_⟩
 simp only[*,go_sem,seval]
 refine ⟨_,[],[],(A1 h).symm,by decide,?_⟩
 simp only[*,go_sem,seval]
 replace h:=Zn h d
 cases h
 simp only[*,go_sem,seval]
 rintro ⟨⟩ ⟨sl,ob,n⟩ e _ h
 simp only[go_sem,seval,Zc] at e
 obtain ⟨⟨_,_,_⟩,hn⟩:=e
 subst hn
 have:=Zy (l_0.length)
 cases h
 simp only[*,go_sem,seval]
end
end Go.Proofs.YtfehfkfdfmcgfaaGreatDoor
