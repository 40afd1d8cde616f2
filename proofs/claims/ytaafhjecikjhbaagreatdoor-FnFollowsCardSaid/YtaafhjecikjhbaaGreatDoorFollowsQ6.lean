/- Texts of this proof, joined: BSound, BFn, BTok, Laid, DT, Shelf, LCompare, SortH, SortS, LAtoi, LItoa, Ext, Dp0, Dp1. What each holds is said at its theorems. -/
import Derived.Test.YtaafhjecikjhbaaGreatDoorFollowsQ5
import Derived.Test.YtaafhjecikjhbaaGreatDoorFollowsQ1
import Derived.Test.YtaafhjecikjhbaaGreatDoorFollowsQ4
import GoSem.Claims
import Derived.Test.YtaafhjecikjhbaaGreatDoorFollowsQ2
import Derived.Test.YtaafhjecikjhbaaGreatDoorProg
import Derived.Lib.LaidTab
import Derived.Lib.ItoaNum
import Derived.Shelf.Small.Bits
import Derived.Shelf.Small.Strs
import Derived.Shelf.Strconv.Atoi
import Derived.Shelf.Strconv.Itoa0
import Derived.Shelf.Strconv.Itoa1
import Derived.Shelf.LaysM
import Derived.Shelf.Strconv.Itoa2
import Derived.Shelf.Strconv.Itoa3
import Derived.Shelf.Strconv.AtoiErrFast
import Derived.Shelf.Strconv.ParseIntEmpty
import Derived.Shelf.Strconv.AtoiFail
import Derived.Shelf.Strconv.Clone
import Derived.Shelf.Strconv.SyntaxError
import Derived.Shelf.LaysC
import Derived.Shelf.Strconv.ToError
import Derived.Shelf.Strconv.AtoiErr
import Derived.Shelf.Strconv.ErrVar
import Derived.Shelf.Sort.Plain
import Derived.Ground.GgsProg
import Derived.Shelf.GgSortFunc.Insertion
import Derived.Shelf.GgSortFunc.Tiny
import Derived.Shelf.GgSortFunc.Compose
import Derived.Ground.GgtProg
import Derived.Shelf.GgSortMore.Stable
import Derived.Shelf.Slices.In.SortNone
import Derived.Shelf.Slices.In.SortNone2
import Derived.Lib.AtoiErrMem
import Derived.Lib.AppendIntMem
import Derived.Lib.ItoaLen
open Array renaming replicate→AA,getD_eq_getD_getElem?→AO,getElem?_eq_some_iff→AT,getElem?_append→Ac,getElem?_eq_none→Ag,getElem?_toList→Ak,getElem?_modify→Am
open Bool renaming and_eq_true→A9,not_eq_true'→Ad
open Int renaming toNat_natCast→AL
open List renaming map→A0,mem_append→AC,getElem?_eq_some_iff→AE,nodup_cons→AH,mem_map→AI,all_eq_true→AJ,nodup_append→AN,size_toArray→AQ,set_getElem_self→AR,mem_or_eq_of_mem_set→AS,toArray→AU,mem_cons→AW,getElem_mem→AX,range_eq_range'→AY,mapM_cons→Aa,eq_nil_of_length_eq_zero→Ah,getElem?_take→Ai,getElem?_drop→Aj,getElem?_map→Al,map_map→An
open List.Sublist renaming append→AZ
open List.cons renaming injEq→AP
open Nat renaming le_of_ble_eq_true→AB,le_refl→AD,zero_le→AK
open Option renaming bind_eq_some_iff→AF,map_eq_some_iff→AG,bind_some→Ae
open Option.some renaming inj→A4,injEq→A6
open Prod.mk renaming injEq→A5
open Go.Proofs.Tryz
set_option linter.unusedSimpArgs false
set_option linter.unusedVariables false
set_option maxRecDepth 1000000
set_option maxHeartbeats 4000000
namespace Go.Proofs.YtaafhjecikjhbaaGreatDoor
section
open Go.RowKit
theorem ZvQ:∀{ρ:List Nat}{k i j:Nat},Zq7 ρ k i=some j->i<=j/\ρ[j - i]?=some k
 | [],_,_,_,h=>by simp [Zq7]at h
 |x::r,k,i,j,h=>by
  simp only[Zq7]at h
  split at h
  .rename_i e
   simp only[A6]at h
   subst h e
   exact ⟨AD _,yG⟩
  .obtain ⟨h1,h2⟩:=ZvQ h
   refine ⟨yE,?_⟩
   rw [show j - i=(j - (i+1))+1 by omega]
   simpa using h2
theorem Zei [NW] {ρ:List Nat}{k j:Nat}(h:Zq7 ρ k 0=some j):ρ[j]?=some k:=by simpa using (ZvQ h).2
theorem Zo4 {α:Type}:∀{l:List α},l.Nodup->∀{i j:Nat}(hi:i<l.length) (hj:j<l.length),l[i]=l[j]->i=j
 | [],_,_,_,hi,_,_=>by simp at hi
 |x::l,h,0,0,_,_,_=>rfl
 |x::l,h,0,j+1,_,hj,e=>by
  rw [AH]at h
  exact absurd (by simp at e;rw [e];exact AX _) h.1
 |x::l,h,i+1,0,hi,_,e=>by
  rw [AH]at h
  exact absurd (by simp at e;rw [<-e];exact AX _) h.1
 |x::l,h,i+1,j+1,hi,hj,e=>by
  rw [AH]at h
  have:=Zo4 h.2 (i:=i) (j:=j) (by simpa using hi) (by simpa using hj) (by simpa using e)
  omega
section
variable {P:Program} {J:World->Prop} {JF:Nat->Prop} {W:QO} {U:Nat->Prop} {st st':St} {w w':World} {a:Act} {tt:Nat->Option TI} {S:Ctx}
theorem ZEO [NW] {g g':Gh}{ρ:List Nat}(hv:∀j k,ρ[j]?=some k->g'.val j=g.val k) (ho:X0 g' g) {x:AV}{v:Value}(h:AVR g w x v):AVR g' w (rAV ρ x) v:=by
 cases x with
 |c x=>obtain ⟨L,h1,h2⟩:=h;exact ⟨L,h1,fun b m o=>h2 b m (ho.own b o)⟩
 |n x=>exact NR.move h (fun _ _ _=>rfl) (ho.grow _)
 |row k=>
  simp only[rAV]
  split
  .rename_i j hj
   exact ⟨by rw [hv j k (Zei hj)];exact h.1,h.2⟩
  .exact h.2
 |nil e m=>exact h
 |dead=>exact h
theorem ZI.map_left {α β γ:Type}{R:α->γ->Prop}{R':β->γ->Prop}(f:α->β) (h:∀a c,R a c->R' (f a) c):∀{l:List α}{r:List γ},ZI R l r->ZI R' (l.map f) r
 | [],[],_=>trivial
 |_::_,_::_,hh=>⟨h _ _ hh.1,hh.2.map_left f h⟩
 | [],_::_,h=>h.elim
 |_::_,[],h=>h.elim
theorem ZzQ [NW] (ρ:List Nat) (x:AV):avU (fun j=>j<ρ.length) (rAV ρ x):=by
 cases x with
 |row k=>
  simp only[rAV]
  split
  .rename_i j hj
   exact (AE.1 (Zei hj)).1
  .trivial
 |_=>trivial
theorem ZvM [NW] (hI:Inv W U st a w) {ρ:List Nat}(hρ:ρ.Nodup):Inv W (fun j=>j<ρ.length) (st.ren ρ) a w:=by
 obtain ⟨⟨g,hH,hS⟩,hU,B,hh⟩:=hI
 let g':Gh:=⟨fun j=>match ρ[j]? with|some k=>g.val k|none=>undef,fun j=>match ρ[j]? with|some k=>g.O k|none=>[],fun j=>match ρ[j]? with|some k=>g.D k|none=>[],g.Z⟩
 have gs:∀j k,ρ[j]?=some k->g'.val j=g.val k/\g'.O j=g.O k/\g'.D j=g.D k:=fun j k h=>by simp [g',h]
 have gn:∀j,ρ[j]?=none->g'.O j=[]/\g'.D j=[]:=fun j h=>by simp [g',h]
 have ho:∀b,g'.own b->g.own b:=fun b hb=>by
  rcases hb with ⟨j,mj⟩|hz
  .cases h:ρ[j]? with
   |none=>rw [(gn j h).1]at mj;simp at mj
   |some k=>rw [(gs j k h).2.1]at mj;exact .inl ⟨k,mj⟩
  .exact .inr hz
 have A:X0 g' g:=.of ho fun j b mb=>by
  cases h:ρ[j]? with
  |none=>rw [(gn j h).2]at mb;simp at mb
  |some k=>rw [(gs j k h).2.2]at mb;exact ⟨k,mb⟩
 have C:∀x v,AVR g w x v->AVR g' w (rAV ρ x) v:=fun x v h=>ZEO (fun j k F=>(gs j k F).1) A h
 have u:∀xs vs,ZI (AVR g w) xs vs->ZI (AVR g' w) (xs.map (rAV ρ)) vs:=fun xs vs h=>h.map_left _ C
 have E:∀ag cs v,PVR g w ag cs v->PVR g' w ag (cs.map (rAV ρ)) v:=fun ag cs v h=>by
  cases ag with
  |true=>obtain ⟨vs,h1,h2⟩:=h;exact ⟨vs,h1,u _ _ h2⟩
  |false=>obtain ⟨x,rfl,h2⟩:=h;exact ⟨_,rfl,C _ _ h2⟩
 refine ⟨⟨g',⟨hH.below,fun j=>?_,fun j=>?_,fun j i G b mb=>?_,fun j b mb=>?_,hH.gz,hH.zx,hH.nw,fun j b mb=>by
  cases h:ρ[j]? with
  |none=>rw [(gn j h).1]at mb;simp at mb
  |some k=>rw [(gs j k h).2.1]at mb;exact hH.oy k b mb⟩,fun t=>?_⟩,⟨fun t=>?_,fun j=>?_,fun j hj=>?_⟩,B,hh⟩
 .show ObR g' w j (match ρ[j]? with|some k=>rOb ρ (st.ob k)|none=>.gone)
  cases h:ρ[j]? with
  |none=>exact gn j h
  |some k=>
   obtain ⟨e1,e2,e3⟩:=gs j k h
   have l:=hH.obs k
   show ObR g' w j (rOb ρ (st.ob k))
   cases hok:st.ob k with
   |gone=>rw [hok]at l;exact ⟨e2.trans l.1,e3.trans l.2⟩
   |box t cs=>
    rw [hok]at l
    obtain ⟨b,vs,h1,h2,h3,h4,h5⟩:=l
    exact ⟨b,vs,e1.trans h1,e2.trans h2,e3.trans h3,h4,u _ _ h5⟩
   |map kk vk kv=>
    rw [hok]at l
    obtain ⟨b,es,c,h1,h2,h3,h4⟩:=l
    exact ⟨b,es,c,e1.trans h1,e2.trans h2,e3.trans h3,h4⟩
   |row e m xs d=>
    rw [hok]at l
    obtain ⟨hm,cs,L,h1,h2,h4⟩:=l
    refine ⟨hm,cs,L,by rw [e1];exact h1,h2,?_⟩
    rw [e1,e2,e3]
    rcases h4 with h4|⟨hd,h3,h4,h5⟩|⟨hd,h3,h4,h5⟩
    .exact .inl h4
    .exact .inr (.inl ⟨hd,h3,h4,fun b mb o=>h5 b mb (ho b o)⟩)
    .exact .inr (.inr ⟨hd,h3,h4,fun b mb o=>h5 b mb (ho b o)⟩)
 .cases h:ρ[j]? with
  |none=>rw [(gn j h).1,(gn j h).2];simp
  |some k=>rw [(gs j k h).2.1,(gs j k h).2.2];exact hH.nodup k
 .cases h:ρ[j]? with
  |none=>rw [(gn j h).1,(gn j h).2]at mb;simp at mb
  |some k=>
   rw [(gs j k h).2.1,(gs j k h).2.2]at mb
   cases h':ρ[i]? with
   |none=>rw [(gn i h').1,(gn i h').2];simp
   |some q=>
    rw [(gs i q h').2.1,(gs i q h').2.2]
    refine hH.apart k q (fun e=>G ?_) b mb
    subst e
    obtain ⟨l1,e1⟩:=AE.1 h
    obtain ⟨l2,e2⟩:=AE.1 h'
    exact Zo4 hρ l1 l2 (e1.trans e2.symm)
 .cases h:ρ[j]? with
  |none=>rw [(gn j h).1,(gn j h).2]at mb;simp at mb
  |some k=>
   rw [(gs j k h).2.1,(gs j k h).2.2]at mb
   refine ⟨(hH.plain k b mb).1,(hH.plain k b mb).2.of ?_⟩
   show ZiU (match ρ[j]? with|some k=>rOb ρ (st.ob k)|none=>.gone)=_
   rw [h]
   show ZiU (rOb ρ (st.ob k))=_
   cases st.ob k<;>rfl
 .have hs:=hS t
  show SVR g' w (rSV ρ (st.sl t)) _
  cases hsl:st.sl t with
  |any=>trivial
  |und=>rw [hsl]at hs;exact hs
  |p ag cs=>rw [hsl]at hs;exact E _ _ _ hs
  |tup xs=>
   rw [hsl]at hs
   obtain ⟨vs,h1,h2⟩:=hs
   exact ⟨vs,h1,h2.map_left (fun x:Bool×List AV=>(x.1,x.2.map (rAV ρ))) fun x v h=>E x.1 x.2 v h⟩
  |bp k off=>
   rw [hsl]at hs
   simp only[rSV]
   split
   .rename_i j hj
    obtain ⟨b,h1,h2⟩:=hs
    exact ⟨b,((gs j k (Zei hj)).1).trans h1,h2⟩
   .trivial
  |rp k m i off=>
   rw [hsl]at hs
   simp only[rSV]
   split
   .rename_i j hj
    obtain ⟨b,o,n,c,h1,h2⟩:=hs
    exact ⟨b,o,n,c,((gs j k (Zei hj)).1).trans h1,h2⟩
   .trivial
  |ep e off=>
   rw [hsl]at hs
   obtain ⟨b,lo,cs,L,h1,h2,h3,h4,h5⟩:=hs
   exact ⟨b,lo,cs,L,h1,h2,h3,fun x m o=>h4 x m (ho x o),h5⟩
  |fn f=>rw [hsl]at hs;exact hs
 .show svU _ (rSV ρ (st.sl t))
  cases st.sl t with
  |p ag cs=>intro y my;obtain ⟨x,_,rfl⟩:=AI.1 my;exact ZzQ ρ x
  |tup xs=>
   intro y my
   obtain ⟨x,_,rfl⟩:=AI.1 my
   intro z mz
   obtain ⟨q,_,rfl⟩:=AI.1 mz
   exact ZzQ ρ q
  |bp k off=>
   simp only[rSV]
   split
   .rename_i j hj;exact (AE.1 (Zei hj)).1
   .trivial
  |rp k m i off=>
   simp only[rSV]
   split
   .rename_i j hj;exact (AE.1 (Zei hj)).1
   .trivial
  |_=>trivial
 .show obU _ (match ρ[j]? with|some k=>rOb ρ (st.ob k)|none=>.gone)
  split
  .rename_i k _
   cases st.ob k with
   |box t cs=>intro y my;obtain ⟨x,_,rfl⟩:=AI.1 my;exact ZzQ ρ x
   |_=>trivial
  .trivial
 .show (match ρ[j]? with|some k=>rOb ρ (st.ob k)|none=>.gone)=.gone
  have:ρ[j]?=none:=List.getElem?_eq_none yE
  rw [this]
theorem ZAR [NW] {g:Gh}{ob:Nat->Ob}(hI:HI W g ob w) {k e m d d':Nat}{xs:List (List CT)}(hk:ob k=.row e m xs d) (hd:d'<d):∃g1:Gh,HI W g1 (upd ob k (.row e m xs d')) w/\g1.val=g.val/\X0 g1 g:=by
 by_cases h0:d'=0
 .obtain ⟨g1,h1,h2,h3,_⟩:=Zj0 hI k
  rw [hk]at h1
  exact ⟨g1,by rw [h0];exact h1,h2,h3⟩
 .have ho:=hI.obs k
  rw [hk]at ho
  obtain ⟨hm,cs,L,o1,o2,o3⟩:=ho
  have h2:d=2/\g.O k=(g.val k).ownBlock.toList/\g.D k=L:=by
   rcases o3 with o3|⟨q,_⟩|⟨q,_⟩
   .exact o3
   .omega
   .omega
  obtain ⟨rfl,q1,q2⟩:=h2
  obtain rfl:d'=1:=by omega
  let g1:Gh:=⟨g.val,g.O,upd g.D k [],g.Z⟩
  have hown:∀b,g1.own b↔g.own b:=fun b=>Iff.rfl
  have l:X0 g1 g:=.of (fun b hb=>hb) fun j b mb=>by
   by_cases hj:j=k
   .subst hj;simp [g1,upd]at mb
   .exact ⟨j,by simpa [g1,upd,hj]using mb⟩
  have f:∀j b,b∈g1.O j++g1.D j->b∈g.O j++g.D j:=fun j b mb=>by
   by_cases hj:j=k
   .subst hj;simp [g1,upd]at mb;simp [mb]
   .simpa [g1,upd,hj]using mb
  refine ⟨g1,⟨hI.below,fun j=>?_,fun j=>?_,fun i j o b mb mj=>hI.apart i j o b (f i b mb) (f j b mj),fun j b mb=>⟨(hI.plain j b (f j b mb)).1,(hI.plain j b (f j b mb)).2.of (by
   by_cases hj:j=k
   .subst hj;rw [ZF,hk];rfl
   .rw [ZO _ _ hj])⟩,hI.gz,hI.zx,hI.nw,hI.oy⟩,rfl,l⟩
  .by_cases hj:j=k
   .subst hj
    rw [ZF]
    refine ⟨hm,cs,L,o1,o2,.inr (.inl ⟨rfl,q1,by simp [g1,upd],fun b mb hb=>?_⟩)⟩
    have mk:b∈g.D j:=by rw [q2];exact mb
    rcases hb with ⟨i,mi⟩|hz
    .by_cases o:i=j
     .subst o
      have:=hI.nodup i
      rw [AN]at this
      exact this.2.2 b mi b mk rfl
     .exact hI.apart i j o b (by simp;exact .inl mi) (by simp [mk])
    .exact hI.nz (k:=j) (b:=b) (by simp [mk]) hz
   .rw [ZO _ _ hj]
    have a:=hI.obs j
    cases hh:ob j with
    |gone=>rw [hh]at a;exact ⟨a.1,by simpa [g1,upd,hj]using a.2⟩
    |box t ds=>
     rw [hh]at a
     obtain ⟨b,vs,h1,h2,h3,h4,h5⟩:=a
     exact ⟨b,vs,h1,h2,by simpa [g1,upd,hj]using h3,h4,h5.mono fun x u _ hx=>AVR.less hx rfl l⟩
    |map kk vk kv=>
     rw [hh]at a
     obtain ⟨b,es,c,h1,h2,h3,h4⟩:=a
     exact ⟨b,es,c,h1,h2,by simpa [g1,upd,hj]using h3,h4⟩
    |row e' m' xs' d2=>
     rw [hh]at a
     obtain ⟨p,v,L',p1,p2,p3⟩:=a
     refine ⟨p,v,L',p1,p2,?_⟩
     have e2:g1.D j=g.D j:=by simp [g1,upd,hj]
     rw [e2]
     exact p3
  .by_cases hj:j=k
   .subst hj
    have:=hI.nodup j
    rw [AN]at this
    simpa [g1,upd]using this.1
   .have:=hI.nodup j
    simpa [g1,upd,hj]using this
theorem ZB9 [NW] (m:Bool×Nat×Nat) (hI:Inv W U st a w) (hk:∀k,st.n<=k->¬U k):∃U',Inv W U' (st.mat m) a w/\∀k,(st.mat m).n<=k->¬U' k:=by
 have A:∃U',Inv W U' st a w/\∀k,st.n<=k->¬U' k:=⟨U,hI,hk⟩
 have S:¬U st.n:=hk st.n (AD _)
 have N:∀k,st.n+1<=k->¬(U k\/k=st.n):=fun k l h=>by
  rcases h with h|h
  .exact hk k yE h
  .omega
 have T:∀(e q:Nat),0<q->∀g,HI W g st.ob w->∃g',HI W g' (upd st.ob st.n (.row e q [] 2)) w/\(∀x u,svU U x->SVR g w x u->SVR g' w x u)/\g'.val st.n=.slice none 0 0/\(∀x u,avU U x->AVR g w x u->AVR g' w x u):=fun e q hq g hH=>by
  obtain ⟨t1,t2⟩:=hH.turn (key:=st.n) (U:=U) (w':=w) (v:=.slice none 0 0) (O:=[]) (D:=[]) (o:=.row e q [] 2) hI.wf.ob S [] yG hH.below (AD _) (fun _ _ _=>rfl) yG yG yG yG
   (fun _=>⟨hq,[],[],by simpa [Gh.turn,upd]using ZfQ _ _ _ _,⟨rfl,rfl⟩,.inl ⟨rfl,by simp [Gh.turn,upd,Value.ownBlock],by simp [Gh.turn]⟩⟩)
  refine ⟨_,t1,t2,by simp [Gh.turn,upd],fun x u hx hu=>hu.move hx (fun k l=>ZO _ _ fun e=>S (e ▸ l)) (fun _ _ _=>rfl) (Zpu yG yG)⟩
 have up:∀k,U k->(U k\/k=st.n):=fun _ h=>.inl h
 obtain ⟨⟨g,hH,hS⟩,hU,B,hh⟩:=hI
 have P:∀k e q xs d,st.ob k=.row e q xs d->∃g1:Gh,HI W g1 (upd st.ob k (.row e q xs 0)) w/\g1.val=g.val/\X0 g1 g/\U k/\∀v,AVR g w (.row k) v->AVR g1 w (.c (.sl e q xs)) v:=fun k e q xs d f=>by
  obtain ⟨g1,i1,i2,i3,_⟩:=Zj0 hH k
  rw [f]at i1
  obtain ⟨L,t1,t2⟩:=Zsh i1 (ZF st.ob k (.row e q xs 0))
  exact ⟨g1,i1,i2,i3,Classical.byContradiction fun hn=>by have:=hU.gone _ hn;rw [f]at this;simp at this,fun v hv=>⟨L,by rw [hv.1,<-i2];exact t1,t2⟩⟩
 have Q:∀{gg:Gh} {cs:List AV} {vs:List Value} {j:Nat} {y:AV} {v:Value},ZI (AVR gg w) cs vs->vs[j]?=some v->AVR gg w y v->ZI (AVR gg w) (cs.set j y) vs:=fun {gg cs vs j y v} h1 h2 h3=>by
  have:=h1.set (i:=j) h3
  obtain ⟨hl,he⟩:=AE.1 h2
  rw [<-he,AR hl]at this
  exact this
 have R:∀{gg:Gh} {ag:Bool} {cs:List AV} {v:Value} {j:Nat} {x y:AV},PVR gg w ag cs v->cs[j]?=some x->(∀u,AVR gg w x u->AVR gg w y u)->PVR gg w ag (cs.set j y) v:=fun {gg ag cs v j x y} h1 h2 h3=>by
  cases ag with
  |true=>
   obtain ⟨vs,rfl,h4⟩:=h1
   obtain ⟨u,u1,u2⟩:=h4.at h2
   exact ⟨vs,rfl,Q h4 u1 (h3 u u2)⟩
  |false=>
   obtain ⟨z,rfl,h4⟩:=h1
   cases j with
   |zero=>simp at h2;subst h2;exact ⟨y,rfl,h3 v h4⟩
   |succ j=>simp at h2
 have K:∀{V:Nat->Prop} {cs:List AV} {j:Nat} {y:AV},X3 V cs->avU V y->X3 V (cs.set j y):=fun {V cs j y} h1 h2 z mz=>by
  rcases AS mz with mz|mz
  .exact h1 z mz
  .subst mz;exact h2
 unfold St.mat
 split
 .split
  .rename_i ag cs X
   have G:X3 U cs:=by have:=hU.sl m.2.1;rw [X]at this;exact this
   have hs:=hS m.2.1
   rw [X]at hs
   split
   .rename_i e q H
    split
    .rename_i hq
     obtain ⟨g',t1,t2,t3,t4⟩:=T e q hq g hH
     refine ⟨fun k=>U k\/k=st.n,⟨⟨g',t1,fun t=>?_⟩,⟨fun t=>?_,fun k=>?_,fun k l=>?_⟩,B,hh⟩,N⟩
     .show SVR g' w (upd st.sl m.2.1 (.p ag (cs.set m.2.2 (.row st.n))) t) _
      by_cases ht:t=m.2.1
      .subst ht
       rw [ZF]
       have h1:PVR g' w ag cs (a.tmps.getD m.2.1 undef):=t2 (.p ag cs) _ G hs
       refine R h1 H fun u hu=>?_
       have Z:u=.slice none 0 0:=hu
       rw [Z]
       exact ⟨t3.symm,rfl⟩
      .rw [ZO _ _ ht];exact t2 _ _ (hU.sl t) (hS t)
     .show svU _ (upd st.sl m.2.1 (.p ag (cs.set m.2.2 (.row st.n))) t)
      by_cases ht:t=m.2.1
      .subst ht;rw [ZF];exact K (G.mono up) (.inr rfl)
      .rw [ZO _ _ ht];exact (hU.sl t).mono up
     .show obU _ (upd st.ob st.n _ k)
      by_cases l:k=st.n
      .subst l;rw [ZF];trivial
      .rw [ZO _ _ l];exact (hU.ob k).mono up
     .show upd st.ob st.n _ k=_
      rw [ZO _ _ fun e=>l (.inr e)];exact hU.gone k fun h=>l (.inl h)
    .exact A
   .rename_i k H
    split
    .rename_i e q xs d f
     obtain ⟨g1,i1,i2,i3,C,i4⟩:=P k e q xs d f
     refine ⟨U,⟨⟨g1,i1,fun t=>?_⟩,⟨fun t=>?_,fun j=>?_,fun j hj=>?_⟩,B,hh⟩,hk⟩
     .show SVR g1 w (upd st.sl m.2.1 (.p ag (cs.set m.2.2 (.c (.sl e q xs)))) t) _
      by_cases ht:t=m.2.1
      .subst ht
       rw [ZF]
       have h1:PVR g1 w ag cs (a.tmps.getD m.2.1 undef):=(show SVR g w (.p ag cs) _ from hs).less i2 i3
       exact R h1 H fun u hu=>i4 u ⟨hu.1.trans (by rw [i2]),hu.2⟩
      .rw [ZO _ _ ht];exact (hS t).less i2 i3
     .show svU _ (upd st.sl m.2.1 (.p ag (cs.set m.2.2 (.c (.sl e q xs)))) t)
      by_cases ht:t=m.2.1
      .subst ht;rw [ZF];exact K G trivial
      .rw [ZO _ _ ht];exact hU.sl t
     .show obU U (upd st.ob k (.row e q xs 0) j)
      by_cases h1:j=k
      .subst h1;rw [ZF];trivial
      .rw [ZO _ _ h1];exact hU.ob j
     .show upd st.ob k (.row e q xs 0) j=_
      rw [ZO _ _ (show j≠k from fun e'=>hj (e' ▸ C))];exact hU.gone j hj
    .exact A
   .exact A
  .exact A
 .split
  .rename_i ty cs f
   split
   .rename_i e q H
    split
    .rename_i hq
     obtain ⟨g',t1,t2,t3,t4⟩:=T e q hq g hH
     have C:U m.2.1:=Classical.byContradiction fun hn=>by have:=hU.gone _ hn;rw [f]at this;simp at this
     have E:m.2.1≠st.n:=fun e=>S (e ▸ C)
     have G:X3 U cs:=by have:=hU.ob m.2.1;rw [f]at this;exact this
     have F:=t1.obs m.2.1
     rw [ZO _ _ E,f]at F
     obtain ⟨b,vs,b1,b2,b3,b4,b5⟩:=F
     obtain ⟨u,u1,u2⟩:=b5.at H
     have Y:u=.slice none 0 0:=u2
     have aa:vs.set m.2.2 u=vs:=by
      obtain ⟨hl,he⟩:=AE.1 u1
      rw [<-he];exact AR hl
     have I:ObR g' w m.2.1 (.box ty (cs.set m.2.2 (.row st.n))):=by
      refine ⟨b,vs,b1,b2,b3,b4,?_⟩
      have:=b5.set (i:=m.2.2) (a:=AV.row st.n) (b:=u) ⟨by rw [Y,t3],by rw [Y];rfl⟩
      rw [aa]at this
      exact this
     have J:∀k,(upd (upd st.ob m.2.1 (.box ty (cs.set m.2.2 (.row st.n)))) st.n (.row e q [] 2)) k=if k=m.2.1 then .box ty (cs.set m.2.2 (.row st.n)) else (upd st.ob st.n (.row e q [] 2)) k:=fun k=>by
      by_cases h1:k=st.n
      .have h2:¬k=m.2.1:=fun e'=>E (e'.symm.trans h1)
       have h3:¬st.n=m.2.1:=fun e'=>E e'.symm
       simp [upd,h1,h3]
      .by_cases h2:k=m.2.1
       .simp [upd,h2,E]
       .simp [upd,h1,h2]
     refine ⟨fun k=>U k\/k=st.n,⟨⟨g',⟨t1.below,fun k=>?_,t1.nodup,t1.apart,fun k b mb=>⟨(t1.plain k b mb).1,(t1.plain k b mb).2.of (by
       show ZiU ((upd (upd st.ob m.2.1 (.box ty (cs.set m.2.2 (.row st.n)))) st.n (.row e q [] 2)) k)=_
       rw [J k]
       split
       .rename_i h1;subst h1;rw [ZO _ _ E,f];rfl
       .rfl)⟩,t1.gz,t1.zx,t1.nw,t1.oy⟩,fun t=>t2 _ _ (hU.sl t) (hS t)⟩,⟨fun t=>(hU.sl t).mono up,fun k=>?_,fun k l=>?_⟩,B,hh⟩,N⟩
     .show ObR g' w k ((upd (upd st.ob m.2.1 (.box ty (cs.set m.2.2 (.row st.n)))) st.n (.row e q [] 2)) k)
      rw [J k]
      split
      .rename_i h1;subst h1;exact I
      .exact t1.obs k
     .show obU _ ((upd (upd st.ob m.2.1 (.box ty (cs.set m.2.2 (.row st.n)))) st.n (.row e q [] 2)) k)
      rw [J k]
      split
      .intro y my
       rcases AS my with my|my
       .exact (G y my).mono up
       .subst my;exact .inr rfl
      .by_cases h1:k=st.n
       .subst h1;rw [ZF];trivial
       .rw [ZO _ _ h1];exact (hU.ob k).mono up
     .show (upd (upd st.ob m.2.1 (.box ty (cs.set m.2.2 (.row st.n)))) st.n (.row e q [] 2)) k=_
      rw [J k,if_neg (show ¬k=m.2.1 from fun e'=>l (.inl (e' ▸ C))),ZO _ _ (show k≠st.n from fun e'=>l (.inr e'))]
      exact hU.gone k fun h=>l (.inl h)
    .exact A
   .rename_i k H
    split
    .rename_i e q xs d M
     obtain ⟨g1,i1,i2,i3,C,i4⟩:=P k e q xs d M
     have ab:U m.2.1:=Classical.byContradiction fun hn=>by have:=hU.gone _ hn;rw [f]at this;simp at this
     have E:k≠m.2.1:=fun e'=>by rw [e',f]at M;simp at M
     have G:X3 U cs:=by have:=hU.ob m.2.1;rw [f]at this;exact this
     have F:=i1.obs m.2.1
     rw [ZO _ _ (fun e'=>E e'.symm),f]at F
     obtain ⟨b,vs,b1,b2,b3,b4,b5⟩:=F
     obtain ⟨u,u1,u2⟩:=b5.at H
     have I:ObR g1 w m.2.1 (.box ty (cs.set m.2.2 (.c (.sl e q xs)))):=⟨b,vs,b1,b2,b3,b4,Q b5 u1 (i4 u ⟨u2.1.trans (by rw [i2]),u2.2⟩)⟩
     refine ⟨U,⟨⟨g1,⟨i1.below,fun j=>?_,i1.nodup,i1.apart,fun j b mb=>⟨(i1.plain j b mb).1,(i1.plain j b mb).2.of (by
       show ZiU (upd (upd st.ob k (.row e q xs 0)) m.2.1 (.box ty (cs.set m.2.2 (.c (.sl e q xs)))) j)=_
       by_cases h1:j=m.2.1
       .subst h1;rw [ZF,ZO _ _ (fun e'=>E e'.symm),f];rfl
       .rw [ZO _ _ h1])⟩,i1.gz,i1.zx,i1.nw,i1.oy⟩,fun t=>(hS t).less i2 i3⟩,⟨hU.sl,fun j=>?_,fun j hj=>?_⟩,B,hh⟩,hk⟩
     .show ObR g1 w j (upd (upd st.ob k (.row e q xs 0)) m.2.1 (.box ty (cs.set m.2.2 (.c (.sl e q xs)))) j)
      by_cases h1:j=m.2.1
      .subst h1;rw [ZF];exact I
      .rw [ZO _ _ h1];exact i1.obs j
     .show obU U (upd (upd st.ob k (.row e q xs 0)) m.2.1 (.box ty (cs.set m.2.2 (.c (.sl e q xs)))) j)
      by_cases h1:j=m.2.1
      .subst h1;rw [ZF];exact K G trivial
      .rw [ZO _ _ h1]
       by_cases h2:j=k
       .subst h2;rw [ZF];trivial
       .rw [ZO _ _ h2];exact hU.ob j
     .show upd (upd st.ob k (.row e q xs 0)) m.2.1 (.box ty (cs.set m.2.2 (.c (.sl e q xs)))) j=_
      rw [ZO _ _ (show j≠m.2.1 from fun e'=>hj (e' ▸ ab)),ZO _ _ (show j≠k from fun e'=>hj (e' ▸ C))];exact hU.gone j hj
    .exact A
   .exact A
  .rename_i e q xs d f
   split
   .rename_i ac
    have C:U m.2.1:=Classical.byContradiction fun hn=>by have:=hU.gone _ hn;rw [f]at this;simp at this
    obtain ⟨g1,t1,t2,t3⟩:=ZAR hH f ac
    refine ⟨U,⟨⟨g1,t1,fun t=>(hS t).less t2 t3⟩,⟨hU.sl,fun k=>?_,fun k l=>?_⟩,B,hh⟩,hk⟩
    .show obU U (upd st.ob m.2.1 (.row e q xs m.2.2) k)
     by_cases h1:k=m.2.1
     .subst h1;rw [ZF];trivial
     .rw [ZO _ _ h1];exact hU.ob k
    .show upd st.ob m.2.1 (.row e q xs m.2.2) k=_
     rw [ZO _ _ (show k≠m.2.1 from fun e'=>l (e' ▸ C))];exact hU.gone k l
   .exact A
  .exact A
theorem Zzw [NW] (m:Bool×Nat×Nat) (hI:Inv W U st a w) (hk:∀k,st.n<=k->¬U k):∃U',Inv W U' (st.matN m) a w/\∀k,(st.matN m).n<=k->¬U' k:=by
 have c:∃U',Inv W U' st a w/\∀k,st.n<=k->¬U' k:=⟨U,hI,hk⟩
 obtain ⟨⟨g,hH,hS⟩,hU,o,hh⟩:=hI
 unfold St.matN
 split
 .rename_i ag cs x
  have A:X3 U cs:=by have:=hU.sl m.2.1;rw [x]at this;exact this
  have hs:=hS m.2.1
  rw [x]at hs
  split
  .rename_i k f
   split
   .rename_i e q xs d l
    split
    .rename_i hd
     subst hd
     obtain ⟨g1,i1,i2,i3,i5⟩:=Zj0 hH k
     rw [l]at i1
     obtain ⟨hm,B,L,o1,o2,o3,o5⟩:=hH.deep l
     have i4:∀v,AVR g w (.row k) v->AVR g1 w (.n (.sl e q xs)) v:=fun v hv=>by
      rcases o5 with ⟨_,q1,q2⟩|⟨q1,_⟩|⟨q1,_⟩
      .have hN:=hH.nodup k
       have hP:=hH.plain k
       have hF:=i5 ⟨_,_,_,_,l⟩
       rw [q1,q2]at hN hP hF
       rw [l]at hP
       refine ⟨e,q,xs,B,L,rfl,hm,by rw [hv.1];exact o1,o2,by rw [hv.1];exact hN,fun b mb=>?_⟩
       rw [hv.1]at mb
       exact ⟨hF b mb,hH.nw b (hP b mb).1,(hP b mb).2⟩
      .omega
      .omega
     have C:U k:=Classical.byContradiction fun hn=>by have:=hU.gone _ hn;rw [l]at this;simp at this
     refine ⟨U,⟨⟨g1,i1,fun t=>?_⟩,⟨fun t=>?_,fun j=>?_,fun j hj=>?_⟩,o,hh⟩,hk⟩
     .show SVR g1 w (upd st.sl m.2.1 (.p ag (cs.set (m.2.2 - 4096) (.n (.sl e q xs)))) t) _
      by_cases ht:t=m.2.1
      .subst ht
       rw [ZF]
       have h0:PVR g w ag cs (a.tmps.getD m.2.1 undef):=hs
       have h1:PVR g1 w ag cs (a.tmps.getD m.2.1 undef):=(show SVR g w (.p ag cs) _ from hs).less i2 i3
       cases ag with
       |true=>
        obtain ⟨vs,e1,h4⟩:=h0
        obtain ⟨D,y,E⟩:=h1
        have ev:vs=D:=by rw [e1]at y;simpa using y
        subst ev
        obtain ⟨u,u1,u2⟩:=h4.at f
        refine ⟨vs,e1,?_⟩
        have:=E.set (i:=m.2.2 - 4096) (i4 u u2)
        obtain ⟨hl,he⟩:=AE.1 u1
        rw [<-he,AR hl]at this
        exact this
       |false=>
        obtain ⟨z,rfl,h4⟩:=h0
        cases hj:m.2.2 - 4096 with
        |zero=>rw [hj]at f;simp at f;subst f;exact ⟨_,rfl,i4 _ h4⟩
        |succ j=>rw [hj]at f;simp at f
      .rw [ZO _ _ ht];exact (hS t).less i2 i3
     .show svU U (upd st.sl m.2.1 (.p ag (cs.set (m.2.2 - 4096) (.n (.sl e q xs)))) t)
      by_cases ht:t=m.2.1
      .subst ht;rw [ZF]
       intro z mz
       rcases AS mz with mz|mz
       .exact A z mz
       .subst mz;trivial
      .rw [ZO _ _ ht];exact hU.sl t
     .show obU U (upd st.ob k (.row e q xs 0) j)
      by_cases h1:j=k
      .subst h1;rw [ZF];trivial
      .rw [ZO _ _ h1];exact hU.ob j
     .show upd st.ob k (.row e q xs 0) j=_
      rw [ZO _ _ (show j≠k from fun e'=>hj (e' ▸ C))];exact hU.gone j hj
    .exact c
   .exact c
  .exact c
 .exact c
theorem ZmY [NW]:∀(ms:List (Bool×Nat×Nat)) {U:Nat->Prop}{st:St},Inv W U st a w->(∀k,st.n<=k->¬U k)->∃U',Inv W U' (st.mats ms) a w
 | [],U,st,hI,_=>⟨U,hI⟩
 |m::r,U,st,hI,hk=>by
  simp only[St.mats]
  split
  .obtain ⟨U',h1,h2⟩:=Zzw m hI hk
   exact ZmY r h1 h2
  .obtain ⟨U',h1,h2⟩:=ZB9 m hI hk
   exact ZmY r h1 h2
theorem ZCr {p:Nat->Prop}(h:∃n,p n):∃n,p n/\∀m,m<n->¬p m:=by
 obtain ⟨n,hn⟩:=h
 induction n using Nat.strongRecOn with
 |_ n ih=>
  by_cases hm:∃m,m<n/\p m
  .obtain ⟨m,h1,h2⟩:=hm;exact ih m h1 h2
  .exact ⟨n,hn,fun m h1 h2=>hm ⟨m,h1,h2⟩⟩
theorem ZxG [NW] {c:Code}{Q:Exit->Act->World->Prop}(J:Nat->Act->World->Prop) (n:Nat) (h₀:J n a w) (b:∀n a w,J n a w->c.wp P (Exit.then (fun a' w'=>∃m,m<n/\J m a' w') Q) a w):(Code.loop c).wp P Q a w:=by
 classical
 let μ:Act->World->Nat:=fun a w=>if h:∃n,J n a w then Classical.choose (ZCr h) else 0
 have hμ:∀a w (h:∃n,J n a w),J (μ a w) a w/\∀m,m<μ a w->¬J m a w:=fun a w h=>by
  simp only[μ,dif_pos h]
  exact Classical.choose_spec (ZCr h)
 refine wp_loop (fun a w=>∃n,J n a w) μ ⟨n,h₀⟩ fun a w h=>?_
 refine wp_mono (b (μ a w) a w (hμ a w h).1) fun e a' w' he=>?_
 cases e with
 |normal=>
  obtain ⟨m,h1,h2⟩:=he
  refine ⟨⟨m,h2⟩,?_⟩
  have h3:=hμ a' w' ⟨m,h2⟩
  rcases Nat.lt_or_ge m (μ a' w') with h4|h4
  .exact absurd h2 (h3.2 m h4)
  .omega
 |_=>exact he
mutual
theorem RC.deep {w:World}:∀{x:CT}{v:Value}{L:List Nat},RC w x v L->ctD x
 |.int _ _,_,_,_=>trivial
 |.bool _,_,_,_=>trivial
 |.str _,_,_,h=>h.2.2
 |.sl _ _ _,_,_,⟨A,cap,cs,L0,L1,h1,h2,h3,h4,h5,h6,h7⟩=>⟨by unfold maxLen at h3;omega,h7.deep⟩
 |.pt _,_,_,⟨_,_,_,_,_,_,_,h⟩=>h.deep
 |.fn _ _,_,_,⟨_,_,h⟩=>h.deep
 |.mp _ _ _,_,_,_=>trivial
 |.ifc _,_,_,_=>trivial
 |.any,_,_,_=>trivial
 |.nl _ _,_,_,_=>trivial
theorem RCs.deep {w:World}:∀{x:List CT}{v:List Value}{L:List Nat},RCs w x v L->ctsD x
 | [],_,_,_=>trivial
 |_::_,_,_,⟨v,cs,L1,L2,h1,h2,h3,h4⟩=>⟨h3.deep,h4.deep⟩
theorem REs.deep {w:World}{m:Nat}:∀{x:List (List CT)}{v:List Value}{L:List Nat},REs w m x v L->essD x
 | [],_,_,_=>trivial
 |_::_,_,_,⟨c1,c2,L1,L2,h1,h2,h3,h4⟩=>⟨h3.1.deep,h4.deep⟩
end
theorem AVR.deep [NW] {g:Gh}{w:World}:∀{x:AV}{v:Value},AVR g w x v->avD x
 |.c _,_,⟨_,h,_⟩=>h.deep
 |.n _,_,h=>by obtain ⟨_,h1,_⟩:=NR.toC h;exact h1.deep
 |.row _,_,_=>trivial
 |.nil _ _,_,_=>trivial
 |.dead,_,_=>trivial
theorem AVRs.deep [NW] {g:Gh}{w:World}:∀{x:List AV}{v:List Value},ZI (AVR g w) x v->Zzp x
 | [],[],_=>trivial
 |_::_,_::_,h=>⟨h.1.deep,AVRs.deep h.2⟩
 | [],_::_,h=>h.elim
 |_::_,[],h=>h.elim
theorem Inv.deep [NW] (hI:Inv W U st a w):WF st:=by
 obtain ⟨⟨g,hH,hS⟩,hU,hdef,hh⟩:=hI
 refine ⟨fun t b cs ht=>?_,fun k t cs hk=>?_,fun k e m xs d hk=>?_⟩
 .have h:=hS t
  rw [ht]at h
  cases b with
  |true=>obtain ⟨vs,_,h2⟩:=h;exact AVRs.deep h2
  |false=>obtain ⟨x,rfl,h2⟩:=h;exact ⟨h2.deep,trivial⟩
 .have h:=hH.obs k
  rw [hk]at h
  obtain ⟨b,vs,_,_,_,_,h2⟩:=h
  exact AVRs.deep h2
 .have h:=hH.obs k
  rw [hk]at h
  obtain ⟨_,cs,L,h1,h2,_⟩:=h
  refine ⟨?_,h2.deep⟩
  rcases h1.2 with ⟨_,h3⟩|⟨_,_,cap,_,_,_,_,h3,h4,_⟩
  .omega
  .unfold maxLen at h4;omega
def ZyH:Ex->Exit
 |.normal=>.normal
 |.exit id=>.exit id
 |.ret=>.ret
def Xb (od:OD) (tt:Nat->Option TI) (hs:FuncId->Nat) (k0:Bool) (N:Nat):Code->Bool
 |.skip=>true
 |.region id ops d=>(ops.toList.all fun o=>match o.dst with|some t=>Nat.blt t N&&(!k0||Nat.blt 0 t)|none=>true)&&(match od id with|none=>!d||ZuE tt hs ops|some l=>d&&Zvm tt hs l.2 ops l.1)
 |.seq x y=>Xb od tt hs k0 N x&&Xb od tt hs k0 N y
 |.cond _ x y=>Xb od tt hs k0 N x&&Xb od tt hs k0 N y
 |.block _ x=>Xb od tt hs k0 N x
 |.loop x=>Xb od tt hs k0 N x
 |.exit _=>true
 |.ret=>true
 |_=>false
theorem QB [NW] {od:OD}(htt:MOk P J JF W tt) (hmix:P.follows .mixedOrders=true) {hds:FuncId->Nat}{k0:Bool}(v:W.hv=none\/k0=true) {N:Nat}:∀(c:Code),Xb od tt hds k0 N c=true->∀(Qs:Ex->St->Prop) (Q:Exit->Act->World->Prop),
  (∀ex U' st' a' w',Inv W U' st' a' w'->(∀k,st'.n<=k->¬U' k)->a'.tmps.size=N->Qs ex st'->Q (ZyH ex) a' w')->
  ∀U st a w,Inv W U st a w->(∀k,st.n<=k->¬U k)->a.tmps.size=N->swp tt (SC P J JF hds) od c Qs st->c.wp P Q a w
 |.skip,_,Qs,Q,hQ,U,st,a,w,hI,hk,hs,h=>wp_skip (hQ .normal U st a w hI hk hs h)
 |.exit id,_,Qs,Q,hQ,U,st,a,w,hI,hk,hs,h=>wp_exit (hQ (.exit id) U st a w hI hk hs h)
 |.ret,_,Qs,Q,hQ,U,st,a,w,hI,hk,hs,h=>wp_ret (hQ .ret U st a w hI hk hs h)
 |.region id m d,f,Qs,Q,hQ,U,st,a,w,hI,hk,hs,h=>by
  simp only[Xb,A9,AJ]at f
  have hN:∀o∈m.toList,∀t,o.dst=some t->t<N/\(W.hv=none\/t≠0):=fun o mo t ht=>by
   have:=f.1 o mo
   rw [ht]at this
   simp only[A9,Bool.or_eq_true]at this
   refine ⟨AB this.1,v.imp (fun h=>h) fun h=>?_⟩
   rcases this.2 with h2|h2
   .rw [h]at h2;simp at h2
   .have h3:0<t:=AB h2
    exact Nat.ne_of_gt h3
  have A:∀U' st' a' w',Inv W U' st' a' w'->(∀k,st.n+16*m.toList.length<=k->¬U' k)->a'.tmps.size=N->Zrv (st.n+16*m.toList.length) (Qs .normal) st'->Q .normal a' w':=fun U' st' a' w' h1 h2 h3 h4=>
   hQ .normal U' { st' with n:=st.n+16*m.toList.length } a' w' ⟨h1.ex,⟨h1.wf.sl,h1.wf.ob,h1.wf.gone⟩,h1.defers,h1.hand⟩ h2 h3 h4
  have B:Inv W U st a { w with drawn:=w.drawn+1 }:=by
   obtain ⟨⟨g,hH,hS⟩,hU,E,hh⟩:=hI
   have hw:∀b,b<w.heap.size->¬g.own b->({ w with drawn:=w.drawn+1 }:World).heap[b]?=w.heap[b]?:=fun _ _ _=>rfl
   refine ⟨⟨g,hH.step (U:=U) (fun _=>False) ⟨hH.below.os,hH.below.tape,hH.below.output,hH.below.size,hH.below.block⟩ rfl (fun _ _ _=>rfl) (fun _ _=>⟨rfl,rfl,rfl,rfl⟩) hU.ob (fun _ _=>rfl) (Qw.refl _ _) (fun _ h=>h.elim),fun t=>?_⟩,hU,E,hh⟩
   exact (hS t).move (hU.sl t) (fun _ _=>rfl) hw (Qw.refl _ _) (AD _)
  have z:∀(b:Bool) (R:List Nat),ZkB tt hds b m R=true->(∀j,elB m j=true)->R.length<=m.size->(∀i,i∈R↔i<m.size)->Zgs tt (SC P J JF hds) b m.toList st.n R (Zrv (st.n+16*m.toList.length) (Qs .normal)) st->(Code.region id m true).wp P Q a w:=fun b R h1 h2 h3 h4 h5=>by
   refine wp_region_any hmix ?_
   refine ZxP (base:=st.n) htt hN h2 (fun U' st' a' w' h1 h2 h3 h4=>A U' st' a' w' h1 (by simpa using h2) h3 h4) m.size R (AA m.size false) U st a _ h3 (Zp3 h1) yG (fun i=>?_) (fun i o ho hl=>?_) h5 B (fun j _ k C _=>hk k yE) (fun k C=>hk k yE) hs
   .rw [h4]
    constructor
    .intro hi;exact ⟨hi,by simp [AO,hi]⟩
    .exact fun hi=>hi.1
   .exfalso
    have hi:i<m.size:=(AT.1 ho).1
    simp [AO,hi]at hl
  cases ho:od id with
  |none=>
   have u:=f.2
   simp only[ho]at u
   simp only[swp,ho,Zux]at h
   have h':Yn tt (SC P J JF hds) m.toList st.n m.toList (Zrv (st.n+16*m.toList.length) (Qs .normal)) st:=h
   cases d with
   |false=>
    refine wp_region ?_
    have:=Zo0 (Q:=Q) htt hN m.toList 0 st.n U st a w yG h' hI hk hs A
    rw [AY]
    simpa using this
   |true=>
    have q:ZuE tt hds m=true:=by simpa using u
    simp only[ZuE,A9]at q
    have h2:=ZvE (tt:=tt) (S:=SC P J JF hds) (all:=m.toList) (base:=st.n) (K:=Zrv (st.n+16*m.toList.length) (Qs .normal)) m.toList 0 st yG (by simpa using h')
    rw [<-AY]at h2
    exact z false (List.range m.size) q.1 (Zr3 q.2) yG yG (by simpa using h2)
  |some l=>
   have u:=f.2
   simp only[ho,A9]at u
   simp only[swp,ho,Zux]at h
   obtain ⟨rfl,q⟩:=u
   simp only[Zvm,A9]at q
   exact z l.2 l.1 q.1.1.1.1 (Zr3 q.1.1.1.2) (AB q.1.1.2) (fun i=>⟨fun mi=>AB (AJ.1 q.1.2 i mi),fun hi=>by simpa using AJ.1 q.2 i (by simpa using hi)⟩) h
 |.seq x y,f,Qs,Q,hQ,U,st,a,w,hI,hk,hs,h=>by
  simp only[Xb,A9]at f
  refine wp_seq (QB htt hmix v x f.1 (ZgI (swp tt (SC P J JF hds) od y Qs) Qs) _ ?_ U st a w hI hk hs h)
  intro ex U' st' a' w' h1 h2 h3 h4
  cases ex with
  |normal=>exact QB htt hmix v y f.2 Qs Q hQ U' st' a' w' h1 h2 h3 h4
  |exit id=>exact hQ (.exit id) U' st' a' w' h1 h2 h3 h4
  |ret=>exact hQ .ret U' st' a' w' h1 h2 h3 h4
 |.cond c x y,f,Qs,Q,hQ,U,st,a,w,hI,hk,hs,h=>by
  simp only[Xb,A9]at f
  simp only[swp,Zp9]at h
  split at h
  .rename_i hb
   obtain ⟨b,D⟩:∃b,st.ev tt 0 c=.p false [.c (.bool b)]:=by
    unfold ZaR at hb
    split at hb
    .rename_i b he;exact ⟨b,he⟩
    .simp at hb
   obtain ⟨g,hH,hS⟩:=hI.ex
   have hv:=(Zlm (P:=P) htt.tt hS hI.wf 0 c).1
   rw [D]at hv
   have G:=Zgy hv
   refine wp_cond G ?_
   cases b with
   |true=>rw [if_pos (by rw [D];rfl)]at h;exact QB htt hmix v x f.1 Qs Q hQ U st a w hI hk hs h
   |false=>rw [if_neg (by rw [D];simp [Qx])]at h;exact QB htt hmix v y f.2 Qs Q hQ U st a w hI hk hs h
  .exact h.elim
 |.block id x,f,Qs,Q,hQ,U,st,a,w,hI,hk,hs,h=>by
  refine wp_block (QB htt hmix v x f (Zg8 id Qs) _ ?_ U st a w hI hk hs h)
  intro ex U' st' a' w' h1 h2 h3 h4
  cases ex with
  |normal=>exact hQ .normal U' st' a' w' h1 h2 h3 h4
  |exit j=>
   show Exit.inBlock id Q (.exit j) a' w'
   simp only[Zg8]at h4
   simp only[Exit.inBlock]
   split
   .rename_i e;rw [if_pos e]at h4;exact hQ .normal U' st' a' w' h1 h2 h3 h4
   .rename_i e;rw [if_neg e]at h4;exact hQ (.exit j) U' st' a' w' h1 h2 h3 h4
  |ret=>exact hQ .ret U' st' a' w' h1 h2 h3 h4
 |.loop x,f,Qs,Q,hQ,U,st,a,w,hI,hk,hs,h=>by
  obtain ⟨n,hn⟩:=h
  refine ZxG (fun n a w=>∃U st,Inv W U st a w/\(∀k,st.n<=k->¬U k)/\a.tmps.size=N/\Zls (swp tt (SC P J JF hds) od x) Qs n st) n ⟨U,st,hI,hk,hs,hn⟩ ?_
  rintro n a w ⟨U,st,hI,hk,hs,hn⟩
  cases n with
  |zero=>exact hn.elim
  |succ n=>
   obtain ⟨ms,ρ,hρ,hb⟩:=hn
   obtain ⟨U2,F⟩:=ZmY ms hI hk
   refine QB htt hmix v x f (ZgI (Zls (swp tt (SC P J JF hds) od x) Qs n) Qs) _ ?_ _ ((st.mats ms).ren ρ) a w (ZvM F hρ) (fun k C hU=>by simp only[St.ren]at C;omega) hs (hb (ZvM F hρ).deep)
   intro ex U' st' a' w' h1 h2 h3 h4
   cases ex with
   |normal=>exact ⟨n,yE,U',st',h1,h2,h3,h4⟩
   |exit id=>exact hQ (.exit id) U' st' a' w' h1 h2 h3 h4
   |ret=>exact hQ .ret U' st' a' w' h1 h2 h3 h4
 |.rangeFunc _ _ _ _,f,_,_,_,_,_,_,_,_,_,_,_=>by simp [Xb]at f
 |.scope _,f,_,_,_,_,_,_,_,_,_,_,_=>by simp [Xb]at f
 |.label _,f,_,_,_,_,_,_,_,_,_,_,_=>by simp [Xb]at f
 |.goto _,f,_,_,_,_,_,_,_,_,_,_,_=>by simp [Xb]at f
 |.refuse _,f,_,_,_,_,_,_,_,_,_,_,_=>by simp [Xb]at f
end
end
section
open Go.RowKit
section
variable {P:Program} {J:World->Prop} {JF:Nat->Prop} {W:QO} {U:Nat->Prop} {st:St} {w w':World} {a:Act} {tt:Nat->Option TI} {g:Gh}
def nK (g:Gh) (K:Nat->Prop) (b:Nat):Prop:=g.Z b\/∃k,K k/\b∈g.O k
theorem ZmO {k e m n B:Nat}{cs:List Value}(h:w.ownsV 0 e m (g.val k) n cs) (hB:∀b∈(g.val k).ownBlock.toList,B<=b):w.ownsV B e m (g.val k) n cs:=by
 refine ⟨h.1,?_⟩
 rcases h.2 with h0|⟨q,o,cap,a,hv,hg,r⟩
 .exact .inl h0
 .exact .inr ⟨q,o,cap,a,hv,hB q (by simp [hv,Value.ownBlock]),r⟩
variable {K:Nat->Prop}
theorem ZrQ [NW] {B:Nat}(hI:HI W g st.ob w) (hK:∀k,K k->ZiU (st.ob k)=false/\∀e m xs d,st.ob k=.row e m xs d->d=2) {x:AV}{ct:Bool×CT}{ks:List Nat}{v:Value}(h:ZfP st x=some (ct,ks)) (l:∀k∈ks,K k/\∀b∈g.O k++g.D k,B<=b) (hx:AVR g w x v):OC w B (nK g K) ct v (g.F ks):=by
 have a:∀b,nK g K b->g.own b:=fun b hb=>by
  rcases hb with hz|⟨k,_,mk⟩
  .exact .inr hz
  .exact .inl ⟨k,mk⟩
 cases x with
 |c y=>
  obtain ⟨L,h1,h2⟩:=hx
  cases y<;>simp only[ZfP,A6,A5]at h<;>obtain ⟨rfl,rfl⟩:=h
  .exact ⟨⟨h1.1,rfl⟩,by simp [Gh.F]⟩
  .exact ⟨⟨h1.1,rfl⟩,by simp [Gh.F]⟩
  .exact ⟨⟨h1.1,rfl,h1.2.2⟩,by simp [Gh.F]⟩
  .exact ⟨by simp [Gh.F],L,h1,fun b mb hb=>h2 b mb (a b hb)⟩
  .exact ⟨by simp [Gh.F],L,h1,fun b mb hb=>h2 b mb (a b hb)⟩
  .exact ⟨by simp [Gh.F],L,h1,fun b mb hb=>h2 b mb (a b hb)⟩
  .exact ⟨by simp [Gh.F],L,h1,fun b mb hb=>h2 b mb (a b hb)⟩
  .exact ⟨⟨rfl,h1.2⟩,by simp [Gh.F]⟩
  .exact ⟨by simp [Gh.F],L,h1,fun b mb hb=>h2 b mb (a b hb)⟩
  .exact ⟨by simp [Gh.F],L,h1,fun b mb hb=>h2 b mb (a b hb)⟩
 |row k=>
  simp only[ZfP]at h
  split at h
  .rename_i e m xs d hk
   obtain ⟨hm,cs,L,o1,o2,o3,o5⟩:=hI.deep hk
   split at h
   .rename_i hd
    simp only[A6,A5]at h
    obtain ⟨rfl,rfl⟩:=h
    have i:=l k yG
    rcases o5 with ⟨_,q1,q2⟩|⟨q,_⟩|⟨q,_⟩
    .refine ⟨hm,cs,L,by rw [hx.1];exact ZmO o1 fun b mb=>i.2 b (by simp [q1,mb]),o2,by simp [Gh.F,q1,q2,hx.1],fun b mb=>.inr ⟨k,i.1,by rw [q1];rw [hx.1]at mb;exact mb⟩⟩
    .omega
    .omega
   .rename_i hd
    simp only[A6,A5]at h
    obtain ⟨rfl,rfl⟩:=h
    have f:¬K k:=fun h=>hd ((hK k h).2 e m xs d hk)
    obtain ⟨A,cap,L0,s1,s2,s3,s4,s5⟩:=Sl.row o1
    refine ⟨by simp [Gh.F],L0++L,⟨A,cap,cs,L0,L,by rw [hx.1,s1],s2,s3,rfl,hm,s4,o2⟩,fun b mb hb=>?_⟩
    rcases AC.1 mb with m1|m1
    .have m2:=s5.subset m1
     rcases o5 with ⟨q,_⟩|⟨_,q1,q2⟩|⟨_,_,_,q⟩
     .exact hd q
     .have mk:b∈g.O k++g.D k:=by simp [q1,m2]
      rcases hb with hz|⟨j,hj,mj⟩
      .exact hI.nz mk hz
      .exact hI.apart k j (fun e=>f (e ▸ hj)) b mk (by simp [mj])
     .exact q b m2 (a b hb)
    .exact o3 b m1 (a b hb)
  .rename_i kk vk kv hk
   simp only[A6,A5]at h
   obtain ⟨rfl,rfl⟩:=h
   have ho:=hI.obs k
   rw [hk]at ho
   obtain ⟨b,es,c,q1,q2,q3,q4,q5,q6⟩:=ho
   have f:¬K k:=fun h=>by have:=(hK k h).1;rw [hk]at this;simp [ZiU]at this
   refine ⟨by simp [Gh.F],[b],⟨b,es,c,by rw [hx.1,q1],q4,q5,q6,rfl⟩,fun x mx hb=>?_⟩
   simp at mx;subst mx
   have mk:x∈g.O k++g.D k:=by simp [q2]
   rcases hb with hz|⟨j,hj,mj⟩
   .exact hI.nz mk hz
   .exact hI.apart k j (fun e=>f (e ▸ hj)) x mk (by simp [mj])
  .simp at h
 |nil e m=>
  simp only[ZfP]at h
  split at h
  .rename_i hm
   simp only[A6,A5]at h
   obtain ⟨rfl,rfl⟩:=h
   have o:v=.slice none 0 0:=hx
   subst o
   exact ⟨hm,[],[],ZfQ _ _ _ _,⟨rfl,rfl⟩,by simp [Gh.F,Value.ownBlock],by simp [Value.ownBlock]⟩
  .simp at h
 |n y=>
  obtain ⟨L,h1,h2⟩:=NR.toC hx
  simp only[ZfP,A6,A5]at h
  obtain ⟨rfl,rfl⟩:=h
  exact ⟨by simp [Gh.F],L,h1,fun b mb hb=>h2 b mb (a b hb)⟩
 |dead=>
  simp only[ZfP,A6,A5]at h
  obtain ⟨rfl,rfl⟩:=h
  exact ⟨by simp [Gh.F],[],⟨rfl,hx⟩,yG⟩
theorem ZpW [NW] {B:Nat}(hI:HI W g st.ob w) (hK:∀k,K k->ZiU (st.ob k)=false/\∀e m xs d,st.ob k=.row e m xs d->d=2):∀{xs:List AV}{cts:List (Bool×CT)}{ks:List Nat}{vs:List Value},ZdR st xs=some (cts,ks)->(∀k∈ks,K k/\∀b∈g.O k++g.D k,B<=b)->ZI (AVR g w) xs vs->OCs w B (nK g K) cts vs (g.F ks)
 | [],_,_,[],h,_,_=>by
  simp only[ZdR,A6,A5]at h
  obtain ⟨rfl,rfl⟩:=h
  exact ⟨rfl,by simp [Gh.F]⟩
 | [],_,_,_::_,_,_,h=>h.elim
 |_::_,_,_,[],_,_,h=>h.elim
 |x::r,cts,ks,v::vs,h,hks,hr=>by
  simp only[ZdR]at h
  obtain ⟨⟨c1,k1⟩,h1,h⟩:=AF.1 h
  obtain ⟨⟨c2,k2⟩,h2,h⟩:=AG.1 h
  simp only[A5]at h
  obtain ⟨rfl,rfl⟩:=h
  exact ⟨v,vs,g.F k1,g.F k2,rfl,by simp [Gh.F],ZrQ hI hK h1 (fun k mk=>hks k (by simp [mk])) hr.1,ZpW hI hK h2 (fun k mk=>hks k (by simp [mk])) hr.2⟩
theorem Zsb [NW] {B:Nat}(hI:HI W g st.ob w) (hK:∀k,K k->ZiU (st.ob k)=false/\∀e m xs d,st.ob k=.row e m xs d->d=2) {ag:Bool}{cs:List AV}{cts:List (Bool×CT)}{ks:List Nat}{v:Value}(h:ZdR st cs=some (cts,ks)) (a:∀k∈ks,K k/\∀b∈g.O k++g.D k,B<=b) (hx:PVR g w ag cs v):OP w B (nK g K) (ag,cts) v (g.F ks):=by
 cases ag with
 |true=>obtain ⟨vs,rfl,h2⟩:=hx;exact .inl ⟨rfl,vs,rfl,ZpW hI hK h a h2⟩
 |false=>
  obtain ⟨x,rfl,h2⟩:=hx
  simp only[ZdR]at h
  obtain ⟨⟨c1,k1⟩,h1,h⟩:=AF.1 h
  simp at h
  obtain ⟨rfl,rfl⟩:=h
  exact .inr ⟨rfl,c1,rfl,ZrQ hI hK h1 a h2⟩
theorem OC.one {B:Nat}{n:Nat->Prop}{x:Bool×CT}{v:Value}{F:List Nat}(h:OC w B n x v F):v.oneCell'=true:=by
 obtain ⟨b,x⟩:=x
 cases b with
 |true=>obtain ⟨_,L,h1,_⟩:=h;exact h1.one
 |false=>
  cases x with
  |sl e q xs=>
   obtain ⟨_,cs,L,o1,_⟩:=h
   obtain ⟨A,cap,hv⟩:=Zci o1
   rw [hv];rfl
  |int k i=>exact h.1.one
  |bool b=>exact h.1.one
  |str s=>exact h.1.one
  |ifc s=>exact h.1.one
  |any=>exact h.1.one
  |_=>exact h.elim
/- what is given is said to be lent -/
theorem Zqu [NW] {B:Nat}{n:Nat->Prop}:∀{r d:List (Bool×CT)}{vs:List Value}{F:List Nat},OCs w B n r vs F->wkC r d->F.Nodup->∃F',F'.Sublist F/\∀m:Nat->Prop,(∀b∈F',n b->m b)->(∀b,m b->n b)->(∀b∈F,m b->b∈F')->OCs w B m d vs F'
 | [],[],vs,F,h,_,_=>⟨[],yG,fun m _ _ _=>⟨h.1,rfl⟩⟩
 | [],_::_,_,_,_,h,_=>h.elim
 |_::_,[],_,_,_,h,_=>h.elim
 |x::r,y::d,_,_,⟨v,vs,F1,F2,rfl,rfl,h1,h2⟩,a,hnd=>by
  rw [AN]at hnd
  have a:wk1 x y (wkC r d):=a
  unfold wk1 at a
  by_cases c:ZvL y.2=true
  .rw [if_pos c]at a
   obtain ⟨F2',s2,g⟩:=Zqu h2 a hnd.2.1
   refine ⟨F2',s2.trans (List.sublist_append_right _ _),fun m m1 m2 m3=>⟨v,vs,[],F2',rfl,rfl,?_,g m m1 m2 fun b mb hb=>m3 b (by simp [mb]) hb⟩⟩
   have f:=h1.one
   obtain ⟨b2,y⟩:=y
   cases y<;>simp [ZvL]at c
   cases b2 with
   |true=>exact ⟨rfl,[],⟨rfl,f⟩,yG⟩
   |false=>exact ⟨⟨rfl,f⟩,rfl⟩
  rw [if_neg c]at a
  obtain ⟨e1,e2,hw⟩:=a
  obtain ⟨F2',s2,g⟩:=Zqu h2 hw hnd.2.1
  have key:∃F1',F1'.Sublist F1/\∀m:Nat->Prop,(∀b∈F1',n b->m b)->(∀b,m b->n b)->(∀b∈F1,m b->b∈F1')->OC w B m y v F1':=by
   obtain ⟨b1,x⟩:=x
   obtain ⟨b2,y⟩:=y
   simp only at e1 e2
   subst e1
   cases b1 with
   |true=>
    have:b2=true:=by rcases e2 with e|e<;>simp_all
    subst this
    obtain ⟨rfl,L,q1,q2⟩:=h1
    exact ⟨[],yG,fun m _ m2 _=>⟨rfl,L,q1,fun b mb hb=>q2 b mb (m2 b hb)⟩⟩
   |false=>
    cases b2 with
    |false=>
     refine ⟨F1,List.Sublist.refl _,fun m m1 _ _=>?_⟩
     cases x with
     |sl e q xs=>
      obtain ⟨hm,cs,L,o1,o2,o3,o4⟩:=h1
      exact ⟨hm,cs,L,o1,o2,o3,fun b mb=>m1 b (by simp [o3,mb]) (o4 b mb)⟩
     |int k i=>exact h1
     |bool b=>exact h1
     |str s=>exact h1
     |ifc s=>exact h1
     |any=>exact h1
     |_=>exact h1.elim
    |true=>
     refine ⟨[],yG,fun m _ _ m3=>⟨rfl,?_⟩⟩
     cases x with
     |sl e q xs=>
      obtain ⟨hm,cs,L,o1,o2,o3,o4⟩:=h1
      obtain ⟨A,cap,L0,s1,s2,s3,s4,s5⟩:=Sl.row o1
      refine ⟨L0++L,⟨A,cap,cs,L0,L,s1,s2,s3,rfl,hm,s4,o2⟩,fun b mb hb=>?_⟩
      have:b∈F1:=by
       rw [o3]
       rcases AC.1 mb with m1|m1
       .exact AC.2 (.inl (s5.subset m1))
       .exact AC.2 (.inr m1)
      have:=m3 b this hb
      simp at this
     |int k i=>exact ⟨[],h1.1,yG⟩
     |bool b=>exact ⟨[],h1.1,yG⟩
     |str s=>exact ⟨[],h1.1,yG⟩
     |ifc s=>exact ⟨[],h1.1,yG⟩
     |any=>exact ⟨[],h1.1,yG⟩
     |_=>exact h1.elim
  obtain ⟨F1',s1,f⟩:=key
  refine ⟨F1'++F2',AZ s1 s2,fun m m1 m2 m3=>⟨v,vs,F1',F2',rfl,rfl,f m (fun b mb=>m1 b (by simp [mb])) m2 (fun b mb hb=>?_),g m (fun b mb=>m1 b (by simp [mb])) m2 (fun b mb hb=>?_)⟩⟩
  .rcases AC.1 (m3 b (by simp [mb]) hb) with h|h
   .exact h
   .exact absurd rfl (hnd.2.2 b mb b (s2.subset h))
  .rcases AC.1 (m3 b (by simp [mb]) hb) with h|h
   .exact absurd rfl (hnd.2.2 b (s1.subset h) b mb)
   .exact h
theorem ZDo [NW] {B:Nat}{n:Nat->Prop}{x y:RT}{v:Value}{F:List Nat}(h:OP w B n x v F) (e1:x.1=y.1) (hw:wkC x.2 y.2) (d:F.Nodup):∃F',F'.Sublist F/\∀m:Nat->Prop,(∀b∈F',n b->m b)->(∀b,m b->n b)->(∀b∈F,m b->b∈F')->OP w B m y v F':=by
 rcases h with ⟨h1,vs,rfl,h2⟩|⟨h1,ct,h2,h3⟩
 .obtain ⟨F',s,h⟩:=Zqu h2 hw d
  exact ⟨F',s,fun m a b c=>.inl ⟨e1 ▸ h1,vs,rfl,h m a b c⟩⟩
 .obtain ⟨F',s,h⟩:=Zqu (r:=x.2) (vs:=[v]) (F:=F) (by rw [h2];exact ⟨v,[],F,[],rfl,yG,h3,rfl,rfl⟩) hw d
  refine ⟨F',s,fun m p1 p2 p3=>.inr ⟨e1 ▸ h1,?_⟩⟩
  have h4:=h m p1 p2 p3
  generalize y.2=l at h4 hw
  cases l with
  |nil=>rw [h2]at hw;exact hw.elim
  |cons c l=>
   cases l with
   |nil=>
    obtain ⟨v',vs',F1,F2,q1,rfl,q3,q4⟩:=h4
    simp only[AP]at q1
    obtain ⟨rfl,rfl⟩:=q1
    obtain ⟨_,rfl⟩:=q4
    exact ⟨c,rfl,by simpa using q3⟩
   |cons _ _=>
    rw [h2]at hw
    have hw:wk1 _ _ False:=hw
    unfold wk1 at hw
    split at hw
    .exact hw.elim
    .exact hw.2.2.elim
theorem ZyW [NW] {B:Nat}{n:Nat->Prop}:∀{r a:List RT}{vs:List Value}{F:List Nat},OPs w B n r vs F->wkR r a->F.Nodup->∃F',F'.Sublist F/\∀m:Nat->Prop,(∀b∈F',n b->m b)->(∀b,m b->n b)->(∀b∈F,m b->b∈F')->OPs w B m a vs F'
 | [],[],vs,F,h,_,_=>⟨[],yG,fun m _ _ _=>⟨h.1,rfl⟩⟩
 | [],_::_,_,_,_,h,_=>h.elim
 |_::_,[],_,_,_,h,_=>h.elim
 |x::r,y::a,_,_,⟨v,vs,F1,F2,rfl,rfl,h1,h2⟩,⟨e1,e2,hw⟩,hnd=>by
  rw [AN]at hnd
  obtain ⟨F2',s2,c⟩:=ZyW h2 hw hnd.2.1
  obtain ⟨F1',s1,d⟩:=ZDo h1 e1 e2 hnd.1
  refine ⟨F1'++F2',AZ s1 s2,fun m m1 m2 m3=>⟨v,vs,F1',F2',rfl,rfl,d m (fun b mb=>m1 b (by simp [mb])) m2 (fun b mb hb=>?_),c m (fun b mb=>m1 b (by simp [mb])) m2 (fun b mb hb=>?_)⟩⟩
  .rcases AC.1 (m3 b (by simp [mb]) hb) with h|h
   .exact h
   .exact absurd rfl (hnd.2.2 b mb b (s2.subset h))
  .rcases AC.1 (m3 b (by simp [mb]) hb) with h|h
   .exact absurd rfl (hnd.2.2 b (s1.subset h) b mb)
   .exact h
def Zgm (tmps:Array Value):ResultVar->Sem Value
 |.tmp t=>pure (tmps.getD t undef)
 |.cell b t=>do loadVar t (<-asAddr (tmps.getD b undef))
theorem ZiS (fn:Func) (a:Array Value):results fn a=(do let vs <-fn.results.mapM (Zgm a);pure (if h:vs.size=1 then vs[0] else .tuple vs)):=by
 unfold results
 congr 1
theorem Zmw [NW] {B:Nat}(htt:∀t i,tt t=some i->TOk P t i) (hI:HI W g st.ob w) (hS:∀t,SVR g w (st.sl t) (a.tmps.getD t undef)) (hU:StU U st) (hK:∀k,K k->ZiU (st.ob k)=false/\∀e m xs d,st.ob k=.row e m xs d->d=2):∀{rs:List ResultVar}{j:List RT}{ks:List Nat},Zcy tt st rs=some (j,ks)->(∀k∈ks,K k/\∀b∈g.O k++g.D k,B<=b)->
  ∃vs:List Value,(rs.mapM (Zgm a.tmps)).run P w=.ok vs w/\OPs w B (nK g K) j vs (g.F ks)
 | [],j,ks,h,_=>by
  simp only[Zcy,A6,A5]at h
  obtain ⟨rfl,rfl⟩:=h
  exact ⟨[],yG,rfl,by simp [Gh.F]⟩
 |.tmp t::r,j,ks,h,hks=>by
  simp only[Zcy]at h
  split at h
  .rename_i ag cs f
   obtain ⟨⟨c1,k1⟩,h1,h⟩:=AF.1 h
   obtain ⟨⟨c2,k2⟩,h2,h⟩:=AG.1 h
   simp only[A5]at h
   obtain ⟨rfl,rfl⟩:=h
   obtain ⟨vs,i1,i2⟩:=Zmw htt hI hS hU hK h2 (fun k mk=>hks k (by simp [mk]))
   have hs:=hS t
   rw [f]at hs
   refine ⟨a.tmps.getD t undef::vs,?_,_,vs,g.F k1,g.F k2,rfl,by simp [Gh.F],Zsb hI hK h1 (fun k mk=>hks k (by simp [mk])) hs,i2⟩
   simp only[Aa,Zgm,Sem.run_bind,Sem.run_pure,Result.andThen_ok,i1]
  .simp at h
 |.cell t ty::r,j,ks,h,hks=>by
  simp only[Zcy]at h
  split at h
  .rename_i ag cs f
   obtain ⟨⟨c1,k1⟩,h1,h⟩:=AF.1 h
   obtain ⟨⟨c2,k2⟩,h2,h⟩:=AG.1 h
   simp only[A5]at h
   obtain ⟨rfl,rfl⟩:=h
   obtain ⟨vs,i1,i2⟩:=Zmw htt hI hS hU hK h2 (fun k mk=>hks k (by simp [mk]))
   obtain ⟨cv,l1,l2,_⟩:=ZvA (P:=P) (U:=U) htt hI hU f (hS t)
   have hl:(do loadVar ty (<-asAddr (a.tmps.getD t undef)):Sem Value).run P w=.ok cv w:=by
    have:∃b,a.tmps.getD t undef=.pointer (some b):=by
     have hs:=hS t
     cases hsl':st.sl t with
     |bp k off=>rw [hsl']at hs;obtain ⟨b,_,hv⟩:=hs;exact ⟨_,hv⟩
     |rp k m i off=>rw [hsl']at hs;obtain ⟨b,_,_,_,_,hv⟩:=hs;exact ⟨_,hv⟩
     |ep e off=>rw [hsl']at hs;obtain ⟨b,_,_,_,hv,_⟩:=hs;exact ⟨_,hv⟩
     |p l o=>
      rw [hsl']at hs f
      cases l with
      |true=>simp [QI]at f
      |false=>
       cases o with
       |nil=>simp [QI]at f
       |cons y q=>
        cases q with
        |cons _ _=>cases y<;>first|(simp [QI]at f;done)|(rename_i z;cases z<;>simp [QI]at f)
        |nil=>cases y with
         |c z=>cases z with
          |pt e=>obtain ⟨b,_,_,hv,_⟩:=Zu0 hs;exact ⟨_,hv⟩
          |_=>simp [QI]at f
         |_=>simp [QI]at f
     |_=>rw [hsl']at f;simp [QI]at f
    obtain ⟨b,hb⟩:=this
    rw [hb]at l1 ⊢
    simpa [Instr.loadAt,Instr.sureAddr,asAddr]using l1
   refine ⟨cv::vs,?_,_,vs,g.F k1,g.F k2,rfl,by simp [Gh.F],Zsb hI hK h1 (fun k mk=>hks k (by simp [mk])) l2,i2⟩
   have u:(Zgm a.tmps (.cell t ty)).run P w=.ok cv w:=hl
   simp only[Aa,Sem.run_bind,u,i1,Sem.run_pure,Result.andThen_ok]
  .simp at h
theorem Zt6:∀{xs:List AV}{cts:List (Bool×CT)}{ks:List Nat},ZdR st xs=some (cts,ks)->∀k∈ks,∃e m xs,st.ob k=.row e m xs 2
 | [],_,_,h,k,mk=>by
  simp only[ZdR,A6,A5]at h
  rw [<-h.2]at mk;simp at mk
 |x::r,cts,ks,h,k,mk=>by
  simp only[ZdR]at h
  obtain ⟨⟨c1,k1⟩,h1,h⟩:=AF.1 h
  obtain ⟨⟨c2,k2⟩,h2,h⟩:=AG.1 h
  simp only[A5]at h
  obtain ⟨rfl,rfl⟩:=h
  rcases AC.1 mk with mk|mk
  .cases x with
   |c y=>cases y<;>simp only[ZfP,A6,A5]at h1<;>(rw [<-h1.2]at mk;simp at mk)
   |row j=>
    simp only[ZfP]at h1
    split at h1
    .rename_i e m xs d hk
     split at h1
     .rename_i hd
      simp only[A6,A5]at h1
      rw [<-h1.2]at mk
      simp at mk
      subst mk
      exact ⟨e,m,xs,by rw [hk,hd]⟩
     .simp only[A6,A5]at h1
      rw [<-h1.2]at mk;simp at mk
    .simp only[A6,A5]at h1
     rw [<-h1.2]at mk;simp at mk
    .simp at h1
   |nil e m=>
    simp only[ZfP]at h1
    split at h1
    .simp only[A6,A5]at h1
     rw [<-h1.2]at mk;simp at mk
    .simp at h1
   |n y=>
    simp only[ZfP,A6,A5]at h1
    rw [<-h1.2]at mk;simp at mk
   |dead=>
    simp only[ZfP,A6,A5]at h1
    rw [<-h1.2]at mk;simp at mk
  .exact Zt6 h2 k mk
theorem Zkr [NW]:∀{rs:List ResultVar}{a:List RT}{ks:List Nat},Zcy tt st rs=some (a,ks)->∀k∈ks,∃e m xs,st.ob k=.row e m xs 2
 | [],_,_,h,k,mk=>by
  simp only[Zcy,A6,A5]at h
  rw [<-h.2]at mk;simp at mk
 |.tmp t::r,a,ks,h,k,mk=>by
  simp only[Zcy]at h
  split at h
  .obtain ⟨⟨c1,k1⟩,h1,h⟩:=AF.1 h
   obtain ⟨⟨c2,k2⟩,h2,h⟩:=AG.1 h
   simp only[A5]at h
   obtain ⟨rfl,rfl⟩:=h
   rcases AC.1 mk with mk|mk
   .exact Zt6 h1 k mk
   .exact Zkr h2 k mk
  .simp at h
 |.cell t ty::r,a,ks,h,k,mk=>by
  simp only[Zcy]at h
  split at h
  .obtain ⟨⟨c1,k1⟩,h1,h⟩:=AF.1 h
   obtain ⟨⟨c2,k2⟩,h2,h⟩:=AG.1 h
   simp only[A5]at h
   obtain ⟨rfl,rfl⟩:=h
   rcases AC.1 mk with mk|mk
   .exact Zt6 h1 k mk
   .exact Zkr h2 k mk
  .simp at h
theorem Zv2 [NW] {z:Nat->Prop}{x:Bool×List CT}{v:Value}(hg:∀b,g.own b->z b) (h:ZhY w z x v):SVR g w (.p x.1 (x.2.map .c)) v:=by
 rcases h with ⟨h1,vs,L,rfl,h2,h4⟩|⟨h1,ct,L,h2,h3,h4⟩
 .rw [h1];exact ⟨vs,rfl,h2.avr fun b mb hb=>h4 b mb (hg b hb)⟩
 .rw [h1,h2];exact ⟨_,rfl,L,h3,fun b mb hb=>h4 b mb (hg b hb)⟩
theorem Zvb [NW] {x:CT}{v:Value}{L:List Nat}(h:RC w x v L) (hL:∀b∈L,¬g.own b):AVR g w (ZiV x) v:=by
 cases x with
 |nl e m=>exact h.1
 |_=>exact ⟨L,h,hL⟩
theorem ZrN [NW]:∀{e:List CT}{cs:List Value}{L:List Nat},RCs w e cs L->(∀b∈L,¬g.own b)->ZI (AVR g w) (e.map ZiV) cs
 | [],_,_,⟨h1,h2⟩,_=>by subst h1;trivial
 |x::r,_,_,⟨v,cs,L1,L2,h1,h2,h3,h4⟩,hL=>by
  subst h1 h2
  exact ⟨Zvb h3 fun b m=>hL b (by simp [m]),ZrN h4 fun b m=>hL b (by simp [m])⟩
theorem ZnO [NW] {z:Nat->Prop}{x:Bool×List CT}{v:Value}(hg:∀b,g.own b->z b) (h:ZhY w z x v):SVR g w (.p x.1 (x.2.map ZiV)) v:=by
 rcases h with ⟨h1,vs,L,rfl,h2,h4⟩|⟨h1,ct,L,h2,h3,h4⟩
 .rw [h1];exact ⟨vs,rfl,ZrN h2 fun b mb hb=>h4 b mb (hg b hb)⟩
 .rw [h1,h2];exact ⟨_,rfl,Zvb h3 fun b mb hb=>h4 b mb (hg b hb)⟩
theorem Zm0 (e:List CT):X3 U (e.map ZiV):=fun y m=>by
 obtain ⟨x,_,rfl⟩:=AI.1 m
 cases x<;>trivial
theorem ZAX [NW] {B:Nat}(htt:∀t i,tt t=some i->TOk P t i) {fn:Func}{f:List RT}(hI:Inv W U st a w) (hH:HI W g st.ob w) (hS:∀t,SVR g w (st.sl t) (a.tmps.getD t undef)) {r:List RT}{ks:List Nat}(hx:Zcy tt st fn.results.toList=some (r,ks)) (j:ks.Nodup) (hw:wkR r f)
  (hB:∀k∈ks,∀b∈g.O k++g.D k,B<=b) (K0:Nat->Prop) (l:∀k,K0 k->ZiU (st.ob k)=false/\∀e m xs d,st.ob k=.row e m xs d->d=2):
  ∃v m us F',F'.Sublist (g.F ks)/\(results fn a.tmps).run P w=.ok v w/\(OPs w B m f us F'/\Own w B F'/\v=(if h:us.toArray.size=1 then us.toArray[0] else .tuple us.toArray))/\(∀b,m b->g.own b)/\(∀b,m b->g.Z b\/(∃k,(k∈ks\/K0 k)/\b∈g.O k))/\∀b,b∉g.F ks->(g.Z b\/∃k,K0 k/\b∈g.O k)->m b:=by
 obtain ⟨us,r1,r2⟩:=Zmw (K:=fun k=>k∈ks\/K0 k) htt hH hS hI.wf (fun k hk=>by
  rcases hk with hk|hk
  .obtain ⟨e',m',o,h'⟩:=Zkr hx k hk
   refine ⟨by rw [h'];rfl,fun e m xs d he=>?_⟩
   rw [he]at h'
   simp only[Ob.row.injEq]at h'
   exact h'.2.2.2
  .exact l k hk) hx (fun k mk=>⟨.inl mk,hB k mk⟩)
 have c:=hH.nodupF j
 obtain ⟨F',s,hF⟩:=ZyW r2 hw c
 have p:∀b∈g.F ks,B<=b:=fun b mb=>by
  obtain ⟨k,hk,mk⟩:=ZgR mb
  exact hB k hk b mk
 refine ⟨(if h:us.toArray.size=1 then us.toArray[0] else .tuple us.toArray),fun b=>nK g (fun k=>k∈ks\/K0 k) b/\(b∈g.F ks->b∈F'),us,F',s,?_,⟨hF _ (fun b mb hb=>⟨hb,fun _=>mb⟩) (fun b hb=>hb.1) (fun b mb hb=>hb.2 mb),⟨c.sublist s,fun b mb=>p b (s.subset mb),fun b mb=>?_⟩,rfl⟩,fun b hb=>?_,fun b hb=>hb.1,fun b hb hn=>⟨?_,fun mb=>absurd mb hb⟩⟩
 .rw [ZiS]
  have e:fn.results.mapM (Zgm a.tmps)=AU <$> fn.results.toList.mapM (Zgm a.tmps):=by
   rw [<-List.mapM_toArray]
  have e2:(AU <$> fn.results.toList.mapM (Zgm a.tmps)).run P w=.ok us.toArray w:=by
   rw [map_eq_pure_bind]
   simp only[Sem.run_bind,r1,Result.andThen_ok,Sem.run_pure]
  rw [e]
  simp only[Sem.run_bind,e2,Result.andThen_ok,Sem.run_pure]
 .obtain ⟨k,hk,mk⟩:=ZgR (s.subset mb)
  obtain ⟨e',m',o,h'⟩:=Zkr hx k hk
  have:=(hH.plain k b mk).2
  rw [h']at this
  exact this
 .rcases hb.1 with hz|⟨k,_,mk⟩
  .exact .inr hz
  .exact .inl ⟨k,mk⟩
 .rcases hn with hz|⟨k,hk,mk⟩
  .exact .inl hz
  .exact .inr ⟨k,.inr hk,mk⟩
theorem Zuc [NW] {B:Nat}(htt:∀t i,tt t=some i->TOk P t i) {fn:Func}{c:List RT}(hI:Inv W U st a w) (hH:HI W g st.ob w) (hS:∀t,SVR g w (st.sl t) (a.tmps.getD t undef)) {r:List RT}{ks:List Nat}(hx:Zcy tt st fn.results.toList=some (r,ks)) (f:ks.Nodup) (hw:wkR r c)
  (hB:∀k∈ks,∀b∈g.O k++g.D k,B<=b) (K0:Nat->Prop) (j:∀k,K0 k->ZiU (st.ob k)=false/\∀e m xs d,st.ob k=.row e m xs d->d=2):
  ∃v m,(results fn a.tmps).run P w=.ok v w/\ZhV w B m c v/\(∀b,m b->g.own b)/\(∀b,m b->g.Z b\/(∃k,(k∈ks\/K0 k)/\b∈g.O k))/\∀b,b∉g.F ks->(g.Z b\/∃k,K0 k/\b∈g.O k)->m b:=by
 obtain ⟨v,m,us,F',_,h1,⟨h2,h3,h4⟩,h5⟩:=ZAX htt hI hH hS hx f hw hB K0 j
 exact ⟨v,m,h1,⟨us,F',h2,h3,h4⟩,h5⟩
end
abbrev nw0:NW:=⟨0⟩
section
variable {P:Program} {J:World->Prop} {JF:Nat->Prop} {W:QO} {U:Nat->Prop} {st:St} {w w':World} {a:Act} {tt:Nat->Option TI} {od:OD} {g:Gh}
structure JOk (J:World->Prop) (JF:Nat->Prop):Prop where
 below:∀(x:Nat->Prop) (w w':World),J w->(∀b,x b->JF b)->w'.os=w.os->w'.tape=w.tape->w'.output=w.output->w.heap.size<=w'.heap.size->(∀k,k<w.heap.size->¬x k->w'.heap[k]?=w.heap[k]?)->J w'
 new:∀(w:World) b,J w->w.heap.size<=b->JF b
theorem ZaM {args:List (Bool×List CT)}{vs:List Value}{N t o:Nat}(h:vs.length<=N) (v:Value) (hv:vs[t]?=some v):(vs.toArray++AA (N - vs.toArray.size) undef).getD t undef=v:=by
 have hl:t<vs.length:=(AE.1 hv).1
 simp only[AO,Ac,AQ,hl,if_true,List.getElem?_toArray,hv,Option.getD_some]
theorem ZhA {vs:List Value}{N t:Nat}(ht:vs.length<=t):(vs.toArray++AA (N - vs.toArray.size) undef).getD t undef=undef:=by
 simp only[AO,Ac,AQ,show ¬t<vs.length by omega,if_false,Array.getElem?_replicate]
 split<;>rfl
theorem Zte (htt : ∀ t i, tt t = some i → TOk P t i) (hJ : JOk J JF) (hmix : P.follows .mixedOrders = true) {hds : FuncId → Nat} {f : FuncId} {fn : Func} {c : Code} {args : List (Bool × List CT)} {res : List RT} (hf : P.funcs[f]? = some fn) (hname : (fn.name == "runtime.NumGoroutine") = false) (hb : fn.body = some c)
  (hok:Xb od tt hds false fn.ntmps c=true) (hlen:Nat.ble args.length fn.ntmps=true) (h:fnS od tt (SC P J JF hds) fn.results.toList c args res):Zm P J f args res:=by
 letI:NW:=nw0
 refine ⟨⟨fn,hf,hname,by rw [hb];rfl⟩,fun w z vs hj hz hargs=>?_⟩
 have hlen':args.length<=fn.ntmps:=AB hlen
 have hvl:=hargs.len
 refine calls_of_wp hf hb ?_
 let W:QO:={ w with z:=z,x:=fun _=>False,hv:=none }
 let g0:Gh:=⟨fun _=>undef,fun _=>[],fun _=>[],z⟩
 have hg0:∀b,g0.own b->z b:=fun b hb=>by
  rcases hb with ⟨k,m⟩|h
  .simp [g0]at m
  .exact h
 have hI0:Inv W (fun _=>False) (Zq args) { tmps:=vs.toArray++AA (fn.ntmps - vs.toArray.size) undef,defers:=[] } w:=by
  refine ⟨⟨g0,⟨⟨rfl,rfl,rfl,AD _,fun _ _ _=>rfl⟩,fun k=>⟨rfl,rfl⟩,fun k=>by simp [g0],fun k j _ b m=>by simp [g0]at m,fun k b m=>by simp [g0]at m,rfl,fun b hb=>⟨hz b hb,fun h=>h,fun h=>h⟩,fun _ _=>AK _,fun k b m=>by simp [g0]at m⟩,fun t=>?_⟩,⟨fun t=>?_,fun k=>trivial,fun k _=>rfl⟩,rfl,fun v hv=>by simp [W]at hv⟩
  .show SVR g0 w (match args[t]? with|some x=>.p x.1 (x.2.map ZiV)|none=>.und) _
   cases ht:args[t]? with
   |none=>exact ZhA (by have:args.length<=t:=(by simpa using ht);omega)
   |some x=>
    obtain ⟨v,hv,hr⟩:=hargs.at ht
    show SVR g0 w (.p x.1 (x.2.map ZiV)) ((vs.toArray++AA (fn.ntmps - vs.toArray.size) undef).getD t undef)
    rw [ZaM (args:=args) (o:=0) yE v hv]
    exact ZnO hg0 hr
  .show svU _ (match args[t]? with|some x=>.p x.1 (x.2.map ZiV)|none=>.und)
   split
   .exact Zm0 _
   .trivial
 have hM:MOk P J JF W tt:=⟨htt,fun w' hb=>hJ.below (fun _=>False) w w' hj (fun _ h=>h.elim) hb.os hb.tape hb.output hb.size (fun k hk hx=>hb.block k hk hx),fun b hb=>hJ.new w b hj hb,fun b h=>h.elim⟩
 refine QB (W:=W) hM hmix (.inl rfl) c hok (Zr2 tt fn.results.toList fun _ r _=>wkR r res) _ ?_ _ (Zq args) _ w hI0 (fun _ _ h=>h) (by simp;omega) h
 intro ex U' st' a' w' hI' _ _ hK
 have fin:(match Zcy tt st' fn.results.toList with|some x=>x.2.Nodup/\wkR x.1 res|none=>False)->a'.defers=[]/\∃v,(results fn a'.tmps).run P w'=.ok v w'/\∃u n,Ending.returned v=.returned u/\ZhV w' w.heap.size n res u/\(∀b,z b->n b)/\Below w.heap.size w w':=fun hK=>by
  split at hK
  .rename_i x hx
   obtain ⟨r,ks⟩:=x
   obtain ⟨hnd,hw⟩:=hK
   obtain ⟨g,hH,hS⟩:=hI'.ex
   have hBg:∀k∈ks,∀b∈g.O k++g.D k,W.heap.size<=b:=fun k _ b mb=>(hH.plain k b mb).1.resolve_right fun h=>h.elim (fun h=>h) fun h=>h
   obtain ⟨v,m,e1,e2,_,_,e4⟩:=Zuc htt hI' hH hS hx hnd hw hBg (fun _=>False) (fun _ h=>h.elim)
   have hbel:=hH.below
   exact ⟨hI'.defers,v,e1,v,m,rfl,e2,fun b hb=>e4 b (fun mb=>by obtain ⟨k,hk,mk⟩:=ZgR mb;have:=hBg k hk b mk;have:=hz b hb;have e:W.heap.size=w.heap.size:=rfl;omega) (.inl (by rw [hH.gz];exact hb)),hbel.os,hbel.tape,hbel.output,hbel.size,fun k hk=>hbel.block k hk fun h=>h⟩
  .exact hK.elim
 cases ex with
 |normal=>exact fin hK
 |exit id=>exact hK.elim
 |ret=>exact fin hK
theorem Zwy (htt : ∀ t i, tt t = some i → TOk P t i) (hJ : JOk J JF) (hmix : P.follows .mixedOrders = true) {hds : FuncId → Nat} {f : FuncId} {fn : Func} {c : Code} {args : List (Bool × List CT)} {nb : NB} (hf : P.funcs[f]? = some fn) (hname : (fn.name == "runtime.NumGoroutine") = false) (hb : fn.body = some c)
  (hok:Xb od tt hds false fn.ntmps c=true) (hlen:Nat.ble args.length fn.ntmps=true) (h:fnB od tt (SC P J JF hds) fn.results.toList c args nb):Zri P J f args nb:=by
 letI:NW:=nw0
 refine ⟨⟨fn,hf,hname,by rw [hb];rfl⟩,fun w z vs hj hz hargs=>?_⟩
 have hlen':args.length<=fn.ntmps:=AB hlen
 have hvl:=hargs.len
 refine calls_of_wp hf hb ?_
 let W:QO:={ w with z:=z,x:=fun _=>False,hv:=none }
 let g0:Gh:=⟨fun _=>undef,fun _=>[],fun _=>[],z⟩
 have hg0:∀b,g0.own b->z b:=fun b hb=>by
  rcases hb with ⟨k,m⟩|h
  .simp [g0]at m
  .exact h
 have hI0:Inv W (fun _=>False) (Zq args) { tmps:=vs.toArray++AA (fn.ntmps - vs.toArray.size) undef,defers:=[] } w:=by
  refine ⟨⟨g0,⟨⟨rfl,rfl,rfl,AD _,fun _ _ _=>rfl⟩,fun k=>⟨rfl,rfl⟩,fun k=>by simp [g0],fun k j _ b m=>by simp [g0]at m,fun k b m=>by simp [g0]at m,rfl,fun b hb=>⟨hz b hb,fun h=>h,fun h=>h⟩,fun _ _=>AK _,fun k b m=>by simp [g0]at m⟩,fun t=>?_⟩,⟨fun t=>?_,fun k=>trivial,fun k _=>rfl⟩,rfl,fun v hv=>by simp [W]at hv⟩
  .show SVR g0 w (match args[t]? with|some x=>.p x.1 (x.2.map ZiV)|none=>.und) _
   cases ht:args[t]? with
   |none=>exact ZhA (by have:args.length<=t:=(by simpa using ht);omega)
   |some x=>
    obtain ⟨v,hv,hr⟩:=hargs.at ht
    show SVR g0 w (.p x.1 (x.2.map ZiV)) ((vs.toArray++AA (fn.ntmps - vs.toArray.size) undef).getD t undef)
    rw [ZaM (args:=args) (o:=0) yE v hv]
    exact ZnO hg0 hr
  .show svU _ (match args[t]? with|some x=>.p x.1 (x.2.map ZiV)|none=>.und)
   split
   .exact Zm0 _
   .trivial
 have hM:MOk P J JF W tt:=⟨htt,fun w' hb=>hJ.below (fun _=>False) w w' hj (fun _ h=>h.elim) hb.os hb.tape hb.output hb.size (fun k hk hx=>hb.block k hk hx),fun b hb=>hJ.new w b hj hb,fun b h=>h.elim⟩
 refine QB (W:=W) hM hmix (.inl rfl) c hok (ZBb fn.results.toList nb) _ ?_ _ (Zq args) _ w hI0 (fun _ _ h=>h) (by simp;omega) h
 intro ex U' st' a' w' hI' _ _ hK
 have fin:Zgw st' fn.results.toList nb->a'.defers=[]/\∃v,(results fn a'.tmps).run P w'=.ok v w'/\∃(b:Nat) (n:Nat->Prop),Ending.returned v=.returned (Zpk b nb)/\w.heap.size<=b/\nbR w' n b nb/\n b/\(∀x,z x->n x)/\Below w.heap.size w w':=fun hK=>by
  unfold Zgw at hK
  split at hK
  .rename_i s hrs
   have er:fn.results=#[.tmp s]:=by
    have:=congrArg AU hrs
    simpa using this
   obtain ⟨g,hH,hS⟩:=hI'.ex
   have hs:=hS s
   have hbel:=hH.below
   cases nb with
   |box t cs=>
    obtain ⟨k,ds,k1,k2,k3,k4⟩:=hK
    rw [k1]at hs
    obtain ⟨b,b1,b2⟩:=hs
    have hob:=hH.obs k
    rw [k2]at hob
    obtain ⟨b',us,o1,o2,o3,o4,o5⟩:=hob
    have hbb:b'=b:=by rw [b1]at o1;simpa using o1.symm
    subst hbb
    obtain ⟨L,hL,hL2⟩:=ZfH hH k4 o5
    have hno:=hL2 fun y my=>by
     have:=AJ.1 k3 y my
     cases y<;>simp [ZbA]at this<;>trivial
    refine ⟨hI'.defers,_,?_,b',fun x=>g.own x,rfl,(hH.plain k b' (by simp [o2])).1.resolve_right fun h=>h.elim (fun h=>h) fun h=>h,⟨us,L,o4,hL,hno⟩,.inl ⟨k,by simp [o2]⟩,fun x hx=>.inr (by rw [hH.gz];exact hx),hbel.os,hbel.tape,hbel.output,hbel.size,fun k hk=>hbel.block k hk fun h=>h⟩
    rw [ZiS,er]
    simp [Zgm,b2,Zpk]
   |map kk vk kv=>
    obtain ⟨k,k1,k2⟩:=hK
    rw [k1]at hs
    obtain ⟨x,hx,hx3⟩:=hs
    simp only[AP,and_true]at hx
    subst hx
    obtain ⟨hx2,_⟩:=hx3
    have hob:=hH.obs k
    rw [k2]at hob
    obtain ⟨b,es,c,o1,o2,o3,o4,o5⟩:=hob
    refine ⟨hI'.defers,_,?_,b,fun x=>g.own x,rfl,(hH.plain k b (by simp [o2])).1.resolve_right fun h=>h.elim (fun h=>h) fun h=>h,⟨es,c,o4,o5⟩,.inl ⟨k,by simp [o2]⟩,fun x hx=>.inr (by rw [hH.gz];exact hx),hbel.os,hbel.tape,hbel.output,hbel.size,fun k hk=>hbel.block k hk fun h=>h⟩
    rw [ZiS,er]
    simp [Zgm,hx2,o1,Zpk]
  .exact hK.elim
 cases ex with
 |normal=>exact fin hK
 |exit id=>exact hK.elim
 |ret=>exact fin hK
theorem ZpN (htt : ∀ t i, tt t = some i → TOk P t i) (hJ : JOk J JF) (hmix : P.follows .mixedOrders = true) {hds : FuncId → Nat} {f : FuncId} {fn : Func} {c : Code} {h h' : ZgW} {args : List (Bool × List CT)} {res : List RT} (hf : P.funcs[f]? = some fn) (hname : (fn.name == "runtime.NumGoroutine") = false) (hb : fn.body = some c)
  (hok:Xb od tt hds true fn.ntmps c=true) (hlen:Nat.blt args.length fn.ntmps=true) (hh:fnH od tt (SC P J JF hds) fn.results.toList c h args res h'):XQ P J JF f h args res h':=by
 letI:NW:=nw0
 refine ⟨⟨fn,hf,hname,by rw [hb];rfl⟩,fun w z q v0 vs hj hqf hz hhand hargs=>?_⟩
 have hlen':args.length<fn.ntmps:=AB hlen
 have hvl:=hargs.len
 refine calls_of_wp hf hb ?_
 let W:QO:={ w with z:=z,x:=fun b=>q=some b,hv:=some v0 }
 let g0:Gh:=⟨fun k=>if k=0 then v0 else undef,fun k=>if k=0 then q.toList else [],fun _=>[],z⟩
 have hg0:∀b,g0.own b->inQ z q b:=fun b hb=>by
  rcases hb with ⟨k,m⟩|h
  .simp only[g0]at m
   split at m
   .exact .inr (by simpa using m)
   .simp at m
  .exact .inl h
 have hqlt:∀b,q=some b->∃cur e,w.heap[b]?=some (.cells cur e (0,0)):=fun b hb=>by
  cases h with
  |row e m xs=>
   obtain ⟨_,_,h3,cs,h4,_⟩:=hhand
   rcases h4.2 with ⟨h0,_⟩|⟨gg,o,cap,cur,hv,_,hcc,_⟩
   .rw [h0]at h3;simp [Value.ownBlock]at h3;rw [<-h3]at hb;simp at hb
   .rw [hv]at h3;simp only[Value.ownBlock]at h3;rw [hb]at h3;simp at h3;subst h3;exact ⟨_,_,hcc⟩
  |box t cs=>
   obtain ⟨b',vs,L,h1,h2,h3,_⟩:=hhand
   rw [hb]at h1;simp at h1;subst h1
   exact ⟨_,_,h3⟩
 have hob0:ObR g0 w 0 (YT h):=by
  cases h with
  |row e m xs=>
   obtain ⟨h1,h2,h3,cs,h4,h5⟩:=hhand
   exact ⟨h2,cs,[],by simpa [g0]using h4,h5,.inl ⟨rfl,by simp [g0,h3],by simp [g0]⟩⟩
  |box t cs=>
   obtain ⟨b,vs,L,h1,h2,h3,h4,h5⟩:=hhand
   exact ⟨b,vs,by simpa [g0]using h2,by simp [g0,h1],by simp [g0],h3,h4.avr fun x mx hx=>h5 x mx (hg0 x hx)⟩
 have hsv0:SVR g0 w (Qp h) v0:=by
  cases h with
  |row e m xs=>
   obtain ⟨h1,h2,h3,cs,h4,h5⟩:=hhand
   obtain ⟨A,cap,hv⟩:=Zci h4
   exact ⟨_,rfl,by simp [g0],by simp [hv,Value.oneCell']⟩
  |box t cs=>
   obtain ⟨b,vs,L,h1,h2,h3,h4,h5⟩:=hhand
   exact ⟨b,by simpa [g0]using h2,h2⟩
 have hI0:Inv W (fun k=>k=0) (Qu h args) { tmps:=(v0::vs).toArray++AA (fn.ntmps - (v0::vs).toArray.size) undef,defers:=[] } w:=by
  refine ⟨⟨g0,⟨⟨rfl,rfl,rfl,AD _,fun _ _ _=>rfl⟩,fun k=>?_,fun k=>?_,fun k j hkj b m=>?_,fun k b m=>?_,rfl,fun b hb=>⟨(hz b hb).1,(hz b hb).2,fun h=>h⟩,fun _ _=>AK _,fun k b m=>by
   by_cases hk:k=0
   .subst hk;exact .inr (by simpa [g0]using m)
   .simp [g0,hk]at m⟩,fun t=>?_⟩,⟨fun t=>?_,fun k=>?_,fun k hk=>by simp [Qu,hk]⟩,rfl,fun v hv=>?_⟩
  .show ObR g0 w k (if k=0 then YT h else .gone)
   by_cases hk:k=0
   .subst hk;exact hob0
   .rw [if_neg hk];exact ⟨by simp [g0,hk],rfl⟩
  .by_cases hk:k=0
   .subst hk;cases q<;>simp [g0]
   .simp [g0,hk]
  .by_cases hk:k=0
   .have:¬j=0:=fun e=>hkj yE
    simp [g0,this]
   .simp [g0,hk]at m
  .by_cases hk:k=0
   .subst hk
    have hb:q=some b:=by simpa [g0]using m
    refine ⟨.inr (.inl hb),?_⟩
    have hp:∃cur e,w.heap[b]?=some (.cells cur e (0,0)):=hqlt b hb
    show Xp w (if 0=0 then YT h else .gone) b
    rw [if_pos rfl]
    cases h<;>exact hp
   .simp [g0,hk]at m
  .show SVR g0 w (match t with|0=>Qp h|t+1=>(match args[t]? with|some x=>.p x.1 (x.2.map .c)|none=>.und)) _
   cases t with
   |zero=>
    show SVR g0 w (Qp h) (((v0::vs).toArray++AA (fn.ntmps - (v0::vs).toArray.size) undef).getD 0 undef)
    rw [ZaM (args:=args) (o:=0) (by simp;omega) v0 rfl]
    exact hsv0
   |succ t=>
    show SVR g0 w (match args[t]? with|some x=>.p x.1 (x.2.map .c)|none=>.und) _
    cases ht:args[t]? with
    |none=>exact ZhA (by have:args.length<=t:=(by simpa using ht);simp;omega)
    |some x=>
     obtain ⟨v,hv,hr⟩:=hargs.at ht
     show SVR g0 w (.p x.1 (x.2.map .c)) (((v0::vs).toArray++AA (fn.ntmps - (v0::vs).toArray.size) undef).getD (t+1) undef)
     rw [ZaM (args:=args) (o:=0) (by simp;omega) v (by simpa using hv)]
     exact Zv2 hg0 hr
  .show svU _ (match t with|0=>Qp h|t+1=>(match args[t]? with|some x=>.p x.1 (x.2.map .c)|none=>.und))
   cases t with
   |zero=>cases h with
    |row e m xs=>intro y my;simp at my;subst my;rfl
    |box t cs=>rfl
   |succ t=>
    show svU _ (match args[t]? with|some x=>.p x.1 (x.2.map .c)|none=>.und)
    split
    .exact ZiJ true _
    .trivial
  .show obU _ (if k=0 then YT h else .gone)
   by_cases hk:k=0
   .rw [if_pos hk]
    cases h with
    |row e m xs=>trivial
    |box t cs=>exact ZiJ true _
   .rw [if_neg hk];trivial
  .have:v0=v:=by simpa [W]using hv
   subst this
   exact ZaM (args:=args) (o:=0) (by simp;omega) v0 rfl
 have hM:MOk P J JF W tt:=⟨htt,fun w' hb=>hJ.below (fun b=>q=some b) w w' hj hqf hb.os hb.tape hb.output hb.size (fun k hk hx=>hb.block k hk hx),fun b hb=>hJ.new w b hj hb,hqf⟩
 refine QB (W:=W) hM hmix (.inr rfl) c hok (Zr2 tt fn.results.toList fun st r ks=>wkR r res/\ZjD st ks h') _ ?_ _ (Qu h args) _ w hI0 (fun k hk h0=>by simp [Qu]at hk;omega) (by simp;omega) hh
 intro ex U' st' a' w' hI' _ _ hK
 have fin:(match Zcy tt st' fn.results.toList with|some x=>x.2.Nodup/\wkR x.1 res/\ZjD st' x.2 h'|none=>False)->a'.defers=[]/\∃v,(results fn a'.tmps).run P w'=.ok v w'/\∃u n,Ending.returned v=.returned u/\ZhV w' w.heap.size n res u/\(∀b,inQ z q b->n b)/\ZpK w' n q h' v0/\ZCK q w w':=fun hK=>by
  split at hK
  .rename_i x hx
   obtain ⟨r,ks⟩:=x
   obtain ⟨hnd,hw,hbk⟩:=hK
   obtain ⟨g,hH,hS⟩:=hI'.ex
   have hv0:a'.tmps.getD 0 undef=v0:=hI'.hand v0 rfl
   have hS0:=hS 0
   rw [hv0]at hS0
   have hkey:∃k,g.val k=v0/\g.O k=q.toList/\g.D k=[]/\k∉ks/\(ZiU (st'.ob k)=false/\∀e m xs d,st'.ob k=.row e m xs d->d=2)/\∀n:Nat->Prop,(∀b,n b->g.own b)->ZpK w' n q h' v0:=by
    cases h' with
    |row e m xs=>
     obtain ⟨k,hk1,hk2,hk3,hk4⟩:=hbk
     rw [hk1]at hS0
     obtain ⟨x,hx1,hx2⟩:=hS0
     simp only[AP,and_true]at hx1
     subst hx1
     have hob:=hH.obs k
     rw [hk2]at hob
     obtain ⟨hm,cs,L,o1,o2,o3⟩:=hob
     obtain rfl:=Zhr o2 hk3
     rcases o3 with ⟨_,q1,q2⟩|⟨q1,_⟩|⟨q1,_⟩
     .have hq:v0.ownBlock=q:=by
       cases h with
       |row e1 m1 xs1=>exact hhand.2.2.1
       |box t1 cs1=>
        obtain ⟨b,vs,L,h1,h2,_⟩:=hhand
        obtain ⟨A,cap,hv⟩:=Zci o1
        rw [<-hx2.1,h2]at hv
        simp at hv
      exact ⟨k,hx2.1.symm,by rw [q1,<-hx2.1,hq],q2,hk4,⟨by rw [hk2];rfl,fun e' m' xs' d' h=>by rw [hk2]at h;simp only[Ob.row.injEq]at h;exact h.2.2.2.symm⟩,fun n _=>⟨hk3,hm,hq,cs,by rw [hx2.1];exact o1,o2⟩⟩
     .omega
     .omega
    |box t cs=>
     obtain ⟨k,ds,hk1,hk2,hk3,hk4⟩:=hbk
     rw [hk1]at hS0
     obtain ⟨b,hb1,hb2⟩:=hS0
     have hob:=hH.obs k
     rw [hk2]at hob
     obtain ⟨b',vs',o1,o2,o3,o4,o5⟩:=hob
     have hbb:b'=b:=by rw [hb1]at o1;simpa using o1.symm
     subst hbb
     have hq:q=some b':=by
      cases h with
      |row e1 m1 xs1=>
       obtain ⟨_,_,_,cs1,h4,_⟩:=hhand
       obtain ⟨A,cap,hv⟩:=Zci h4
       rw [hv]at hb2
       simp at hb2
      |box t1 cs1=>
       obtain ⟨b2,vs2,L2,h1,h2,_⟩:=hhand
       rw [h2]at hb2
       simp at hb2
       rw [h1,hb2]
     obtain ⟨L,hL,hL2⟩:=ZfH hH hk4 o5
     refine ⟨k,by rw [o1,hb2],by rw [o2,hq];rfl,o3,fun mk=>?_,⟨by rw [hk2];rfl,fun e' m' xs' d' h=>by rw [hk2]at h;simp at h⟩,fun n hn=>⟨b',vs',L,hq,hb2,o4,hL,fun x mx hx=>hL2 (fun y my=>?_) x mx (hn x hx)⟩⟩
     .obtain ⟨e',m',xs',h'⟩:=Zkr hx k mk
      rw [hk2]at h'
      simp at h'
     .have:=AJ.1 hk3 y my
      cases y<;>simp [ZbA]at this<;>trivial
   obtain ⟨k0,c1,c2,c3,c4,c5,c6⟩:=hkey
   have hBg:∀k∈ks,∀b∈g.O k++g.D k,W.heap.size<=b:=fun k hk b mb=>(hH.plain k b mb).1.resolve_right fun h=>h.elim (fun h=>hH.apart k k0 (fun e=>c4 (e ▸ hk)) b mb (by rw [c2];simp;exact .inl h)) fun h=>h
   obtain ⟨v,m,e1,e2,e3,_,e4⟩:=Zuc htt hI' hH hS hx hnd hw hBg (fun k=>k=k0) (fun k hk=>hk ▸ c5)
   have hbel:=hH.below
   refine ⟨hI'.defers,v,e1,v,m,rfl,e2,fun b hb=>?_,c6 m e3,hbel.os,hbel.tape,hbel.output,hbel.size,fun k hk hq=>hbel.block k hk hq⟩
   refine e4 b (fun mb=>?_) ?_
   .obtain ⟨k,hk,mk⟩:=ZgR mb
    have hge:=hBg k hk b mk
    have e:W.heap.size=w.heap.size:=rfl
    rcases hb with hb|hb
    .have:=(hz b hb).1;omega
    .obtain ⟨cur,e',hc⟩:=hqlt b hb
     have:=(AT.1 hc).1
     omega
   .rcases hb with hb|hb
    .exact .inl (by rw [hH.gz];exact hb)
    .exact .inr ⟨k0,rfl,by rw [c2,hb];simp⟩
  .exact hK.elim
 cases ex with
 |normal=>exact fin hK
 |exit id=>exact hK.elim
 |ret=>exact fin hK
def gvN:Option (Bool×List (Bool×CT))->Nat
 |none=>0
 |some _=>1
theorem ZxI (htt : ∀ t i, tt t = some i → TOk P t i) (hJ : JOk J JF) (hmix : P.follows .mixedOrders = true) {hds : FuncId → Nat} {f : FuncId} {fn : Func} {c : Code} {t0 : Nat} {cs cs' : List (Bool × CT)} {gv : Option (Bool × List (Bool × CT))} {args : List (Bool × List CT)} {res : List RT} (hf : P.funcs[f]? = some fn) (hname : (fn.name == "runtime.NumGoroutine") = false) (hb : fn.body = some c)
  (hok:Xb od tt hds true fn.ntmps c=true) (hlen:Nat.blt (args.length+gvN gv) fn.ntmps=true) (hh:fnO od tt (SC P J JF hds) fn.results.toList c t0 cs gv args res cs'):ZdQ P J JF f t0 cs gv args res cs':=by
 letI:NW:=nw0
 refine ⟨⟨fn,hf,hname,by rw [hb];rfl⟩,fun w z q v0 gs vs b us us2 F hj hqb hqJ hz hul hgr hO hargs=>?_⟩
 have hlen':args.length+gvN gv<fn.ntmps:=AB hlen
 have hvl:=hargs.len
 have hgl:gs.length=gvN gv:=by
  cases gv with
  |none=>rw [hgr.1];rfl
  |some g=>obtain ⟨ag,gc⟩:=g;cases ag with
   |true=>rw [hgr.1];rfl
   |false=>rw [hgr.1,hgr.2.1];rfl
 refine calls_of_wp hf hb ?_
 let W:QO:={ w with z:=z,x:=q,hv:=some v0,y:=fun x=>x∈F }
 obtain ⟨val,O,D,hB,hA⟩:=QE (l:=true) 1 hO.ocs (fun _=>rfl)
 have hlen2:(v0::(gs++vs)).length<=fn.ntmps:=by simp;omega
 have hbd:∃avs up hi,(ZG 1 (cs++gvC gv)).1=avs/\(ZG 1 (cs++gvC gv)).2.1=up/\(ZG 1 (cs++gvC gv)).2.2=hi:=⟨_,_,_,rfl,rfl,rfl⟩
 obtain ⟨avs,up,hi,ha1,ha2,ha3⟩:=hbd
 rw [ha1]at hA
 rw [ha2,ha3]at hB
 rw [ha3]at hA
 have hle:=hB.le
 have hndF:=AH.1 hO.own.nodup
 have hnd:=Zgr (hB.foot ▸ hndF.2)
 have hmemF:∀j,(1<=j/\j<hi)->∀x∈O j++D j,x∈F:=fun j hj x mx=>by
  rw [hB.foot]
  exact List.mem_flatMap.2 ⟨j,List.mem_range'_1.2 ⟨hj.1,yE⟩,mx⟩
 let g0:Gh:=⟨fun k=>if k=0 then v0 else val k,fun k=>if k=0 then [b] else if 1<=k/\k<hi then O k else [],fun k=>if k=0 then [] else if 1<=k/\k<hi then D k else [],z⟩
 have g00:g0.val 0=v0/\g0.O 0=[b]/\g0.D 0=[]:=⟨rfl,rfl,rfl⟩
 have gT:∀k,1<=k/\k<hi->g0.val k=val k/\g0.O k=O k/\g0.D k=D k:=fun k hk=>by
  have h0:¬k=0:=by omega
  exact ⟨by simp only[g0,if_neg h0],by simp only[g0,if_neg h0,if_pos hk],by simp only[g0,if_neg h0,if_pos hk]⟩
 have gN:∀k,¬k=0->¬(1<=k/\k<hi)->g0.O k=[]/\g0.D k=[]:=fun k h0 hk=>⟨by simp only[g0,if_neg h0,if_neg hk],by simp only[g0,if_neg h0,if_neg hk]⟩
 have hOq:∀k,1<=k/\k<hi->∀x∈O k,q x:=fun k hk x mx=>by
  obtain ⟨_,_,_,_,_,_,_,_,_,p6⟩:=hB.at_ k hk.1 hk.2
  rcases p6 x mx with h|h
  .exact absurd (by simp [hmemF k hk x (by simp [mx])]) (hz x h).2.2
  .exact h
 have hg0:∀x,g0.own x->z x\/q x:=fun x hx=>by
  rcases hx with ⟨k,m⟩|h
  .by_cases h0:k=0
   .subst h0;rw [g00.2.1]at m;simp at m;subst m;exact .inr hqb
   .by_cases hk:1<=k/\k<hi
    .rw [(gT k hk).2.1]at m;exact .inr (hOq k hk x m)
    .rw [(gN k h0 hk).1]at m;simp at m
  .exact .inl h
 have hob:∀k,(Zgt t0 cs gv args).ob k=if k=0 then .box t0 (avs.take cs.length) else Zl (fun _=>.gone) up k:=fun k=>by
  show (if k=0 then Ob.box t0 ((ZG 1 (cs++gvC gv)).1.take cs.length) else Zl (fun _=>.gone) (ZG 1 (cs++gvC gv)).2.1 k)=_
  rw [ha1,ha2]
 have hAV:∀x u,CR val w (fun x=>z x\/q x) true 1 hi x u->AVR g0 w x u/\avU (fun k=>k<hi) x:=fun x u h=>by
  cases x with
  |row k=>
   obtain ⟨c1,c2,c3,c4⟩:=h
   exact ⟨⟨by rw [(gT k ⟨c1,c2⟩).1];exact c3,c4⟩,c2⟩
  |c x=>
   obtain ⟨L,h1,h2⟩:=h
   exact ⟨⟨L,h1,fun b mb o=>(h2 b mb).2 (hg0 b o)⟩,trivial⟩
  |n _=>exact h.elim
  |nil _ _=>exact h.elim
  |dead=>exact h.elim
 have hcellsA:ZI (AVR g0 w) avs (us++us2)/\X3 (fun k=>k<hi) avs:=⟨hA.mono fun x c _ h=>(hAV x c h).1,fun x mx=>by
  obtain ⟨i,hi'⟩:=List.mem_iff_getElem?.1 mx
  obtain ⟨c,_,hc'⟩:=hA.at hi'
  exact (hAV x c hc').2⟩
 have hcells:ZI (AVR g0 w) (avs.take cs.length) us/\X3 (fun k=>k<hi) (avs.take cs.length):=⟨by
  have:=hcellsA.1.take cs.length
  rwa [<-hul,List.take_left' rfl,hul]at this,fun x mx=>hcellsA.2 x (List.mem_of_mem_take mx)⟩
 have hcellsG:ZI (AVR g0 w) (avs.drop cs.length) us2/\X3 (fun k=>k<hi) (avs.drop cs.length):=⟨by
  have:=hcellsA.1.drop cs.length
  rwa [<-hul,List.drop_left' rfl,hul]at this,fun x mx=>hcellsA.2 x (List.mem_of_mem_drop mx)⟩
 have hpl:∀k,∀x∈g0.O k++g0.D k,x=b/\k=0\/(1<=k/\k<hi)/\x∈O k++D k:=fun k x m=>by
  by_cases h0:k=0
  .subst h0;rw [g00.2.1,g00.2.2]at m;simp at m;exact .inl ⟨m,rfl⟩
  .by_cases hk:1<=k/\k<hi
   .rw [(gT k hk).2.1,(gT k hk).2.2]at m;exact .inr ⟨hk,m⟩
   .rw [(gN k h0 hk).1,(gN k h0 hk).2]at m;simp at m
 have hI0:Inv W (fun k=>k<hi) (Zgt t0 cs gv args) { tmps:=(v0::(gs++vs)).toArray++AA (fn.ntmps - (v0::(gs++vs)).toArray.size) undef,defers:=[] } w:=by
  refine ⟨⟨g0,⟨⟨rfl,rfl,rfl,AD _,fun _ _ _=>rfl⟩,fun k=>?_,fun k=>?_,fun k j hkj x m mj=>?_,fun k x m=>?_,rfl,fun x hx=>⟨(hz x hx).1,(hz x hx).2.1,fun h=>(hz x hx).2.2 (by simp [show x∈F from h])⟩,fun _ _=>AK _,fun k x m=>?_⟩,fun t=>?_⟩,⟨fun t=>?_,fun k=>?_,fun k hk=>?_⟩,rfl,fun v hv=>?_⟩
  .rw [hob k]
   by_cases h0:k=0
   .subst h0;rw [if_pos rfl]
    exact ⟨b,us,hO.val,rfl,rfl,hO.cell,hcells.1⟩
   .rw [if_neg h0]
    by_cases hk:1<=k/\k<hi
    .obtain ⟨e,m,ys,cs2,p1,p2,p3,p4,p5,_⟩:=hB.at_ k hk.1 hk.2
     obtain ⟨e1,e2,e3⟩:=gT k hk
     rw [p1]
     exact ⟨p2,cs2,D k,by rw [e1];exact p3,p4,.inl ⟨rfl,by rw [e1,e2];exact p5,e3⟩⟩
    .rw [hB.out k hk];exact gN k h0 hk
  .by_cases h0:k=0
   .subst h0;simp [g00]
   .by_cases hk:1<=k/\k<hi
    .rw [(gT k hk).2.1,(gT k hk).2.2];exact hnd.1 k hk.1 yE
    .rw [(gN k h0 hk).1,(gN k h0 hk).2];simp
  .rcases hpl k x m with ⟨rfl,rfl⟩|⟨h1,h2⟩
   .rcases hpl j x mj with ⟨_,rfl⟩|⟨h3,h4⟩
    .exact hkj rfl
    .exact hndF.1 (hmemF j h3 x h4)
   .rcases hpl j x mj with ⟨rfl,rfl⟩|⟨h3,h4⟩
    .exact hndF.1 (hmemF k h1 x h2)
    .exact hnd.2 k j h1.1 yE h3.1 yE hkj x h2 h4
  .rw [hob k]
   rcases hpl k x m with ⟨rfl,rfl⟩|⟨h1,h2⟩
   .rw [if_pos rfl]
    exact ⟨.inr (.inl hqb),_,_,hO.cell⟩
   .obtain ⟨e,m,ys,cs2,p1,_⟩:=hB.at_ k h1.1 h1.2
    rw [if_neg (by omega:¬k=0),p1]
    exact ⟨.inr (.inr (hmemF k h1 x h2)),hO.own.plain x (by simp [hmemF k h1 x h2])⟩
  .by_cases h0:k=0
   .subst h0;rw [g00.2.1]at m;simp at m;subst m;exact .inr hqb
   .by_cases hk:1<=k/\k<hi
    .rw [(gT k hk).2.1]at m;exact .inr (hOq k hk x m)
    .rw [(gN k h0 hk).1]at m;simp at m
  .have harg:∀(t o:Nat),o=gvN gv->SVR g0 w (match args[t]? with|some x=>.p x.1 (x.2.map .c)|none=>.und) (((v0::(gs++vs)).toArray++AA (fn.ntmps - (v0::(gs++vs)).toArray.size) undef).getD (t+o+1) undef):=fun t o ho=>by
    cases ht:args[t]? with
    |none=>exact ZhA (by have:args.length<=t:=(by simpa using ht);simp;omega)
    |some x=>
     obtain ⟨v,hv,hr⟩:=hargs.at ht
     show SVR g0 w (.p x.1 (x.2.map .c)) _
     rw [ZaM (args:=args) (o:=0) hlen2 v (by
      rw [List.getElem?_cons_succ,List.getElem?_append_right yE,show t+o - gs.length=t by omega]
      exact hv)]
     exact Zv2 hg0 hr
   cases t with
   |zero=>
    show SVR g0 w (.bp 0 0) (((v0::(gs++vs)).toArray++AA (fn.ntmps - (v0::(gs++vs)).toArray.size) undef).getD 0 undef)
    rw [ZaM (args:=args) (o:=0) hlen2 v0 rfl]
    exact ⟨b,hO.val,hO.val⟩
   |succ t=>
    cases gv with
    |none=>exact harg t 0 rfl
    |some g=>
     cases t with
     |succ t=>exact harg t 1 rfl
     |zero=>
      show SVR g0 w (.p g.1 ((ZG 1 (cs++g.2)).1.drop cs.length)) _
      rw [show (ZG 1 (cs++g.2)).1=avs from ha1]
      obtain ⟨ag,gc⟩:=g
      cases ag with
      |true=>
       obtain ⟨rfl,_⟩:=hgr
       rw [ZaM (args:=args) (o:=0) hlen2 (.agg us2.toArray) rfl]
       exact ⟨us2,rfl,hcellsG.1⟩
      |false=>
       obtain ⟨rfl,h1,_⟩:=hgr
       obtain ⟨u,hu⟩:=List.length_eq_one_iff.1 h1
       subst hu
       rw [ZaM (args:=args) (o:=0) hlen2 u rfl]
       have hd:=hcellsG.1
       generalize avs.drop cs.length=dd at hd
       cases dd with
       |nil=>exact hd.elim
       |cons y yr=>
        cases yr with
        |nil=>exact ⟨y,rfl,hd.1⟩
        |cons _ _=>exact hd.2.elim
  .cases t with
   |zero=>show 0<hi;omega
   |succ t=>
    cases gv with
    |none=>
     show svU _ (match args[t]? with|some x=>.p x.1 (x.2.map .c)|none=>.und)
     split
     .exact ZiJ true _
     .trivial
    |some g=>
     cases t with
     |zero=>
      show svU _ (.p g.1 ((ZG 1 (cs++g.2)).1.drop cs.length))
      rw [show (ZG 1 (cs++g.2)).1=avs from ha1]
      exact hcellsG.2
     |succ t=>
      show svU _ (match args[t]? with|some x=>.p x.1 (x.2.map .c)|none=>.und)
      split
      .exact ZiJ true _
      .trivial
  .rw [hob k]
   by_cases h0:k=0
   .rw [if_pos h0];exact hcells.2
   .rw [if_neg h0]
    by_cases hk:1<=k/\k<hi
    .obtain ⟨e,m,ys,cs2,p1,_⟩:=hB.at_ k hk.1 hk.2
     rw [p1];trivial
    .rw [hB.out k hk];trivial
  .rw [hob k,if_neg (by omega:¬k=0),hB.out k yE]
  .have:v0=v:=by simpa [W]using hv
   subst this
   exact ZaM (args:=args) (o:=0) hlen2 v0 rfl
 have hM:MOk P J JF W tt:=⟨htt,fun w' hb=>hJ.below q w w' hj (fun x hx=>(hqJ x hx).1) hb.os hb.tape hb.output hb.size (fun k hk hx=>hb.block k hk hx),fun b hb=>hJ.new w b hj hb,fun x hx=>(hqJ x hx).1⟩
 refine QB (W:=W) hM hmix (.inr rfl) c hok (Zr2 tt fn.results.toList fun st r ks=>wkR r res/\ks=[]/\opB st t0 cs' (st.sl 0)) _ ?_ _ (Zgt t0 cs gv args) _ w hI0 (fun k hk h0=>by
  have:(Zgt t0 cs gv args).n=hi:=ha3
  omega) (by simp;omega) hh
 intro ex U' st' a' w' hI' _ _ hK
 have fin:(match Zcy tt st' fn.results.toList with|some x=>x.2.Nodup/\wkR x.1 res/\x.2=[]/\opB st' t0 cs' (st'.sl 0)|none=>False)->a'.defers=[]/\∃v,(results fn a'.tmps).run P w'=.ok v w'/\∃u n us' F',Ending.returned v=.returned u/\ZhV w' w.heap.size n res u/\(∀x,z x->n x)/\n b/\(∀x,n x->z x\/q x\/w.heap.size<=x)/\Zpm w' n t0 cs' v0 b us' [] F'/\(∀x∈F',x∈F\/w.heap.size<=x)/\ZuW q w w':=fun hK=>by
  split at hK
  .rename_i x hx
   obtain ⟨r,ks⟩:=x
   obtain ⟨hnd',hw,hk0,hbk⟩:=hK
   simp only at hk0
   subst hk0
   obtain ⟨g,hH,hS⟩:=hI'.ex
   have hv0:a'.tmps.getD 0 undef=v0:=hI'.hand v0 rfl
   have hS0:=hS 0
   rw [hv0]at hS0
   obtain ⟨k,ds,ks',e1,e2,e3,e4⟩:=ZBy hbk
   rw [e1]at hS0
   obtain ⟨b2,hb1,hb2⟩:=hS0
   have hbb:b2=b:=by have:=hO.val;rw [hb2]at this;simpa using this
   subst hbb
   have hob':=hH.obs k
   rw [e2]at hob'
   obtain ⟨b',us',o1,o2,o3,o4,o5⟩:=hob'
   have hbb:b'=b2:=by rw [hb1]at o1;simpa using o1.symm
   subst hbb
   obtain ⟨q1,q2⟩:=Zih hH e3 o5
   have hkks:k∉ks':=fun m=>by
    obtain ⟨e,m',xs,hr⟩:=q2 k m
    rw [e2]at hr;simp at hr
   have hFk:∀x∈g.F ks',∃j∈ks',x∈g.O j++g.D j:=fun x mx=>ZgR mx
   obtain ⟨v,m,e5,e6,e7,_,e8⟩:=Zuc htt hI' hH hS hx hnd' hw (fun k hk=>by simp at hk) (fun j=>j=k\/j∈ks') (fun j hj=>by
    rcases hj with rfl|hj
    .exact ⟨by rw [e2];rfl,fun e m xs d h=>by rw [e2]at h;simp at h⟩
    .obtain ⟨e,m',xs,hr⟩:=q2 j hj
     exact ⟨by rw [hr];rfl,fun e m xs d h=>by rw [hr]at h;simp only[Ob.row.injEq]at h;exact h.2.2.2.symm⟩)
   have hmm:∀x,(g.Z x\/∃j,(j=k\/j∈ks')/\x∈g.O j)->m x:=fun x hx=>e8 x (fun mb=>by simp [Gh.F]at mb) hx
   have hbel:=hH.below
   have q1l:OCs w' 0 m cs' us' (g.F ks'):=q1.low (fun x hx=>e7 x hx) fun x mx hox=>by
    obtain ⟨j,hj,mj⟩:=hFk x mx
    rcases hox with ⟨i,mi⟩|hZ
    .by_cases hij:i=j
     .subst hij;exact hmm x (.inr ⟨i,.inr hj,mi⟩)
     .exact absurd (by simp [mi]:x∈g.O i++g.D i) (hH.apart j i (fun h=>hij h.symm) x mj)
    .exact hmm x (.inl hZ)
   refine ⟨hI'.defers,v,e5,v,m,us',g.F ks',rfl,e6,fun x hx=>hmm x (.inl (by rw [hH.gz];exact hx)),hmm _ (.inr ⟨k,.inl rfl,by simp [o2]⟩),fun x hx=>?_,⟨hO.val,o4,by rw [List.append_nil];exact q1l,⟨AH.2 ⟨fun mb=>?_,hH.nodupF e4⟩,fun _ _=>AK _,fun x mx=>?_⟩⟩,fun x mx=>?_,⟨hbel.os,hbel.tape,hbel.output,hbel.size,fun i hi hq=>hbel.block i hi hq⟩⟩
   .rcases e7 x hx with ⟨j,mj⟩|hZ
    .rcases hH.oy j x mj with h|h
     .exact .inr (.inr h)
     .exact .inr (.inl h)
    .exact .inl (by rw [hH.gz]at hZ;exact hZ)
   .obtain ⟨j,hj,mj⟩:=hFk _ mb
    exact hH.apart k j (fun e=>hkks (e ▸ hj)) _ (by simp [o2]) mj
   .rcases AW.1 mx with rfl|mx
    .exact ⟨_,_,o4⟩
    .obtain ⟨j,hj,mj⟩:=hFk x mx
     obtain ⟨e,m',xs,hr⟩:=q2 j hj
     have:=(hH.plain j x mj).2
     rw [hr]at this
     exact this
   .obtain ⟨j,hj,mj⟩:=hFk x mx
    rcases (hH.plain j x mj).1 with h|h|h
    .exact .inr h
    .rcases AW.1 (hqJ x h).2 with rfl|h'
     .exact absurd mj (hH.apart k j (fun e=>hkks (e ▸ hj)) _ (by simp [o2]))
     .exact .inl h'
    .exact .inl h
  .exact hK.elim
 cases ex with
 |normal=>exact fin hK
 |exit id=>exact hK.elim
 |ret=>exact fin hK
end
instance nwD:NW:=nw0
end
section
open Go.RowKit
def Zlo {α β:Type}(f:α->β->Bool):List α->List β->Bool
 | [],[]=>true
 |a::l,b::r=>f a b&&Zlo f l r
 |_,_=>false
theorem ZjA {α β:Type}{f:α->β->Bool}{R:α->β->Prop}(h:∀a b,f a b=true->R a b):∀{l:List α}{r:List β},Zlo f l r=true->ZI R l r
 | [],[],_=>trivial
 |a::l,b::r,hh=>by
  simp only[Zlo,A9]at hh
  exact ⟨h a b hh.1,ZjA h hh.2⟩
 | [],_::_,hh=>by simp [Zlo]at hh
 |_::_,[],hh=>by simp [Zlo]at hh
def Zy7 (P:Program) (fi:FI) (f:Field):Bool:=
 f.offset==fi.off&&!(fi.size==0)&&match P.info? f.type,P.underlying f.type with
  |some j,some d=>j.size==fi.size&&(Zr8 d==fi.agg)
  |_,_=>false
def ZDh:Value->Bool
 |.slice none 0 0=>true
 |_=>false
def Zxs (P:Program):List PK->List Field->Nat->Bool
 | [],[],_=>true
 | k :: ks, f :: fs, n => (f.name != "_") && (f.offset == n) && (match P.underlying f.type with | some d => ZeB k d | none => false) && Zxs P ks fs (n + 1)
 |_,_,_=>false
theorem ZvU {P:Program}:∀{ks:List PK}{fs:List Field}{n:Nat},Zxs P ks fs n=true->EqF P ks fs n
 | [],[],_,_=>trivial
 |k::ks,f::fs,n,h=>by
  simp only[Zxs,A9,bne_iff_ne,beq_iff_eq]at h
  obtain ⟨⟨⟨h1,h2⟩,h3⟩,h4⟩:=h
  split at h3
  .rename_i d hd;exact ⟨h1,h2,⟨d,hd,h3⟩,ZvU h4⟩
  .simp at h3
 | [],_::_,_,h=>by simp [Zxs]at h
 |_::_,[],_,h=>by simp [Zxs]at h
def ZpS:Option TypeDesc->Bool
 |some (.struct _)=>true
 |_=>false
def ZCW (P:Program) (t:TypeId) (ks:List PK):Bool:=
 Nat.ble 4000 t&&ZpS (P.underlying (t - 4000))&&!(P.stoodInHeld (t - 4000))&&!(P.eqGuardType P.depth (t - 4000))&&Zxs P ks (P.fieldsOf (t - 4000)).toList 0
theorem ZBl {P:Program}{t:TypeId}{ks:List PK}(h:ZCW P t ks=true):TOk P t (.eqs ks):=by
 simp only[ZCW,A9,Ad]at h
 obtain ⟨⟨⟨⟨h1,h2⟩,h3⟩,h4⟩,h5⟩:=h
 refine ⟨t - 4000,?_,?_,h3,h4,ZvU h5⟩
 .have:4000<=t:=AB h1
  exact (Nat.sub_add_cancel this).symm
 .unfold ZpS at h2
  split at h2
  .rename_i fs e
   unfold Program.fieldsOf
   rw [e]
  .simp at h2
def tOk (P:Program) (t:TypeId) (ti:TI):Bool:=
 match ti with
 |.eqs ks=>ZCW P t ks
 |_=>
 match P.underlying t,P.info? t with
 |some d,some i=>match ti with
  |.atom z=>ZiB d z&&i.size==1&&match i.zero with|some zv=>Zbc z zv|none=>false
  |.strct fs n z=>match d with
   |.struct fields=>i.size==n&&(match i.zero with|some (.agg zvs)=>Zlo Zbc z zvs.toList|_=>false)&&Zlo (Zy7 P) fs fields.toList
   |_=>false
  |.slice e m bytes z=>match d with
   |.slice e'=>e==e'&&Nat.blt 0 m&&Nat.ble bytes 131072&&(match P.info? e with
     |some ie=>ie.size==m&&ie.bytes==bytes&&(match ie.zero with|some zv=>Zlo Zbc z zv.cells.toList|none=>false)
     |none=>false)&&z.length==m&&i.size==1&&(match i.zero with|some zv=>ZDh zv|none=>false)
   |_=>false
  |.map kk vk=>match d with
   |.map kt et=>(match P.underlying kt with|some dk=>ZeB kk dk|none=>false)&&(match P.underlying et with|some dv=>ZeB vk dv|none=>false)&&(match P.info? et with|some ie=>(match ie.zero with|some zv=>Zbc (Zfv vk) zv|none=>false)|none=>false)
   |_=>false
  |.ifc=>match d with
   |.interface _=>true
   |_=>false
  |.eqs _=>false
 |_,_=>false
theorem ZBc {v:Value}(h:ZDh v=true):v=.slice none 0 0:=by
 unfold ZDh at h
 split at h
 .rfl
 .simp at h
theorem ZCJ {P:Program}{t:TypeId}{ti:TI}(h:tOk P t ti=true):TOk P t ti:=by
 unfold tOk at h
 split at h
 .exact ZBl h
 split at h
 .rename_i d i hd hi
  cases ti with
  |eqs ks=>simp at h
  |ifc=>
   simp only at h
   split at h
   .exact ⟨_,hd⟩
   .simp at h
  |map kk vk=>
   simp only at h
   split at h
   .rename_i kt et
    simp only[A9]at h
    obtain ⟨⟨h1,h2⟩,h3⟩:=h
    split at h1
    .rename_i dk c
     split at h2
     .rename_i dv g
      split at h3
      .rename_i ie b
       split at h3
       .rename_i zv hz
        exact ⟨kt,et,dk,dv,ie,zv,hd,c,h1,g,h2,b,hz,h3⟩
       .simp at h3
      .simp at h3
     .simp at h2
    .simp at h1
   .simp at h
  |atom z=>
   simp only[A9,beq_iff_eq]at h
   obtain ⟨⟨h1,h2⟩,h3⟩:=h
   split at h3
   .rename_i zv hz;exact ⟨d,zv,i,hd,h1,hi,hz,h2,h3⟩
   .simp at h3
  |strct fs n z=>
   simp only at h
   split at h
   .rename_i a
    simp only[A9,beq_iff_eq]at h
    obtain ⟨⟨h1,h2⟩,h3⟩:=h
    split at h2
    .rename_i zvs hz
     refine ⟨a,i,zvs,hd,hi,h1,hz,ZjA (fun _ _ h=>h) h2,ZjA (fun fi f hf=>?_) h3⟩
     unfold Zy7 at hf
     simp only[A9,beq_iff_eq,Ad,beq_eq_false_iff_ne]at hf
     obtain ⟨⟨f1,f2⟩,f3⟩:=hf
     split at f3
     .rename_i j d' hj k
      simp only[A9,beq_iff_eq]at f3
      exact ⟨f1,f2,j,d',hj,f3.1,k,f3.2⟩
     .simp at f3
    .simp at h2
   .simp at h
  |slice e m bytes z=>
   simp only at h
   split at h
   .rename_i e'
    simp only[A9,beq_iff_eq]at h
    obtain ⟨⟨⟨⟨⟨⟨h1,h2⟩,h3⟩,h4⟩,h5⟩,h6⟩,h7⟩:=h
    subst h1
    split at h4
    .rename_i ie b
     simp only[A9,beq_iff_eq]at h4
     obtain ⟨⟨k1,k2⟩,k3⟩:=h4
     split at k3
     .rename_i zv hz
      split at h7
      .rename_i zv' l
       exact ⟨hd,AB h2,AB h3,⟨ie,zv,b,k1,k2,hz,ZjA (fun _ _ h=>h) k3,h5⟩,i,hi,h6,by rw [l,ZBc h7]⟩
      .simp at h7
     .simp at k3
    .simp at h4
   .simp at h
 .simp at h
def ZyD:List (Nat×TI)->Nat->Option TI
 | [],_=>none
 |p::r,t=>if p.1=t then some p.2 else ZyD r t
theorem Zzj {P:Program}:∀(l:List (Nat×TI)),(l.all fun p=>tOk P p.1 p.2)=true->∀t i,ZyD l t=some i->TOk P t i
 | [],_,t,i,h=>by simp [ZyD]at h
 |p::r,ha,t,i,h=>by
  simp only[List.all_cons,A9]at ha
  simp only[ZyD]at h
  split at h
  .rename_i e
   simp only[A6]at h
   subst h e
   exact ZCJ ha.1
  .exact Zzj r ha.2 t i h
end
section
open Go.RowKit
def ZCB (P:Program) (L:List (String×(Array Value->Prop))) (w:World):Prop:=∀x∈L,∃cs,w.var? P x.1=some cs/\x.2 cs
def ZCp (P:Program) (L:List (String×(Array Value->Prop))) (b:Nat):Prop:=∀x∈L,¬P.globalNamed x.1=some b
theorem ZAW (P:Program) (L:List (String×(Array Value->Prop))):JOk (ZCB P L) (ZCp P L) where
 below:=fun x w w' hj hx _ _ _ hs hb y my=>by
  obtain ⟨cs,h1,h2⟩:=hj y my
  refine ⟨cs,?_,h2⟩
  unfold World.var? at h1 ⊢
  obtain ⟨g,hg,h1⟩:=AF.1 h1
  rw [hg,Ae]
  have a:g<w.heap.size:=by
   rcases Nat.lt_or_ge g w.heap.size with h|h
   .exact h
   .rw [Ag h]at h1;simp at h1
  rw [hb g a (fun h=>hx g h y my hg)]
  exact h1
 new:=fun w b hj hb y my hg=>by
  obtain ⟨cs,h1,_⟩:=hj y my
  unfold World.var? at h1
  rw [hg,Ae,Ag hb]at h1
  simp at h1
theorem Xu {J:World->Prop}{JF:Nat->Prop}(h:JOk J JF) {w w':World}(hj:J w) (hb:Below w.heap.size w w'):J w':=
 h.below (fun _=>False) w w' hj (fun _ h=>h.elim) hb.os hb.tape hb.output hb.size fun k hk _=>hb.block k hk
theorem ZrL {w:World}{B:Nat}{n:Nat->Prop}{ct:CT}{v:Value}(h:OC w B n (false,ct) v []):ZhV w B n [(false,[(false,ct)])] v:=
 ⟨[v],[],⟨v,[],[],[],rfl,rfl,.inr ⟨rfl,_,rfl,h⟩,rfl,rfl⟩,Own.nil _ _,yG⟩
theorem Ztl {w:World}{B:Nat}{n:Nat->Prop}{c1 c2:CT}{v1 v2:Value}(h1:OC w B n (false,c1) v1 []) (h2:OC w B n (false,c2) v2 []):ZhV w B n [(false,[(false,c1)]),(false,[(false,c2)])] (.tuple #[v1,v2]):=
 ⟨[v1,v2],[],⟨v1,[v2],[],[],rfl,rfl,.inr ⟨rfl,_,rfl,h1⟩,v2,[],[],[],rfl,rfl,.inr ⟨rfl,_,rfl,h2⟩,rfl,rfl⟩,Own.nil _ _,yG⟩
theorem ZvD {w:World}{z:Nat->Prop}{c:CT}{v:Value}(h:ZhY w z (false,[c]) v):∃L,RC w c v L:=by
 rcases h with ⟨h,_⟩|⟨_,ct,L,h,hr,_⟩
 .simp at h
 .simp only[AP,and_true]at h
  subst h
  exact ⟨L,hr⟩
theorem ZnU {w:World}{z:Nat->Prop}{c:CT}{vs:List Value}(h:ZI (ZhY w z) [(false,[c])] vs):∃v L,vs=[v]/\RC w c v L:=by
 cases vs with
 |nil=>exact h.elim
 |cons v r=>
  cases r with
  |nil=>obtain ⟨L,hr⟩:=ZvD h.1;exact ⟨v,L,rfl,hr⟩
  |cons _ _=>exact h.2.elim
theorem ZyK {w:World}{z:Nat->Prop}{c d:CT}{vs:List Value}(h:ZI (ZhY w z) [(false,[c]),(false,[d])] vs):∃v u L M,vs=[v,u]/\RC w c v L/\RC w d u M:=by
 cases vs with
 |nil=>exact h.elim
 |cons v r=>
  obtain ⟨u,M,rfl,hu⟩:=ZnU h.2
  obtain ⟨L,hr⟩:=ZvD h.1
  exact ⟨v,u,L,M,rfl,hr,hu⟩
end
section
open Go.RowKit
def ttL:List (Nat×TI):=[
 (2,.atom (.c (.int .i64 0))),
 (3,.atom (.c (.int .i64 0))),
 (4,.atom (.c (.bool false))),
 (5,.atom (.c (.int .u8 0))),
 (9,.atom (.c (.str ⟨#[]⟩))),
 (12,.atom (.c (.int .u64 0))),
 (14,.strct [⟨0,1,false⟩,⟨1,1,false⟩] 2 [.c (.str ⟨#[]⟩),.c (.int .u64 0)]),
 (20,.ifc),
 (21,.atom (.c (.int .i32 0))),
 (22,.slice 5 1 1 [.c (.int .u8 0)]),
 (24,.slice 86 4 72 [.c (.str ⟨#[]⟩),.c (.int .i64 0),.nil 137 5,.nil 89 3]),
 (25,.slice 38 4 64 [.c (.int .i64 0),.c (.str ⟨#[]⟩),.c (.str ⟨#[]⟩),.nil 9 1]),
 (28,.slice 98 3 48 [.c (.str ⟨#[]⟩),.nil 9 1,.c (.int .i64 0)]),
 (29,.slice 81 2 40 [.c (.str ⟨#[]⟩),.nil 3 1]),
 (31,.strct [⟨0,1,false⟩,⟨1,1,false⟩,⟨2,1,false⟩,⟨3,1,false⟩,⟨4,1,false⟩,⟨5,1,false⟩] 6 [.nil 86 4,.nil 98 3,.c (.int .i64 0),.nil 81 2,.c (.bool false),.nil 38 4]),
 (34,.slice 9 1 16 [.c (.str ⟨#[]⟩)]),
 (36,.strct [⟨0,1,false⟩,⟨1,1,false⟩] 2 [.c (.str ⟨#[]⟩),.nil 9 1]),
 (38,.strct [⟨0,1,false⟩,⟨1,1,false⟩,⟨2,2,true⟩] 4 [.c (.int .i64 0),.c (.str ⟨#[]⟩),.c (.str ⟨#[]⟩),.nil 9 1]),
 (41,.slice 3 1 8 [.c (.int .i64 0)]),
 (42,.slice 134 3 64 [.c (.str ⟨#[]⟩),.nil 9 1,.nil 36 2]),
 (43,.slice 140 8 120 [.c (.int .i64 0),.c (.int .i64 0),.c (.str ⟨#[]⟩),.nil 9 1,.c (.str ⟨#[]⟩),.c (.str ⟨#[]⟩),.c (.int .i64 0),.nil 150 2]),
 (44,.slice 36 2 40 [.c (.str ⟨#[]⟩),.nil 9 1]),
 (46,.strct [⟨0,1,false⟩,⟨1,1,false⟩,⟨2,1,false⟩,⟨3,1,false⟩,⟨4,1,false⟩,⟨5,1,false⟩] 6 [.nil 86 4,.nil 3 1,.nil 134 3,.nil 140 8,.nil 36 2,.c (.int .i64 0)]),
 (54,.strct [⟨0,6,true⟩,⟨6,6,true⟩] 12 [.nil 86 4,.nil 98 3,.c (.int .i64 0),.nil 81 2,.c (.bool false),.nil 38 4,.nil 86 4,.nil 3 1,.nil 134 3,.nil 140 8,.nil 36 2,.c (.int .i64 0)]),
 (55,.slice 64 7 112 [.c (.str ⟨#[]⟩),.nil 36 2,.nil 152 2,.c (.int .i64 0),.nil 3 1,.c (.int .i64 0),.c (.int .i64 0)]),
 (57,.slice 62 3 64 [.c (.str ⟨#[]⟩),.nil 36 2,.nil 152 2]),
 (60,.slice 152 2 32 [.c (.str ⟨#[]⟩),.c (.str ⟨#[]⟩)]),
 (62,.strct [⟨0,1,false⟩,⟨1,1,false⟩,⟨2,1,false⟩] 3 [.c (.str ⟨#[]⟩),.nil 36 2,.nil 152 2]),
 (64,.strct [⟨0,3,true⟩,⟨3,1,false⟩,⟨4,1,false⟩,⟨5,1,false⟩,⟨6,1,false⟩] 7 [.c (.str ⟨#[]⟩),.nil 36 2,.nil 152 2,.c (.int .i64 0),.nil 3 1,.c (.int .i64 0),.c (.int .i64 0)]),
 (81,.strct [⟨0,1,false⟩,⟨1,1,false⟩] 2 [.c (.str ⟨#[]⟩),.nil 3 1]),
 (83,.slice 137 5 80 [.c (.int .i64 0),.c (.str ⟨#[]⟩),.nil 9 1,.c (.str ⟨#[]⟩),.c (.str ⟨#[]⟩)]),
 (84,.slice 89 3 48 [.c (.int .i64 0),.c (.str ⟨#[]⟩),.nil 9 1]),
 (86,.strct [⟨0,1,false⟩,⟨1,1,false⟩,⟨2,1,false⟩,⟨3,1,false⟩] 4 [.c (.str ⟨#[]⟩),.c (.int .i64 0),.nil 137 5,.nil 89 3]),
 (87,.strct [⟨0,1,false⟩,⟨1,1,false⟩] 2 [.c (.str ⟨#[]⟩),.nil 9 1]),
 (89,.strct [⟨0,1,false⟩,⟨1,2,true⟩] 3 [.c (.int .i64 0),.c (.str ⟨#[]⟩),.nil 9 1]),
 (98,.strct [⟨0,2,true⟩,⟨2,1,false⟩] 3 [.c (.str ⟨#[]⟩),.nil 9 1,.c (.int .i64 0)]),
 (103,.strct [⟨0,1,false⟩,⟨1,1,false⟩,⟨2,1,false⟩] 3 [.nil 5 1,.c (.int .i64 0),.c (.int .i64 0)]),
 (134,.strct [⟨0,2,true⟩,⟨2,1,false⟩] 3 [.c (.str ⟨#[]⟩),.nil 9 1,.nil 36 2]),
 (137,.strct [⟨0,1,false⟩,⟨1,2,true⟩,⟨3,1,false⟩,⟨4,1,false⟩] 5 [.c (.int .i64 0),.c (.str ⟨#[]⟩),.nil 9 1,.c (.str ⟨#[]⟩),.c (.str ⟨#[]⟩)]),
 (138,.slice 150 2 48 [.nil 36 2,.nil 152 2]),
 (140,.strct [⟨0,1,false⟩,⟨1,5,true⟩,⟨6,1,false⟩,⟨7,1,false⟩] 8 [.c (.int .i64 0),.c (.int .i64 0),.c (.str ⟨#[]⟩),.nil 9 1,.c (.str ⟨#[]⟩),.c (.str ⟨#[]⟩),.c (.int .i64 0),.nil 150 2]),
 (150,.strct [⟨0,1,false⟩,⟨1,1,false⟩] 2 [.nil 36 2,.nil 152 2]),
 (152,.strct [⟨0,1,false⟩,⟨1,1,false⟩] 2 [.c (.str ⟨#[]⟩),.c (.str ⟨#[]⟩)]),
 (158,.atom (.c (.int .u64 0))),
 (167,.map (.int .i64) .bool),
 (222,.map .str .bool),
 (230,.ifc),
 (231,.ifc),
 (240,.ifc),
 (241,.ifc),
 (269,.atom (.c (.int .u32 0))),
 (271,.atom (.c (.int .u64 0))),
 (314,.strct [⟨0,1,false⟩] 1 [.c (.str ⟨#[]⟩)]),
 (4152,.eqs [.str,.str])]
def tt (t:Nat):Option TI:=ZyD ttL t
theorem htt:∀t i,tt t=some i->TOk prog t i:=Zzj ttL yO
theorem hmix:prog.follows .mixedOrders=true:=yO
def ZAZ : List (String × (Array Value → Prop)) := [("internal/strconv.uint64pow10", fun cs => cs = (Lib.pow10Tab.map fun z => Value.int .u64 z).toArray), ("strconv.ErrSyntax", fun cs => ∃ tp p, cs = #[.iface tp p])]
def J0:World->Prop:=ZCB prog ZAZ
def JF0:Nat->Prop:=ZCp prog ZAZ
theorem hJ0:JOk J0 JF0:=ZAW _ _
theorem ZDM (w : World) (h : J0 w) : Lib.TabIs prog w "internal/strconv.uint64pow10" .u64 Lib.pow10Tab := by
 obtain ⟨cs,h1,h2⟩:=h _ (List.mem_cons_self ..)
 rw [h2]at h1
 exact h1
theorem ZFg (w : World) (h : J0 w) : ∃ tp p, w.var? prog "strconv.ErrSyntax" = some #[.iface tp p] := by
 obtain ⟨cs, h1, tp, p, h2⟩ := h ("strconv.ErrSyntax", fun cs => ∃ tp p, cs = #[.iface tp p]) (by simp [ZAZ])
 rw [h2]at h1
 exact ⟨tp,p,h1⟩
def hdL:List (Nat×Nat):=[(18,3),(19,1),(20,1),(21,1),(22,1),(29,5),(30,5),(33,5),(47,1),(49,1),(50,1),(51,1),(65,2),(73,5),(88,1),(89,1),(90,1),(91,1),(107,2),(118,5),(131,1),(132,1),(141,1),(152,6),(161,1),(162,1),(176,4)]
def ZCu:List (Nat×Nat)->Nat->Nat
 | [],_=>0
 |p::r,f=>match Nat.beq p.1 f with|true=>p.2|false=>ZCu r f
def hds (f:FuncId):Nat:=ZCu hdL f
abbrev yQ(f:FuncId)(n:Nat):Prop:=(SC prog J0 JF0 hds).hd f=n
theorem yT{f:FuncId}{n:Nat}(h:(SC prog J0 JF0 hds).hd f=n:=by kernel_rfl):yQ f n:=h
theorem ZIW:yQ 3 0:=yT
theorem ZIf:yQ 4 0:=yT
theorem ZH1:yQ 5 0:=yT
theorem ZHT:yQ 6 0:=yT
theorem ZIO:yQ 7 0:=yT
theorem ZIq:yQ 8 0:=yT
theorem ZIa:yQ 9 0:=yT
theorem ZHa:yQ 10 0:=yT
theorem ZGf:yQ 11 0:=yT
theorem ZGo:yQ 12 0:=yT
theorem ZGL:yQ 13 0:=yT
theorem ZGe:yQ 14 0:=yT
theorem ZHB:yQ 15 0:=yT
theorem ZGi:yQ 16 0:=yT
theorem ZGK:yQ 17 0:=yT
theorem ZHl:yQ 18 3:=yT
theorem ZHL:yQ 19 1:=yT
theorem ZGk:yQ 20 1:=yT
theorem ZFB:yQ 21 1:=yT
theorem ZGX:yQ 22 1:=yT
theorem ZHF:yQ 23 0:=yT
theorem ZFG:yQ 24 0:=yT
theorem ZGr:yQ 25 0:=yT
theorem ZFA:yQ 26 0:=yT
theorem ZGz:yQ 27 0:=yT
theorem ZG1:yQ 28 0:=yT
theorem ZG5:yQ 29 5:=yT
theorem ZGB:yQ 30 5:=yT
theorem ZGC:yQ 31 0:=yT
theorem ZFT:yQ 32 0:=yT
theorem ZFL:yQ 33 5:=yT
theorem ZGG:yQ 34 0:=yT
theorem ZGP:yQ 35 0:=yT
theorem ZGp:yQ 36 0:=yT
theorem ZGv:yQ 37 0:=yT
theorem ZFx:yQ 38 0:=yT
theorem ZGu:yQ 39 0:=yT
theorem ZGF:yQ 40 0:=yT
theorem ZF3:yQ 41 0:=yT
theorem ZFU:yQ 42 0:=yT
theorem ZGy:yQ 43 0:=yT
theorem ZGR:yQ 44 0:=yT
theorem ZFC:yQ 45 0:=yT
theorem ZGU:yQ 46 0:=yT
theorem ZHc:yQ 47 1:=yT
theorem ZF4:yQ 48 0:=yT
theorem ZHz:yQ 49 1:=yT
theorem ZGl:yQ 50 1:=yT
theorem ZG4:yQ 51 1:=yT
theorem ZGj:yQ 52 0:=yT
theorem ZGW:yQ 53 0:=yT
theorem ZGY:yQ 54 0:=yT
theorem ZFY:yQ 55 0:=yT
theorem ZFQ:yQ 56 0:=yT
theorem ZF9:yQ 57 0:=yT
theorem ZGa:yQ 58 0:=yT
theorem ZHj:yQ 59 0:=yT
theorem ZGJ:yQ 60 0:=yT
theorem ZGd:yQ 61 0:=yT
theorem ZGh:yQ 62 0:=yT
theorem ZFK:yQ 63 0:=yT
theorem ZF6:yQ 64 0:=yT
theorem ZG7:yQ 65 2:=yT
theorem ZHA:yQ 66 0:=yT
theorem ZGN:yQ 67 0:=yT
theorem ZHw:yQ 68 0:=yT
theorem ZGb:yQ 69 0:=yT
theorem ZHq:yQ 70 0:=yT
theorem ZGc:yQ 71 0:=yT
theorem ZHr:yQ 72 0:=yT
theorem ZG8:yQ 73 5:=yT
theorem ZGg:yQ 74 0:=yT
theorem ZHi:yQ 75 0:=yT
theorem ZGn:yQ 76 0:=yT
theorem ZHk:yQ 77 0:=yT
theorem ZGH:yQ 78 0:=yT
theorem ZHb:yQ 79 0:=yT
theorem ZHE:yQ 80 0:=yT
theorem ZFS:yQ 81 0:=yT
theorem ZHh:yQ 82 0:=yT
theorem ZHy:yQ 83 0:=yT
theorem ZHm:yQ 84 0:=yT
theorem ZHx:yQ 85 0:=yT
theorem ZHN:yQ 86 0:=yT
theorem ZG0:yQ 87 0:=yT
theorem ZF5:yQ 88 1:=yT
theorem ZHs:yQ 89 1:=yT
theorem ZFO:yQ 90 1:=yT
theorem ZF1:yQ 91 1:=yT
theorem ZFM:yQ 92 0:=yT
theorem ZHg:yQ 93 0:=yT
theorem ZHu:yQ 94 0:=yT
theorem ZFF:yQ 95 0:=yT
theorem ZF0:yQ 96 0:=yT
theorem ZFN:yQ 97 0:=yT
theorem ZGT:yQ 98 0:=yT
theorem ZFR:yQ 99 0:=yT
theorem ZEW:yQ 100 0:=yT
theorem ZC8:yQ 101 0:=yT
theorem ZDu:yQ 102 0:=yT
theorem ZDa:yQ 103 0:=yT
theorem ZDb:yQ 104 0:=yT
theorem ZDj:yQ 105 0:=yT
theorem ZDt:yQ 106 0:=yT
theorem ZER:yQ 107 2:=yT
theorem ZC3:yQ 108 0:=yT
theorem ZEm:yQ 109 0:=yT
theorem ZDB:yQ 110 0:=yT
theorem ZCQ:yQ 111 0:=yT
theorem ZD4:yQ 113 0:=yT
theorem ZDi:yQ 114 0:=yT
theorem ZDx:yQ 115 0:=yT
theorem ZEr:yQ 116 0:=yT
theorem ZCM:yQ 117 0:=yT
theorem ZDk:yQ 118 5:=yT
theorem ZCX:yQ 119 0:=yT
theorem ZC5:yQ 120 0:=yT
theorem ZDl:yQ 121 0:=yT
theorem ZC7:yQ 122 0:=yT
theorem ZEj:yQ 123 0:=yT
theorem ZEh:yQ 124 0:=yT
theorem ZEI:yQ 125 0:=yT
theorem ZCV:yQ 126 0:=yT
theorem ZDq:yQ 127 0:=yT
theorem ZEx:yQ 128 0:=yT
theorem ZEs:yQ 129 0:=yT
theorem ZEw:yQ 130 0:=yT
theorem ZEz:yQ 131 1:=yT
theorem ZEi:yQ 132 1:=yT
theorem ZEX:yQ 133 0:=yT
theorem ZCN:yQ 134 0:=yT
theorem ZFo:yQ 135 0:=yT
theorem ZEC:yQ 136 0:=yT
theorem ZDr:yQ 137 0:=yT
theorem ZEa:yQ 138 0:=yT
theorem ZDH:yQ 139 0:=yT
theorem ZEM:yQ 140 0:=yT
theorem ZCF:yQ 141 1:=yT
theorem ZDX:yQ 143 0:=yT
theorem ZCO:yQ 144 0:=yT
theorem ZDW:yQ 149 0:=yT
theorem ZEk:yQ 150 0:=yT
theorem ZCR:yQ 151 0:=yT
theorem ZC4:yQ 152 6:=yT
theorem ZES:yQ 153 0:=yT
theorem ZFn:yQ 154 0:=yT
theorem ZEA:yQ 155 0:=yT
theorem ZDd:yQ 156 0:=yT
theorem ZE8:yQ 157 0:=yT
theorem ZDS:yQ 158 0:=yT
theorem ZEE:yQ 159 0:=yT
theorem ZDs:yQ 160 0:=yT
theorem ZEY:yQ 161 1:=yT
theorem ZEN:yQ 162 1:=yT
theorem ZDL:yQ 163 0:=yT
theorem ZCH:yQ 164 0:=yT
theorem ZEG:yQ 165 0:=yT
theorem ZFb:yQ 166 0:=yT
theorem ZEo:yQ 167 0:=yT
theorem ZEV:yQ 168 0:=yT
theorem ZEy:yQ 169 0:=yT
theorem ZDT:yQ 170 0:=yT
theorem ZEn:yQ 171 0:=yT
theorem ZDV:yQ 172 0:=yT
theorem ZDg:yQ 173 0:=yT
theorem ZFm:yQ 174 0:=yT
theorem ZFc:yQ 175 0:=yT
theorem ZC2:yQ 176 4:=yT
theorem ZEt:yQ 179 0:=yT
theorem ZDG:yQ 193 0:=yT
theorem ZC1:yQ 194 0:=yT
theorem ZFi:yQ 195 0:=yT
theorem ZE1:yQ 196 0:=yT
theorem ZFw:yQ 197 0:=yT
theorem ZEL:yQ 198 0:=yT
theorem ZEp:yQ 199 0:=yT
theorem ZD3:yQ 200 0:=yT
theorem ZDR:yQ 207 0:=yT
theorem ZDZ:yQ 209 0:=yT
theorem ZEF:yQ 210 0:=yT
theorem ZEu:yQ 237 0:=yT
theorem tt2:tt 2=some (.atom (.c (.int .i64 0))):=yi rfl
theorem tt3:tt 3=some (.atom (.c (.int .i64 0))):=yi rfl
theorem tt4:tt 4=some (.atom (.c (.bool false))):=yi rfl
theorem tt5:tt 5=some (.atom (.c (.int .u8 0))):=yi rfl
theorem tt9:tt 9=some (.atom (.c (.str ⟨#[]⟩))):=yi rfl
theorem ZH9:tt 12=some (.atom (.c (.int .u64 0))):=yi rfl
theorem ZII:tt 14=some (.strct [⟨0,1,false⟩,⟨1,1,false⟩] 2 [.c (.str ⟨#[]⟩),.c (.int .u64 0)]):=yi rfl
theorem ZH6:tt 20=some (.ifc):=yi rfl
theorem ZIo:tt 21=some (.atom (.c (.int .i32 0))):=yi rfl
theorem ZId:tt 22=some (.slice 5 1 1 [.c (.int .u8 0)]):=yi rfl
theorem ZIc:tt 24=some (.slice 86 4 72 [.c (.str ⟨#[]⟩),.c (.int .i64 0),.nil 137 5,.nil 89 3]):=yi rfl
theorem ZID:tt 25=some (.slice 38 4 64 [.c (.int .i64 0),.c (.str ⟨#[]⟩),.c (.str ⟨#[]⟩),.nil 9 1]):=yi rfl
theorem ZIl:tt 28=some (.slice 98 3 48 [.c (.str ⟨#[]⟩),.nil 9 1,.c (.int .i64 0)]):=yi rfl
theorem ZIJ:tt 29=some (.slice 81 2 40 [.c (.str ⟨#[]⟩),.nil 3 1]):=yi rfl
theorem ZIG:tt 31=some (.strct [⟨0,1,false⟩,⟨1,1,false⟩,⟨2,1,false⟩,⟨3,1,false⟩,⟨4,1,false⟩,⟨5,1,false⟩] 6 [.nil 86 4,.nil 98 3,.c (.int .i64 0),.nil 81 2,.c (.bool false),.nil 38 4]):=yi rfl
theorem ZIn:tt 34=some (.slice 9 1 16 [.c (.str ⟨#[]⟩)]):=yi rfl
theorem ZHV:tt 36=some (.strct [⟨0,1,false⟩,⟨1,1,false⟩] 2 [.c (.str ⟨#[]⟩),.nil 9 1]):=yi rfl
theorem ZIp:tt 38=some (.strct [⟨0,1,false⟩,⟨1,1,false⟩,⟨2,2,true⟩] 4 [.c (.int .i64 0),.c (.str ⟨#[]⟩),.c (.str ⟨#[]⟩),.nil 9 1]):=yi rfl
theorem ZH3:tt 41=some (.slice 3 1 8 [.c (.int .i64 0)]):=yi rfl
theorem ZIU:tt 42=some (.slice 134 3 64 [.c (.str ⟨#[]⟩),.nil 9 1,.nil 36 2]):=yi rfl
theorem ZIk:tt 43=some (.slice 140 8 120 [.c (.int .i64 0),.c (.int .i64 0),.c (.str ⟨#[]⟩),.nil 9 1,.c (.str ⟨#[]⟩),.c (.str ⟨#[]⟩),.c (.int .i64 0),.nil 150 2]):=yi rfl
theorem ZH4:tt 44=some (.slice 36 2 40 [.c (.str ⟨#[]⟩),.nil 9 1]):=yi rfl
theorem ZIt:tt 46=some (.strct [⟨0,1,false⟩,⟨1,1,false⟩,⟨2,1,false⟩,⟨3,1,false⟩,⟨4,1,false⟩,⟨5,1,false⟩] 6 [.nil 86 4,.nil 3 1,.nil 134 3,.nil 140 8,.nil 36 2,.c (.int .i64 0)]):=yi rfl
theorem ZHU:tt 54=some (.strct [⟨0,6,true⟩,⟨6,6,true⟩] 12 [.nil 86 4,.nil 98 3,.c (.int .i64 0),.nil 81 2,.c (.bool false),.nil 38 4,.nil 86 4,.nil 3 1,.nil 134 3,.nil 140 8,.nil 36 2,.c (.int .i64 0)]):=yi rfl
theorem ZIw:tt 55=some (.slice 64 7 112 [.c (.str ⟨#[]⟩),.nil 36 2,.nil 152 2,.c (.int .i64 0),.nil 3 1,.c (.int .i64 0),.c (.int .i64 0)]):=yi rfl
theorem ZHX:tt 57=some (.slice 62 3 64 [.c (.str ⟨#[]⟩),.nil 36 2,.nil 152 2]):=yi rfl
theorem ZIx:tt 60=some (.slice 152 2 32 [.c (.str ⟨#[]⟩),.c (.str ⟨#[]⟩)]):=yi rfl
theorem ZIL:tt 62=some (.strct [⟨0,1,false⟩,⟨1,1,false⟩,⟨2,1,false⟩] 3 [.c (.str ⟨#[]⟩),.nil 36 2,.nil 152 2]):=yi rfl
theorem ZHY:tt 64=some (.strct [⟨0,3,true⟩,⟨3,1,false⟩,⟨4,1,false⟩,⟨5,1,false⟩,⟨6,1,false⟩] 7 [.c (.str ⟨#[]⟩),.nil 36 2,.nil 152 2,.c (.int .i64 0),.nil 3 1,.c (.int .i64 0),.c (.int .i64 0)]):=yi rfl
theorem ZIP:tt 81=some (.strct [⟨0,1,false⟩,⟨1,1,false⟩] 2 [.c (.str ⟨#[]⟩),.nil 3 1]):=yi rfl
theorem ZIu:tt 83=some (.slice 137 5 80 [.c (.int .i64 0),.c (.str ⟨#[]⟩),.nil 9 1,.c (.str ⟨#[]⟩),.c (.str ⟨#[]⟩)]):=yi rfl
theorem ZHZ:tt 84=some (.slice 89 3 48 [.c (.int .i64 0),.c (.str ⟨#[]⟩),.nil 9 1]):=yi rfl
theorem ZIg:tt 86=some (.strct [⟨0,1,false⟩,⟨1,1,false⟩,⟨2,1,false⟩,⟨3,1,false⟩] 4 [.c (.str ⟨#[]⟩),.c (.int .i64 0),.nil 137 5,.nil 89 3]):=yi rfl
theorem ZIV:tt 87=some (.strct [⟨0,1,false⟩,⟨1,1,false⟩] 2 [.c (.str ⟨#[]⟩),.nil 9 1]):=yi rfl
theorem ZIr:tt 89=some (.strct [⟨0,1,false⟩,⟨1,2,true⟩] 3 [.c (.int .i64 0),.c (.str ⟨#[]⟩),.nil 9 1]):=yi rfl
theorem ZIR:tt 98=some (.strct [⟨0,2,true⟩,⟨2,1,false⟩] 3 [.c (.str ⟨#[]⟩),.nil 9 1,.c (.int .i64 0)]):=yi rfl
theorem ZFP:tt 103=some (.strct [⟨0,1,false⟩,⟨1,1,false⟩,⟨2,1,false⟩] 3 [.nil 5 1,.c (.int .i64 0),.c (.int .i64 0)]):=yi rfl
theorem ZGq:tt 134=some (.strct [⟨0,2,true⟩,⟨2,1,false⟩] 3 [.c (.str ⟨#[]⟩),.nil 9 1,.nil 36 2]):=yi rfl
theorem ZGs:tt 137=some (.strct [⟨0,1,false⟩,⟨1,2,true⟩,⟨3,1,false⟩,⟨4,1,false⟩] 5 [.c (.int .i64 0),.c (.str ⟨#[]⟩),.nil 9 1,.c (.str ⟨#[]⟩),.c (.str ⟨#[]⟩)]):=yi rfl
theorem ZFE:tt 138=some (.slice 150 2 48 [.nil 36 2,.nil 152 2]):=yi rfl
theorem ZFI:tt 140=some (.strct [⟨0,1,false⟩,⟨1,5,true⟩,⟨6,1,false⟩,⟨7,1,false⟩] 8 [.c (.int .i64 0),.c (.int .i64 0),.c (.str ⟨#[]⟩),.nil 9 1,.c (.str ⟨#[]⟩),.c (.str ⟨#[]⟩),.c (.int .i64 0),.nil 150 2]):=yi rfl
theorem ZFJ:tt 150=some (.strct [⟨0,1,false⟩,⟨1,1,false⟩] 2 [.nil 36 2,.nil 152 2]):=yi rfl
theorem ZHd:tt 152=some (.strct [⟨0,1,false⟩,⟨1,1,false⟩] 2 [.c (.str ⟨#[]⟩),.c (.str ⟨#[]⟩)]):=yi rfl
theorem ZG2:tt 158=some (.atom (.c (.int .u64 0))):=yi rfl
theorem ZFW:tt 167=some (.map (.int .i64) .bool):=yi rfl
theorem ZHH:tt 222=some (.map .str .bool):=yi rfl
theorem ZHn:tt 230=some (.ifc):=yi rfl
theorem ZGS:tt 231=some (.ifc):=yi rfl
theorem ZGD:tt 240=some (.ifc):=yi rfl
theorem ZHM:tt 241=some (.ifc):=yi rfl
theorem ZHt:tt 269=some (.atom (.c (.int .u32 0))):=yi rfl
theorem ZGx:tt 271=some (.atom (.c (.int .u64 0))):=yi rfl
theorem ZHI:tt 314=some (.strct [⟨0,1,false⟩] 1 [.c (.str ⟨#[]⟩)]):=yi rfl
theorem ZDf:tt 4152=some (.eqs [.str,.str]):=yi rfl
theorem fnk {f : FuncId} {fn : Func} {c : Code} {args : List (Bool × List CT)} {res : List RT} (hf : prog.funcs[f]? = some fn) (hb : fn.body = some c) (h : fnS (fun _ => none) tt (SC prog J0 JF0 hds) fn.results.toList c args res) (hname : (fn.name == "runtime.NumGoroutine") = false := by kernel_rfl) (hok : Xb (fun _ => none) tt hds false fn.ntmps c = true := by kernel_rfl) (hlen : Nat.ble args.length fn.ntmps = true := by kernel_rfl) : Zm prog J0 f args res := Zte htt hJ0 hmix hf hname hb hok hlen h
theorem fnh {f : FuncId} {fn : Func} {c : Code} {h h' : ZgW} {args : List (Bool × List CT)} {res : List RT} (hf : prog.funcs[f]? = some fn) (hb : fn.body = some c) (hh : fnH (fun _ => none) tt (SC prog J0 JF0 hds) fn.results.toList c h args res h') (hname : (fn.name == "runtime.NumGoroutine") = false := by kernel_rfl) (hok : Xb (fun _ => none) tt hds true fn.ntmps c = true := by kernel_rfl) (hlen : Nat.blt args.length fn.ntmps = true := by kernel_rfl) : XQ prog J0 JF0 f h args res h' := ZpN htt hJ0 hmix hf hname hb hok hlen hh
theorem fnb {f : FuncId} {fn : Func} {c : Code} {args : List (Bool × List CT)} {nb : NB} (hf : prog.funcs[f]? = some fn) (hb : fn.body = some c) (h : fnB (fun _ => none) tt (SC prog J0 JF0 hds) fn.results.toList c args nb) (hname : (fn.name == "runtime.NumGoroutine") = false := by kernel_rfl) (hok : Xb (fun _ => none) tt hds false fn.ntmps c = true := by kernel_rfl) (hlen : Nat.ble args.length fn.ntmps = true := by kernel_rfl) : Zri prog J0 f args nb := Zwy htt hJ0 hmix hf hname hb hok hlen h
theorem fno {f : FuncId} {fn : Func} {c : Code} {t : Nat} {cs cs' : List (Bool × CT)} {gv : Option (Bool × List (Bool × CT))} {args : List (Bool × List CT)} {res : List RT} (hf : prog.funcs[f]? = some fn) (hb : fn.body = some c) (hh : fnO (fun _ => none) tt (SC prog J0 JF0 hds) fn.results.toList c t cs gv args res cs') (hname : (fn.name == "runtime.NumGoroutine") = false := by kernel_rfl) (hok : Xb (fun _ => none) tt hds true fn.ntmps c = true := by kernel_rfl) (hlen : Nat.blt (args.length + gvN gv) fn.ntmps = true := by kernel_rfl) : ZdQ prog J0 JF0 f t cs gv args res cs' := ZxI htt hJ0 hmix hf hname hb hok hlen hh
theorem ZFZ (m : List (Nat × List Nat × Bool)) {f : FuncId} {fn : Func} {c : Code} {args : List (Bool × List CT)} {res : List RT} (hf : prog.funcs[f]? = some fn) (hb : fn.body = some c) (h : fnS (Zoh m) tt (SC prog J0 JF0 hds) fn.results.toList c args res) (hname : (fn.name == "runtime.NumGoroutine") = false := by kernel_rfl) (hok : Xb (Zoh m) tt hds false fn.ntmps c = true := by kernel_rfl) (hlen : Nat.ble args.length fn.ntmps = true := by kernel_rfl) : Zm prog J0 f args res := Zte htt hJ0 hmix hf hname hb hok hlen h
theorem ZEv (m : List (Nat × List Nat × Bool)) {f : FuncId} {fn : Func} {c : Code} {h h' : ZgW} {args : List (Bool × List CT)} {res : List RT} (hf : prog.funcs[f]? = some fn) (hb : fn.body = some c) (hh : fnH (Zoh m) tt (SC prog J0 JF0 hds) fn.results.toList c h args res h') (hname : (fn.name == "runtime.NumGoroutine") = false := by kernel_rfl) (hok : Xb (Zoh m) tt hds true fn.ntmps c = true := by kernel_rfl) (hlen : Nat.blt args.length fn.ntmps = true := by kernel_rfl) : XQ prog J0 JF0 f h args res h' := ZpN htt hJ0 hmix hf hname hb hok hlen hh
def Ql (x:Zi):List CT:=[.str x.rel,.sl 9 1 (A0 ZE x.args)]
theorem ZsS (x:Zi):Ql x=[.str x.rel,.sl 9 1 (A0 ZE x.args)]:=yi rfl
def ZR (x:Zj):List CT:=[.int .i64 x.kind,.str x.pattern.rel,.sl 9 1 (A0 ZE x.pattern.args),.str x.left,.str x.right]
theorem ZAC (x:Zj):ZR x=[.int .i64 x.kind,.str x.pattern.rel,.sl 9 1 (A0 ZE x.pattern.args),.str x.left,.str x.right]:=yi rfl
def Z3 (x:ZB):List CT:=[.int .i64 x.kind,.str x.pattern.rel,.sl 9 1 (A0 ZE x.pattern.args)]
theorem ZuQ (x:ZB):Z3 x=[.int .i64 x.kind,.str x.pattern.rel,.sl 9 1 (A0 ZE x.pattern.args)]:=yi rfl
def Zx (x:Zh):List CT:=[.str x.name,.int .i64 x.priority,.sl 137 5 (A0 ZR x.cond),.sl 89 3 (A0 Z3 x.thn)]
theorem Zyt (x:Zh):Zx x=[.str x.name,.int .i64 x.priority,.sl 137 5 (A0 ZR x.cond),.sl 89 3 (A0 Z3 x.thn)]:=yi rfl
def Zr (x:Zg):List CT:=[.str x.rel,.sl 9 1 (A0 ZE x.args)]
theorem Zy5 (x:Zg):Zr x=[.str x.rel,.sl 9 1 (A0 ZE x.args)]:=yi rfl
def Z4 (x:Zv):List CT:=[.str x.fact.rel,.sl 9 1 (A0 ZE x.fact.args),.int .i64 x.time]
theorem Zwh (x:Zv):Z4 x=[.str x.fact.rel,.sl 9 1 (A0 ZE x.fact.args),.int .i64 x.time]:=yi rfl
def Z9 (x:ZP):List CT:=[.str x.rule,.sl 3 1 (A0 Yc x.times)]
theorem ZtM (x:ZP):Z9 x=[.str x.rule,.sl 3 1 (A0 Yc x.times)]:=yi rfl
def Yx (x:Z6):List CT:=[.int .i64 x.kind,.str x.rule,.str x.fact.rel,.sl 9 1 (A0 ZE x.fact.args)]
theorem ZxR (x:Z6):Yx x=[.int .i64 x.kind,.str x.rule,.str x.fact.rel,.sl 9 1 (A0 ZE x.fact.args)]:=yi rfl
def Zff (x:Zu):List CT:=[.sl 86 4 (A0 Zx x.rules),.sl 98 3 (A0 Z4 x.memory),.int .i64 x.clock,.sl 81 2 (A0 Z9 x.fired),.bool x.halted,.sl 38 4 (A0 Yx x.log)]
theorem Zua (x:Zu):Zff x=[.sl 86 4 (A0 Zx x.rules),.sl 98 3 (A0 Z4 x.memory),.int .i64 x.clock,.sl 81 2 (A0 Z9 x.fired),.bool x.halted,.sl 38 4 (A0 Yx x.log)]:=yi rfl
def Yf (x:YR):List CT:=[.str x.shape.rel,.sl 9 1 (A0 ZE x.shape.args),.sl 36 2 (A0 Zr x.facts)]
theorem ZwV (x:YR):Yf x=[.str x.shape.rel,.sl 9 1 (A0 ZE x.shape.args),.sl 36 2 (A0 Zr x.facts)]:=yi rfl
def Yg (x:Zo):List CT:=[.str x.var,.str x.value]
theorem Zyp (x:Zo):Yg x=[.str x.var,.str x.value]:=yi rfl
theorem ZuV (l:List Zo):ZbL (l.map Yg)=true:=Zdb (fun _=>rfl) l
def XH (x:Zs):List CT:=[.sl 36 2 (A0 Zr x.facts),.sl 152 2 (A0 Yg x.binding)]
theorem ZwI (x:Zs):XH x=[.sl 36 2 (A0 Zr x.facts),.sl 152 2 (A0 Yg x.binding)]:=yi rfl
def YL (x:ZV):List CT:=[.int .i64 x.parent,.int .i64 x.cond.kind,.str x.cond.pattern.rel,.sl 9 1 (A0 ZE x.cond.pattern.args),.str x.cond.left,.str x.cond.right,.int .i64 x.alpha,.sl 150 2 (A0 XH x.tokens)]
theorem ZyC (x:ZV):YL x=[.int .i64 x.parent,.int .i64 x.cond.kind,.str x.cond.pattern.rel,.sl 9 1 (A0 ZE x.cond.pattern.args),.str x.cond.left,.str x.cond.right,.int .i64 x.alpha,.sl 150 2 (A0 XH x.tokens)]:=yi rfl
def Qg (x:Ze):List CT:=[.sl 86 4 (A0 Zx x.rules),.sl 3 1 (A0 Yc x.ends),.sl 134 3 (A0 Yf x.alphas),.sl 140 8 (A0 YL x.nodes),.sl 36 2 (A0 Zr x.facts),.int .i64 x.tries]
theorem Zsq (x:Ze):Qg x=[.sl 86 4 (A0 Zx x.rules),.sl 3 1 (A0 Yc x.ends),.sl 134 3 (A0 Yf x.alphas),.sl 140 8 (A0 YL x.nodes),.sl 36 2 (A0 Zr x.facts),.int .i64 x.tries]:=yi rfl
def ZCA (x:Zlg):List CT:=[.sl 86 4 (A0 Zx x.engine.rules),.sl 98 3 (A0 Z4 x.engine.memory),.int .i64 x.engine.clock,.sl 81 2 (A0 Z9 x.engine.fired),.bool x.engine.halted,.sl 38 4 (A0 Yx x.engine.log),.sl 86 4 (A0 Zx x.network.rules),.sl 3 1 (A0 Yc x.network.ends),.sl 134 3 (A0 Yf x.network.alphas),.sl 140 8 (A0 YL x.network.nodes),.sl 36 2 (A0 Zr x.network.facts),.int .i64 x.network.tries]
theorem Zx4 (x:Zlg):ZCA x=[.sl 86 4 (A0 Zx x.engine.rules),.sl 98 3 (A0 Z4 x.engine.memory),.int .i64 x.engine.clock,.sl 81 2 (A0 Z9 x.engine.fired),.bool x.engine.halted,.sl 38 4 (A0 Yx x.engine.log),.sl 86 4 (A0 Zx x.network.rules),.sl 3 1 (A0 Yc x.network.ends),.sl 134 3 (A0 Yf x.network.alphas),.sl 140 8 (A0 YL x.network.nodes),.sl 36 2 (A0 Zr x.network.facts),.int .i64 x.network.tries]:=yi rfl
def Q0 (x:Yk):List CT:=[.str x.rule,.sl 36 2 (A0 Zr x.facts),.sl 152 2 (A0 Yg x.binding)]
theorem Zxv (x:Yk):Q0 x=[.str x.rule,.sl 36 2 (A0 Zr x.facts),.sl 152 2 (A0 Yg x.binding)]:=yi rfl
def Yu (x:ZC):List CT:=[.str x.mtch.rule,.sl 36 2 (A0 Zr x.mtch.facts),.sl 152 2 (A0 Yg x.mtch.binding),.int .i64 x.priority,.sl 3 1 (A0 Yc x.times),.int .i64 x.specific,.int .i64 x.ordr]
theorem ZtE (x:ZC):Yu x=[.str x.mtch.rule,.sl 36 2 (A0 Zr x.mtch.facts),.sl 152 2 (A0 Yg x.mtch.binding),.int .i64 x.priority,.sl 3 1 (A0 Yc x.times),.int .i64 x.specific,.int .i64 x.ordr]:=yi rfl
def YO (x:Zp):List CT:=[.sl 5 1 (A0 Zdx x.b),.int .i64 x.i,.int .i64 x.h]
theorem Zwg (x:Zp):YO x=[.sl 5 1 (A0 Zdx x.b),.int .i64 x.i,.int .i64 x.h]:=yi rfl
attribute [go_sem] tt2 tt3 tt4 tt5 tt9 ZH9 ZII ZH6 ZIo ZId ZIc ZID ZIl ZIJ ZIG ZIn ZHV ZIp ZH3 ZIU ZIk ZH4 ZIt ZHU ZIw ZHX ZIx ZIL ZHY ZIP ZIu ZHZ ZIg ZIV ZIr ZIR ZFP ZGq ZGs ZFE
attribute [go_sem] ZFI ZFJ ZHd ZG2 ZFW ZHH ZHn ZGS ZGD ZHM ZHt ZGx ZHI ZDf ZIW ZIf ZH1 ZHT ZIO ZIq ZIa ZHa ZGf ZGo ZGL ZGe ZHB ZGi ZGK ZHl ZHL ZGk ZFB ZGX ZHF ZFG ZGr ZFA ZGz ZG1
attribute [go_sem] ZG5 ZGB ZGC ZFT ZFL ZGG ZGP ZGp ZGv ZFx ZGu ZGF ZF3 ZFU ZGy ZGR ZFC ZGU ZHc ZF4 ZHz ZGl ZG4 ZGj ZGW ZGY ZFY ZFQ ZF9 ZGa ZHj ZGJ ZGd ZGh ZFK ZF6 ZG7 ZHA ZGN ZHw
attribute [go_sem] ZGb ZHq ZGc ZHr ZG8 ZGg ZHi ZGn ZHk ZGH ZHb ZHE ZFS ZHh ZHy ZHm ZHx ZHN ZG0 ZF5 ZHs ZFO ZF1 ZFM ZHg ZHu ZFF ZF0 ZFN ZGT ZFR ZEW ZC8 ZDu ZDa ZDb ZDj ZDt ZER ZC3
attribute [go_sem] ZEm ZDB ZCQ ZD4 ZDi ZDx ZEr ZCM ZDk ZCX ZC5 ZDl ZC7 ZEj ZEh ZEI ZCV ZDq ZEx ZEs ZEw ZEz ZEi ZEX ZCN ZFo ZEC ZDr ZEa ZDH ZEM ZCF ZDX ZCO ZDW ZEk ZCR ZC4 ZES ZFn
attribute [go_sem] ZEA ZDd ZE8 ZDS ZEE ZDs ZEY ZEN ZDL ZCH ZEG ZFb ZEo ZEV ZEy ZDT ZEn ZDV ZDg ZFm ZFc ZC2 ZEt ZDG ZC1 ZFi ZE1 ZFw ZEL ZEp ZD3 ZDR ZDZ ZEF ZEu ZsS ZAC ZuQ Zyt Zy5
attribute [go_sem] Zwh ZtM ZxR Zua ZwV ZuV Zyp ZwI ZyC Zsq Zx4 Zxv ZtE Zwg
end
end Go.Proofs.YtaafhjecikjhbaaGreatDoor
namespace Go.Proofs
open Go.Shelf
def lays125_ren:Go.Shelf.Ren:=⟨fun|125=>202|128=>220|129=>221|n=>n,fun|46=>158|3=>3|51=>269|53=>271|4=>4|5=>5|9=>9|n=>n,fun|n=>n⟩
theorem lays125:Go.Proofs.Lays.n125 prog lays125_ren:={
 mixed:=by kernel_rfl
 f125:=func202.trans (congrArg some (by kernel_rfl))
 f128:=func220.trans (congrArg some (by kernel_rfl))
 f129:=func221.trans (congrArg some (by kernel_rfl))
 t3:=underlying3
 a3:=isAgg3
 z3:=sizeOf3
 v3:=zeroValue3
 t4:=underlying4
 a4:=isAgg4
 z4:=sizeOf4
 v4:=zeroValue4
 t5:=underlying5
 a5:=isAgg5
 z5:=sizeOf5
 v5:=zeroValue5
 t9:=underlying9
 a9:=isAgg9
 z9:=sizeOf9
 v9:=zeroValue9
 t46:=underlying158
 a46:=isAgg158
 z46:=sizeOf158
 v46:=zeroValue158
 t51:=underlying269
 a51:=isAgg269
 z51:=sizeOf269
 v51:=zeroValue269
 t53:=underlying271
 a53:=isAgg271
 z53:=sizeOf271
 v53:=zeroValue271 }
theorem bits_Len (x:Int) (w:World) (h0:0<=x) (h1:x<=18446744073709551615):
  Calls prog 202 #[.int .u64 x] w fun e w'=>e=.returned (.int .i64 (Lib.bitLen x.toNat))/\w'=w:=Any.bits_Len lays125 x w h0 h1
def lays106_ren:Go.Shelf.Ren:=⟨fun|106=>104|213=>142|265=>178|n=>n,fun|9=>9|3=>3|n=>n,fun|n=>n⟩
theorem lays106:Go.Proofs.Lays.n106 prog lays106_ren:={
 mixed:=by kernel_rfl
 f106:=func104.trans (congrArg some (by kernel_rfl))
 f213:=func142.trans (congrArg some (by kernel_rfl))
 f265:=func178.trans (congrArg some (by kernel_rfl))
 t3:=underlying3
 a3:=isAgg3
 z3:=sizeOf3
 v3:=zeroValue3
 t9:=underlying9
 a9:=isAgg9
 z9:=sizeOf9
 v9:=zeroValue9 }
open Go.RowKit in
theorem strings_Compare (a b:ByteArray) (w:World):
  Calls prog 104 #[.string a,.string b] w fun e w'=>e=.returned (.int .i64 (Lib.compareBytes a.data.toList b.data.toList))/\w'=w:=Any.strings_Compare lays106 a b w
def lays172_ren:Go.Shelf.Ren:=⟨fun|172=>179|244=>203|245=>204|247=>222|279=>223|280=>224|281=>225|282=>226|287=>244|316=>245|171=>196|205=>246|321=>257|322=>258|243=>208|246=>236|283=>252|284=>253|285=>254|286=>255|129=>221|317=>260|318=>261|319=>262|320=>263|337=>264|338=>265|n=>n,fun|9=>9|3=>3|75=>231|76=>232|4=>4|5=>5|167=>272|37=>22|0=>0|85=>273|2=>2|168=>275|53=>271|175=>294|46=>158|210=>298|127=>311|145=>314|143=>312|21=>21|171=>303|173=>305|212=>319|51=>269|20=>20|213=>320|232=>322|233=>323|80=>324|n=>n,fun|15=>1|16=>2|17=>3|18=>4|19=>5|n=>n⟩
theorem lays172:Go.Proofs.Lays.n172 prog lays172_ren:={
 mixed:=by kernel_rfl
 f129:=func221.trans (congrArg some (by kernel_rfl))
 f171:=func196.trans (congrArg some (by kernel_rfl))
 f172:=func179.trans (congrArg some (by kernel_rfl))
 f205:=func246.trans (congrArg some (by kernel_rfl))
 f243:=func208.trans (congrArg some (by kernel_rfl))
 f244:=func203.trans (congrArg some (by kernel_rfl))
 f245:=func204.trans (congrArg some (by kernel_rfl))
 f246:=func236.trans (congrArg some (by kernel_rfl))
 f247:=func222.trans (congrArg some (by kernel_rfl))
 f279:=func223.trans (congrArg some (by kernel_rfl))
 f280:=func224.trans (congrArg some (by kernel_rfl))
 f281:=func225.trans (congrArg some (by kernel_rfl))
 f282:=func226.trans (congrArg some (by kernel_rfl))
 f283:=func252.trans (congrArg some (by kernel_rfl))
 f284:=func253.trans (congrArg some (by kernel_rfl))
 f285:=func254.trans (congrArg some (by kernel_rfl))
 f286:=func255.trans (congrArg some (by kernel_rfl))
 f287:=func244.trans (congrArg some (by kernel_rfl))
 f316:=func245.trans (congrArg some (by kernel_rfl))
 f317:=func260.trans (congrArg some (by kernel_rfl))
 f318:=func261.trans (congrArg some (by kernel_rfl))
 f319:=func262.trans (congrArg some (by kernel_rfl))
 f320:=func263.trans (congrArg some (by kernel_rfl))
 f321:=func257.trans (congrArg some (by kernel_rfl))
 f322:=func258.trans (congrArg some (by kernel_rfl))
 f337:=func264.trans (congrArg some (by kernel_rfl))
 f338:=func265.trans (congrArg some (by kernel_rfl))
 t0:=underlying0
 a0:=isAgg0
 z0:=sizeOf0
 v0:=zeroValue0
 t2:=underlying2
 a2:=isAgg2
 z2:=sizeOf2
 v2:=zeroValue2
 t3:=underlying3
 a3:=isAgg3
 z3:=sizeOf3
 v3:=zeroValue3
 t4:=underlying4
 a4:=isAgg4
 z4:=sizeOf4
 v4:=zeroValue4
 t5:=underlying5
 a5:=isAgg5
 z5:=sizeOf5
 v5:=zeroValue5
 t9:=underlying9
 a9:=isAgg9
 z9:=sizeOf9
 v9:=zeroValue9
 t20:=underlying20
 a20:=isAgg20
 z20:=sizeOf20
 v20:=zeroValue20
 t21:=underlying21
 a21:=isAgg21
 z21:=sizeOf21
 v21:=zeroValue21
 t37:=underlying22
 a37:=isAgg22
 z37:=sizeOf22
 v37:=zeroValue22
 t46:=underlying158
 a46:=isAgg158
 z46:=sizeOf158
 v46:=zeroValue158
 t51:=underlying269
 a51:=isAgg269
 z51:=sizeOf269
 v51:=zeroValue269
 t53:=underlying271
 a53:=isAgg271
 z53:=sizeOf271
 v53:=zeroValue271
 t75:=underlying231
 a75:=isAgg231
 z75:=sizeOf231
 v75:=zeroValue231
 t76:=underlying232
 a76:=isAgg232
 z76:=sizeOf232
 v76:=zeroValue232
 t85:=underlying273
 a85:=isAgg273
 z85:=sizeOf273
 v85:=zeroValue273
 t127:=underlying311
 a127:=isAgg311
 z127:=sizeOf311
 v127:=zeroValue311
 t143:=underlying312
 a143:=isAgg312
 z143:=sizeOf312
 v143:=zeroValue312
 t145:=underlying314
 a145:=isAgg314
 z145:=sizeOf314
 v145:=zeroValue314
 t167:=underlying272
 a167:=isAgg272
 z167:=sizeOf272
 v167:=zeroValue272
 t168:=underlying275
 a168:=isAgg275
 z168:=sizeOf275
 v168:=zeroValue275
 t171:=underlying303
 a171:=isAgg303
 z171:=sizeOf303
 v171:=zeroValue303
 t173:=underlying305
 a173:=isAgg305
 z173:=sizeOf305
 v173:=zeroValue305
 t175:=underlying294
 a175:=isAgg294
 z175:=sizeOf294
 v175:=zeroValue294
 t210:=underlying298
 a210:=isAgg298
 z210:=sizeOf298
 v210:=zeroValue298
 t212:=underlying319
 a212:=isAgg319
 z212:=sizeOf319
 v212:=zeroValue319
 t213:=underlying320
 a213:=isAgg320
 z213:=sizeOf320
 t232:=underlying322
 a232:=isAgg322
 z232:=sizeOf322
 v232:=zeroValue322
 t233:=underlying323
 a233:=isAgg323
 z233:=sizeOf323
 v233:=zeroValue323
 g15:=by kernel_rfl
 g16:=by kernel_rfl
 g17:=by kernel_rfl
 g18:=by kernel_rfl
 g19:=by kernel_rfl }
open Go.RowKit in
theorem strconv_Atoi (s:ByteArray) (n:Int) (hl:s.size<=18) (h:Lib.atoi s.data.toList=some n) (w:World):
  Calls prog 179 #[.string s] w fun e w'=>e=.returned (.tuple #[.int .i64 n,.nilIface])/\∃t,w'=Lib.bytesWorld w 5 t:=Any.strconv_Atoi lays172 s n hl h w
def laysM171_ren:Go.Shelf.Ren:=⟨fun|171=>196|243=>208|246=>236|283=>252|284=>253|285=>254|286=>255|129=>221|317=>260|318=>261|319=>262|320=>263|337=>264|338=>265|n=>n,fun|3=>3|9=>9|2=>2|4=>4|171=>303|0=>0|53=>271|37=>22|5=>5|173=>305|212=>319|51=>269|20=>20|213=>320|46=>158|232=>322|233=>323|n=>n,fun|17=>3|18=>4|19=>5|n=>n⟩
theorem laysM171:Go.Proofs.LaysM.n171 prog laysM171_ren:={
 mixed:=by kernel_rfl
 f129:=func221.trans (congrArg some (by kernel_rfl))
 f171:=func196.trans (congrArg some (by kernel_rfl))
 f243:=func208.trans (congrArg some (by kernel_rfl))
 f246:=func236.trans (congrArg some (by kernel_rfl))
 f283:=func252.trans (congrArg some (by kernel_rfl))
 f284:=func253.trans (congrArg some (by kernel_rfl))
 f285:=func254.trans (congrArg some (by kernel_rfl))
 f286:=func255.trans (congrArg some (by kernel_rfl))
 f317:=func260.trans (congrArg some (by kernel_rfl))
 f318:=func261.trans (congrArg some (by kernel_rfl))
 f319:=func262.trans (congrArg some (by kernel_rfl))
 f320:=func263.trans (congrArg some (by kernel_rfl))
 f337:=func264.trans (congrArg some (by kernel_rfl))
 f338:=func265.trans (congrArg some (by kernel_rfl))
 t0:=underlying0
 a0:=isAgg0
 z0:=sizeOf0
 v0:=zeroValue0
 t2:=underlying2
 a2:=isAgg2
 z2:=sizeOf2
 v2:=zeroValue2
 t3:=underlying3
 a3:=isAgg3
 z3:=sizeOf3
 v3:=zeroValue3
 t4:=underlying4
 a4:=isAgg4
 z4:=sizeOf4
 v4:=zeroValue4
 t5:=underlying5
 a5:=isAgg5
 z5:=sizeOf5
 v5:=zeroValue5
 t9:=underlying9
 a9:=isAgg9
 z9:=sizeOf9
 v9:=zeroValue9
 t20:=underlying20
 a20:=isAgg20
 z20:=sizeOf20
 v20:=zeroValue20
 t37:=underlying22
 a37:=isAgg22
 z37:=sizeOf22
 v37:=zeroValue22
 t46:=underlying158
 a46:=isAgg158
 z46:=sizeOf158
 v46:=zeroValue158
 t51:=underlying269
 a51:=isAgg269
 z51:=sizeOf269
 v51:=zeroValue269
 t53:=underlying271
 a53:=isAgg271
 z53:=sizeOf271
 v53:=zeroValue271
 t171:=underlying303
 a171:=isAgg303
 z171:=sizeOf303
 v171:=zeroValue303
 t173:=underlying305
 a173:=isAgg305
 z173:=sizeOf305
 v173:=zeroValue305
 t212:=underlying319
 a212:=isAgg319
 z212:=sizeOf319
 v212:=zeroValue319
 t213:=underlying320
 a213:=isAgg320
 z213:=sizeOf320
 t232:=underlying322
 a232:=isAgg322
 z232:=sizeOf322
 v232:=zeroValue322
 t233:=underlying323
 a233:=isAgg323
 z233:=sizeOf323
 v233:=zeroValue323
 g17:=by kernel_rfl
 g18:=by kernel_rfl
 g19:=by kernel_rfl
 i0:=by kernel_rfl
 i2:=by kernel_rfl
 i3:=by kernel_rfl
 i4:=by kernel_rfl
 i5:=by kernel_rfl
 i9:=by kernel_rfl
 i20:=by kernel_rfl
 i37:=by kernel_rfl
 i46:=by kernel_rfl
 i51:=by kernel_rfl
 i53:=by kernel_rfl
 i171:=by kernel_rfl
 i173:=by kernel_rfl
 i212:=by kernel_rfl
 i232:=by kernel_rfl
 i233:=by kernel_rfl
 m17:=by kernel_rfl
 m18:=by kernel_rfl
 m19:=by kernel_rfl }
open Go.RowKit Go.Sort Go.Lib in
theorem strconv_Itoa (n : Int) (h0 : -9223372036854775808 ≤ n) (h1 : n ≤ 9223372036854775807) (w : World) (htab : Lib.TabIs prog w "internal/strconv.uint64pow10" .u64 Lib.pow10Tab) :
  Calls prog 196 #[.int .i64 n] w fun e w'=>e=.returned (.string ⟨(Lib.itoa n).toArray⟩)/\∃k os,w'=grow (w.drewN k) os:=Any.strconv_Itoa laysM171 n h0 h1 w htab
def laysC172_ren:Go.Shelf.Ren:=⟨fun|172=>179|244=>203|245=>204|247=>222|279=>223|280=>224|281=>225|282=>226|287=>244|316=>245|171=>196|205=>246|321=>257|322=>258|243=>208|246=>236|283=>252|284=>253|285=>254|286=>255|129=>221|317=>260|318=>261|319=>262|320=>263|337=>264|338=>265|n=>n,fun|9=>9|3=>3|75=>231|76=>232|4=>4|5=>5|167=>272|37=>22|0=>0|85=>273|2=>2|168=>275|53=>271|175=>294|46=>158|210=>298|127=>311|145=>314|143=>312|21=>21|171=>303|173=>305|212=>319|51=>269|20=>20|213=>320|232=>322|233=>323|80=>324|n=>n,fun|15=>1|16=>2|17=>3|18=>4|19=>5|n=>n⟩
theorem laysC172:Go.Proofs.LaysC.n172 prog laysC172_ren:={
 mixed:=by kernel_rfl
 f129:=func221.trans (congrArg some (by kernel_rfl))
 f171:=func196.trans (congrArg some (by kernel_rfl))
 f172:=func179.trans (congrArg some (by kernel_rfl))
 f205:=func246.trans (congrArg some (by kernel_rfl))
 f243:=func208.trans (congrArg some (by kernel_rfl))
 f244:=func203.trans (congrArg some (by kernel_rfl))
 f245:=func204.trans (congrArg some (by kernel_rfl))
 f246:=func236.trans (congrArg some (by kernel_rfl))
 f247:=func222.trans (congrArg some (by kernel_rfl))
 f279:=func223.trans (congrArg some (by kernel_rfl))
 f280:=func224.trans (congrArg some (by kernel_rfl))
 f281:=func225.trans (congrArg some (by kernel_rfl))
 f282:=func226.trans (congrArg some (by kernel_rfl))
 f283:=func252.trans (congrArg some (by kernel_rfl))
 f284:=func253.trans (congrArg some (by kernel_rfl))
 f285:=func254.trans (congrArg some (by kernel_rfl))
 f286:=func255.trans (congrArg some (by kernel_rfl))
 f287:=func244.trans (congrArg some (by kernel_rfl))
 f316:=func245.trans (congrArg some (by kernel_rfl))
 f317:=func260.trans (congrArg some (by kernel_rfl))
 f318:=func261.trans (congrArg some (by kernel_rfl))
 f319:=func262.trans (congrArg some (by kernel_rfl))
 f320:=func263.trans (congrArg some (by kernel_rfl))
 f321:=func257.trans (congrArg some (by kernel_rfl))
 f322:=func258.trans (congrArg some (by kernel_rfl))
 f337:=func264.trans (congrArg some (by kernel_rfl))
 f338:=func265.trans (congrArg some (by kernel_rfl))
 t0:=underlying0
 a0:=isAgg0
 z0:=sizeOf0
 v0:=zeroValue0
 t2:=underlying2
 a2:=isAgg2
 z2:=sizeOf2
 v2:=zeroValue2
 t3:=underlying3
 a3:=isAgg3
 z3:=sizeOf3
 v3:=zeroValue3
 t4:=underlying4
 a4:=isAgg4
 z4:=sizeOf4
 v4:=zeroValue4
 t5:=underlying5
 a5:=isAgg5
 z5:=sizeOf5
 v5:=zeroValue5
 t9:=underlying9
 a9:=isAgg9
 z9:=sizeOf9
 v9:=zeroValue9
 t20:=underlying20
 a20:=isAgg20
 z20:=sizeOf20
 v20:=zeroValue20
 t21:=underlying21
 a21:=isAgg21
 z21:=sizeOf21
 v21:=zeroValue21
 t37:=underlying22
 a37:=isAgg22
 z37:=sizeOf22
 v37:=zeroValue22
 t46:=underlying158
 a46:=isAgg158
 z46:=sizeOf158
 v46:=zeroValue158
 t51:=underlying269
 a51:=isAgg269
 z51:=sizeOf269
 v51:=zeroValue269
 t53:=underlying271
 a53:=isAgg271
 z53:=sizeOf271
 v53:=zeroValue271
 t75:=underlying231
 a75:=isAgg231
 z75:=sizeOf231
 v75:=zeroValue231
 t76:=underlying232
 a76:=isAgg232
 z76:=sizeOf232
 v76:=zeroValue232
 t85:=underlying273
 a85:=isAgg273
 z85:=sizeOf273
 v85:=zeroValue273
 t127:=underlying311
 a127:=isAgg311
 z127:=sizeOf311
 v127:=zeroValue311
 t143:=underlying312
 a143:=isAgg312
 z143:=sizeOf312
 v143:=zeroValue312
 t145:=underlying314
 a145:=isAgg314
 z145:=sizeOf314
 v145:=zeroValue314
 t167:=underlying272
 a167:=isAgg272
 z167:=sizeOf272
 v167:=zeroValue272
 t168:=underlying275
 a168:=isAgg275
 z168:=sizeOf275
 v168:=zeroValue275
 t171:=underlying303
 a171:=isAgg303
 z171:=sizeOf303
 v171:=zeroValue303
 t173:=underlying305
 a173:=isAgg305
 z173:=sizeOf305
 v173:=zeroValue305
 t175:=underlying294
 a175:=isAgg294
 z175:=sizeOf294
 v175:=zeroValue294
 t210:=underlying298
 a210:=isAgg298
 z210:=sizeOf298
 v210:=zeroValue298
 t212:=underlying319
 a212:=isAgg319
 z212:=sizeOf319
 v212:=zeroValue319
 t213:=underlying320
 a213:=isAgg320
 z213:=sizeOf320
 t232:=underlying322
 a232:=isAgg322
 z232:=sizeOf322
 v232:=zeroValue322
 t233:=underlying323
 a233:=isAgg323
 z233:=sizeOf323
 v233:=zeroValue323
 g15:=by kernel_rfl
 g16:=by kernel_rfl
 g17:=by kernel_rfl
 g18:=by kernel_rfl
 g19:=by kernel_rfl
 t80:=underlying324
 a80:=isAgg324
 z80:=sizeOf324
 v80:=zeroValue324
 i0:=by kernel_rfl
 i2:=by kernel_rfl
 i3:=by kernel_rfl
 i4:=by kernel_rfl
 i5:=by kernel_rfl
 i9:=by kernel_rfl
 i20:=by kernel_rfl
 i21:=by kernel_rfl
 i37:=by kernel_rfl
 i46:=by kernel_rfl
 i51:=by kernel_rfl
 i53:=by kernel_rfl
 i75:=by kernel_rfl
 i76:=by kernel_rfl
 i80:=by kernel_rfl
 i85:=by kernel_rfl
 i127:=by kernel_rfl
 i143:=by kernel_rfl
 i145:=by kernel_rfl
 i167:=by kernel_rfl
 i168:=by kernel_rfl
 i171:=by kernel_rfl
 i173:=by kernel_rfl
 i175:=by kernel_rfl
 i210:=by kernel_rfl
 i212:=by kernel_rfl
 i232:=by kernel_rfl
 i233:=by kernel_rfl
 m15:=by kernel_rfl
 m16:=by kernel_rfl
 m17:=by kernel_rfl
 m18:=by kernel_rfl
 m19:=by kernel_rfl
 c0:=by kernel_rfl
 c2:=by kernel_rfl
 c3:=by kernel_rfl
 c4:=by kernel_rfl
 c5:=by kernel_rfl
 c9:=by kernel_rfl
 c20:=by kernel_rfl
 c21:=by kernel_rfl
 c37:=by kernel_rfl
 c46:=by kernel_rfl
 c51:=by kernel_rfl
 c53:=by kernel_rfl
 c75:=by kernel_rfl
 c76:=by kernel_rfl
 c80:=by kernel_rfl
 c85:=by kernel_rfl
 c127:=by kernel_rfl
 c143:=by kernel_rfl
 c145:=by kernel_rfl
 c167:=by kernel_rfl
 c168:=by kernel_rfl
 c171:=by kernel_rfl
 c173:=by kernel_rfl
 c175:=by kernel_rfl
 c210:=by kernel_rfl
 c212:=by kernel_rfl
 c213:=by kernel_rfl
 c232:=by kernel_rfl
 c233:=by kernel_rfl }
open Go.RowKit in
theorem strconv_Atoi_err_var (s : ByteArray) (hl : s.size ≤ 18) (h : Lib.atoi s.data.toList = none) (tp : TypeId) (p : Value) (w : World) (hvar : w.var? prog "strconv.ErrSyntax" = some #[.iface tp p]) :
  Calls prog 179 #[.string s] w fun e w'=>∃N,e=.returned (.tuple #[.int .i64 0,.iface 275 (.pointer (some ⟨N,0,none⟩))])/\w.heap.size<=N/\w'.heap[N]?=some (.cells #[.string ⟨#[65,116,111,105]⟩,.string s,.iface tp p] 298 (0,0))/\Below w.heap.size w w':=Any.strconv_Atoi_err_var laysC172 s hl h tp p w hvar
def lays192_ren:Go.Shelf.Ren:=⟨fun|192=>141|190=>177|125=>202|258=>201|128=>220|129=>221|302=>211|303=>212|304=>213|305=>214|306=>215|307=>216|308=>217|309=>218|310=>219|333=>238|329=>239|330=>240|334=>241|335=>242|336=>243|344=>256|n=>n,fun|31=>34|0=>0|9=>9|3=>3|46=>158|51=>269|53=>271|4=>4|183=>262|182=>261|131=>200|5=>5|218=>288|222=>292|228=>307|229=>308|n=>n,fun|n=>n⟩
theorem lays192:Go.Proofs.Lays.n192 prog lays192_ren:={
 mixed:=by kernel_rfl
 f125:=func202.trans (congrArg some (by kernel_rfl))
 f128:=func220.trans (congrArg some (by kernel_rfl))
 f129:=func221.trans (congrArg some (by kernel_rfl))
 f190:=func177.trans (congrArg some (by kernel_rfl))
 f192:=func141.trans (congrArg some (by kernel_rfl))
 f258:=func201.trans (congrArg some (by kernel_rfl))
 f302:=func211.trans (congrArg some (by kernel_rfl))
 f303:=func212.trans (congrArg some (by kernel_rfl))
 f304:=func213.trans (congrArg some (by kernel_rfl))
 f305:=func214.trans (congrArg some (by kernel_rfl))
 f306:=func215.trans (congrArg some (by kernel_rfl))
 f307:=func216.trans (congrArg some (by kernel_rfl))
 f308:=func217.trans (congrArg some (by kernel_rfl))
 f309:=func218.trans (congrArg some (by kernel_rfl))
 f310:=func219.trans (congrArg some (by kernel_rfl))
 f329:=func239.trans (congrArg some (by kernel_rfl))
 f330:=func240.trans (congrArg some (by kernel_rfl))
 f333:=func238.trans (congrArg some (by kernel_rfl))
 f334:=func241.trans (congrArg some (by kernel_rfl))
 f335:=func242.trans (congrArg some (by kernel_rfl))
 f336:=func243.trans (congrArg some (by kernel_rfl))
 f344:=func256.trans (congrArg some (by kernel_rfl))
 t0:=underlying0
 a0:=isAgg0
 z0:=sizeOf0
 v0:=zeroValue0
 t3:=underlying3
 a3:=isAgg3
 z3:=sizeOf3
 v3:=zeroValue3
 t4:=underlying4
 a4:=isAgg4
 z4:=sizeOf4
 v4:=zeroValue4
 t5:=underlying5
 a5:=isAgg5
 z5:=sizeOf5
 v5:=zeroValue5
 t9:=underlying9
 a9:=isAgg9
 z9:=sizeOf9
 v9:=zeroValue9
 t31:=underlying34
 a31:=isAgg34
 z31:=sizeOf34
 v31:=zeroValue34
 t46:=underlying158
 a46:=isAgg158
 z46:=sizeOf158
 v46:=zeroValue158
 t51:=underlying269
 a51:=isAgg269
 z51:=sizeOf269
 v51:=zeroValue269
 t53:=underlying271
 a53:=isAgg271
 z53:=sizeOf271
 v53:=zeroValue271
 t131:=underlying200
 a131:=isAgg200
 z131:=sizeOf200
 v131:=zeroValue200
 t182:=underlying261
 a182:=isAgg261
 z182:=sizeOf261
 v182:=zeroValue261
 t183:=underlying262
 a183:=isAgg262
 z183:=sizeOf262
 v183:=zeroValue262
 t218:=underlying288
 a218:=isAgg288
 z218:=sizeOf288
 v218:=zeroValue288
 t222:=underlying292
 a222:=isAgg292
 z222:=sizeOf292
 v222:=zeroValue292
 t228:=underlying307
 a228:=isAgg307
 z228:=sizeOf307
 v228:=zeroValue307
 t229:=underlying308
 a229:=isAgg308
 z229:=sizeOf308
 v229:=zeroValue308 }
open Go.Sort Go.RowKit in
theorem sort_Strings (a off cap:Nat) (ss:List (List UInt8)) (w:World) (hH:Holds encStr w a off ss.toArray) (b:a<w.heap.size) (c:ss.length<4611686018427387904):
  Calls prog 141 #[.slice (some ⟨a,off,none⟩) ss.length cap] w fun e w'=>
   e=.returned (.tuple #[])/\∃n os,w'=grow (putRow encStr (Sort.ahead w n) a off (ss.mergeSort fun x y=>decide (x<=y)).toArray) os:=Any.sort_Strings lays192 a off cap ss w hH b c
def laysGt8_ren:Go.Shelf.Ren:=⟨fun|8=>112|13=>145|14=>146|16=>148|15=>147|29=>189|30=>190|42=>205|49=>227|n=>n,fun|20=>20|26=>178|36=>206|0=>0|38=>208|42=>212|3=>3|4=>4|47=>158|17=>17|33=>203|34=>204|89=>336|12=>12|56=>269|82=>330|5=>5|83=>331|84=>332|85=>311|86=>333|87=>334|n=>n,fun|n=>n⟩
theorem laysGt8:Go.Proofs.LaysGt.n8 prog laysGt8_ren:={
 mixed:=by kernel_rfl
 f8:=func112.trans (congrArg some (by kernel_rfl))
 f13:=func145.trans (congrArg some (by kernel_rfl))
 f14:=func146.trans (congrArg some (by kernel_rfl))
 f15:=func147.trans (congrArg some (by kernel_rfl))
 f16:=func148.trans (congrArg some (by kernel_rfl))
 f29:=func189.trans (congrArg some (by kernel_rfl))
 f30:=func190.trans (congrArg some (by kernel_rfl))
 f42:=func205.trans (congrArg some (by kernel_rfl))
 f49:=func227.trans (congrArg some (by kernel_rfl))
 t0:=underlying0
 a0:=isAgg0
 z0:=sizeOf0
 v0:=zeroValue0
 i0:=by kernel_rfl
 t3:=underlying3
 a3:=isAgg3
 z3:=sizeOf3
 v3:=zeroValue3
 i3:=by kernel_rfl
 t4:=underlying4
 a4:=isAgg4
 z4:=sizeOf4
 v4:=zeroValue4
 i4:=by kernel_rfl
 t5:=underlying5
 a5:=isAgg5
 z5:=sizeOf5
 v5:=zeroValue5
 i5:=by kernel_rfl
 t12:=underlying12
 a12:=isAgg12
 z12:=sizeOf12
 v12:=zeroValue12
 i12:=by kernel_rfl
 t17:=underlying17
 a17:=isAgg17
 z17:=sizeOf17
 v17:=zeroValue17
 i17:=by kernel_rfl
 t20:=underlying20
 a20:=isAgg20
 z20:=sizeOf20
 v20:=zeroValue20
 i20:=by kernel_rfl
 t26:=underlying178
 a26:=isAgg178
 z26:=sizeOf178
 v26:=zeroValue178
 i26:=by kernel_rfl
 t33:=underlying203
 a33:=isAgg203
 z33:=sizeOf203
 v33:=zeroValue203
 i33:=by kernel_rfl
 t34:=underlying204
 a34:=isAgg204
 z34:=sizeOf204
 v34:=zeroValue204
 i34:=by kernel_rfl
 t36:=underlying206
 a36:=isAgg206
 z36:=sizeOf206
 v36:=zeroValue206
 i36:=by kernel_rfl
 t38:=underlying208
 a38:=isAgg208
 z38:=sizeOf208
 v38:=zeroValue208
 i38:=by kernel_rfl
 t42:=underlying212
 a42:=isAgg212
 z42:=sizeOf212
 v42:=zeroValue212
 i42:=by kernel_rfl
 t47:=underlying158
 a47:=isAgg158
 z47:=sizeOf158
 v47:=zeroValue158
 i47:=by kernel_rfl
 t56:=underlying269
 a56:=isAgg269
 z56:=sizeOf269
 v56:=zeroValue269
 i56:=by kernel_rfl
 t82:=underlying330
 a82:=isAgg330
 z82:=sizeOf330
 v82:=zeroValue330
 i82:=by kernel_rfl
 t83:=underlying331
 a83:=isAgg331
 z83:=sizeOf331
 v83:=zeroValue331
 i83:=by kernel_rfl
 t84:=underlying332
 a84:=isAgg332
 z84:=sizeOf332
 v84:=zeroValue332
 i84:=by kernel_rfl
 t85:=underlying311
 a85:=isAgg311
 z85:=sizeOf311
 v85:=zeroValue311
 i85:=by kernel_rfl
 t86:=underlying333
 a86:=isAgg333
 z86:=sizeOf333
 v86:=zeroValue333
 i86:=by kernel_rfl
 t87:=underlying334
 a87:=isAgg334
 z87:=sizeOf334
 v87:=zeroValue334
 i87:=by kernel_rfl
 t89:=underlying336
 a89:=isAgg336
 z89:=sizeOf336
 v89:=zeroValue336
 i89:=by kernel_rfl }
open Go.RowKit Go.Sort in
theorem sort_Strings_none (p:Option Addr) (cap:Nat) (w:World):
  Calls prog 141 #[.slice p 0 cap] w fun e w'=>e=.returned (.tuple #[])/\w'=w:=Any.sort_Strings_none lays192 p cap w
end Go.Proofs
namespace Go.Proofs.YtaafhjecikjhbaaGreatDoor
section
open Go.RowKit
theorem ZwN {J:World->Prop}{a b:ByteArray}{r:Int}(h:Zfy a b=some r):Zm prog J 104 [(false,[.str a]),(false,[.str b])] [(false,[(false,.int .i64 r)])]:=by
 obtain rfl:=A4 h
 refine ⟨⟨f104,func104,yO,yO⟩,fun w z vs hj hz c=>?_⟩
 obtain ⟨v,u,L,M,rfl,⟨rfl,_⟩,rfl,_⟩:=ZyK c
 refine (strings_Compare a b w).mono ?_
 rintro e w' ⟨rfl,rfl⟩
 exact ⟨_,z,rfl,ZrL ⟨⟨rfl,rfl⟩,rfl⟩,fun b h=>h,Below.refl _ _⟩
end
section
open Go.RowKit Go.Sort
theorem ZxV {α:Type}[Inhabited α] {P:Program}{J:World->Prop}{JF:Nat->Prop}(a:α->Value) (el:α->List CT) (I:∀(w:World) x v L,RCs w (el x) v L->v=[a x]) (K:∀(w w':World) x,RCs w (el x) [a x] []->RCs w' (el x) [a x] []) (u:∀l:List α,ZbL (l.map el)=true) {f:FuncId}{e:TypeId}{zs d:List α}(hc:ZaL P f) (hd:d.length=zs.length) (C:∀x∈d,x∈zs)
  (hN:∀p cap w,Calls P f #[.slice p 0 cap] w fun e w'=>e=.returned (.tuple #[])/\w'=w)
  (hC:∀i off cap w,Holds a w i off zs.toArray->i<w.heap.size->Calls P f #[.slice (some ⟨i,off,none⟩) zs.length cap] w fun e w'=>e=.returned (.tuple #[])/\∃n os,w'=grow (putRow a (Sort.ahead w n) i off d.toArray) os):
  XQ P J JF f (.row e 1 (zs.map el)) [] [] (.row e 1 (d.map el)):=by
 refine ⟨hc,fun w z q v0 vs hj hqf hz hh ha=>?_⟩
 cases vs with
 |cons _ _=>exact ha.elim
 |nil=>
 obtain ⟨hfl,hm,hq,cs,c,M⟩:=hh
 have N:∀(l:List α) (cs:List Value) (L:List Nat),REs w 1 (l.map el) cs L->cs=l.map a/\(L=[]->∀x∈l,RCs w (el x) [a x] []):=by
  intro l
  induction l with
  |nil=>intro cs L h;exact ⟨h.1,fun _ x mx=>by simp at mx⟩
  |cons x l ih=>
   rintro cs L ⟨c1,c2,L1,L2,rfl,rfl,h3,h4⟩
   obtain ⟨i1,i2⟩:=ih _ _ h4
   have e1:=I _ _ _ _ h3.1
   refine ⟨by rw [e1,i1];rfl,fun hL y my=>?_⟩
   obtain ⟨l1,l2⟩:=List.append_eq_nil_iff.1 hL
   rcases AW.1 my with rfl|my
   .rw [<-e1,<-l1];exact h3.1
   .exact i2 l2 y my
 obtain ⟨e1,e2⟩:=N zs cs [] M
 have e2:=e2 rfl
 subst e1
 have D:∀(w':World) (l:List α),(∀x∈l,x∈zs)->REs w' 1 (l.map el) (l.map a) []:=by
  intro w' l
  induction l with
  |nil=>intro _;exact ⟨rfl,rfl⟩
  |cons x l ih=>intro hl;exact ⟨[a x],l.map a,[],[],rfl,rfl,⟨K w w' x (e2 x (hl x yG)),rfl⟩,ih fun y my=>hl y (by simp [my])⟩
 have O:(zs.map el).length=zs.length:=by simp
 rw [O]at c
 have t:∀w':World,w'.os=w.os->w'.tape=w.tape->w'.output=w.output->w.heap.size<=w'.heap.size->(∀k,k<w.heap.size->¬q=some k->w'.heap[k]?=w.heap[k]?)->w'.ownsV 0 e 1 v0 d.length (d.map a)->∃v n,Ending.returned (.tuple #[])=.returned v/\ZhV w' w.heap.size n [] v/\(∀b,inQ z q b->n b)/\ZpK w' n q (.row e 1 (d.map el)) v0/\ZCK q w w':=
  fun w' h1 h2 h3 h4 h5 h6=>⟨_,inQ z q,rfl,⟨[],[],⟨rfl,rfl⟩,Own.nil _ _,rfl⟩,fun _ h=>h,⟨u d,yE,hq,d.map a,by simpa using h6,D w' d C⟩,⟨h1,h2,h3,h4,h5⟩⟩
 rcases Nat.eq_zero_or_pos zs.length with h0|h0
 .have Q:zs=[]:=Ah h0
  have R:d=[]:=Ah (hd.trans h0)
  obtain ⟨A,cap,hv⟩:=Zci c
  rw [h0]at hv
  subst hv
  refine (hN A cap w).mono ?_
  rintro e' w' ⟨rfl,rfl⟩
  exact t w' rfl rfl rfl (AD _) (fun _ _ _=>rfl) (by rw [R];rw [Q]at c;exact c)
 .rcases c.2 with ⟨h',hl0⟩|⟨g,o,cap,m,h',hb,hg,hnc,S,E,B⟩
  .omega
  .subst h'
   have F:g<w.heap.size:=(AT.1 hg).1
   have G:∀j,j<zs.length->m[o+j]?=some (a zs[j]!):=fun j hj=>by
    have:=congrArg (fun l=>l[j]?) B
    simp only[Nat.mul_one,Ai,hj,if_true,Aj,Ak,Al]at this
    rw [this]
    simp [List.getElem!_eq_getElem?_getD,hj]
   refine (hC g o cap w (fun j hj=>?_) F).mono ?_
   .have H:j<zs.length:=by simpa using hj
    refine ⟨?_,by simp [World.frozen?,hg]⟩
    simp only[World.cell?,hg,Option.isSome_none,Bool.false_eq_true,if_false]
    rw [G j H]
    simp [H]
   .rintro e' w' ⟨rfl,n,os,rfl⟩
    have hh:(putRow a (Sort.ahead w n) g o d.toArray).heap[g]?=some (.cells (putCells a o d.toArray m) e (0,0)):=by
     simp only[putRow,mapBlock,heap_ahead,Am,if_true,hg,Option.map_some,onCells]
    refine t _ rfl rfl rfl yG (fun k hk T=>?_) ⟨yG,.inr ⟨g,o,cap,putCells a o d.toArray m,by rw [hd],yE,?_,yE,S,by simpa [putCells]using E,?_⟩⟩
    .rw [heap_grow_old _ _ (by simpa using hk)]
     simp only[putRow,mapBlock,heap_ahead,Am]
     rw [if_neg (fun e=>T (by rw [<-hq];simp [Value.ownBlock,e]))]
    .rw [heap_grow_old _ _ (by simpa using F)];exact hh
    .apply List.ext_getElem?
     intro j
     simp only[Nat.mul_one,Ai,Aj,Al,Ak,putCells,Array.getElem?_mapIdx,AQ]
     by_cases hj:j<d.length
     .have U:o+j<m.size:=by omega
      simp [hj,U]
     .simp [hj]
end
section
open Go.RowKit Go.Sort
theorem Zot {J:World->Prop}{JF:Nat->Prop}{l r:List ByteArray}(h:Zdl l=some r):XQ prog J JF 141 (.row 9 1 (l.map ZE)) [] [] (.row 9 1 (r.map ZE)):=by
 obtain ⟨h1,h2⟩:=Zz h
 obtain rfl:=A4 h2
 have e1:l.map ZE=(l.map toL).map fun x=>ZE (ofL x):=by rw [An];exact List.map_congr_left fun x _=>by simp [ZjJ]
 have e2:(ZfS l).map ZE=((l.map toL).mergeSort fun x y=>decide (x<=y)).map fun x=>ZE (ofL x):=by simp [ZfS,An,Function.comp_def]
 rw [e1,e2]
 refine ZxV encStr (fun x=>ZE (ofL x)) (fun w x v L h=>?_) (fun w w' x h=>h) (fun l=>Zdb (fun _=>rfl) l) ⟨f141,func141,yO,yO⟩ yG (fun x hx=>by simpa using hx) (fun p cap w=>sort_Strings_none p cap w) (fun a off cap w hH hb=>sort_Strings a off cap (l.map toL) w hH hb (by simp;omega))
 obtain ⟨u,vs,L1,L2,rfl,rfl,q1,rfl,rfl⟩:=h
 rw [q1.1]
 rfl
end
section
open Go.RowKit
theorem ZFp {J : World → Prop} (hJ : ∀ w, J w → ∃ tp p, w.var? prog "strconv.ErrSyntax" = some #[.iface tp p]) {s : ByteArray} {r : Int × Bool} (h : Znm s = some r) : Zm prog J 179 [(false, [.str s])] [(false, [(false, .int .i64 r.1)]), (false, [(false, .ifc r.2)])] := by
 obtain ⟨h1,h2⟩:=Zz h
 refine ⟨⟨f179,func179,yO,yO⟩,fun w z vs hj hz hargs=>?_⟩
 obtain ⟨v,L,rfl,rfl,_⟩:=ZnU hargs
 cases ha:Lib.atoi (toL s) with
 |some n=>
  rw [ha]at h2
  obtain rfl:=A4 h2
  refine (strconv_Atoi s n h1 ha w).mono ?_
  rintro e w' ⟨rfl,t,rfl⟩
  exact ⟨_,z,rfl,Ztl ⟨⟨rfl,rfl⟩,rfl⟩ ⟨⟨rfl,rfl,rfl⟩,rfl⟩,fun b h=>h,Lib.bytesWorld_below _ _ _⟩
 |none=>
  rw [ha]at h2
  obtain rfl:=A4 h2
  obtain ⟨tp,p,hv⟩:=hJ w hj
  refine (strconv_Atoi_err_var s h1 ha tp p w hv).mono ?_
  rintro e w' ⟨N,rfl,_,_,hb⟩
  exact ⟨_,z,rfl,Ztl ⟨⟨rfl,rfl⟩,rfl⟩ ⟨⟨rfl,rfl,_,_,rfl⟩,rfl⟩,fun b h=>h,hb⟩
end
section
open Go.RowKit Go.Sort Go.Lib
theorem ZE4 {J : World → Prop} (hJ : ∀ w, J w → Lib.TabIs prog w "internal/strconv.uint64pow10" .u64 Lib.pow10Tab) {n : Int} {r : ByteArray} (h : Zqt n = some r) : Zm prog J 196 [(false, [.int .i64 n])] [(false, [(false, .str r)])] := by
 obtain ⟨h1,h2⟩:=Zz h
 obtain rfl:=A4 h2
 refine ⟨⟨f196,func196,yO,yO⟩,fun w z vs hj hz hargs=>?_⟩
 obtain ⟨v,L,rfl,rfl,_⟩:=ZnU hargs
 refine (strconv_Itoa n h1.1 h1.2 w (hJ w hj)).mono ?_
 rintro e w' ⟨rfl,k,os,rfl⟩
 refine ⟨_,z,rfl,ZrL ⟨⟨rfl,rfl,?_⟩,rfl⟩,fun b h=>h,below_grow _ _ (AD _) _ _⟩
 have:=Lib.itoa_length_le n h1.1 h1.2
 show (Lib.itoa n).toArray.size<=_
 rw [AQ]
 omega
end
theorem Zje {a b:ByteArray}{r:Int}(h:Zfy a b=some r):Zm prog J0 104 [(false,[.str a]),(false,[.str b])] [(false,[(false,.int .i64 r)])]:=ZwN h
theorem ZkF {l r:List ByteArray}(h:Zdl l=some r):XQ prog J0 JF0 141 (.row 9 1 (l.map ZE)) [] [] (.row 9 1 (r.map ZE)):=Zot h
theorem Zxt {s:ByteArray}{r:Int×Bool}(h:Znm s=some r):Zm prog J0 179 [(false,[.str s])] [(false,[(false,.int .i64 r.1)]),(false,[(false,.ifc r.2)])]:=ZFp ZFg h
theorem ZwA {n:Int}{r:ByteArray}(h:Zqt n=some r):Zm prog J0 196 [(false,[.int .i64 n])] [(false,[(false,.str r)])]:=ZE4 ZDM h
section
theorem yA{p q:Prop}(h:q)(e:p=q:=by simp only[*,go_sem,seval];try rfl):p:=e▸h
theorem yD{p:Prop}(e:p:=by simp only[*,go_sem,seval]):p:=e
theorem yB{α:Type}{G q v:Prop}{b:Bool}{x y:Option α}{r:α}(h:(if b=true then x else y)=some r)(h1:b=true→x=some r→q)(h2:b=false→y=some r→v)(e:∀(_:b=true)(_:x=some r),G=q:=by intro _ _;(try simp only[*,go_sem,seval]);try rfl)(f:∀(_:b=false)(_:y=some r),G=v:=by intro _ _;(try simp only[*,go_sem,seval]);try rfl):G:=Zc h (fun a c=>(e a c)▸h1 a c) fun a c=>(f a c)▸h2 a c
theorem yC{σ ρ:Type}{s:σ}{y:σ⊕ρ}{C:σ→List (Bool×Nat×Nat)→List Nat→Prop}(h:some (.inl s)=some y)(ms:List (Bool×Nat×Nat))(k:List Nat)(d:k.Nodup:=by decide)(e:C s ms k:=by simp only[*,go_sem,seval]):∃s' ms k,y=.inl s'∧k.Nodup∧C s' ms k:=⟨s,ms,k,(Option.some.inj h).symm,d,e⟩
theorem yR{σ ρ:Type}{s:σ}{y:σ⊕ρ}{C:σ→List (Bool×Nat×Nat)→List Nat→Prop}(h:some (.inl s)=some y)(k:List Nat)(d:k.Nodup:=by decide)(e:C s [] k:=by simp only[*,go_sem,seval]):∃s' ms k,y=.inl s'∧k.Nodup∧C s' ms k:=⟨s,[],k,(Option.some.inj h).symm,d,e⟩
def yL(n:Nat):SV:=.p false [.c (.int .i64 (n:Int))]
def yM(x:CT):SV:=.p false [.c x]
def zK(t:Nat)(l:List CT):Ob:=.box t (l.map .c)
attribute [go_sem] yL yM zK List.map_cons List.map_nil
def yU(l:List Zg):CT:=.sl 36 2 (List.map Zr l)
attribute [go_sem] yU
def yV(l:List ByteArray):CT:=.sl 9 1 (List.map ZE l)
attribute [go_sem] yV
def yW(l:List Zh):CT:=.sl 86 4 (List.map Zx l)
attribute [go_sem] yW
def yX(l:List Int):CT:=.sl 3 1 (List.map Yc l)
attribute [go_sem] yX
def yY(l:List Zj):CT:=.sl 137 5 (List.map ZR l)
attribute [go_sem] yY
def yZ(l:List Zo):CT:=.sl 152 2 (List.map Yg l)
attribute [go_sem] yZ
def zA(l:List Zv):CT:=.sl 98 3 (List.map Z4 l)
attribute [go_sem] zA
def zB(l:List ZB):CT:=.sl 89 3 (List.map Z3 l)
attribute [go_sem] zB
def zC(l:List YR):CT:=.sl 134 3 (List.map Yf l)
attribute [go_sem] zC
def zD(l:List ZV):CT:=.sl 140 8 (List.map YL l)
attribute [go_sem] zD
def zE(l:List ZP):CT:=.sl 81 2 (List.map Z9 l)
attribute [go_sem] zE
def zF(l:List Z6):CT:=.sl 38 4 (List.map Yx l)
attribute [go_sem] zF
def zG(l:List Zs):CT:=.sl 150 2 (List.map XH l)
attribute [go_sem] zG
def zH(l:List Int):CT:=.sl 5 1 (List.map Zdx l)
attribute [go_sem] zH
def zI(l:List ZC):CT:=.sl 64 7 (List.map Yu l)
attribute [go_sem] zI
def zJ(l:List Yk):CT:=.sl 62 3 (List.map Q0 l)
attribute [go_sem] zJ
theorem Zyb {code_0:(List Int)}{r:Bool}(h:Zu3 code_0=some r):Zm prog J0 4 [(false,[.sl 5 1 (A0 Zdx code_0)])] [(false,[(false,.bool r)])]:=by
 refine fnk func4 rfl ?_
 unfold Zu3 at h
 simp only[fnS,f4,Zq,go_sem,seval]
 cases h;exact yD
theorem ZtK {code_0:(List Int)}{r:Zp}(h:Zkm code_0=some r):Zri prog J0 18 [(false,[.sl 5 1 (A0 Zdx code_0)])] (.box 103 (YO r)):=by
 refine fnb func18 rfl ?_
 unfold Zkm at h
 simp only[fnB,f18,Zq,go_sem,seval]
 refine Zn h (fun i a st=>IV [(0,yM (zH code_0)),(3,yM (.int .i64 a)),(4,yL i)] [] st) [] [] yF yD ?_ ?_
 rintro _ _ a ⟨_,_,_⟩ _ b d f h g
 simp only[go_sem,seval,Zd]at d
 obtain ⟨⟨k,_,_⟩,hn⟩:=d
 subst hn
 have l:=WF.slotL f k (j:=0) rfl
 have:=Z0 b
 have:=Z2 b
 have:=Zt (Z1 b) l
 simp only[*,go_sem,seval]
 refine yB h (fun _ h=>?_) fun _ h=>?_
 exact yR h []
 replace h:=Zw h g
 cases h;exact yD
 rintro a ⟨_,_,_⟩ e _ h
 simp only[go_sem,seval,Zd]at e
 obtain ⟨⟨_,_,_⟩,hn⟩:=e
 subst hn
 have:=ZW (code_0.length)
 cases h;exact yD
theorem Zfg {c_0:Zp}{r:(Int×Zp)}(h:ZdK c_0=some r):XQ prog J0 JF0 49 (.box 103 (YO c_0)) [] [(false,[(false,.int .i64 r.1)])] (.box 103 (YO r.2)):=by
 refine fnh func49 rfl ?_
 unfold ZdK at h
 have a:¬((35:Int)<0):=by decide
 have b:¬((45:Int)<0):=by decide
 simp only[fnH,f49,Qu,Qp,YT,go_sem,seval,a,b]
 refine yB h (fun _ h=>?_) fun _ h=>?_
 obtain ⟨_,_,_,_,h⟩:=ZaE h
 iterate 2 (cases h;exact yD)
theorem Zaa {a:ByteArray}{b:ByteArray}{r:(List ByteArray)}(h:Qh a b=some r):Zm prog J0 174 [(false,[.str a]),(false,[.str b])] [(false,[(false,.sl 9 1 (A0 ZE r))])]:=by
 refine fnk func174 rfl ?_
 unfold Qh at h
 have i:Z7 ⟨#[]⟩=true:=by decide
 simp only[fnS,f174,Zq,go_sem,seval,i]
 refine yB h (fun _ h=>?_) fun _ h=>?_
 cases h;exact yD
 refine XB h (fun s st=>match s with|(d,e,f)=>IV [(0,yM (.str a)),(1,yM (.str b)),(5,.p false [.row 0]),(6,yM (.int .i64 e)),(7,yM (.int .i64 f))] [.row 9 1 (A0 ZE d) 2] st) [] [16] yF yD ?_
 rintro ⟨d,e,f⟩ ⟨_,_,_⟩ _ g _ h k
 simp only[go_sem,seval,Zd]at g
 obtain ⟨⟨_,_,_,_,_⟩,_,hn⟩:=g
 subst hn
 simp only[*,go_sem,seval]
 refine yB h (fun _ h=>?_) fun _ h=>?_
 obtain ⟨_,h⟩:=Zz h
 simp only[*,go_sem,seval]
 refine yB h (fun _ h=>?_) fun _ h=>?_
 obtain ⟨_,h⟩:=Zz h
 obtain ⟨l,h⟩:=Zz h
 try simp only[Nat.reduceLeDiff]at l
 simp only[*,go_sem,seval]
 exact yR h [353]
 exact yR h [0]
 obtain ⟨_,h⟩:=Zz h
 obtain ⟨m,h⟩:=Zz h
 try simp only[Nat.reduceLeDiff]at m
 replace h:=Zw h k
 cases h;exact yD
theorem Zkz {n_0:Int}{r:ByteArray}(h:Zbu n_0=some r):Zm prog J0 48 [(false,[.int .i64 n_0])] [(false,[(false,.str r)])]:=by
 refine fnk func48 rfl ?_
 unfold Zbu at h
 have f:Z7 ⟨#[45,57,50,50,51,51,55,50,48,51,54,56,53,52,55,55,53,56,48,56]⟩=true:=by decide
 have g:Z7 ⟨#[]⟩=true:=by decide
 have i:¬((10:Int)=0):=by decide
 simp only[fnS,f48,Zq,go_sem,seval,f,g,i]
 refine yB h (fun _ h=>?_) fun _ h=>?_
 cases h;exact yD
 refine yB h (fun _ h=>?_) fun _ h=>?_
 cases h
 refine XB h (fun s st=>match s with|(a,b)=>IV [(0,yM (.int .i64 a)),(3,yM (.str b))] [] st) [] [] yF yD ?_
 rintro ⟨a,b⟩ ⟨_,_,_⟩ _ d _ h j
 simp only[go_sem,seval,Zd]at d
 obtain ⟨⟨_,_⟩,hn⟩:=d
 subst hn
 obtain ⟨_,h⟩:=Zz h
 simp only[*,go_sem,seval]
 refine yB h (fun _ h=>?_) fun _ h=>?_
 replace h:=Zw h j
 cases h;exact yD
 exact yR h []
theorem ZhW {n_0:Int}{r:ByteArray}(h:QQ n_0=some r):Zm prog J0 48 [(false,[.int .i64 n_0])] [(false,[(false,.str r)])]:=by
 refine fnk func48 rfl ?_
 unfold QQ at h
 have f:Z7 ⟨#[45,57,50,50,51,51,55,50,48,51,54,56,53,52,55,55,53,56,48,56]⟩=true:=by decide
 have g:Z7 ⟨#[45]⟩=true:=by decide
 have i:Z7 ⟨#[]⟩=true:=by decide
 have j:¬((10:Int)=0):=by decide
 simp only[fnS,f48,Zq,go_sem,seval,f,g,i,j]
 refine yB h (fun _ h=>?_) fun _ h=>?_
 cases h;exact yD
 refine yB h (fun _ h=>?_) fun _ h=>?_
 refine Zb h fun _ k h=>Za (Zkz k) ?_
 obtain ⟨l,h⟩:=Zz h
 simp only[go_sem]at l
 cases h;exact yD
 refine XB h (fun s st=>match s with|(a,b)=>IV [(0,yM (.int .i64 a)),(3,yM (.str b))] [] st) [] [] yF yD ?_
 rintro ⟨a,b⟩ ⟨_,_,_⟩ _ d _ h m
 simp only[go_sem,seval,Zd]at d
 obtain ⟨⟨_,_⟩,hn⟩:=d
 subst hn
 obtain ⟨_,h⟩:=Zz h
 simp only[*,go_sem,seval]
 refine yB h (fun _ h=>?_) fun _ h=>?_
 replace h:=Zw h m
 cases h;exact yD
 exact yR h []
theorem ZbV {x_0:Int}{least_1:Int}{most_2:Int}{r:Bool}(h:Zcv x_0 least_1 most_2=some r):Zm prog J0 167 [(false,[.int .i64 x_0]),(false,[.int .i64 least_1]),(false,[.int .i64 most_2])] [(false,[(false,.bool r)])]:=by
 refine fnk func167 rfl ?_
 unfold Zcv at h
 simp only[fnS,f167,Zq,go_sem,seval]
 refine yB h (fun _ h=>?_) fun _ h=>?_
 iterate 2 (cases h;exact yD)
theorem ZbI {a:(List ByteArray)}{b:ByteArray}{r:(List ByteArray)}(h:ZbH a b=some r):Zm prog J0 164 [(false,[.sl 9 1 (A0 ZE a)]),(false,[.str b])] [(false,[(false,.sl 9 1 (A0 ZE r))])]:=by
 refine fnk func164 rfl ?_
 unfold ZbH at h
 simp only[fnS,f164,Zq,go_sem,seval]
 refine Zn h (fun i s st=>match s with|(d,e)=>IV [(0,yM (yV a)),(1,yM (.str b)),(5,.p false [.row 0]),(6,yM (.bool e)),(7,yL i)] [.row 9 1 (A0 ZE d) 2] st) [] [16] yF yD ?_ ?_
 rintro _ _ ⟨d,e⟩ ⟨_,_,_⟩ _ f g l h _
 simp only[go_sem,seval,Zd]at g
 obtain ⟨⟨m,_,_,_,_⟩,_,hn⟩:=g
 subst hn
 have o:=WF.slotL l m (j:=0) rfl
 have:=Z0 f
 have:=Z2 f
 have:=Zt (Z1 f) o
 simp only[*,go_sem,seval]
 refine yB h (fun _ h=>?_) fun _ h=>?_
 obtain ⟨q,h⟩:=Zz h
 try simp only[Nat.reduceLeDiff]at q
 simp only[*,go_sem,seval]
 exact yR h [321]
 refine yB h (fun _ h=>?_) fun _ h=>?_
 obtain ⟨t,h⟩:=Zz h
 try simp only[Nat.reduceLeDiff]at t
 simp only[*,go_sem,seval]
 exact yR h [321]
 refine yB h (fun _ h=>?_) fun _ h=>?_
 obtain ⟨u,h⟩:=Zz h
 try simp only[Nat.reduceLeDiff]at u
 simp only[*,go_sem,seval]
 exact yR h [433]
 obtain ⟨v,h⟩:=Zz h
 try simp only[Nat.reduceLeDiff]at v
 obtain ⟨w,h⟩:=Zz h
 try simp only[Nat.reduceLeDiff]at w
 simp only[*,go_sem,seval]
 exact yR h [513]
 rintro ⟨d,e⟩ ⟨_,_,_⟩ k _ h
 simp only[go_sem,seval,Zd]at k
 obtain ⟨⟨_,_,_,_,_⟩,_,hn⟩:=k
 subst hn
 have:=ZW (a.length)
 simp only[*,go_sem,seval]
 refine yB h (fun _ h=>?_) fun _ h=>?_
 cases h;exact yD
 obtain ⟨x,h⟩:=Zz h
 try simp only[Nat.reduceLeDiff]at x
 cases h;exact yD
theorem QH {l_0:(List ByteArray)}{s_1:ByteArray}{r:Bool}(h:YY l_0 s_1=some r):Zm prog J0 135 [(false,[.sl 9 1 (A0 ZE l_0)]),(false,[.str s_1])] [(false,[(false,.bool r)])]:=by
 refine fnk func135 rfl ?_
 unfold YY at h
 simp only[fnS,f135,Zq,go_sem,seval]
 refine Zn h (fun i _ st=>IV [(0,yM (yV l_0)),(1,yM (.str s_1)),(5,yL i)] [] st) [] [] yF yD ?_ ?_
 rintro _ _ ⟨⟩ ⟨_,_,_⟩ _ a b e h f
 simp only[go_sem,seval,Zd]at b
 obtain ⟨⟨g,_,_⟩,hn⟩:=b
 subst hn
 have k:=WF.slotL e g (j:=0) rfl
 have:=Z0 a
 have:=Z2 a
 have:=Zt (Z1 a) k
 simp only[*,go_sem,seval]
 refine yB h (fun _ h=>?_) fun _ h=>?_
 replace h:=Zw h f
 cases h;exact yD
 exact yR h []
 rintro ⟨⟩ ⟨_,_,_⟩ d _ h
 simp only[go_sem,seval,Zd]at d
 obtain ⟨⟨_,_,_⟩,hn⟩:=d
 subst hn
 have:=ZW (l_0.length)
 cases h;exact yD
theorem Zsm {kind_0:Int}{r:ByteArray}(h:Zf0 kind_0=some r):Zm prog J0 209 [(false,[.int .i64 kind_0])] [(false,[(false,.str r)])]:=by
 refine fnk func209 rfl ?_
 unfold Zf0 at h
 have a:Z7 ⟨#[32,33,61,32]⟩=true:=by decide
 have b:Z7 ⟨#[32,60,32]⟩=true:=by decide
 have c:Z7 ⟨#[32,61,32]⟩=true:=by decide
 have d:Z7 ⟨#[]⟩=true:=by decide
 simp only[fnS,f209,Zq,go_sem,seval,a,b,c,d]
 iterate 2 ((refine Zc h (fun _ h=>?_) fun _ h=>?_<;>try simp only[*,go_sem,seval]);cases h;simp only[*,go_sem,seval])
 cases h;exact yD
theorem Qe {s_0:ByteArray}{r:Bool}(h:QK s_0=some r):Zm prog J0 62 [(false,[.str s_0])] [(false,[(false,.bool r)])]:=by
 refine fnk func62 rfl ?_
 unfold QK at h
 simp only[fnS,f62,Zq,go_sem,seval]
 iterate 2 ((refine Zc h (fun _ h=>?_) fun _ h=>?_<;>try simp only[*,go_sem,seval]);cases h;simp only[*,go_sem,seval])
 refine Zn h (fun i _ st=>IV [(0,yM (.str s_0)),(3,yL i)] [] st) [] [] yF yD ?_ ?_
 rintro _ _ ⟨⟩ ⟨_,_,_⟩ _ b d f h a
 simp only[go_sem,seval,Zd]at d
 obtain ⟨⟨g,_⟩,hn⟩:=d
 subst hn
 have k:=WF.slotS f g (j:=0) rfl
 have:=ZqY b
 have:=ZAu b
 have:=Zt (Zva b) k
 simp only[*,go_sem,seval]
 iterate 2 refine yB h (fun _ h=>?_) fun _ h=>?_
 replace h:=Zw h a
 cases h;exact yD
 refine yB h (fun _ h=>?_) fun _ h=>?_
 replace h:=Zw h a
 cases h;exact yD
 exact yR h []
 iterate 2 refine yB h (fun _ h=>?_) fun _ h=>?_
 replace h:=Zw h a
 cases h;exact yD
 refine yB h (fun _ h=>?_) fun _ h=>?_
 replace h:=Zw h a
 cases h;exact yD
 exact yR h []
 exact yR h []
 rintro ⟨⟩ ⟨_,_,_⟩ e _ h
 simp only[go_sem,seval,Zd]at e
 obtain ⟨⟨_,_⟩,hn⟩:=e
 subst hn
 have:=ZW (s_0.size)
 cases h;exact yD
theorem Za3 {p_0:Zi}{r:Bool}(h:XL p_0=some r):Zm prog J0 138 [(true,Ql p_0)] [(false,[(false,.bool r)])]:=by
 refine fnk func138 rfl ?_
 unfold XL at h
 have a:Z7 ⟨#[]⟩=true:=by decide
 simp only[fnS,f138,Zq,go_sem,seval,a]
 refine yB h (fun _ h=>?_) fun _ h=>?_
 iterate 2 (cases h;exact yD)
theorem Zda {l_0:(List ByteArray)}{r:(List ByteArray)}(h:Qt l_0=some r):Zm prog J0 98 [(false,[.sl 9 1 (A0 ZE l_0)])] [(false,[(false,.sl 9 1 (A0 ZE r))])]:=by
 refine fnk func98 rfl ?_
 unfold Qt at h
 simp only[fnS,f98,Zq,go_sem,seval]
 obtain ⟨_,h⟩:=Zz h
 simp only[*,go_sem,seval]
 obtain ⟨a,g,h⟩:=Zy h
 refine Yl (ZkF g)<|yA ?_
 refine Zn h (fun i b st=>IV [(3,.p false [.row 0]),(4,.p false [.row 1]),(11,.p false [.row 0]),(12,yL a.length),(13,yL i)] [.row 9 1 (A0 ZE a) 2,.row 9 1 (A0 ZE b) 2] st) [(false,4,0)] [32,160] yF yD ?_ ?_
 rintro _ _ b ⟨_,_,_⟩ _ d e j h _
 simp only[go_sem,seval,Zd]at e
 obtain ⟨⟨_,_,_,_,_⟩,k,_,hn⟩:=e
 subst hn
 have l:=WF.rowL j k
 have:=Z0 d
 have:=Z2 d
 have:=Zt (Z1 d) l
 simp only[*,go_sem,seval]
 refine yB h (fun _ h=>?_) fun _ h=>?_
 obtain ⟨m,h⟩:=Zz h
 try simp only[Nat.reduceLeDiff]at m
 simp only[*,go_sem,seval]
 exact yR h [0,322]
 obtain ⟨_,h⟩:=Zz h
 obtain ⟨_,_,h⟩:=Zy h
 simp only[*,go_sem,seval]
 refine yB h (fun _ h=>?_) fun _ h=>?_
 exact yR h [0,1]
 obtain ⟨o,h⟩:=Zz h
 try simp only[Nat.reduceLeDiff]at o
 simp only[*,go_sem,seval]
 exact yR h [0,322]
 rintro b ⟨_,_,_⟩ f _ h
 simp only[go_sem,seval,Zd]at f
 obtain ⟨⟨_,_,_,_,_⟩,_,_,hn⟩:=f
 subst hn
 have:=ZW (a.length)
 cases h;exact yD
theorem Zd1 {l_0:(List ByteArray)}{s_1:ByteArray}{r:Bool}(h:Za1 l_0 s_1=some r):Zm prog J0 97 [(false,[.sl 9 1 (A0 ZE l_0)]),(false,[.str s_1])] [(false,[(false,.bool r)])]:=by
 refine fnk func97 rfl ?_
 unfold Za1 at h
 simp only[fnS,f97,Zq,go_sem,seval]
 refine Zn h (fun i _ st=>IV [(1,yM (.str s_1)),(7,yM (yV l_0)),(8,yL l_0.length),(9,yL i)] [] st) [] [] yF yD ?_ ?_
 rintro _ _ ⟨⟩ ⟨_,_,_⟩ _ a b e h f
 simp only[go_sem,seval,Zd]at b
 obtain ⟨⟨_,g,_,_⟩,hn⟩:=b
 subst hn
 have k:=WF.slotL e g (j:=0) rfl
 have:=Z0 a
 have:=Z2 a
 have:=Zt (Z1 a) k
 simp only[*,go_sem,seval]
 refine yB h (fun _ h=>?_) fun _ h=>?_
 replace h:=Zw h f
 cases h;exact yD
 exact yR h []
 rintro ⟨⟩ ⟨_,_,_⟩ d _ h
 simp only[go_sem,seval,Zd]at d
 obtain ⟨⟨_,_,_,_⟩,hn⟩:=d
 subst hn
 have:=ZW (l_0.length)
 cases h;exact yD
theorem Zeo {l_0:(List ByteArray)}{r:(List ByteArray)}(h:ZaT l_0=some r):Zm prog J0 101 [(false,[.sl 9 1 (A0 ZE l_0)])] [(false,[(false,.sl 9 1 (A0 ZE r))])]:=by
 refine fnk func101 rfl ?_
 unfold ZaT at h
 simp only[fnS,f101,Zq,go_sem,seval]
 obtain ⟨_,h⟩:=Zz h
 cases h;exact yD
theorem Zfu {l_0:(List Zh)}{name_1:ByteArray}{r:Int}(h:XS l_0 name_1=some r):Zm prog J0 53 [(false,[.sl 86 4 (A0 Zx l_0)]),(false,[.str name_1])] [(false,[(false,.int .i64 r)])]:=by
 refine fnk func53 rfl ?_
 unfold XS at h
 simp only[fnS,f53,Zq,go_sem,seval]
 refine Zn h (fun i _ st=>IV [(1,yM (.str name_1)),(7,yM (yW l_0)),(8,yL l_0.length),(9,yL i)] [] st) [] [] yF yD ?_ ?_
 rintro _ _ ⟨⟩ ⟨_,_,_⟩ _ a b e h f
 simp only[go_sem,seval,Zd]at b
 obtain ⟨⟨_,g,_,_⟩,hn⟩:=b
 subst hn
 have k:=WF.slotL e g (j:=0) rfl
 have:=Z0 a
 have:=Z2 a
 have:=Zt (Z1 a) k
 simp only[*,go_sem,seval]
 refine yB h (fun _ h=>?_) fun _ h=>?_
 replace h:=Zw h f
 cases h;exact yD
 exact yR h []
 rintro ⟨⟩ ⟨_,_,_⟩ d _ h
 simp only[go_sem,seval,Zd]at d
 obtain ⟨⟨_,_,_,_⟩,hn⟩:=d
 subst hn
 have:=ZW (l_0.length)
 cases h;exact yD
theorem Zbw {l_0:(List Int)}{r:(List Int)}(h:XX l_0=some r):Zm prog J0 32 [(false,[.sl 3 1 (A0 Yc l_0)])] [(false,[(false,.sl 3 1 (A0 Yc r))])]:=by
 refine fnk func32 rfl ?_
 unfold XX at h
 simp only[fnS,f32,Zq,go_sem,seval]
 obtain ⟨_,h⟩:=Zz h
 cases h;exact yD
theorem Yd {a_0:Int}{b_1:Int}{r:Int}(h:ZT a_0 b_1=some r):Zm prog J0 106 [(false,[.int .i64 a_0]),(false,[.int .i64 b_1])] [(false,[(false,.int .i64 r)])]:=by
 refine fnk func106 rfl ?_
 unfold ZT at h
 simp only[fnS,f106,Zq,go_sem,seval]
 iterate 2 ((refine Zc h (fun _ h=>?_) fun _ h=>?_<;>try simp only[*,go_sem,seval]);cases h;simp only[*,go_sem,seval])
 cases h;exact yD
theorem Zhk {n_0:Int}{r:ByteArray}(h:QP n_0=some r):Zm prog J0 160 [(false,[.int .i64 n_0])] [(false,[(false,.str r)])]:=by
 refine fnk func160 rfl ?_
 unfold QP at h
 have a:Z7 ⟨#[]⟩=true:=by decide
 simp only[fnS,f160,Zq,go_sem,seval,a]
 refine Zb h fun _ b h=>Za (ZwA b) ?_
 cases h;exact yD
theorem Zfl {a_0:(List Int)}{b_1:(List Int)}{r:Bool}(h:ZbK a_0 b_1=some r):Zm prog J0 102 [(false,[.sl 3 1 (A0 Yc a_0)]),(false,[.sl 3 1 (A0 Yc b_1)])] [(false,[(false,.bool r)])]:=by
 refine fnk func102 rfl ?_
 unfold ZbK at h
 simp only[fnS,f102,Zq,go_sem,seval]
 refine yB h (fun _ h=>?_) fun _ h=>?_
 cases h;exact yD
 refine Zn h (fun i _ st=>IV [(0,yM (yX a_0)),(1,yM (yX b_1)),(12,yL a_0.length),(13,yL i)] [] st) [] [] yF yD ?_ ?_
 rintro _ _ ⟨⟩ ⟨_,_,_⟩ _ a b e h f
 simp only[go_sem,seval,Zd]at b
 obtain ⟨⟨g,_,_,_⟩,hn⟩:=b
 subst hn
 have k:=WF.slotL e g (j:=0) rfl
 have:=Z0 a
 have:=Z2 a
 have:=Zt (Z1 a) k
 obtain ⟨_,_,_,l,h⟩:=ZaE h
 simp only[AL]at l
 simp only[*,go_sem,seval]
 refine yB h (fun _ h=>?_) fun _ h=>?_
 replace h:=Zw h f
 cases h;exact yD
 exact yR h []
 rintro ⟨⟩ ⟨_,_,_⟩ d _ h
 simp only[go_sem,seval,Zd]at d
 obtain ⟨⟨_,_,_,_⟩,hn⟩:=d
 subst hn
 have:=ZW (a_0.length)
 cases h;exact yD
theorem ZhH {a_0:(List ByteArray)}{b_1:(List ByteArray)}{r:Bool}(h:ZbX a_0 b_1=some r):Zm prog J0 103 [(false,[.sl 9 1 (A0 ZE a_0)]),(false,[.sl 9 1 (A0 ZE b_1)])] [(false,[(false,.bool r)])]:=by
 refine fnk func103 rfl ?_
 unfold ZbX at h
 simp only[fnS,f103,Zq,go_sem,seval]
 refine yB h (fun _ h=>?_) fun _ h=>?_
 cases h;exact yD
 refine Zn h (fun i _ st=>IV [(0,yM (yV a_0)),(1,yM (yV b_1)),(12,yL a_0.length),(13,yL i)] [] st) [] [] yF yD ?_ ?_
 rintro _ _ ⟨⟩ ⟨_,_,_⟩ _ a b e h f
 simp only[go_sem,seval,Zd]at b
 obtain ⟨⟨g,_,_,_⟩,hn⟩:=b
 subst hn
 have k:=WF.slotL e g (j:=0) rfl
 have:=Z0 a
 have:=Z2 a
 have:=Zt (Z1 a) k
 obtain ⟨_,_,_,l,h⟩:=ZaE h
 simp only[AL]at l
 simp only[*,go_sem,seval]
 refine yB h (fun _ h=>?_) fun _ h=>?_
 exact yR h []
 replace h:=Zw h f
 cases h;exact yD
 rintro ⟨⟩ ⟨_,_,_⟩ d _ h
 simp only[go_sem,seval,Zd]at d
 obtain ⟨⟨_,_,_,_⟩,hn⟩:=d
 subst hn
 have:=ZW (a_0.length)
 cases h;exact yD
theorem ZcF {b_0:(List Zo)}{r:(List Zo)}(h:XM b_0=some r):Zm prog J0 122 [(false,[.sl 152 2 (A0 Yg b_0)])] [(false,[(false,.sl 152 2 (A0 Yg r))])]:=by
 refine fnk func122 rfl ?_
 unfold XM at h
 simp only[fnS,f122,Zq,go_sem,seval]
 obtain ⟨_,h⟩:=Zz h
 cases h;exact yD
theorem ZcQ {s_0:ByteArray}{a_1:(List Zo)}{r:ByteArray}(h:Zak s_0 a_1=some r):Zm prog J0 193 [(false,[.str s_0]),(false,[.sl 152 2 (A0 Yg a_1)])] [(false,[(false,.str r)])]:=by
 refine fnk func193 rfl ?_
 unfold Zak at h
 have e:Z7 ⟨#[]⟩=true:=by decide
 simp only[fnS,f193,Zq,go_sem,seval,e]
 refine Zn h (fun i _ st=>IV [(0,yM (.str s_0)),(7,yM (yZ a_1)),(8,yL a_1.length),(9,yL i)] [] st) [] [] yF yD ?_ ?_
 rintro _ _ ⟨⟩ ⟨_,_,_⟩ _ a b f h g
 simp only[go_sem,seval,Zd]at b
 obtain ⟨⟨_,k,_,_⟩,hn⟩:=b
 subst hn
 have l:=WF.slotL f k (j:=0) rfl
 have:=Z0 a
 have:=Z2 a
 have:=Zt (Z1 a) l
 simp only[*,go_sem,seval]
 refine yB h (fun _ h=>?_) fun _ h=>?_
 replace h:=Zw h g
 cases h;exact yD
 exact yR h []
 rintro ⟨⟩ ⟨_,_,_⟩ d _ h
 simp only[go_sem,seval,Zd]at d
 obtain ⟨⟨_,_,_,_⟩,hn⟩:=d
 subst hn
 have:=ZW (a_1.length)
 cases h;exact yD
theorem Zoc {a_0:(List Zo)}{b_1:(List Zo)}{r:Bool}(h:ZdN a_0 b_1=some r):Zm prog J0 159 [(false,[.sl 152 2 (A0 Yg a_0)]),(false,[.sl 152 2 (A0 Yg b_1)])] [(false,[(false,.bool r)])]:=by
 refine fnk func159 rfl ?_
 unfold ZdN at h
 simp only[fnS,f159,Zq,go_sem,seval]
 refine yB h (fun _ h=>?_) fun _ h=>?_
 cases h;exact yD
 refine Zn h (fun i _ st=>IV [(0,yM (yZ a_0)),(1,yM (yZ b_1)),(12,yL a_0.length),(13,yL i)] [] st) [] [] yF yD ?_ ?_
 rintro _ _ ⟨⟩ ⟨_,_,_⟩ _ a b e h f
 simp only[go_sem,seval,Zd]at b
 obtain ⟨⟨g,_,_,_⟩,hn⟩:=b
 subst hn
 have k:=WF.slotL e g (j:=0) rfl
 have:=Z0 a
 have:=Z2 a
 have:=Zt (Z1 a) k
 obtain ⟨_,_,_,l,h⟩:=ZaE h
 simp only[AL]at l
 simp only[*,go_sem,seval]
 refine yB h (fun _ h=>?_) fun _ h=>?_
 exact yR h []
 replace h:=Zw h f
 cases h;exact yD
 rintro ⟨⟩ ⟨_,_,_⟩ d _ h
 simp only[go_sem,seval,Zd]at d
 obtain ⟨⟨_,_,_,_⟩,hn⟩:=d
 subst hn
 have:=ZW (a_0.length)
 cases h;exact yD
theorem Zku {a_0:(List ByteArray)}{b_1:(List ByteArray)}{r:Bool}(h:Zfr a_0 b_1=some r):Zm prog J0 80 [(false,[.sl 9 1 (A0 ZE a_0)]),(false,[.sl 9 1 (A0 ZE b_1)])] [(false,[(false,.bool r)])]:=by
 refine fnk func80 rfl ?_
 unfold Zfr at h
 simp only[fnS,f80,Zq,go_sem,seval]
 refine yB h (fun _ h=>?_) fun _ h=>?_
 cases h;exact yD
 refine Zn h (fun i _ st=>IV [(0,yM (yV a_0)),(1,yM (yV b_1)),(5,yL i)] [] st) [] [] yF yD ?_ ?_
 rintro _ _ ⟨⟩ ⟨_,_,_⟩ _ a b e h f
 simp only[go_sem,seval,Zd]at b
 obtain ⟨⟨g,_,_⟩,hn⟩:=b
 subst hn
 have k:=WF.slotL e g (j:=0) rfl
 have:=Z0 a
 have:=Z2 a
 have:=Zt (Z1 a) k
 obtain ⟨_,_,_,l,h⟩:=ZaE h
 simp only[AL]at l
 simp only[*,go_sem,seval]
 refine yB h (fun _ h=>?_) fun _ h=>?_
 exact yR h []
 replace h:=Zw h f
 cases h;exact yD
 rintro ⟨⟩ ⟨_,_,_⟩ d _ h
 simp only[go_sem,seval,Zd]at d
 obtain ⟨⟨_,_,_⟩,hn⟩:=d
 subst hn
 have:=ZW (a_0.length)
 cases h;exact yD
theorem Zqf {l_0:(List ByteArray)}{r:(List ByteArray)}(h:ZfB l_0=some r):Zm prog J0 81 [(false,[.sl 9 1 (A0 ZE l_0)])] [(false,[(false,.sl 9 1 (A0 ZE r))])]:=by
 refine fnk func81 rfl ?_
 unfold ZfB at h
 simp only[fnS,f81,Zq,go_sem,seval]
 obtain ⟨_,h⟩:=Zz h
 cases h;exact yD
theorem ZiN {a_0:(List Zo)}{b_1:(List Zo)}{r:Bool}(h:ZbD a_0 b_1=some r):Zm prog J0 87 [(false,[.sl 152 2 (A0 Yg a_0)]),(false,[.sl 152 2 (A0 Yg b_1)])] [(false,[(false,.bool r)])]:=by
 refine fnk func87 rfl ?_
 unfold ZbD at h
 simp only[fnS,f87,Zq,go_sem,seval]
 refine yB h (fun _ h=>?_) fun _ h=>?_
 cases h;exact yD
 refine Zn h (fun i _ st=>IV [(0,yM (yZ a_0)),(1,yM (yZ b_1)),(5,yL i)] [] st) [] [] yF yD ?_ ?_
 rintro _ _ ⟨⟩ ⟨_,_,_⟩ _ a b e h f
 simp only[go_sem,seval,Zd]at b
 obtain ⟨⟨g,_,_⟩,hn⟩:=b
 subst hn
 have k:=WF.slotL e g (j:=0) rfl
 have:=Z0 a
 have:=Z2 a
 have:=Zt (Z1 a) k
 obtain ⟨_,_,_,l,h⟩:=ZaE h
 simp only[AL]at l
 simp only[*,go_sem,seval]
 refine yB h (fun _ h=>?_) fun _ h=>?_
 exact yR h []
 replace h:=Zw h f
 cases h;exact yD
 rintro ⟨⟩ ⟨_,_,_⟩ d _ h
 simp only[go_sem,seval,Zd]at d
 obtain ⟨⟨_,_,_⟩,hn⟩:=d
 subst hn
 have:=ZW (a_0.length)
 cases h;exact yD
end
section
theorem Xm {c_0:Zp}{n_1:Int}{r:(Int×Zp)}(h:Y7 c_0 n_1=some r):XQ prog J0 JF0 20 (.box 103 (YO c_0)) [(false,[.int .i64 n_1])] [(false,[(false,.int .i64 r.1)])] (.box 103 (YO r.2)):=by
 refine fnh func20 rfl ?_
 unfold Y7 at h
 simp only[fnH,f20,Qu,Qp,YT,go_sem,seval]
 refine yB h (fun _ h=>?_) fun _ h=>?_
 cases h;exact yD
 refine yB h (fun _ h=>?_) fun _ h=>?_
 obtain ⟨_,a,h⟩:=Zy h
 refine Yl (Zfg a) ?_
 obtain ⟨_,h⟩:=Zz h
 cases h;exact yD
 obtain ⟨_,b,h⟩:=Zy h
 refine Yl (Zfg b)<|yA ?_
 obtain ⟨_,c,h⟩:=Zy h
 refine Yl (Zfg c)<|yA ?_
 obtain ⟨_,d,h⟩:=Zy h
 refine Yl (Zfg d) ?_
 obtain ⟨_,h⟩:=Zz h
 cases h;exact yD
theorem Zop {s_0:ByteArray}{r:(Int×Bool)}(h:Zc3 s_0=some r):Zm prog J0 175 [(false,[.str s_0])] [(false,[(false,.int .i64 r.1)]),(false,[(false,.bool r.2)])]:=by
 refine fnk func175 rfl ?_
 unfold Zc3 at h
 simp only[fnS,f175,Zq,go_sem,seval]
 refine Zb h fun _ g h=>Za (ZbV g)<|yA ?_
 refine yB h (fun _ h=>?_) fun _ h=>?_
 refine Zn h (fun i a st=>IV [(0,yM (.str s_0)),(4,yM (.int .i64 a)),(5,yL i)] [] st) [] [] yF yD ?_ ?_
 rintro _ _ a ⟨_,_,_⟩ _ b d k h e
 simp only[go_sem,seval,Zd]at d
 obtain ⟨⟨l,_,_⟩,hn⟩:=d
 subst hn
 have m:=WF.slotS k l (j:=0) rfl
 have:=ZqY b
 have:=ZAu b
 have:=Zt (Zva b) m
 simp only[*,go_sem,seval]
 refine yB h (fun _ h=>?_) fun _ h=>?_
 replace h:=Zw h e
 cases h;exact yD
 refine yB h (fun _ h=>?_) fun _ h=>?_
 replace h:=Zw h e
 cases h;exact yD
 exact yR h []
 rintro a ⟨_,_,_⟩ f _ h
 simp only[go_sem,seval,Zd]at f
 obtain ⟨⟨_,_,_⟩,hn⟩:=f
 subst hn
 have:=ZW (s_0.size)
 simp only[*,go_sem,seval]
 refine Zb h fun _ o h=>Za (ZhW o)<|yA ?_
 refine yB h (fun _ h=>?_) fun _ h=>?_
 iterate 3 (cases h;exact yD)
theorem Zg0 {s_0:ByteArray}{r:Bool}(h:Zew s_0=some r):Zm prog J0 165 [(false,[.str s_0])] [(false,[(false,.bool r)])]:=by
 refine fnk func165 rfl ?_
 unfold Zew at h
 simp only[fnS,f165,Zq,go_sem,seval]
 refine Zn h (fun i _ st=>IV [(0,yM (.str s_0)),(3,yL i)] [] st) [] [] yF yD ?_ ?_
 rintro _ _ ⟨⟩ ⟨_,_,_⟩ _ a b e h f
 simp only[go_sem,seval,Zd]at b
 obtain ⟨⟨g,_⟩,hn⟩:=b
 subst hn
 have k:=WF.slotS e g (j:=0) rfl
 have:=ZqY a
 have:=ZAu a
 have:=Zt (Zva a) k
 simp only[*,go_sem,seval]
 refine Zb h fun _ l h=>Za (ZbV l)<|yA ?_
 refine yB h (fun _ h=>?_) fun _ h=>?_
 exact yR h []
 refine Zb h fun _ m h=>Za (ZbV m)<|yA ?_
 refine yB h (fun _ h=>?_) fun _ h=>?_
 exact yR h []
 replace h:=Zw h f
 cases h;exact yD
 rintro ⟨⟩ ⟨_,_,_⟩ d _ h
 simp only[go_sem,seval,Zd]at d
 obtain ⟨⟨_,_⟩,hn⟩:=d
 subst hn
 have:=ZW (s_0.size)
 simp only[*,go_sem,seval]
 refine Zb h fun _ o h=>Za (ZbV o) ?_
 cases h;exact yD
theorem Zqm {s_0:ByteArray}{r:(ByteArray×(List ByteArray)×Bool)}(h:ZcS s_0=some r):Zm prog J0 237 [(false,[.str s_0])] [(false,[(false,.str r.1)]),(false,[(false,.sl 9 1 (A0 ZE r.2.1))]),(false,[(false,.bool r.2.2)])]:=by
 refine fnk func237 rfl ?_
 unfold ZcS at h
 have a:Z7 ⟨#[40]⟩=true:=by decide
 have b:Z7 ⟨#[44]⟩=true:=by decide
 have c:Z7 ⟨#[]⟩=true:=by decide
 simp only[fnS,f237,Zq,go_sem,seval,a,b,c]
 refine Zb h fun _ d h=>Za (Zaa d)<|yA ?_
 refine yB h (fun _ h=>?_) fun _ h=>?_
 cases h;exact yD
 obtain ⟨_,h⟩:=Zz h
 obtain ⟨_,e,h⟩:=Zy h
 try simp only[seval]at e
 simp only[*,go_sem,seval]
 refine yB h (fun _ h=>?_) fun _ h=>?_
 cases h;exact yD
 obtain ⟨_,_,_,h⟩:=Ztv h
 simp only[*,go_sem,seval]
 refine yB h (fun _ h=>?_) fun _ h=>?_
 cases h;exact yD
 obtain ⟨_,h⟩:=Zz h
 simp only[*,go_sem,seval]
 refine yB h (fun _ h=>?_) fun _ h=>?_
 obtain ⟨_,h⟩:=Zz h
 obtain ⟨_,f,h⟩:=Zy h
 try simp only[seval]at f
 cases h;exact yD
 obtain ⟨_,h⟩:=Zz h
 obtain ⟨_,g,h⟩:=Zy h
 try simp only[seval]at g
 simp only[*,go_sem,seval]
 refine Zb h fun _ i h=>Za (Zaa i) ?_
 cases h;exact yD
theorem Xr {s_0:ByteArray}{r:Bool}(h:XR s_0=some r):Zm prog J0 61 [(false,[.str s_0])] [(false,[(false,.bool r)])]:=by
 refine fnk func61 rfl ?_
 unfold XR at h
 simp only[fnS,f61,Zq,go_sem,seval]
 refine Zb h fun _ a h=>Za (Qe a)<|yA ?_
 refine yB h (fun _ h=>?_) fun _ h=>?_
 obtain ⟨_,_,b,h⟩:=Ztv h
 try simp only[seval]at b
 iterate 2 (cases h;exact yD)
theorem Zdd {s_0:ByteArray}{r:Bool}(h:Zcj s_0=some r):Zm prog J0 116 [(false,[.str s_0])] [(false,[(false,.bool r)])]:=by
 refine fnk func116 rfl ?_
 unfold Zcj at h
 simp only[fnS,f116,Zq,go_sem,seval]
 refine yB h (fun _ h=>?_) fun _ h=>?_
 obtain ⟨_,_,a,h⟩:=Ztv h
 try simp only[seval]at a
 simp only[*,go_sem,seval]
 refine yB h (fun _ h=>?_) fun _ h=>?_
 obtain ⟨_,h⟩:=Zz h
 simp only[*,go_sem,seval]
 refine Zb h fun _ b h=>Za (Qe b) ?_
 iterate 3 (cases h;exact yD)
theorem Zka {x_0:Zj}{r:(List ByteArray)}(h:Zb2 x_0=some r):Zm prog J0 129 [(true,ZR x_0)] [(false,[(false,.sl 9 1 (A0 ZE r))])]:=by
 refine fnk func129 rfl ?_
 unfold Zb2 at h
 simp only[fnS,f129,Zq,go_sem,seval]
 refine Zb h fun _ a h=>Za (Zeo a) ?_
 obtain ⟨b,h⟩:=Zz h
 try simp only[Nat.reduceLeDiff]at b
 cases h;exact yD
theorem Zc4 {p_0:Zi}{r:Zi}(h:XO p_0=some r):Zm prog J0 75 [(true,Ql p_0)] [(true,[(false,.str r.rel),(false,.sl 9 1 (A0 ZE r.args))])]:=by
 refine fnk func75 rfl ?_
 unfold XO at h
 simp only[fnS,f75,Zq,go_sem,seval]
 refine Zb h fun _ a h=>Za (Zeo a) ?_
 cases h;exact yD
theorem Ys {f_0:Zg}{r:Zg}(h:Yw f_0=some r):Zm prog J0 55 [(true,Zr f_0)] [(true,[(false,.str r.rel),(false,.sl 9 1 (A0 ZE r.args))])]:=by
 refine fnk func55 rfl ?_
 unfold Yw at h
 simp only[fnS,f55,Zq,go_sem,seval]
 refine Zb h fun _ a h=>Za (Zeo a) ?_
 cases h;exact yD
theorem Zdk {s_0:ByteArray}{r:(Int×Bool)}(h:ZaN s_0=some r):Zm prog J0 143 [(false,[.str s_0])] [(false,[(false,.int .i64 r.1)]),(false,[(false,.bool r.2)])]:=by
 refine fnk func143 rfl ?_
 unfold ZaN at h
 simp only[fnS,f143,Zq,go_sem,seval]
 iterate 2 ((refine Zc h (fun _ h=>?_) fun _ h=>?_<;>try simp only[*,go_sem,seval]);cases h;simp only[*,go_sem,seval])
 refine Zb h fun _ a h=>Za (Zxt a)<|yA ?_
 iterate 2 refine yB h (fun _ h=>?_) fun _ h=>?_
 cases h;exact yD
 refine yB h (fun _ h=>?_) fun _ h=>?_
 cases h;exact yD
 refine Zb h fun _ b h=>Za (Zhk b)<|yA ?_
 refine yB h (fun _ h=>?_) fun _ h=>?_
 iterate 3 (cases h;exact yD)
theorem Zl0 {e_0:Zu}{f_1:ZP}{r:Bool}(h:ZcJ e_0 f_1=some r):Zm prog J0 58 [(true,Zff e_0),(true,Z9 f_1)] [(false,[(false,.bool r)])]:=by
 refine fnk func58 rfl ?_
 unfold ZcJ at h
 simp only[fnS,f58,Zq,go_sem,seval]
 refine Zb h fun _ o h=>Za (Zfu o)<|yA ?_
 refine yB h (fun _ h=>?_) fun _ h=>?_
 cases h;exact yD
 obtain ⟨b,_,_,_,h⟩:=ZaE h
 simp only[*,go_sem,seval]
 refine Zn h (fun i a st=>IV [(2,.bp 0 0),(3,.bp 1 0),(6,yM (.int .i64 a)),(23,yM (yY b.cond)),(24,yL b.cond.length),(25,yL i)] [.box 31 [.c (yW e_0.rules),.c (zA e_0.memory),.c (.int .i64 e_0.clock),.c (zE e_0.fired),.c (.bool e_0.halted),.c (zF e_0.log)],zK 81 (Z9 f_1)] st) [] [0,16] yF yD ?_ ?_
 rintro _ _ a ⟨_,_,_⟩ _ d f q h _
 simp only[go_sem,seval,Zd]at f
 obtain ⟨⟨_,_,_,t,_,_⟩,_,_,hn⟩:=f
 subst hn
 have u:=WF.slotL q t (j:=0) rfl
 have:=Z0 d
 have:=Z2 d
 have:=Zt (Z1 d) u
 simp only[*,go_sem,seval]
 refine yB h (fun _ h=>?_) fun _ h=>?_
 exact yR h [0,1]
 exact yR h [0,1]
 rintro a ⟨_,_,_⟩ g _ h
 simp only[go_sem,seval,Zd]at g
 obtain ⟨⟨_,_,_,_,_,_⟩,_,_,hn⟩:=g
 subst hn
 have:=ZW (b.cond.length)
 simp only[*,go_sem,seval]
 refine Zn h (fun i _ st=>IV [(2,.bp 0 0),(3,.bp 1 0),(6,yM (.int .i64 a)),(36,yM (yX f_1.times)),(37,yL f_1.times.length),(38,yL i)] [.box 31 [.c (yW e_0.rules),.c (zA e_0.memory),.c (.int .i64 e_0.clock),.c (zE e_0.fired),.c (.bool e_0.halted),.c (zF e_0.log)],zK 81 (Z9 f_1)] st) [] [0,1] yF yD ?_ ?_
 rintro _ _ ⟨⟩ ⟨_,_,_⟩ _ e k v h l
 simp only[go_sem,seval,Zd]at k
 obtain ⟨⟨_,_,_,w,_,_⟩,_,_,hn⟩:=k
 subst hn
 have x:=WF.slotL v w (j:=0) rfl
 have:=Z0 e
 have:=Z2 e
 have:=Zt (Z1 e) x
 simp only[*,go_sem,seval]
 refine yB h (fun _ h=>?_) fun _ h=>?_
 replace h:=Zw h l
 cases h;exact yD
 refine yB h (fun _ h=>?_) fun _ h=>?_
 replace h:=Zw h l
 cases h;exact yD
 exact yR h [0,1]
 rintro ⟨⟩ ⟨_,_,_⟩ m _ h
 simp only[go_sem,seval,Zd]at m
 obtain ⟨⟨_,_,_,_,_,_⟩,_,_,hn⟩:=m
 subst hn
 have:=ZW (f_1.times.length)
 cases h;exact yD
theorem ZlX {a_0:ZP}{b_1:ZP}{r:Bool}(h:Zcm a_0 b_1=some r):Zm prog J0 59 [(true,Z9 a_0),(true,Z9 b_1)] [(false,[(false,.bool r)])]:=by
 refine fnk func59 rfl ?_
 unfold Zcm at h
 simp only[fnS,f59,Zq,go_sem,seval]
 refine yB h (fun _ h=>?_) fun _ h=>?_
 refine Zb h fun _ a h=>Za (Zfl a) ?_
 iterate 2 (cases h;exact yD)
theorem Zbq {a_0:Zg}{b_1:Zg}{r:Bool}(h:Xi a_0 b_1=some r):Zm prog J0 63 [(true,Zr a_0),(true,Zr b_1)] [(false,[(false,.bool r)])]:=by
 refine fnk func63 rfl ?_
 unfold Xi at h
 simp only[fnS,f63,Zq,go_sem,seval]
 refine yB h (fun _ h=>?_) fun _ h=>?_
 refine Zb h fun _ a h=>Za (ZhH a) ?_
 iterate 2 (cases h;exact yD)
theorem ZkV {r_0:Zh}{r:Int}(h:Zbj r_0=some r):Zm prog J0 110 [(true,Zx r_0)] [(false,[(false,.int .i64 r)])]:=by
 refine fnk func110 rfl ?_
 unfold Zbj at h
 simp only[fnS,f110,Zq,go_sem,seval]
 refine Zn h (fun i b st=>IV [(3,yM (.int .i64 b)),(12,yM (yY r_0.cond)),(13,yL r_0.cond.length),(14,yL i)] [] st) [] [] yF yD ?_ ?_
 rintro q d b ⟨_,_,_⟩ _ e k t h _
 simp only[go_sem,seval,Zd]at k
 obtain ⟨⟨_,u,_,_⟩,hn⟩:=k
 subst hn
 have v:=WF.slotL t u (j:=0) rfl
 have:=Z0 e
 have:=Z2 e
 have:=Zt (Z1 e) v
 simp only[*,go_sem,seval]
 refine Zn h (fun i f st=>IV [(3,yM (.int .i64 f)),(12,yM (yY r_0.cond)),(13,yL r_0.cond.length),(14,yL q),(20,yM (yV d.pattern.args)),(21,yL d.pattern.args.length),(22,yL i)] [] st) [] [] yF yD ?_ ?_
 rintro _ _ f ⟨_,_,_⟩ _ g l w h _
 simp only[go_sem,seval,Zd]at l
 obtain ⟨⟨_,_,_,_,x,_,_⟩,hn⟩:=l
 subst hn
 have y:=WF.slotL w x (j:=0) rfl
 have:=Z0 g
 have:=Z2 g
 have:=Zt (Z1 g) y
 simp only[*,go_sem,seval]
 refine Zb h fun _ z h=>Za (Qe z)<|yA ?_
 refine yB h (fun _ h=>?_) fun _ h=>?_
 exact yR h []
 exact yR h []
 rintro f ⟨_,_,_⟩ m _ h
 simp only[go_sem,seval,Zd]at m
 obtain ⟨⟨_,_,_,_,_,_,_⟩,hn⟩:=m
 subst hn
 have:=ZW (d.pattern.args.length)
 simp only[*,go_sem,seval]
 exact yR h []
 rintro b ⟨_,_,_⟩ o _ h
 simp only[go_sem,seval,Zd]at o
 obtain ⟨⟨_,_,_,_⟩,hn⟩:=o
 subst hn
 have:=ZW (r_0.cond.length)
 cases h;exact yD
theorem ZoH {l_0:(List ZP)}{x_1:ZC}{r:Bool}(h:ZcO l_0 x_1=some r):Zm prog J0 67 [(false,[.sl 81 2 (A0 Z9 l_0)]),(true,Yu x_1)] [(false,[(false,.bool r)])]:=by
 refine fnk func67 rfl ?_
 unfold ZcO at h
 simp only[fnS,f67,Zq,go_sem,seval]
 refine Zn h (fun i _ st=>IV [(3,.bp 0 0),(7,yM (zE l_0)),(8,yL l_0.length),(9,yL i)] [zK 64 (Yu x_1)] st) [] [0] yF yD ?_ ?_
 rintro _ _ ⟨⟩ ⟨_,_,_⟩ _ a b e h f
 simp only[go_sem,seval,Zd]at b
 obtain ⟨⟨_,g,_,_⟩,_,hn⟩:=b
 subst hn
 have k:=WF.slotL e g (j:=0) rfl
 have:=Z0 a
 have:=Z2 a
 have:=Zt (Z1 a) k
 simp only[*,go_sem,seval]
 refine yB h (fun _ h=>?_) fun _ h=>?_
 refine Zb h fun _ l h=>Za (Zfl l)<|yA ?_
 refine yB h (fun _ h=>?_) fun _ h=>?_
 replace h:=Zw h f
 cases h;exact yD
 exact yR h [0]
 exact yR h [0]
 rintro ⟨⟩ ⟨_,_,_⟩ d _ h
 simp only[go_sem,seval,Zd]at d
 obtain ⟨⟨_,_,_,_⟩,_,hn⟩:=d
 subst hn
 have:=ZW (l_0.length)
 cases h;exact yD
theorem ZgH {a:Zj}{a_1:(List Zo)}{r:Zj}(h:Za8 a a_1=some r):Zm prog J0 151 [(true,ZR a),(false,[.sl 152 2 (A0 Yg a_1)])] [(true,[(false,.int .i64 r.kind),(false,.str r.pattern.rel),(false,.sl 9 1 (A0 ZE r.pattern.args)),(false,.str r.left),(false,.str r.right)])]:=by
 refine fnk func151 rfl ?_
 unfold Za8 at h
 simp only[fnS,f151,Zq,go_sem,seval]
 refine Zb h fun k l h=>Za (ZcQ l)<|yA ?_
 refine Zb h fun m o h=>Za (ZcQ o)<|yA ?_
 refine Zn h (fun i d st=>IV [(1,yM (yZ a_1)),(4,.bp 0 0),(5,.bp 1 0),(26,yM (yV a.pattern.args)),(27,yL a.pattern.args.length),(28,yL i)] [.box 137 [.c (.int .i64 0),.c (.str ⟨#[]⟩),.nil 9 1,.c (.str ⟨#[]⟩),.c (.str ⟨#[]⟩)],.box 137 [.c (.int .i64 a.kind),.c (.str a.pattern.rel),.row 2,.c (.str k),.c (.str m)],.row 9 1 (A0 ZE d) 2] st) [(true,208,2)] [16,208,416] yF yD ?_ ?_
 rintro _ _ d ⟨_,_,_⟩ _ e f q h _
 simp only[go_sem,seval,Zd]at f
 obtain ⟨⟨_,_,_,t,_,_⟩,_,_,_,hn⟩:=f
 subst hn
 have u:=WF.slotL q t (j:=0) rfl
 have:=Z0 e
 have:=Z2 e
 have:=Zt (Z1 e) u
 simp only[*,go_sem,seval]
 refine Zb h fun _ v h=>Za (ZcQ v) ?_
 obtain ⟨w,h⟩:=Zz h
 try simp only[Nat.reduceLeDiff]at w
 simp only[*,go_sem,seval]
 exact yR h [0,1,179]
 rintro d ⟨_,_,_⟩ g _ h
 simp only[go_sem,seval,Zd]at g
 obtain ⟨⟨_,_,_,_,_,_⟩,_,_,_,hn⟩:=g
 subst hn
 have:=ZW (a.pattern.args.length)
 cases h;exact yD
theorem ZaX {a_0:Zi}{b_1:Zi}{r:Bool}(h:XI a_0 b_1=some r):Zm prog J0 126 [(true,Ql a_0),(true,Ql b_1)] [(false,[(false,.bool r)])]:=by
 refine fnk func126 rfl ?_
 unfold XI at h
 simp only[fnS,f126,Zq,go_sem,seval]
 refine yB h (fun _ h=>?_) fun _ h=>?_
 refine Zb h fun _ a h=>Za (ZhH a) ?_
 iterate 2 (cases h;exact yD)
theorem ZsA {a_0:Zg}{b_1:Zg}{r:Bool}(h:Znf a_0 b_1=some r):Zm prog J0 39 [(true,Zr a_0),(true,Zr b_1)] [(false,[(false,.bool r)])]:=by
 refine fnk func39 rfl ?_
 unfold Znf at h
 simp only[fnS,f39,Zq,go_sem,seval]
 refine yB h (fun _ h=>?_) fun _ h=>?_
 refine Zb h fun _ a h=>Za (Zku a) ?_
 iterate 2 (cases h;exact yD)
theorem Zs5 {f_0:Zg}{r:Zg}(h:ZhL f_0=some r):Zm prog J0 40 [(true,Zr f_0)] [(true,[(false,.str r.rel),(false,.sl 9 1 (A0 ZE r.args))])]:=by
 refine fnk func40 rfl ?_
 unfold ZhL at h
 simp only[fnS,f40,Zq,go_sem,seval]
 refine Zb h fun _ a h=>Za (Zqf a) ?_
 cases h;exact yD
end
end Go.Proofs.YtaafhjecikjhbaaGreatDoor
