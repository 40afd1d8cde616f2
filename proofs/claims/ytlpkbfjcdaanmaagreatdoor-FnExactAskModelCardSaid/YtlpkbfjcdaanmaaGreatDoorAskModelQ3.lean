/- Texts of this proof, joined: BSound, BSimp, BFn, BTok, Types, BLoop, BDec, ExtD, ExtL. What each holds is said at its theorems. -/
import Derived.Test.YtlpkbfjcdaanmaaGreatDoorAskModelQ2
import Derived.Test.YtlpkbfjcdaanmaaGreatDoorAskModelQ1
import Derived.IntWalk
import Derived.Lib.ItoaNum
import Derived.Lib.Bytealg
import Derived.Lib.Join
import Derived.Lib.Atoi
open Array renaming replicate→AB,getD_eq_getD_getElem?→AL,getElem?_append→Ae
open Bool renaming and_eq_true→A4,not_eq_true'→Ah
open ByteArray renaming size→Ak
open Int renaming toNat_natCast→AY
open List renaming mem_append→A5,getElem?_eq_some_iff→A6,map→AC,mem_map→AD,all_eq_true→AG,length_map→AH,map_cons→AI,nodup_cons→AJ,nodup_append→AK,set_getElem_self→AM,mem_or_eq_of_mem_set→AN,toArray→AQ,getElem_mem→AS,range_eq_range'→AT,all_cons→AU,mapM_cons→Ac,size_toArray→Ag
open List.Sublist renaming append→AZ
open List.cons renaming injEq→Aa
open Nat renaming le_refl→A9,le_of_ble_eq_true→AA,zero_le→AP
open Option renaming bind_eq_some_iff→AE,map_eq_some_iff→AF,map_some→AO,bind_some→AW,getD_some→AX
open Option.some renaming injEq→A3,inj→AR
open Prod.mk renaming injEq→A0
open Sum.inl renaming inj→Ai
set_option linter.unusedSimpArgs false
set_option linter.unusedVariables false
set_option maxRecDepth 1000000
set_option maxHeartbeats 4000000
namespace Go.Proofs.YtlpkbfjcdaanmaaGreatDoor
section
open Go.RowKit
theorem Zux:∀{ρ:List Nat} {k i j:Nat},ZqU ρ k i=some j→i≤j∧ρ[j - i]?=some k
 | [],_,_,_,h=>by simp [ZqU] at h
 | x::r,k,i,j,h=>by
  simp only[ZqU] at h
  split at h
  ·rename_i e
   simp only[A3] at h
   subst h e
   exact ⟨A9 _,yG⟩
  ·obtain ⟨h1,h2⟩:=Zux h
   refine ⟨yE,?_⟩
   rw [show j - i=(j - (i+1))+1 by omega]
   simpa using h2
theorem ZdG [NW] {ρ:List Nat} {k j:Nat} (h:ZqU ρ k 0=some j):ρ[j]?=some k:=by simpa using (Zux h).2
theorem ZpJ {α:Type}:∀{l:List α},l.Nodup→∀{i j:Nat} (hi:i<l.length) (hj:j<l.length),l[i]=l[j]→i=j
 | [],_,_,_,hi,_,_=>by simp at hi
 | x::l,h,0,0,_,_,_=>rfl
 | x::l,h,0,j+1,_,hj,e=>by
  rw [AJ] at h
  exact absurd (by simp at e;rw [e];exact AS _) h.1
 | x::l,h,i+1,0,hi,_,e=>by
  rw [AJ] at h
  exact absurd (by simp at e;rw [←e];exact AS _) h.1
 | x::l,h,i+1,j+1,hi,hj,e=>by
  rw [AJ] at h
  have:=ZpJ h.2 (i:=i) (j:=j) (by simpa using hi) (by simpa using hj) (by simpa using e)
  omega
section
variable {P:Program} {J:World→Prop} {JF:Nat→Prop} {W:ZaK} {U:Nat→Prop} {st st':St} {w w':World} {a:Act} {tt:Nat→Option TI} {S:Ctx}
theorem Zz9 [NW] {g g':Gh} {ρ:List Nat} (hv:∀j k,ρ[j]?=some k→g'.val j=g.val k) (ho:XJ g' g) {x:AV} {v:Value} (h:AVR g w x v):AVR g' w (rAV ρ x) v:=by
 cases x with
 | c x=>obtain ⟨L,h1,h2⟩:=h;exact ⟨L,h1,fun b m o=>h2 b m (ho.own b o)⟩
 | n x=>exact NR.move h (fun _ _ _=>rfl) (ho.grow _)
 | row k=>
  simp only[rAV]
  split
  ·rename_i j hj
   exact ⟨by rw [hv j k (ZdG hj)];exact h.1,h.2⟩
  ·exact h.2
 | nil e m=>exact h
 | dead=>exact h
theorem ZM.map_left {α β γ:Type} {R:α→γ→Prop} {R':β→γ→Prop} (f:α→β) (h:∀a c,R a c→R' (f a) c):∀{l:List α} {r:List γ},ZM R l r→ZM R' (l.map f) r
 | [],[],_=>trivial
 | _::_,_::_,hh=>⟨h _ _ hh.1,hh.2.map_left f h⟩
 | [],_::_,h=>h.elim
 | _::_,[],h=>h.elim
theorem ZwC [NW] (ρ:List Nat) (x:AV):avU (fun j=>j<ρ.length) (rAV ρ x):=by
 cases x with
 | row k=>
  simp only[rAV]
  split
  ·rename_i j hj
   exact (A6.1 (ZdG hj)).1
  ·trivial
 | _=>trivial
theorem Zuv [NW] (hI:Inv W U st a w) {ρ:List Nat} (hρ:ρ.Nodup):Inv W (fun j=>j<ρ.length) (st.ren ρ) a w:=by
 obtain ⟨⟨g,hH,hS⟩,hU,B,hh⟩:=hI
 let g':Gh:=⟨fun j=>match ρ[j]? with | some k=>g.val k | none=>undef,fun j=>match ρ[j]? with | some k=>g.O k | none=>[],fun j=>match ρ[j]? with | some k=>g.D k | none=>[],g.Z⟩
 have gs:∀j k,ρ[j]?=some k→g'.val j=g.val k∧g'.O j=g.O k∧g'.D j=g.D k:=fun j k h=>by simp [g',h]
 have gn:∀j,ρ[j]?=none→g'.O j=[]∧g'.D j=[]:=fun j h=>by simp [g',h]
 have ho:∀b,g'.own b→g.own b:=fun b hb=>by
  rcases hb with ⟨j,mj⟩ | hz
  ·cases h:ρ[j]? with
   | none=>rw [(gn j h).1] at mj;simp at mj
   | some k=>rw [(gs j k h).2.1] at mj;exact .inl ⟨k,mj⟩
  ·exact .inr hz
 have A:XJ g' g:=.of ho fun j b mb=>by
  cases h:ρ[j]? with
  | none=>rw [(gn j h).2] at mb;simp at mb
  | some k=>rw [(gs j k h).2.2] at mb;exact ⟨k,mb⟩
 have C:∀x v,AVR g w x v→AVR g' w (rAV ρ x) v:=fun x v h=>Zz9 (fun j k F=>(gs j k F).1) A h
 have u:∀xs vs,ZM (AVR g w) xs vs→ZM (AVR g' w) (xs.map (rAV ρ)) vs:=fun xs vs h=>h.map_left _ C
 have E:∀ag cs v,PVR g w ag cs v→PVR g' w ag (cs.map (rAV ρ)) v:=fun ag cs v h=>by
  cases ag with
  | true=>obtain ⟨vs,h1,h2⟩:=h;exact ⟨vs,h1,u _ _ h2⟩
  | false=>obtain ⟨x,rfl,h2⟩:=h;exact ⟨_,rfl,C _ _ h2⟩
 refine ⟨⟨g',⟨hH.below,fun j=>?_,fun j=>?_,fun j i G b mb=>?_,fun j b mb=>?_,hH.gz,hH.zx,hH.nw⟩,fun t=>?_⟩,⟨fun t=>?_,fun j=>?_,fun j hj=>?_⟩,B,hh⟩
 ·show ObR g' w j (match ρ[j]? with | some k=>rOb ρ (st.ob k) | none=>.gone)
  cases h:ρ[j]? with
  | none=>exact gn j h
  | some k=>
   obtain ⟨e1,e2,e3⟩:=gs j k h
   have l:=hH.obs k
   show ObR g' w j (rOb ρ (st.ob k))
   cases hok:st.ob k with
   | gone=>rw [hok] at l;exact ⟨e2.trans l.1,e3.trans l.2⟩
   | box t cs=>
    rw [hok] at l
    obtain ⟨b,vs,h1,h2,h3,h4,h5⟩:=l
    exact ⟨b,vs,e1.trans h1,e2.trans h2,e3.trans h3,h4,u _ _ h5⟩
   | map kk vk kv=>
    rw [hok] at l
    obtain ⟨b,es,c,h1,h2,h3,h4⟩:=l
    exact ⟨b,es,c,e1.trans h1,e2.trans h2,e3.trans h3,h4⟩
   | row e m xs d=>
    rw [hok] at l
    obtain ⟨hm,cs,L,h1,h2,h4⟩:=l
    refine ⟨hm,cs,L,by rw [e1];exact h1,h2,?_⟩
    rw [e1,e2,e3]
    rcases h4 with h4 | ⟨hd,h3,h4,h5⟩ | ⟨hd,h3,h4,h5⟩
    ·exact .inl h4
    ·exact .inr (.inl ⟨hd,h3,h4,fun b mb o=>h5 b mb (ho b o)⟩)
    ·exact .inr (.inr ⟨hd,h3,h4,fun b mb o=>h5 b mb (ho b o)⟩)
 ·cases h:ρ[j]? with
  | none=>rw [(gn j h).1,(gn j h).2];simp
  | some k=>rw [(gs j k h).2.1,(gs j k h).2.2];exact hH.nodup k
 ·cases h:ρ[j]? with
  | none=>rw [(gn j h).1,(gn j h).2] at mb;simp at mb
  | some k=>
   rw [(gs j k h).2.1,(gs j k h).2.2] at mb
   cases h':ρ[i]? with
   | none=>rw [(gn i h').1,(gn i h').2];simp
   | some q=>
    rw [(gs i q h').2.1,(gs i q h').2.2]
    refine hH.apart k q (fun e=>G ?_) b mb
    subst e
    obtain ⟨l1,e1⟩:=A6.1 h
    obtain ⟨l2,e2⟩:=A6.1 h'
    exact ZpJ hρ l1 l2 (e1.trans e2.symm)
 ·cases h:ρ[j]? with
  | none=>rw [(gn j h).1,(gn j h).2] at mb;simp at mb
  | some k=>
   rw [(gs j k h).2.1,(gs j k h).2.2] at mb
   refine ⟨(hH.plain k b mb).1,(hH.plain k b mb).2.of ?_⟩
   show ZkR (match ρ[j]? with | some k=>rOb ρ (st.ob k) | none=>.gone)=_
   rw [h]
   show ZkR (rOb ρ (st.ob k))=_
   cases st.ob k<;>rfl
 ·have hs:=hS t
  show SVR g' w (rSV ρ (st.sl t)) _
  cases hsl:st.sl t with
  | any=>trivial
  | und=>rw [hsl] at hs;exact hs
  | p ag cs=>rw [hsl] at hs;exact E _ _ _ hs
  | tup xs=>
   rw [hsl] at hs
   obtain ⟨vs,h1,h2⟩:=hs
   exact ⟨vs,h1,h2.map_left (fun x:Bool × List AV=>(x.1,x.2.map (rAV ρ))) fun x v h=>E x.1 x.2 v h⟩
  | bp k off=>
   rw [hsl] at hs
   simp only[rSV]
   split
   ·rename_i j hj
    obtain ⟨b,h1,h2⟩:=hs
    exact ⟨b,((gs j k (ZdG hj)).1).trans h1,h2⟩
   ·trivial
  | rp k m i off=>
   rw [hsl] at hs
   simp only[rSV]
   split
   ·rename_i j hj
    obtain ⟨b,o,n,c,h1,h2⟩:=hs
    exact ⟨b,o,n,c,((gs j k (ZdG hj)).1).trans h1,h2⟩
   ·trivial
  | ep e off=>
   rw [hsl] at hs
   obtain ⟨b,lo,cs,L,h1,h2,h3,h4,h5⟩:=hs
   exact ⟨b,lo,cs,L,h1,h2,h3,fun x m o=>h4 x m (ho x o),h5⟩
  | fn f=>rw [hsl] at hs;exact hs
 ·show svU _ (rSV ρ (st.sl t))
  cases st.sl t with
  | p ag cs=>intro y my;obtain ⟨x,_,rfl⟩:=AD.1 my;exact ZwC ρ x
  | tup xs=>
   intro y my
   obtain ⟨x,_,rfl⟩:=AD.1 my
   intro z mz
   obtain ⟨q,_,rfl⟩:=AD.1 mz
   exact ZwC ρ q
  | bp k off=>
   simp only[rSV]
   split
   ·rename_i j hj;exact (A6.1 (ZdG hj)).1
   ·trivial
  | rp k m i off=>
   simp only[rSV]
   split
   ·rename_i j hj;exact (A6.1 (ZdG hj)).1
   ·trivial
  | _=>trivial
 ·show obU _ (match ρ[j]? with | some k=>rOb ρ (st.ob k) | none=>.gone)
  split
  ·rename_i k _
   cases st.ob k with
   | box t cs=>intro y my;obtain ⟨x,_,rfl⟩:=AD.1 my;exact ZwC ρ x
   | _=>trivial
  ·trivial
 ·show (match ρ[j]? with | some k=>rOb ρ (st.ob k) | none=>.gone)=.gone
  have:ρ[j]?=none:=List.getElem?_eq_none yE
  rw [this]
theorem ZyI [NW] {g:Gh} {ob:Nat→Ob} (hI:HI W g ob w) {k e m d d':Nat} {xs:List (List CT)} (hk:ob k=.row e m xs d) (hd:d'<d):∃g1:Gh,HI W g1 (upd ob k (.row e m xs d')) w∧g1.val=g.val∧XJ g1 g:=by
 by_cases h0:d'=0
 ·obtain ⟨g1,h1,h2,h3,_⟩:=Zju hI k
  rw [hk] at h1
  exact ⟨g1,by rw [h0];exact h1,h2,h3⟩
 ·have ho:=hI.obs k
  rw [hk] at ho
  obtain ⟨hm,cs,L,o1,o2,o3⟩:=ho
  have h2:d=2∧g.O k=(g.val k).ownBlock.toList∧g.D k=L:=by
   rcases o3 with o3 | ⟨q,_⟩ | ⟨q,_⟩
   ·exact o3
   ·omega
   ·omega
  obtain ⟨rfl,q1,q2⟩:=h2
  obtain rfl:d'=1:=by omega
  let g1:Gh:=⟨g.val,g.O,upd g.D k [],g.Z⟩
  have hown:∀b,g1.own b↔g.own b:=fun b=>Iff.rfl
  have l:XJ g1 g:=.of (fun b hb=>hb) fun j b mb=>by
   by_cases hj:j=k
   ·subst hj;simp [g1,upd] at mb
   ·exact ⟨j,by simpa [g1,upd,hj] using mb⟩
  have f:∀j b,b∈g1.O j++g1.D j→b∈g.O j++g.D j:=fun j b mb=>by
   by_cases hj:j=k
   ·subst hj;simp [g1,upd] at mb;simp [mb]
   ·simpa [g1,upd,hj] using mb
  refine ⟨g1,⟨hI.below,fun j=>?_,fun j=>?_,fun i j o b mb mj=>hI.apart i j o b (f i b mb) (f j b mj),fun j b mb=>⟨(hI.plain j b (f j b mb)).1,(hI.plain j b (f j b mb)).2.of (by
   by_cases hj:j=k
   ·subst hj;rw [ZF,hk];rfl
   ·rw [ZP _ _ hj])⟩,hI.gz,hI.zx,hI.nw⟩,rfl,l⟩
  ·by_cases hj:j=k
   ·subst hj
    rw [ZF]
    refine ⟨hm,cs,L,o1,o2,.inr (.inl ⟨rfl,q1,by simp [g1,upd],fun b mb hb=>?_⟩)⟩
    have mk:b∈g.D j:=by rw [q2];exact mb
    rcases hb with ⟨i,mi⟩ | hz
    ·by_cases o:i=j
     ·subst o
      have:=hI.nodup i
      rw [AK] at this
      exact this.2.2 b mi b mk rfl
     ·exact hI.apart i j o b (by simp;exact .inl mi) (by simp [mk])
    ·exact hI.nz (k:=j) (b:=b) (by simp [mk]) hz
   ·rw [ZP _ _ hj]
    have a:=hI.obs j
    cases hh:ob j with
    | gone=>rw [hh] at a;exact ⟨a.1,by simpa [g1,upd,hj] using a.2⟩
    | box t ds=>
     rw [hh] at a
     obtain ⟨b,vs,h1,h2,h3,h4,h5⟩:=a
     exact ⟨b,vs,h1,h2,by simpa [g1,upd,hj] using h3,h4,h5.mono fun x u _ hx=>AVR.less hx rfl l⟩
    | map kk vk kv=>
     rw [hh] at a
     obtain ⟨b,es,c,h1,h2,h3,h4⟩:=a
     exact ⟨b,es,c,h1,h2,by simpa [g1,upd,hj] using h3,h4⟩
    | row e' m' xs' d2=>
     rw [hh] at a
     obtain ⟨p,v,L',p1,p2,p3⟩:=a
     refine ⟨p,v,L',p1,p2,?_⟩
     have e2:g1.D j=g.D j:=by simp [g1,upd,hj]
     rw [e2]
     exact p3
  ·by_cases hj:j=k
   ·subst hj
    have:=hI.nodup j
    rw [AK] at this
    simpa [g1,upd] using this.1
   ·have:=hI.nodup j
    simpa [g1,upd,hj] using this
theorem Zyf [NW] (m:Bool × Nat × Nat) (hI:Inv W U st a w) (hk:∀k,st.n≤k→¬U k):∃U',Inv W U' (st.mat m) a w∧∀k,(st.mat m).n≤k→¬U' k:=by
 have A:∃U',Inv W U' st a w∧∀k,st.n≤k→¬U' k:=⟨U,hI,hk⟩
 have S:¬U st.n:=hk st.n (A9 _)
 have N:∀k,st.n+1≤k→¬(U k∨k=st.n):=fun k l h=>by
  rcases h with h | h
  ·exact hk k yE h
  ·omega
 have T:∀(e q:Nat),0<q→∀g,HI W g st.ob w→∃g',HI W g' (upd st.ob st.n (.row e q [] 2)) w∧(∀x u,svU U x→SVR g w x u→SVR g' w x u)∧g'.val st.n=.slice none 0 0∧(∀x u,avU U x→AVR g w x u→AVR g' w x u):=fun e q hq g hH=>by
  obtain ⟨t1,t2⟩:=hH.turn (key:=st.n) (U:=U) (w':=w) (v:=.slice none 0 0) (O:=[]) (D:=[]) (o:=.row e q [] 2) hI.wf.ob S [] yG hH.below (A9 _) (fun _ _ _=>rfl) yG yG yG yG
   (fun _=>⟨hq,[],[],by simpa [Gh.turn,upd] using ZfF _ _ _ _,⟨rfl,rfl⟩,.inl ⟨rfl,by simp [Gh.turn,upd,Value.ownBlock],by simp [Gh.turn]⟩⟩)
  refine ⟨_,t1,t2,by simp [Gh.turn,upd],fun x u hx hu=>hu.move hx (fun k l=>ZP _ _ fun e=>S (e ▸ l)) (fun _ _ _=>rfl) (ZpN yG yG)⟩
 have up:∀k,U k→(U k∨k=st.n):=fun _ h=>.inl h
 obtain ⟨⟨g,hH,hS⟩,hU,B,hh⟩:=hI
 have P:∀k e q xs d,st.ob k=.row e q xs d→∃g1:Gh,HI W g1 (upd st.ob k (.row e q xs 0)) w∧g1.val=g.val∧XJ g1 g∧U k∧∀v,AVR g w (.row k) v→AVR g1 w (.c (.sl e q xs)) v:=fun k e q xs d f=>by
  obtain ⟨g1,i1,i2,i3,_⟩:=Zju hH k
  rw [f] at i1
  obtain ⟨L,t1,t2⟩:=Zs5 i1 (ZF st.ob k (.row e q xs 0))
  exact ⟨g1,i1,i2,i3,Classical.byContradiction fun hn=>by have:=hU.gone _ hn;rw [f] at this;simp at this,fun v hv=>⟨L,by rw [hv.1,←i2];exact t1,t2⟩⟩
 have Q:∀{gg:Gh} {cs:List AV} {vs:List Value} {j:Nat} {y:AV} {v:Value},ZM (AVR gg w) cs vs→vs[j]?=some v→AVR gg w y v→ZM (AVR gg w) (cs.set j y) vs:=fun {gg cs vs j y v} h1 h2 h3=>by
  have:=h1.set (i:=j) h3
  obtain ⟨hl,he⟩:=A6.1 h2
  rw [←he,AM hl] at this
  exact this
 have R:∀{gg:Gh} {ag:Bool} {cs:List AV} {v:Value} {j:Nat} {x y:AV},PVR gg w ag cs v→cs[j]?=some x→(∀u,AVR gg w x u→AVR gg w y u)→PVR gg w ag (cs.set j y) v:=fun {gg ag cs v j x y} h1 h2 h3=>by
  cases ag with
  | true=>
   obtain ⟨vs,rfl,h4⟩:=h1
   obtain ⟨u,u1,u2⟩:=h4.at h2
   exact ⟨vs,rfl,Q h4 u1 (h3 u u2)⟩
  | false=>
   obtain ⟨z,rfl,h4⟩:=h1
   cases j with
   | zero=>simp at h2;subst h2;exact ⟨y,rfl,h3 v h4⟩
   | succ j=>simp at h2
 have K:∀{V:Nat→Prop} {cs:List AV} {j:Nat} {y:AV},QW V cs→avU V y→QW V (cs.set j y):=fun {V cs j y} h1 h2 z mz=>by
  rcases AN mz with mz | mz
  ·exact h1 z mz
  ·subst mz;exact h2
 unfold St.mat
 split
 ·split
  ·rename_i ag cs X
   have G:QW U cs:=by have:=hU.sl m.2.1;rw [X] at this;exact this
   have hs:=hS m.2.1
   rw [X] at hs
   split
   ·rename_i e q H
    split
    ·rename_i hq
     obtain ⟨g',t1,t2,t3,t4⟩:=T e q hq g hH
     refine ⟨fun k=>U k∨k=st.n,⟨⟨g',t1,fun t=>?_⟩,⟨fun t=>?_,fun k=>?_,fun k l=>?_⟩,B,hh⟩,N⟩
     ·show SVR g' w (upd st.sl m.2.1 (.p ag (cs.set m.2.2 (.row st.n))) t) _
      by_cases ht:t=m.2.1
      ·subst ht
       rw [ZF]
       have h1:PVR g' w ag cs (a.tmps.getD m.2.1 undef):=t2 (.p ag cs) _ G hs
       refine R h1 H fun u hu=>?_
       have Z:u=.slice none 0 0:=hu
       rw [Z]
       exact ⟨t3.symm,rfl⟩
      ·rw [ZP _ _ ht];exact t2 _ _ (hU.sl t) (hS t)
     ·show svU _ (upd st.sl m.2.1 (.p ag (cs.set m.2.2 (.row st.n))) t)
      by_cases ht:t=m.2.1
      ·subst ht;rw [ZF];exact K (G.mono up) (.inr rfl)
      ·rw [ZP _ _ ht];exact (hU.sl t).mono up
     ·show obU _ (upd st.ob st.n _ k)
      by_cases l:k=st.n
      ·subst l;rw [ZF];trivial
      ·rw [ZP _ _ l];exact (hU.ob k).mono up
     ·show upd st.ob st.n _ k=_
      rw [ZP _ _ fun e=>l (.inr e)];exact hU.gone k fun h=>l (.inl h)
    ·exact A
   ·rename_i k H
    split
    ·rename_i e q xs d f
     obtain ⟨g1,i1,i2,i3,C,i4⟩:=P k e q xs d f
     refine ⟨U,⟨⟨g1,i1,fun t=>?_⟩,⟨fun t=>?_,fun j=>?_,fun j hj=>?_⟩,B,hh⟩,hk⟩
     ·show SVR g1 w (upd st.sl m.2.1 (.p ag (cs.set m.2.2 (.c (.sl e q xs)))) t) _
      by_cases ht:t=m.2.1
      ·subst ht
       rw [ZF]
       have h1:PVR g1 w ag cs (a.tmps.getD m.2.1 undef):=(show SVR g w (.p ag cs) _ from hs).less i2 i3
       exact R h1 H fun u hu=>i4 u ⟨hu.1.trans (by rw [i2]),hu.2⟩
      ·rw [ZP _ _ ht];exact (hS t).less i2 i3
     ·show svU _ (upd st.sl m.2.1 (.p ag (cs.set m.2.2 (.c (.sl e q xs)))) t)
      by_cases ht:t=m.2.1
      ·subst ht;rw [ZF];exact K G trivial
      ·rw [ZP _ _ ht];exact hU.sl t
     ·show obU U (upd st.ob k (.row e q xs 0) j)
      by_cases h1:j=k
      ·subst h1;rw [ZF];trivial
      ·rw [ZP _ _ h1];exact hU.ob j
     ·show upd st.ob k (.row e q xs 0) j=_
      rw [ZP _ _ (show j≠k from fun e'=>hj (e' ▸ C))];exact hU.gone j hj
    ·exact A
   ·exact A
  ·exact A
 ·split
  ·rename_i ty cs f
   split
   ·rename_i e q H
    split
    ·rename_i hq
     obtain ⟨g',t1,t2,t3,t4⟩:=T e q hq g hH
     have C:U m.2.1:=Classical.byContradiction fun hn=>by have:=hU.gone _ hn;rw [f] at this;simp at this
     have E:m.2.1≠st.n:=fun e=>S (e ▸ C)
     have G:QW U cs:=by have:=hU.ob m.2.1;rw [f] at this;exact this
     have F:=t1.obs m.2.1
     rw [ZP _ _ E,f] at F
     obtain ⟨b,vs,b1,b2,b3,b4,b5⟩:=F
     obtain ⟨u,u1,u2⟩:=b5.at H
     have Y:u=.slice none 0 0:=u2
     have aa:vs.set m.2.2 u=vs:=by
      obtain ⟨hl,he⟩:=A6.1 u1
      rw [←he];exact AM hl
     have I:ObR g' w m.2.1 (.box ty (cs.set m.2.2 (.row st.n))):=by
      refine ⟨b,vs,b1,b2,b3,b4,?_⟩
      have:=b5.set (i:=m.2.2) (a:=AV.row st.n) (b:=u) ⟨by rw [Y,t3],by rw [Y];rfl⟩
      rw [aa] at this
      exact this
     have J:∀k,(upd (upd st.ob m.2.1 (.box ty (cs.set m.2.2 (.row st.n)))) st.n (.row e q [] 2)) k=if k=m.2.1 then .box ty (cs.set m.2.2 (.row st.n)) else (upd st.ob st.n (.row e q [] 2)) k:=fun k=>by
      by_cases h1:k=st.n
      ·have h2:¬k=m.2.1:=fun e'=>E (e'.symm.trans h1)
       have h3:¬st.n=m.2.1:=fun e'=>E e'.symm
       simp [upd,h1,h3]
      ·by_cases h2:k=m.2.1
       ·simp [upd,h2,E]
       ·simp [upd,h1,h2]
     refine ⟨fun k=>U k∨k=st.n,⟨⟨g',⟨t1.below,fun k=>?_,t1.nodup,t1.apart,fun k b mb=>⟨(t1.plain k b mb).1,(t1.plain k b mb).2.of (by
       show ZkR ((upd (upd st.ob m.2.1 (.box ty (cs.set m.2.2 (.row st.n)))) st.n (.row e q [] 2)) k)=_
       rw [J k]
       split
       ·rename_i h1;subst h1;rw [ZP _ _ E,f];rfl
       ·rfl)⟩,t1.gz,t1.zx,t1.nw⟩,fun t=>t2 _ _ (hU.sl t) (hS t)⟩,⟨fun t=>(hU.sl t).mono up,fun k=>?_,fun k l=>?_⟩,B,hh⟩,N⟩
     ·show ObR g' w k ((upd (upd st.ob m.2.1 (.box ty (cs.set m.2.2 (.row st.n)))) st.n (.row e q [] 2)) k)
      rw [J k]
      split
      ·rename_i h1;subst h1;exact I
      ·exact t1.obs k
     ·show obU _ ((upd (upd st.ob m.2.1 (.box ty (cs.set m.2.2 (.row st.n)))) st.n (.row e q [] 2)) k)
      rw [J k]
      split
      ·intro y my
       rcases AN my with my | my
       ·exact (G y my).mono up
       ·subst my;exact .inr rfl
      ·by_cases h1:k=st.n
       ·subst h1;rw [ZF];trivial
       ·rw [ZP _ _ h1];exact (hU.ob k).mono up
     ·show (upd (upd st.ob m.2.1 (.box ty (cs.set m.2.2 (.row st.n)))) st.n (.row e q [] 2)) k=_
      rw [J k,if_neg (show ¬k=m.2.1 from fun e'=>l (.inl (e' ▸ C))),ZP _ _ (show k≠st.n from fun e'=>l (.inr e'))]
      exact hU.gone k fun h=>l (.inl h)
    ·exact A
   ·rename_i k H
    split
    ·rename_i e q xs d M
     obtain ⟨g1,i1,i2,i3,C,i4⟩:=P k e q xs d M
     have ab:U m.2.1:=Classical.byContradiction fun hn=>by have:=hU.gone _ hn;rw [f] at this;simp at this
     have E:k≠m.2.1:=fun e'=>by rw [e',f] at M;simp at M
     have G:QW U cs:=by have:=hU.ob m.2.1;rw [f] at this;exact this
     have F:=i1.obs m.2.1
     rw [ZP _ _ (fun e'=>E e'.symm),f] at F
     obtain ⟨b,vs,b1,b2,b3,b4,b5⟩:=F
     obtain ⟨u,u1,u2⟩:=b5.at H
     have I:ObR g1 w m.2.1 (.box ty (cs.set m.2.2 (.c (.sl e q xs)))):=⟨b,vs,b1,b2,b3,b4,Q b5 u1 (i4 u ⟨u2.1.trans (by rw [i2]),u2.2⟩)⟩
     refine ⟨U,⟨⟨g1,⟨i1.below,fun j=>?_,i1.nodup,i1.apart,fun j b mb=>⟨(i1.plain j b mb).1,(i1.plain j b mb).2.of (by
       show ZkR (upd (upd st.ob k (.row e q xs 0)) m.2.1 (.box ty (cs.set m.2.2 (.c (.sl e q xs)))) j)=_
       by_cases h1:j=m.2.1
       ·subst h1;rw [ZF,ZP _ _ (fun e'=>E e'.symm),f];rfl
       ·rw [ZP _ _ h1])⟩,i1.gz,i1.zx,i1.nw⟩,fun t=>(hS t).less i2 i3⟩,⟨hU.sl,fun j=>?_,fun j hj=>?_⟩,B,hh⟩,hk⟩
     ·show ObR g1 w j (upd (upd st.ob k (.row e q xs 0)) m.2.1 (.box ty (cs.set m.2.2 (.c (.sl e q xs)))) j)
      by_cases h1:j=m.2.1
      ·subst h1;rw [ZF];exact I
      ·rw [ZP _ _ h1];exact i1.obs j
     ·show obU U (upd (upd st.ob k (.row e q xs 0)) m.2.1 (.box ty (cs.set m.2.2 (.c (.sl e q xs)))) j)
      by_cases h1:j=m.2.1
      ·subst h1;rw [ZF];exact K G trivial
      ·rw [ZP _ _ h1]
       by_cases h2:j=k
       ·subst h2;rw [ZF];trivial
       ·rw [ZP _ _ h2];exact hU.ob j
     ·show upd (upd st.ob k (.row e q xs 0)) m.2.1 (.box ty (cs.set m.2.2 (.c (.sl e q xs)))) j=_
      rw [ZP _ _ (show j≠m.2.1 from fun e'=>hj (e' ▸ ab)),ZP _ _ (show j≠k from fun e'=>hj (e' ▸ C))];exact hU.gone j hj
    ·exact A
   ·exact A
  ·rename_i e q xs d f
   split
   ·rename_i ac
    have C:U m.2.1:=Classical.byContradiction fun hn=>by have:=hU.gone _ hn;rw [f] at this;simp at this
    obtain ⟨g1,t1,t2,t3⟩:=ZyI hH f ac
    refine ⟨U,⟨⟨g1,t1,fun t=>(hS t).less t2 t3⟩,⟨hU.sl,fun k=>?_,fun k l=>?_⟩,B,hh⟩,hk⟩
    ·show obU U (upd st.ob m.2.1 (.row e q xs m.2.2) k)
     by_cases h1:k=m.2.1
     ·subst h1;rw [ZF];trivial
     ·rw [ZP _ _ h1];exact hU.ob k
    ·show upd st.ob m.2.1 (.row e q xs m.2.2) k=_
     rw [ZP _ _ (show k≠m.2.1 from fun e'=>l (e' ▸ C))];exact hU.gone k l
   ·exact A
  ·exact A
theorem Zxi [NW] (m:Bool × Nat × Nat) (hI:Inv W U st a w) (hk:∀k,st.n≤k→¬U k):∃U',Inv W U' (st.matN m) a w∧∀k,(st.matN m).n≤k→¬U' k:=by
 have c:∃U',Inv W U' st a w∧∀k,st.n≤k→¬U' k:=⟨U,hI,hk⟩
 obtain ⟨⟨g,hH,hS⟩,hU,o,hh⟩:=hI
 unfold St.matN
 split
 ·rename_i ag cs x
  have A:QW U cs:=by have:=hU.sl m.2.1;rw [x] at this;exact this
  have hs:=hS m.2.1
  rw [x] at hs
  split
  ·rename_i k f
   split
   ·rename_i e q xs d l
    split
    ·rename_i hd
     subst hd
     obtain ⟨g1,i1,i2,i3,i5⟩:=Zju hH k
     rw [l] at i1
     obtain ⟨hm,B,L,o1,o2,o3,o5⟩:=hH.deep l
     have i4:∀v,AVR g w (.row k) v→AVR g1 w (.n (.sl e q xs)) v:=fun v hv=>by
      rcases o5 with ⟨_,q1,q2⟩ | ⟨q1,_⟩ | ⟨q1,_⟩
      ·have hN:=hH.nodup k
       have hP:=hH.plain k
       have hF:=i5 ⟨_,_,_,_,l⟩
       rw [q1,q2] at hN hP hF
       rw [l] at hP
       refine ⟨e,q,xs,B,L,rfl,hm,by rw [hv.1];exact o1,o2,by rw [hv.1];exact hN,fun b mb=>?_⟩
       rw [hv.1] at mb
       exact ⟨hF b mb,hH.nw b (hP b mb).1,(hP b mb).2⟩
      ·omega
      ·omega
     have C:U k:=Classical.byContradiction fun hn=>by have:=hU.gone _ hn;rw [l] at this;simp at this
     refine ⟨U,⟨⟨g1,i1,fun t=>?_⟩,⟨fun t=>?_,fun j=>?_,fun j hj=>?_⟩,o,hh⟩,hk⟩
     ·show SVR g1 w (upd st.sl m.2.1 (.p ag (cs.set (m.2.2 - 4096) (.n (.sl e q xs)))) t) _
      by_cases ht:t=m.2.1
      ·subst ht
       rw [ZF]
       have h0:PVR g w ag cs (a.tmps.getD m.2.1 undef):=hs
       have h1:PVR g1 w ag cs (a.tmps.getD m.2.1 undef):=(show SVR g w (.p ag cs) _ from hs).less i2 i3
       cases ag with
       | true=>
        obtain ⟨vs,e1,h4⟩:=h0
        obtain ⟨D,y,E⟩:=h1
        have ev:vs=D:=by rw [e1] at y;simpa using y
        subst ev
        obtain ⟨u,u1,u2⟩:=h4.at f
        refine ⟨vs,e1,?_⟩
        have:=E.set (i:=m.2.2 - 4096) (i4 u u2)
        obtain ⟨hl,he⟩:=A6.1 u1
        rw [←he,AM hl] at this
        exact this
       | false=>
        obtain ⟨z,rfl,h4⟩:=h0
        cases hj:m.2.2 - 4096 with
        | zero=>rw [hj] at f;simp at f;subst f;exact ⟨_,rfl,i4 _ h4⟩
        | succ j=>rw [hj] at f;simp at f
      ·rw [ZP _ _ ht];exact (hS t).less i2 i3
     ·show svU U (upd st.sl m.2.1 (.p ag (cs.set (m.2.2 - 4096) (.n (.sl e q xs)))) t)
      by_cases ht:t=m.2.1
      ·subst ht;rw [ZF]
       intro z mz
       rcases AN mz with mz | mz
       ·exact A z mz
       ·subst mz;trivial
      ·rw [ZP _ _ ht];exact hU.sl t
     ·show obU U (upd st.ob k (.row e q xs 0) j)
      by_cases h1:j=k
      ·subst h1;rw [ZF];trivial
      ·rw [ZP _ _ h1];exact hU.ob j
     ·show upd st.ob k (.row e q xs 0) j=_
      rw [ZP _ _ (show j≠k from fun e'=>hj (e' ▸ C))];exact hU.gone j hj
    ·exact c
   ·exact c
  ·exact c
 ·exact c
theorem Znp [NW]:∀(ms:List (Bool × Nat × Nat)) {U:Nat→Prop} {st:St},Inv W U st a w→(∀k,st.n≤k→¬U k)→∃U',Inv W U' (st.mats ms) a w
 | [],U,st,hI,_=>⟨U,hI⟩
 | m::r,U,st,hI,hk=>by
  simp only[St.mats]
  split
  ·obtain ⟨U',h1,h2⟩:=Zxi m hI hk
   exact Znp r h1 h2
  ·obtain ⟨U',h1,h2⟩:=Zyf m hI hk
   exact Znp r h1 h2
theorem least {p:Nat→Prop} (h:∃n,p n):∃n,p n∧∀m,m<n→¬p m:=by
 obtain ⟨n,hn⟩:=h
 induction n using Nat.strongRecOn with
 | _ n ih=>
  by_cases hm:∃m,m<n∧p m
  ·obtain ⟨m,h1,h2⟩:=hm;exact ih m h1 h2
  ·exact ⟨n,hn,fun m h1 h2=>hm ⟨m,h1,h2⟩⟩
theorem ZvN [NW] {c:Code} {Q:Exit→Act→World→Prop} (J:Nat→Act→World→Prop) (n:Nat) (h₀:J n a w) (b:∀n a w,J n a w→c.wp P (Exit.then (fun a' w'=>∃m,m<n∧J m a' w') Q) a w):(Code.loop c).wp P Q a w:=by
 classical
 let μ:Act→World→Nat:=fun a w=>if h:∃n,J n a w then Classical.choose (least h) else 0
 have hμ:∀a w (h:∃n,J n a w),J (μ a w) a w∧∀m,m<μ a w→¬J m a w:=fun a w h=>by
  simp only[μ,dif_pos h]
  exact Classical.choose_spec (least h)
 refine wp_loop (fun a w=>∃n,J n a w) μ ⟨n,h₀⟩ fun a w h=>?_
 refine wp_mono (b (μ a w) a w (hμ a w h).1) fun e a' w' he=>?_
 cases e with
 | normal=>
  obtain ⟨m,h1,h2⟩:=he
  refine ⟨⟨m,h2⟩,?_⟩
  have h3:=hμ a' w' ⟨m,h2⟩
  rcases Nat.lt_or_ge m (μ a' w') with h4 | h4
  ·exact absurd h2 (h3.2 m h4)
  ·omega
 | _=>exact he
mutual
theorem RC.deep {w:World}:∀{x:CT} {v:Value} {L:List Nat},RC w x v L→ctD x
 | .int _ _,_,_,_=>trivial
 | .bool _,_,_,_=>trivial
 | .str _,_,_,h=>h.2.2
 | .sl _ _ _,_,_,⟨A,cap,cs,L0,L1,h1,h2,h3,h4,h5,h6,h7⟩=>⟨by unfold maxLen at h3;omega,h7.deep⟩
 | .pt _,_,_,⟨_,_,_,_,_,_,_,h⟩=>h.deep
 | .fn _ _,_,_,⟨_,_,h⟩=>h.deep
 | .mp _ _ _,_,_,_=>trivial
 | .ifc _,_,_,_=>trivial
 | .any,_,_,_=>trivial
 | .nl _ _,_,_,_=>trivial
theorem RCs.deep {w:World}:∀{x:List CT} {v:List Value} {L:List Nat},RCs w x v L→ctsD x
 | [],_,_,_=>trivial
 | _::_,_,_,⟨v,cs,L1,L2,h1,h2,h3,h4⟩=>⟨h3.deep,h4.deep⟩
theorem REs.deep {w:World} {m:Nat}:∀{x:List (List CT)} {v:List Value} {L:List Nat},REs w m x v L→essD x
 | [],_,_,_=>trivial
 | _::_,_,_,⟨c1,c2,L1,L2,h1,h2,h3,h4⟩=>⟨h3.1.deep,h4.deep⟩
end
theorem AVR.deep [NW] {g:Gh} {w:World}:∀{x:AV} {v:Value},AVR g w x v→avD x
 | .c _,_,⟨_,h,_⟩=>h.deep
 | .n _,_,h=>by obtain ⟨_,h1,_⟩:=NR.toC h;exact h1.deep
 | .row _,_,_=>trivial
 | .nil _ _,_,_=>trivial
 | .dead,_,_=>trivial
theorem AVRs.deep [NW] {g:Gh} {w:World}:∀{x:List AV} {v:List Value},ZM (AVR g w) x v→ZwH x
 | [],[],_=>trivial
 | _::_,_::_,h=>⟨h.1.deep,AVRs.deep h.2⟩
 | [],_::_,h=>h.elim
 | _::_,[],h=>h.elim
theorem Inv.deep [NW] (hI:Inv W U st a w):WF st:=by
 obtain ⟨⟨g,hH,hS⟩,hU,hdef,hh⟩:=hI
 refine ⟨fun t b cs ht=>?_,fun k t cs hk=>?_,fun k e m xs d hk=>?_⟩
 ·have h:=hS t
  rw [ht] at h
  cases b with
  | true=>obtain ⟨vs,_,h2⟩:=h;exact AVRs.deep h2
  | false=>obtain ⟨x,rfl,h2⟩:=h;exact ⟨h2.deep,trivial⟩
 ·have h:=hH.obs k
  rw [hk] at h
  obtain ⟨b,vs,_,_,_,_,h2⟩:=h
  exact AVRs.deep h2
 ·have h:=hH.obs k
  rw [hk] at h
  obtain ⟨_,cs,L,h1,h2,_⟩:=h
  refine ⟨?_,h2.deep⟩
  rcases h1.2 with ⟨_,h3⟩ | ⟨_,_,cap,_,_,_,_,h3,h4,_⟩
  ·omega
  ·unfold maxLen at h4;omega
def ZCS:Ex→Exit
 | .normal=>.normal
 | .exit id=>.exit id
 | .ret=>.ret
def X7 (od:OD) (tt:Nat→Option TI) (hs:FuncId→Nat) (k0:Bool) (N:Nat):Code→Bool
 | .skip=>true
 | .region id ops d=>(ops.toList.all fun o=>match o.dst with | some t=>Nat.blt t N&&(!k0||Nat.blt 0 t) | none=>true)&&(match od id with | none=>!d||ZtF tt hs ops | some l=>d&&Zuy tt hs l.2 ops l.1)
 | .seq x y=>X7 od tt hs k0 N x&&X7 od tt hs k0 N y
 | .cond _ x y=>X7 od tt hs k0 N x&&X7 od tt hs k0 N y
 | .block _ x=>X7 od tt hs k0 N x
 | .loop x=>X7 od tt hs k0 N x
 | .exit _=>true
 | .ret=>true
 | _=>false
theorem ZaD [NW] {od:OD} (htt:MOk P J JF W tt) (hmix:P.follows .mixedOrders=true) {hds:FuncId→Nat} {k0:Bool} (v:W.hv=none∨k0=true) {N:Nat}:∀(c:Code),X7 od tt hds k0 N c=true→∀(Qs:Ex→St→Prop) (Q:Exit→Act→World→Prop),
  (∀ex U' st' a' w',Inv W U' st' a' w'→(∀k,st'.n≤k→¬U' k)→a'.tmps.size=N→Qs ex st'→Q (ZCS ex) a' w')→
  ∀U st a w,Inv W U st a w→(∀k,st.n≤k→¬U k)→a.tmps.size=N→swp tt (SC P J JF hds) od c Qs st→c.wp P Q a w
 | .skip,_,Qs,Q,hQ,U,st,a,w,hI,hk,hs,h=>wp_skip (hQ .normal U st a w hI hk hs h)
 | .exit id,_,Qs,Q,hQ,U,st,a,w,hI,hk,hs,h=>wp_exit (hQ (.exit id) U st a w hI hk hs h)
 | .ret,_,Qs,Q,hQ,U,st,a,w,hI,hk,hs,h=>wp_ret (hQ .ret U st a w hI hk hs h)
 | .region id m d,f,Qs,Q,hQ,U,st,a,w,hI,hk,hs,h=>by
  simp only[X7,A4,AG] at f
  have hN:∀o∈m.toList,∀t,o.dst=some t→t<N∧(W.hv=none∨t≠0):=fun o mo t ht=>by
   have:=f.1 o mo
   rw [ht] at this
   simp only[A4,Bool.or_eq_true] at this
   refine ⟨AA this.1,v.imp (fun h=>h) fun h=>?_⟩
   rcases this.2 with h2 | h2
   ·rw [h] at h2;simp at h2
   ·have h3:0<t:=AA h2
    exact Nat.ne_of_gt h3
  have A:∀U' st' a' w',Inv W U' st' a' w'→(∀k,st.n+16 * m.toList.length≤k→¬U' k)→a'.tmps.size=N→Zqd (st.n+16 * m.toList.length) (Qs .normal) st'→Q .normal a' w':=fun U' st' a' w' h1 h2 h3 h4=>
   hQ .normal U' { st' with n:=st.n+16 * m.toList.length } a' w' ⟨h1.ex,⟨h1.wf.sl,h1.wf.ob,h1.wf.gone⟩,h1.defers,h1.hand⟩ h2 h3 h4
  have B:Inv W U st a { w with drawn:=w.drawn+1 }:=by
   obtain ⟨⟨g,hH,hS⟩,hU,E,hh⟩:=hI
   have hw:∀b,b<w.heap.size→¬g.own b→({ w with drawn:=w.drawn+1 }:World).heap[b]?=w.heap[b]?:=fun _ _ _=>rfl
   refine ⟨⟨g,hH.step (U:=U) (fun _=>False) ⟨hH.below.os,hH.below.tape,hH.below.output,hH.below.size,hH.below.block⟩ rfl (fun _ _ _=>rfl) (fun _ _=>⟨rfl,rfl,rfl,rfl⟩) hU.ob (fun _ _=>rfl) (QU.refl _ _) (fun _ h=>h.elim),fun t=>?_⟩,hU,E,hh⟩
   exact (hS t).move (hU.sl t) (fun _ _=>rfl) hw (QU.refl _ _) (A9 _)
  have z:∀(b:Bool) (R:List Nat),Zku tt hds b m R=true→(∀j,elB m j=true)→R.length≤m.size→(∀i,i∈R↔i<m.size)→Zf3 tt (SC P J JF hds) b m.toList st.n R (Zqd (st.n+16 * m.toList.length) (Qs .normal)) st→(Code.region id m true).wp P Q a w:=fun b R h1 h2 h3 h4 h5=>by
   refine wp_region_any hmix ?_
   refine Zvz (base:=st.n) htt hN h2 (fun U' st' a' w' h1 h2 h3 h4=>A U' st' a' w' h1 (by simpa using h2) h3 h4) m.size R (AB m.size false) U st a _ h3 (ZpU h1) yG (fun i=>?_) (fun i o ho hl=>?_) h5 B (fun j _ k C _=>hk k yE) (fun k C=>hk k yE) hs
   ·rw [h4]
    constructor
    ·intro hi;exact ⟨hi,by simp [AL,hi]⟩
    ·exact fun hi=>hi.1
   ·exfalso
    have hi:i<m.size:=(Array.getElem?_eq_some_iff.1 ho).1
    simp [AL,hi] at hl
  cases ho:od id with
  | none=>
   have u:=f.2
   simp only[ho] at u
   simp only[swp,ho,Zvi] at h
   have h':Z7 tt (SC P J JF hds) m.toList st.n m.toList (Zqd (st.n+16 * m.toList.length) (Qs .normal)) st:=h
   cases d with
   | false=>
    refine wp_region ?_
    have:=ZoZ (Q:=Q) htt hN m.toList 0 st.n U st a w yG h' hI hk hs A
    rw [AT]
    simpa using this
   | true=>
    have q:ZtF tt hds m=true:=by simpa using u
    simp only[ZtF,A4] at q
    have h2:=ZuG (tt:=tt) (S:=SC P J JF hds) (all:=m.toList) (base:=st.n) (K:=Zqd (st.n+16 * m.toList.length) (Qs .normal)) m.toList 0 st yG (by simpa using h')
    rw [←AT] at h2
    exact z false (List.range m.size) q.1 (ZrD q.2) yG yG (by simpa using h2)
  | some l=>
   have u:=f.2
   simp only[ho,A4] at u
   simp only[swp,ho,Zvi] at h
   obtain ⟨rfl,q⟩:=u
   simp only[Zuy,A4] at q
   exact z l.2 l.1 q.1.1.1.1 (ZrD q.1.1.1.2) (AA q.1.1.2) (fun i=>⟨fun mi=>AA (AG.1 q.1.2 i mi),fun hi=>by simpa using AG.1 q.2 i (by simpa using hi)⟩) h
 | .seq x y,f,Qs,Q,hQ,U,st,a,w,hI,hk,hs,h=>by
  simp only[X7,A4] at f
  refine wp_seq (ZaD htt hmix v x f.1 (ZgR (swp tt (SC P J JF hds) od y Qs) Qs) _ ?_ U st a w hI hk hs h)
  intro ex U' st' a' w' h1 h2 h3 h4
  cases ex with
  | normal=>exact ZaD htt hmix v y f.2 Qs Q hQ U' st' a' w' h1 h2 h3 h4
  | exit id=>exact hQ (.exit id) U' st' a' w' h1 h2 h3 h4
  | ret=>exact hQ .ret U' st' a' w' h1 h2 h3 h4
 | .cond c x y,f,Qs,Q,hQ,U,st,a,w,hI,hk,hs,h=>by
  simp only[X7,A4] at f
  simp only[swp,ZpB] at h
  split at h
  ·rename_i hb
   obtain ⟨b,D⟩:∃b,st.ev tt 0 c=.p false [.c (.bool b)]:=by
    unfold Zav at hb
    split at hb
    ·rename_i b he;exact ⟨b,he⟩
    ·simp at hb
   obtain ⟨g,hH,hS⟩:=hI.ex
   have hv:=(Zlm (P:=P) htt.tt hS hI.wf 0 c).1
   rw [D] at hv
   have G:=Zgr hv
   refine wp_cond G ?_
   cases b with
   | true=>rw [if_pos (by rw [D];rfl)] at h;exact ZaD htt hmix v x f.1 Qs Q hQ U st a w hI hk hs h
   | false=>rw [if_neg (by rw [D];simp [Qg])] at h;exact ZaD htt hmix v y f.2 Qs Q hQ U st a w hI hk hs h
  ·exact h.elim
 | .block id x,f,Qs,Q,hQ,U,st,a,w,hI,hk,hs,h=>by
  refine wp_block (ZaD htt hmix v x f (Zhd id Qs) _ ?_ U st a w hI hk hs h)
  intro ex U' st' a' w' h1 h2 h3 h4
  cases ex with
  | normal=>exact hQ .normal U' st' a' w' h1 h2 h3 h4
  | exit j=>
   show Exit.inBlock id Q (.exit j) a' w'
   simp only[Zhd] at h4
   simp only[Exit.inBlock]
   split
   ·rename_i e;rw [if_pos e] at h4;exact hQ .normal U' st' a' w' h1 h2 h3 h4
   ·rename_i e;rw [if_neg e] at h4;exact hQ (.exit j) U' st' a' w' h1 h2 h3 h4
  | ret=>exact hQ .ret U' st' a' w' h1 h2 h3 h4
 | .loop x,f,Qs,Q,hQ,U,st,a,w,hI,hk,hs,h=>by
  obtain ⟨n,hn⟩:=h
  refine ZvN (fun n a w=>∃U st,Inv W U st a w∧(∀k,st.n≤k→¬U k)∧a.tmps.size=N∧Zlo (swp tt (SC P J JF hds) od x) Qs n st) n ⟨U,st,hI,hk,hs,hn⟩ ?_
  rintro n a w ⟨U,st,hI,hk,hs,hn⟩
  cases n with
  | zero=>exact hn.elim
  | succ n=>
   obtain ⟨ms,ρ,hρ,hb⟩:=hn
   obtain ⟨U2,F⟩:=Znp ms hI hk
   refine ZaD htt hmix v x f (ZgR (Zlo (swp tt (SC P J JF hds) od x) Qs n) Qs) _ ?_ _ ((st.mats ms).ren ρ) a w (Zuv F hρ) (fun k C hU=>by simp only[St.ren] at C;omega) hs (hb (Zuv F hρ).deep)
   intro ex U' st' a' w' h1 h2 h3 h4
   cases ex with
   | normal=>exact ⟨n,yE,U',st',h1,h2,h3,h4⟩
   | exit id=>exact hQ (.exit id) U' st' a' w' h1 h2 h3 h4
   | ret=>exact hQ .ret U' st' a' w' h1 h2 h3 h4
 | .rangeFunc _ _ _ _,f,_,_,_,_,_,_,_,_,_,_,_=>by simp [X7] at f
 | .scope _,f,_,_,_,_,_,_,_,_,_,_,_=>by simp [X7] at f
 | .label _,f,_,_,_,_,_,_,_,_,_,_,_=>by simp [X7] at f
 | .goto _,f,_,_,_,_,_,_,_,_,_,_,_=>by simp [X7] at f
 | .refuse _,f,_,_,_,_,_,_,_,_,_,_,_=>by simp [X7] at f
end
end
section
section
variable {tt:Nat→Option TI} {S:Ctx} {all:List Oper} {key:Nat} {d:Option Nat} {ty:TypeId} {pos:String} {af:Array Edge} {r:List Oper} {K:St→Prop} {st:St}
theorem ZAv:Z7 tt S all key [] K st=K st:=yi rfl
theorem Zyy (x:Operand):Z7 tt S all key (⟨d,.move x,ty,pos,af,none⟩::r) K st=Z7 tt S all (key+16) r K (st.put d (st.ev tt ty x)):=yi rfl
theorem Zv8 (x:Operand):Z7 tt S all key (⟨d,.assign x,ty,pos,af,none⟩::r) K st=Z7 tt S all (key+16) r K (st.put d (st.ev tt ty x)):=yi rfl
def ZpI (v a b:SV) (K:SV→Prop):Prop:=if Zav v=true then (if Qg v=true then K a else K b) else False
theorem ZGA (a b:SV) (K:SV→Prop):ZpI (.p false [.c (.bool true)]) a b K=K a:=by simp [ZpI,Zav,Qg]
theorem ZGc (a b:SV) (K:SV→Prop):ZpI (.p false [.c (.bool false)]) a b K=K b:=by simp [ZpI,Zav,Qg]
theorem Zy8 (c a b:Operand):Z7 tt S all key (⟨d,.pick c a b,ty,pos,af,none⟩::r) K st=ZpI (st.ev tt 0 c) (st.ev tt ty a) (st.ev tt ty b) (Zib d (Z7 tt S all (key+16) r K) st):=by
 simp only[Z7,opG,ZaO,opS,Y7,Xl,opE,ZpI]
 generalize st.ev tt 0 c=v
 unfold Zav
 split
 ·simp only[Qg,YZ,if_true]
  split<;>simp [ZlC,Zib,St.app,Zn, *]
 ·simp [YZ]
theorem ZxD (t:TypeId):Z7 tt S all key (⟨d,.alloc t,ty,pos,af,none⟩::r) K st=YZ ((Zns (tt t)).map fun z=>(SV.bp key 0,[(key,Ob.box t z)])) (ZlC d (Z7 tt S all (key+16) r K) st):=yi rfl
def ZEy (key:Nat) (t:TypeId):SV→Option (SV × List (Nat × Ob))
 | .p _ cs=>some (.bp key 0,[(key,.box t cs)])
 | _=>none
theorem ZzQ (t:TypeId) (x:Operand):Z7 tt S all key (⟨d,.box t x,ty,pos,af,none⟩::r) K st=YZ (ZEy key t (st.ev tt t x)) (ZlC d (Z7 tt S all (key+16) r K) st):=yi rfl
def ZtC (tt:Nat→Option TI) (st:St) (parts:List (Nat × Operand)):Option TI→Option SV
 | some (.strct fs _ z)=>(Zj2 fs z (parts.map (ZgA tt st fs z))).map (.p true)
 | _=>none
theorem Za9 (v:Option SV):YZ (Zbo v) (ZlC d K st)=YZ v (Zib d K st):=by cases v<;>rfl
theorem Zxc (t:TypeId) (a:Array (Nat × Operand)):Z7 tt S all key (⟨d,.build t a,ty,pos,af,none⟩::r) K st=YZ (ZtC tt st a.toList (tt t)) (Zib d (Z7 tt S all (key+16) r K) st):=by
 rw [←Za9]
 simp only[Z7,opG,ZaO,opS,Y7,Xl,opE,ZtC]
 cases tt t with
 | none=>rfl
 | some ti=>cases ti<;>first | rfl | (simp [Zbo,Option.map_map];rfl)
def ZC8 (st:St) (key len:Nat) (is:List Nat) (xs:List SV) (e:Nat):Option TI→Option (SV × List (Nat × Ob))
 | some (.slice _ m _ z)=>(Xi st m xs).bind fun a=>if is=List.range len∧len * m≤16777216∧a.2.1.Nodup∧(!z.all Zkq||a.2.1.isEmpty)=true then some (.p false [.row key],ZU st a.2.1++[(key,.row e m a.1 a.2.2)]) else none
 | _=>none
def Zqt:Option TI→Nat
 | some (.slice e _ _ _)=>e
 | _=>0
theorem ZCr (t:TypeId) (len:Nat) (a:Array (Nat × Operand)):Z7 tt S all key (⟨d,.buildSlice t len a,ty,pos,af,none⟩::r) K st=YZ (ZC8 st key len (a.toList.map (·.1)) (a.toList.map fun p=>st.ev tt (Zqt (tt t)) p.2) (Zqt (tt t)) (tt t)) (ZlC d (Z7 tt S all (key+16) r K) st):=by
 simp only[Z7,opG,ZaO,opS,Y7,Xl,opE,ZC8,Zqt]
 cases tt t with
 | none=>rfl
 | some ti=>cases ti<;>rfl
theorem ZyP (t:TypeId) (x:Operand):Z7 tt S all key (⟨d,.load t x,ty,pos,af,none⟩::r) K st=YZ (QZ st (tt t) (st.ev tt 0 x)) (Zib d (Z7 tt S all (key+16) r K) st):=Za9 _
def ZDX (d:Option Nat) (K:St→Prop) (st:St) (u:List (Nat × Ob)):Prop:=K ((st.put d .und).app u)
theorem ZwE (t:TypeId) (x v:Operand):Z7 tt S all key (⟨d,.store t x v,ty,pos,af,none⟩::r) K st=YZ (Zng st (tt t) (st.ev tt 0 x) (st.ev tt t v)) (ZDX d (Z7 tt S all (key+16) r K) st):=by
 simp only[Z7,opG,ZaO,opS,Y7,Xl,opE]
 cases Zng st (tt t) (st.ev tt 0 x) (st.ev tt t v)<;>rfl
def ZCy:SV→Option SV
 | .bp k i=>some (.bp k i)
 | .rp k m i j=>some (.rp k m i j)
 | .ep e i=>some (.ep e i)
 | .p false [.c (.pt e)]=>some (.p false [.c (.pt e)])
 | _=>none
theorem ZBP (x:Operand):Z7 tt S all key (⟨d,.nilCheck x,ty,pos,af,none⟩::r) K st=YZ (ZCy (st.ev tt 0 x)) (Zib d (Z7 tt S all (key+16) r K) st):=by
 simp only[Z7,opG,ZaO,opS,Y7,Xl,opE,←Za9,ZCy]
 generalize st.ev tt 0 x=v
 cases v with
 | p ag cs=>cases ag with
  | true=>rfl
  | false=>cases cs with
   | nil=>rfl
   | cons y r=>cases r<;>cases y<;>first | rfl | (rename_i z;cases z<;>rfl) | (rename_i z _ _;cases z<;>rfl)
 | _=>rfl
theorem ZAq (op:BinOp) (t u:TypeId) (x y:Operand):Z7 tt S all key (⟨d,.binOp op t x y u,ty,pos,af,none⟩::r) K st=YZ (Zx6 tt t (ZkC y) op (st.ev tt t x) (st.ev tt t y)) (Zib d (Z7 tt S all (key+16) r K) st):=Za9 _
theorem ZF8 (op:UnOp) (t:TypeId) (x:Operand):Z7 tt S all key (⟨d,.unOp op t x,ty,pos,af,none⟩::r) K st=YZ (unV op (st.ev tt 0 x)) (Zib d (Z7 tt S all (key+16) r K) st):=Za9 _
theorem Zyd (s t:TypeId) (x:Operand):Z7 tt S all key (⟨d,.convert s t x,ty,pos,af,none⟩::r) K st=YZ (ZgN tt st s t (st.ev tt 0 x)) (Zib d (Z7 tt S all (key+16) r K) st):=Za9 _
theorem Zyt (t:TypeId) (n c:Operand):Z7 tt S all key (⟨d,.makeSlice t n c,ty,pos,af,none⟩::r) K st=YZ (Zso key (tt t) (st.ev tt 0 n) (st.ev tt 0 c)) (ZlC d (Z7 tt S all (key+16) r K) st):=yi rfl
theorem Zxl (t:TypeId) (x:Operand) (lo hi:Option Operand):Z7 tt S all key (⟨d,.slice t x lo hi none,ty,pos,af,none⟩::r) K st=YZ (Zaf st key (tt t) (lo.map (st.ev tt 0)) (hi.map (st.ev tt 0)) (st.ev tt 0 x)) (ZlC d (Z7 tt S all (key+16) r K) st):=yi rfl
def ZAQ (fs:Option TI) (f:Nat):Option Nat:=match fs with | some (.strct fs _ _)=>(fs[f]?).map FI.off | _=>none
def ZBj (fs:Option TI) (f:Nat) (v:SV):Option SV:=(ZAQ fs f).bind fun o=>ZkQ o v
theorem ZCx (t:TypeId) (x:Operand) (f:Nat):Z7 tt S all key (⟨d,.fieldAddr t x f,ty,pos,af,none⟩::r) K st=YZ (ZBj (tt t) f (st.ev tt 0 x)) (Zib d (Z7 tt S all (key+16) r K) st):=by
 rw [←Za9]
 simp only[Z7,opG,ZaO,opS,Y7,Xl,opE,ZBj,ZAQ]
 cases tt t with
 | none=>rfl
 | some ti=>cases ti<;>first | rfl | (simp only[Option.bind_map];rfl)
def ZDk (fs:Option TI) (f:Nat) (v:SV):Option SV:=match fs with | some (.strct fs _ _)=>ZmF fs f v | _=>none
theorem ZDw (t:TypeId) (x:Operand) (f:Nat):Z7 tt S all key (⟨d,.field t x f,ty,pos,af,none⟩::r) K st=YZ (ZDk (tt t) f (st.ev tt 0 x)) (Zib d (Z7 tt S all (key+16) r K) st):=by
 rw [←Za9]
 simp only[Z7,opG,ZaO,opS,Y7,Xl,opE,ZDk]
 cases tt t with
 | none=>rfl
 | some ti=>cases ti<;>rfl
def ZCe (st:St) (t:Option TI) (x i:SV):Option SV:=match t with | some (.slice _ m _ _)=>ZbC st m x i | _=>none
theorem ZAe (t:TypeId) (x i:Operand):Z7 tt S all key (⟨d,.indexAddr t x i,ty,pos,af,none⟩::r) K st=YZ (ZCe st (tt t) (st.ev tt 0 x) (st.ev tt 0 i)) (Zib d (Z7 tt S all (key+16) r K) st):=by
 rw [←Za9]
 simp only[Z7,opG,ZaO,opS,Y7,Xl,opE,ZCe]
 cases tt t with
 | none=>rfl
 | some ti=>cases ti<;>rfl
theorem ZDS (t:TypeId) (x i:Operand):Z7 tt S all key (⟨d,.index t x i,ty,pos,af,none⟩::r) K st=YZ (ZmC (tt t) (st.ev tt 0 x) (st.ev tt 0 i)) (Zib d (Z7 tt S all (key+16) r K) st):=Za9 _
theorem ZAB (x:Operand) (i:Nat):Z7 tt S all key (⟨d,.extract x i,ty,pos,af,none⟩::r) K st=YZ (Zw4 i (st.ev tt 0 x)) (Zib d (Z7 tt S all (key+16) r K) st):=Za9 _
theorem ZC5 (b:Builtin) (args:Array Operand) (ts:Array TypeId):Z7 tt S all key (⟨d,.call ⟨.builtin b,args,ts⟩,ty,pos,af,none⟩::r) K st=YZ (Zf7 tt st key b ts.toList (evs tt st ts.toList args.toList)) (ZlC d (Z7 tt S all (key+16) r K) st):=yi rfl
def ZEr (f:FuncId) (n:Nat) (st:St) (vs:List SV):Option (SV × List (Nat × Ob)):=if n=0 then (ZeM st vs).bind fun r=>if (r.2.map (·.1)).Nodup then some (.p false [.c (.fn f r.1)],r.2) else none else none
theorem ZzJ (f:FuncId) (first a:Array Operand):Z7 tt S all key (⟨d,.makeFunc (.func f) first a,ty,pos,af,none⟩::r) K st=YZ (ZEr f first.size st (a.toList.map (st.ev tt 0))) (ZlC d (Z7 tt S all (key+16) r K) st):=yi rfl
theorem ZAu (t:TypeId):Z7 tt S all key (⟨d,.makeMap t none,ty,pos,af,none⟩::r) K st=YZ (Zo7 key (tt t)) (ZlC d (Z7 tt S all (key+16) r K) st):=yi rfl
theorem Zzb (t:TypeId) (x i:Operand) (ok:Bool):Z7 tt S all key (⟨d,.lookup t x i ok,ty,pos,af,none⟩::r) K st=YZ (Zhf st (tt t) (st.ev tt 0 x) (st.ev tt 0 i) ok) (Zib d (Z7 tt S all (key+16) r K) st):=Za9 _
theorem ZDr (t:TypeId) (x i v:Operand):Z7 tt S all key (⟨d,.mapUpdate t x i v,ty,pos,af,none⟩::r) K st=YZ (ZvR st (tt t) (st.ev tt 0 x) (st.ev tt 0 i) (st.ev tt 0 v)) (ZDX d (Z7 tt S all (key+16) r K) st):=by
 simp only[Z7,opG,ZaO,opS,Y7,Xl,opE]
 cases ZvR st (tt t) (st.ev tt 0 x) (st.ev tt 0 i) (st.ev tt 0 v)<;>rfl
theorem ZBA (s:Nat) (args:Array Operand) (ts:Array TypeId):Z7 tt S all key (⟨d,.call ⟨.value (.tmp s),args,ts⟩,ty,pos,af,none⟩::r) K st=YZ (Zo2 (st.sl s)) (ZD5 S key d (Z7 tt S all (key+16) r K) st (evs tt st ts.toList args.toList)):=yi rfl
theorem Zyk (vs:List SV) (f:FuncId) (es:List CT):ZD5 S key d K st vs (f,es)=(S.hd f=0∧spK S f 0 key d K st (vs++es.map Zk9)):=yi rfl
theorem Zya (f:FuncId) (args:Array Operand) (ts:Array TypeId):Z7 tt S all key (⟨d,.call ⟨.value (.func f),args,ts⟩,ty,pos,af,none⟩::r) K st=spK S f (S.hd f) key d (Z7 tt S all (key+16) r K) st (evs tt st ts.toList args.toList):=yi rfl
theorem ZGa (f:FuncId) (vs:List SV):spK S f 0 key d K st vs=YZ (Z1 st vs) (ZsM S f key d K st vs):=yi rfl
theorem ZGR (f:FuncId) (v:SV) (vs:List SV):spK S f 1 key d K st (v::vs)=YZ (Zf1 st v) fun kh=>YZ (Z1 st vs) (ZxW S f key d K st vs kh):=yi rfl
theorem ZGQ (f:FuncId) (vs:List SV):spK S f 3 key d K st vs=YZ (Z1 st vs) (ZB0 S f key d K st vs):=yi rfl
theorem ZGC (f:FuncId) (vs:List SV):spK S f 4 key d K st vs=YZ (Z1 st (vs.map nlS)) (ZsM S f key d K st (vs.map nlS)):=yi rfl
theorem ZGF (f:FuncId) (vs:List SV):spK S f 2 key d K st vs=YZ (Z1 st vs) (Zzi S f key d K st vs):=yi rfl
def gOf (all:List Oper) (j:Nat):Option Nat:=(all[j]?).bind (·.dst)
def gL (tt:Nat→Option TI) (S:Ctx) (all:List Oper) (key:Nat) (v:SV) (w:Bool) (o:Oper) (r:List Oper) (K:St→Prop) (st:St):Prop:=gK v w (Z7 tt S all key (o::r) K st) (Z7 tt S all (key+16) r K (st.put o.dst .und))
def ZsD (st:St):Option Nat→SV
 | some t=>st.sl t
 | none=>.und
theorem Zud (sl:Nat→SV) (ob:Nat→Ob) (n t:Nat):ZsD ⟨sl,ob,n⟩ (some t)=sl t:=yi rfl
theorem Zue:ZsD st none=.und:=yi rfl
theorem Zxx (op:Op) (j:Nat) (w:Bool):Z7 tt S all key (⟨d,op,ty,pos,af,some (j,w)⟩::r) K st=gL tt S all key (ZsD st (gOf all j)) w ⟨d,op,ty,pos,af,none⟩ r K st:=by
 cases hg:gOf all j with
 | none=>
  have h:ZaO all ⟨d,op,ty,pos,af,some (j,w)⟩=some (none,w):=by simp only[ZaO];rw [show (all[j]?).bind (·.dst)=none from hg]
  simp only[Z7,opG,h,gL,ZsD]
  simp [gK,Zav,ZrT]
 | some t=>
  have h:ZaO all ⟨d,op,ty,pos,af,some (j,w)⟩=some (some t,w):=by simp only[ZaO];rw [show (all[j]?).bind (·.dst)=some t from hg]
  simp only[Z7,opG,h,gL,ZsD]
  rfl
theorem ZFV (o:Oper):gL tt S all key (.p false [.c (.bool true)]) true o r K st=Z7 tt S all key (o::r) K st:=by simp [gL,gK,Zav,Qg]
theorem ZEZ (o:Oper):gL tt S all key (.p false [.c (.bool false)]) false o r K st=Z7 tt S all key (o::r) K st:=by simp [gL,gK,Zav,Qg]
theorem ZEv (o:Oper):gL tt S all key (.p false [.c (.bool true)]) false o r K st=Z7 tt S all (key+16) r K (st.put o.dst .und):=by simp [gL,gK,Zav,Qg]
theorem ZE0 (o:Oper):gL tt S all key (.p false [.c (.bool false)]) true o r K st=Z7 tt S all (key+16) r K (st.put o.dst .und):=by simp [gL,gK,Zav,Qg]
theorem ZDx (o:Oper) (w:Bool):gL tt S all key .und w o r K st=Z7 tt S all (key+16) r K (st.put o.dst .und):=by simp [gL,gK,Zav,ZrT]
theorem Zyu (v:SV):Zib d K st v=K (st.put d v):=yi rfl
theorem Zyi (v:SV) (u:List (Nat × Ob)):ZlC d K st (v,u)=K ((st.put d v).app u):=yi rfl
theorem ZyX (u:List (Nat × Ob)):ZDX d K st u=K ((st.put d .und).app u):=yi rfl
theorem ZvW {α:Type} (v:α) (K:α→Prop):YZ (some v) K=K v:=yi rfl
theorem Zvq {α:Type} (K:α→Prop):YZ none K=False:=yi rfl
theorem Zzk (n m:Nat) (sl:Nat→SV) (ob:Nat→Ob):Zqd n K ⟨sl,ob,m⟩=K ⟨sl,ob,n⟩:=yi rfl
theorem Zzr (a:List Oper) (sl:Nat→SV) (ob:Nat→Ob) (n:Nat):Zzh tt S a K ⟨sl,ob,n⟩=Z7 tt S a n a (Zqd (n+16 * a.length) K) ⟨sl,ob,n⟩:=yi rfl
theorem ZwU (sl:Nat→SV) (ob:Nat→Ob) (n t:Nat) (v:SV):St.put ⟨sl,ob,n⟩ (some t) v=⟨upd sl t v,ob,n⟩:=yi rfl
theorem Zxy (v:SV):St.put st none v=st:=yi rfl
theorem ZyY (sl:Nat→SV) (ob:Nat→Ob) (n:Nat):St.app ⟨sl,ob,n⟩ []=⟨sl,ob,n⟩:=yi rfl
theorem Zx3 (sl:Nat→SV) (ob:Nat→Ob) (n:Nat) (p:Nat × Ob) (u:List (Nat × Ob)):St.app ⟨sl,ob,n⟩ (p::u)=St.app ⟨sl,upd ob p.1 p.2,n⟩ u:=yi rfl
theorem ZDM {α:Type} (f:Nat→α) (k j:Nat) (v:α):upd f k v j=if j=k then v else f j:=yi rfl
end
section
variable {od:OD} {tt:Nat→Option TI} {S:Ctx} {Q:Ex→St→Prop} {st:St}
theorem Zzn:swp tt S od .skip Q st=Q .normal st:=yi rfl
theorem ZvD (id:Nat) (a:Array Oper) (dr:Bool):swp tt S (fun _=>none) (.region id a dr) Q st=Zzh tt S a.toList (Q .normal) st:=yi rfl
def Zyb:List (Nat × List Nat × Bool)→OD
 | [],_=>none
 | p::r,i=>if i=p.1 then some p.2 else Zyb r i
theorem ZCT (i:Nat):Zyb [] i=none:=yi rfl
theorem ZyQ (p:Nat × List Nat × Bool) (m:List (Nat × List Nat × Bool)) (i:Nat):Zyb (p::m) i=if i=p.1 then some p.2 else Zyb m i:=yi rfl
theorem Zzc (a:List Oper) (K:St→Prop):Zvi tt S none a K st=Zzh tt S a K st:=yi rfl
theorem ZyF (l:List Nat) (b:Bool) (a:List Oper) (K:St→Prop) (sl:Nat→SV) (ob:Nat→Ob) (n:Nat):Zvi tt S (some (l,b)) a K ⟨sl,ob,n⟩=Zf3 tt S b a n l (Zqd (n+16 * a.length) K) ⟨sl,ob,n⟩:=yi rfl
def ZF6 (tt:Nat→Option TI) (S:Ctx) (b:Bool) (all:List Oper) (key:Nat) (K:St→Prop) (st:St):Option Oper→Prop
 | some o=>ifB b (stk tt S o.op st) (Z7 tt S all key [o] K st)
 | none=>K st
theorem ZDv (b:Bool) (all:List Oper) (base:Nat) (K:St→Prop):Zf3 tt S b all base [] K st=K st:=yi rfl
theorem ZyW (b:Bool) (all:List Oper) (base i:Nat) (r:List Nat) (K:St→Prop):Zf3 tt S b all base (i::r) K st=ZF6 tt S b all (base+16 * i) (Zf3 tt S b all base r K) st (all[i]?):=by
 simp only[Zf3]
 cases all[i]?<;>rfl
theorem ZAd (b:Bool) (all:List Oper) (key:Nat) (K:St→Prop) (o:Oper):ZF6 tt S b all key K st (some o)=ifB b (stk tt S o.op st) (Z7 tt S all key [o] K st):=yi rfl
theorem ZFz (c:Bool) (P:Prop):ifB true c P=(c=true∧P):=yi rfl
theorem ZFs (c:Bool) (P:Prop):ifB false c P=P:=yi rfl
theorem ZzS (a b:Code):swp tt S od (.seq a b) Q st=swp tt S od a (ZgR (swp tt S od b Q) Q) st:=yi rfl
def ZsQ (tt:Nat→Option TI) (S:Ctx) (od:OD) (v:SV) (a b:Code) (Q:Ex→St→Prop) (st:St):Prop:=ZpB v (swp tt S od a Q st) (swp tt S od b Q st)
theorem ZyS (c:Operand) (a b:Code):swp tt S od (.cond c a b) Q st=ZsQ tt S od (st.ev tt 0 c) a b Q st:=yi rfl
theorem ZGu (a b:Code):ZsQ tt S od (.p false [.c (.bool true)]) a b Q st=swp tt S od a Q st:=by simp [ZsQ,ZpB,Zav,Qg]
theorem ZGk (a b:Code):ZsQ tt S od (.p false [.c (.bool false)]) a b Q st=swp tt S od b Q st:=by simp [ZsQ,ZpB,Zav,Qg]
theorem Zxv (id:Nat) (b:Code):swp tt S od (.block id b) Q st=swp tt S od b (Zhd id Q) st:=yi rfl
theorem Zyq (id:Nat):swp tt S od (.exit id) Q st=Q (.exit id) st:=yi rfl
theorem ZCk:swp tt S od .ret Q st=Q .ret st:=yi rfl
theorem ZGs (k:St→Prop):ZgR k Q .normal st=k st:=yi rfl
theorem ZGT (k:St→Prop) (i:Nat):ZgR k Q (.exit i) st=Q (.exit i) st:=yi rfl
theorem ZGL (k:St→Prop):ZgR k Q .ret st=Q .ret st:=yi rfl
theorem ZGN (i:Nat):Zhd i Q .normal st=Q .normal st:=yi rfl
theorem ZGi (i:Nat):Zhd i Q .ret st=Q .ret st:=yi rfl
theorem ZGW (i j:Nat):Zhd i Q (.exit j) st=if j=i then Q .normal st else Q (.exit j) st:=yi rfl
theorem ZCm (sl:Nat→SV) (ob:Nat→Ob) (n t s:Nat):St.ev tt ⟨sl,ob,n⟩ t (.tmp s)=sl s:=yi rfl
theorem ZxB (t:Nat) (v:Value):St.ev tt st t (.const v)=cvT (tt t) v:=yi rfl
theorem ZyH (t f:Nat):St.ev tt st t (.func f)=.fn f:=yi rfl
theorem ZGM (rs:List ResultVar) (R:St→List RT→List Nat→Prop):ZvT tt rs R .ret st=match Zc3 tt st rs with | some x=>x.2.Nodup∧R st x.1 x.2 | none=>False:=yi rfl
theorem ZGS (rs:List ResultVar) (R:St→List RT→List Nat→Prop):ZvT tt rs R .normal st=match Zc3 tt st rs with | some x=>x.2.Nodup∧R st x.1 x.2 | none=>False:=yi rfl
end
attribute [go_sem] ZAv Zyy Zv8 Zy8 ZxD ZzQ Zxc ZCr ZyP ZwE ZBP ZAq ZF8 Zyd Zyt Zxl ZCx ZDw ZAe ZDS ZAB ZC5 Zya ZzJ ZAu Zzb ZDr ZBA Zyk ZEr Zo7 Zhf Zr8 ZvR Zvf Ze3 Zfc ZeM ZjZ ZjZ.zBox Zo2 Zk9 eqC ZnZ Zzm Zx0 ZsH Zub ZkC ZCl Zwo ZxJ Zx6 Ze6 Zni ZiG Zqi ZgN Zxx Zyu Zyi ZyX ZvW Zvq Zzk Zzr ZwU Zxy ZyY Zx3 ZDM Zzn ZvD Zzc ZyF ZDv ZyW ZAd ZCT ZyQ ZFz ZFs stk hdC ldB hdB Y7 List.head?_cons ZzS ZyS Zxv Zyq ZCk ZGs ZGT ZGL ZGN ZGi ZGW ZCm ZxB ZyH ZGM ZGS ZGA ZGc ZGu ZGk ZFV ZEZ ZEv ZE0 ZDx Zud Zue ZEy ZtC ZC8 Zqt Zkq AU List.all_nil List.isEmpty_nil Bool.true_or Bool.false_or Bool.or_true Bool.or_false Bool.false_and ZCy ZAQ ZBj ZDk ZCe gOf cvT Zns Zyz Zzz Zyn unV ZrI Zn4 ZbC ZmC cut QZ splice ZiO Zng ZkQ ZmF Zj2 ZgA avT Zge Zj5 ZgE Xi Za8 Zgh Zgk Zmi Zk2 Zor Zwn Zl8 Zaf mvS hiB loB Zky Zb4 ZcV Zso Zw4 Zbo Zf7 evs Zb9 Y0 Zdh Z1 ZjB ZGa ZGR ZGF Zf1 Zef ZbX Zia Zdi Zcr ZiP Yb Yc ZU ZGI ZEP wkC wkR Zp8 Zrr ZsA Zyv Zy0 ZAA ZyA ZwJ ZvE ZGQ ZGC nlA nlS Zjj Zzl ZyC ZrO ZoV ZjS Zus ZaX ZuL wk1 ZfT Zdc Zc3 ZK Ya Zdg List.length_cons List.length_nil AH List.length_replicate List.getElem?_cons_zero List.getElem?_cons_succ List.getElem?_nil AI List.map_nil AW Option.bind_none AO Option.map_none List.cons_append List.nil_append List.append_nil List.nodup_nil List.drop_zero List.drop_succ_cons List.drop_nil List.take_succ_cons List.take_zero List.take_nil List.set_cons_zero List.set_cons_succ List.range_zero Bool.and_true Bool.true_and Bool.and_self and_true true_and and_self AP A9 beq_self_eq_true AX ite_true ite_false Nat.zero_add Nat.lt_add_one Nat.zero_lt_succ eq_self or_false false_or and_false false_and or_self Nat.lt_irrefl true_or or_true List.not_mem_nil AJ List.mem_cons Bool.false_eq_true if_true if_false decide_true decide_false Bool.not_true Bool.not_false AY ne_eq not_true_eq_false not_false_eq_true
end
section
open Go.RowKit
section
variable {P:Program} {J:World→Prop} {JF:Nat→Prop} {W:ZaK} {U:Nat→Prop} {st:St} {w w':World} {a:Act} {tt:Nat→Option TI} {g:Gh}
def nK (g:Gh) (K:Nat→Prop) (b:Nat):Prop:=g.Z b∨∃k,K k∧b∈g.O k
theorem ZwB {k e m n B:Nat} {cs:List Value} (h:w.ownsV 0 e m (g.val k) n cs) (hB:∀b∈(g.val k).ownBlock.toList,B≤b):w.ownsV B e m (g.val k) n cs:=by
 refine ⟨h.1,?_⟩
 rcases h.2 with h0 | ⟨q,o,cap,a,hv,hg,r⟩
 ·exact .inl h0
 ·exact .inr ⟨q,o,cap,a,hv,hB q (by simp [hv,Value.ownBlock]),r⟩
variable {K:Nat→Prop}
theorem Zr1 [NW] (hI:HI W g st.ob w) (hK:∀k,K k→ZkR (st.ob k)=false∧∀e m xs d,st.ob k=.row e m xs d→d=2) {x:AV} {ct:Bool × CT} {ks:List Nat} {v:Value} (h:ZfT st x=some (ct,ks)) (l:∀k∈ks,K k∧∀b∈g.O k++g.D k,W.heap.size≤b) (hx:AVR g w x v):OC w W.heap.size (nK g K) ct v (g.F ks):=by
 have a:∀b,nK g K b→g.own b:=fun b hb=>by
  rcases hb with hz | ⟨k,_,mk⟩
  ·exact .inr hz
  ·exact .inl ⟨k,mk⟩
 cases x with
 | c y=>
  obtain ⟨L,h1,h2⟩:=hx
  cases y<;>simp only[ZfT,A3,A0] at h<;>obtain ⟨rfl,rfl⟩:=h
  ·exact ⟨⟨h1.1,rfl⟩,by simp [Gh.F]⟩
  ·exact ⟨⟨h1.1,rfl⟩,by simp [Gh.F]⟩
  ·exact ⟨⟨h1.1,rfl,h1.2.2⟩,by simp [Gh.F]⟩
  ·exact ⟨by simp [Gh.F],L,h1,fun b mb hb=>h2 b mb (a b hb)⟩
  ·exact ⟨by simp [Gh.F],L,h1,fun b mb hb=>h2 b mb (a b hb)⟩
  ·exact ⟨by simp [Gh.F],L,h1,fun b mb hb=>h2 b mb (a b hb)⟩
  ·exact ⟨by simp [Gh.F],L,h1,fun b mb hb=>h2 b mb (a b hb)⟩
  ·exact ⟨⟨rfl,h1.2⟩,by simp [Gh.F]⟩
  ·exact ⟨by simp [Gh.F],L,h1,fun b mb hb=>h2 b mb (a b hb)⟩
  ·exact ⟨by simp [Gh.F],L,h1,fun b mb hb=>h2 b mb (a b hb)⟩
 | row k=>
  simp only[ZfT] at h
  split at h
  ·rename_i e m xs d hk
   obtain ⟨hm,cs,L,o1,o2,o3,o5⟩:=hI.deep hk
   split at h
   ·rename_i hd
    simp only[A3,A0] at h
    obtain ⟨rfl,rfl⟩:=h
    have i:=l k yG
    rcases o5 with ⟨_,q1,q2⟩ | ⟨q,_⟩ | ⟨q,_⟩
    ·refine ⟨hm,cs,L,by rw [hx.1];exact ZwB o1 fun b mb=>i.2 b (by simp [q1,mb]),o2,by simp [Gh.F,q1,q2,hx.1],fun b mb=>.inr ⟨k,i.1,by rw [q1];rw [hx.1] at mb;exact mb⟩⟩
    ·omega
    ·omega
   ·rename_i hd
    simp only[A3,A0] at h
    obtain ⟨rfl,rfl⟩:=h
    have f:¬K k:=fun h=>hd ((hK k h).2 e m xs d hk)
    obtain ⟨A,cap,L0,s1,s2,s3,s4,s5⟩:=Sl.row o1
    refine ⟨by simp [Gh.F],L0++L,⟨A,cap,cs,L0,L,by rw [hx.1,s1],s2,s3,rfl,hm,s4,o2⟩,fun b mb hb=>?_⟩
    rcases A5.1 mb with m1 | m1
    ·have m2:=s5.subset m1
     rcases o5 with ⟨q,_⟩ | ⟨_,q1,q2⟩ | ⟨_,_,_,q⟩
     ·exact hd q
     ·have mk:b∈g.O k++g.D k:=by simp [q1,m2]
      rcases hb with hz | ⟨j,hj,mj⟩
      ·exact hI.nz mk hz
      ·exact hI.apart k j (fun e=>f (e ▸ hj)) b mk (by simp [mj])
     ·exact q b m2 (a b hb)
    ·exact o3 b m1 (a b hb)
  ·rename_i kk vk kv hk
   simp only[A3,A0] at h
   obtain ⟨rfl,rfl⟩:=h
   have ho:=hI.obs k
   rw [hk] at ho
   obtain ⟨b,es,c,q1,q2,q3,q4,q5,q6⟩:=ho
   have f:¬K k:=fun h=>by have:=(hK k h).1;rw [hk] at this;simp [ZkR] at this
   refine ⟨by simp [Gh.F],[b],⟨b,es,c,by rw [hx.1,q1],q4,q5,q6,rfl⟩,fun x mx hb=>?_⟩
   simp at mx;subst mx
   have mk:x∈g.O k++g.D k:=by simp [q2]
   rcases hb with hz | ⟨j,hj,mj⟩
   ·exact hI.nz mk hz
   ·exact hI.apart k j (fun e=>f (e ▸ hj)) x mk (by simp [mj])
  ·simp at h
 | nil e m=>
  simp only[ZfT] at h
  split at h
  ·rename_i hm
   simp only[A3,A0] at h
   obtain ⟨rfl,rfl⟩:=h
   have o:v=.slice none 0 0:=hx
   subst o
   exact ⟨hm,[],[],ZfF _ _ _ _,⟨rfl,rfl⟩,by simp [Gh.F,Value.ownBlock],by simp [Value.ownBlock]⟩
  ·simp at h
 | n y=>
  obtain ⟨L,h1,h2⟩:=NR.toC hx
  simp only[ZfT,A3,A0] at h
  obtain ⟨rfl,rfl⟩:=h
  exact ⟨by simp [Gh.F],L,h1,fun b mb hb=>h2 b mb (a b hb)⟩
 | dead=>
  simp only[ZfT,A3,A0] at h
  obtain ⟨rfl,rfl⟩:=h
  exact ⟨by simp [Gh.F],[],⟨rfl,hx⟩,yG⟩
theorem Zpn [NW] (hI:HI W g st.ob w) (hK:∀k,K k→ZkR (st.ob k)=false∧∀e m xs d,st.ob k=.row e m xs d→d=2):∀{xs:List AV} {cts:List (Bool × CT)} {ks:List Nat} {vs:List Value},Zdc st xs=some (cts,ks)→(∀k∈ks,K k∧∀b∈g.O k++g.D k,W.heap.size≤b)→ZM (AVR g w) xs vs→OCs w W.heap.size (nK g K) cts vs (g.F ks)
 | [],_,_,[],h,_,_=>by
  simp only[Zdc,A3,A0] at h
  obtain ⟨rfl,rfl⟩:=h
  exact ⟨rfl,by simp [Gh.F]⟩
 | [],_,_,_::_,_,_,h=>h.elim
 | _::_,_,_,[],_,_,h=>h.elim
 | x::r,cts,ks,v::vs,h,hks,hr=>by
  simp only[Zdc] at h
  obtain ⟨⟨c1,k1⟩,h1,h⟩:=AE.1 h
  obtain ⟨⟨c2,k2⟩,h2,h⟩:=AF.1 h
  simp only[A0] at h
  obtain ⟨rfl,rfl⟩:=h
  exact ⟨v,vs,g.F k1,g.F k2,rfl,by simp [Gh.F],Zr1 hI hK h1 (fun k mk=>hks k (by simp [mk])) hr.1,Zpn hI hK h2 (fun k mk=>hks k (by simp [mk])) hr.2⟩
theorem Zr7 [NW] (hI:HI W g st.ob w) (hK:∀k,K k→ZkR (st.ob k)=false∧∀e m xs d,st.ob k=.row e m xs d→d=2) {ag:Bool} {cs:List AV} {cts:List (Bool × CT)} {ks:List Nat} {v:Value} (h:Zdc st cs=some (cts,ks)) (a:∀k∈ks,K k∧∀b∈g.O k++g.D k,W.heap.size≤b) (hx:PVR g w ag cs v):OP w W.heap.size (nK g K) (ag,cts) v (g.F ks):=by
 cases ag with
 | true=>obtain ⟨vs,rfl,h2⟩:=hx;exact .inl ⟨rfl,vs,rfl,Zpn hI hK h a h2⟩
 | false=>
  obtain ⟨x,rfl,h2⟩:=hx
  simp only[Zdc] at h
  obtain ⟨⟨c1,k1⟩,h1,h⟩:=AE.1 h
  simp at h
  obtain ⟨rfl,rfl⟩:=h
  exact .inr ⟨rfl,c1,rfl,Zr1 hI hK h1 a h2⟩
theorem OC.one {B:Nat} {n:Nat→Prop} {x:Bool × CT} {v:Value} {F:List Nat} (h:OC w B n x v F):v.oneCell'=true:=by
 obtain ⟨b,x⟩:=x
 cases b with
 | true=>obtain ⟨_,L,h1,_⟩:=h;exact h1.one
 | false=>
  cases x with
  | sl e q xs=>
   obtain ⟨_,cs,L,o1,_⟩:=h
   obtain ⟨A,cap,hv⟩:=Zdl o1
   rw [hv];rfl
  | int k i=>exact h.1.one
  | bool b=>exact h.1.one
  | str s=>exact h.1.one
  | ifc s=>exact h.1.one
  | any=>exact h.1.one
  | _=>exact h.elim
/- what is given is said to be lent -/
theorem ZqN [NW] {B:Nat} {n:Nat→Prop}:∀{r d:List (Bool × CT)} {vs:List Value} {F:List Nat},OCs w B n r vs F→wkC r d→F.Nodup→∃F',F'.Sublist F∧∀m:Nat→Prop,(∀b∈F',n b→m b)→(∀b,m b→n b)→(∀b∈F,m b→b∈F')→OCs w B m d vs F'
 | [],[],vs,F,h,_,_=>⟨[],yG,fun m _ _ _=>⟨h.1,rfl⟩⟩
 | [],_::_,_,_,_,h,_=>h.elim
 | _::_,[],_,_,_,h,_=>h.elim
 | x::r,y::d,_,_,⟨v,vs,F1,F2,rfl,rfl,h1,h2⟩,a,hnd=>by
  rw [AK] at hnd
  have a:wk1 x y (wkC r d):=a
  unfold wk1 at a
  by_cases c:ZuL y.2=true
  ·rw [if_pos c] at a
   obtain ⟨F2',s2,g⟩:=ZqN h2 a hnd.2.1
   refine ⟨F2',s2.trans (List.sublist_append_right _ _),fun m m1 m2 m3=>⟨v,vs,[],F2',rfl,rfl,?_,g m m1 m2 fun b mb hb=>m3 b (by simp [mb]) hb⟩⟩
   have f:=h1.one
   obtain ⟨b2,y⟩:=y
   cases y<;>simp [ZuL] at c
   cases b2 with
   | true=>exact ⟨rfl,[],⟨rfl,f⟩,yG⟩
   | false=>exact ⟨⟨rfl,f⟩,rfl⟩
  rw [if_neg c] at a
  obtain ⟨e1,e2,hw⟩:=a
  obtain ⟨F2',s2,g⟩:=ZqN h2 hw hnd.2.1
  have key:∃F1',F1'.Sublist F1∧∀m:Nat→Prop,(∀b∈F1',n b→m b)→(∀b,m b→n b)→(∀b∈F1,m b→b∈F1')→OC w B m y v F1':=by
   obtain ⟨b1,x⟩:=x
   obtain ⟨b2,y⟩:=y
   simp only at e1 e2
   subst e1
   cases b1 with
   | true=>
    have:b2=true:=by rcases e2 with e | e<;>simp_all
    subst this
    obtain ⟨rfl,L,q1,q2⟩:=h1
    exact ⟨[],yG,fun m _ m2 _=>⟨rfl,L,q1,fun b mb hb=>q2 b mb (m2 b hb)⟩⟩
   | false=>
    cases b2 with
    | false=>
     refine ⟨F1,List.Sublist.refl _,fun m m1 _ _=>?_⟩
     cases x with
     | sl e q xs=>
      obtain ⟨hm,cs,L,o1,o2,o3,o4⟩:=h1
      exact ⟨hm,cs,L,o1,o2,o3,fun b mb=>m1 b (by simp [o3,mb]) (o4 b mb)⟩
     | int k i=>exact h1
     | bool b=>exact h1
     | str s=>exact h1
     | ifc s=>exact h1
     | any=>exact h1
     | _=>exact h1.elim
    | true=>
     refine ⟨[],yG,fun m _ _ m3=>⟨rfl,?_⟩⟩
     cases x with
     | sl e q xs=>
      obtain ⟨hm,cs,L,o1,o2,o3,o4⟩:=h1
      obtain ⟨A,cap,L0,s1,s2,s3,s4,s5⟩:=Sl.row o1
      refine ⟨L0++L,⟨A,cap,cs,L0,L,s1,s2,s3,rfl,hm,s4,o2⟩,fun b mb hb=>?_⟩
      have:b∈F1:=by
       rw [o3]
       rcases A5.1 mb with m1 | m1
       ·exact A5.2 (.inl (s5.subset m1))
       ·exact A5.2 (.inr m1)
      have:=m3 b this hb
      simp at this
     | int k i=>exact ⟨[],h1.1,yG⟩
     | bool b=>exact ⟨[],h1.1,yG⟩
     | str s=>exact ⟨[],h1.1,yG⟩
     | ifc s=>exact ⟨[],h1.1,yG⟩
     | any=>exact ⟨[],h1.1,yG⟩
     | _=>exact h1.elim
  obtain ⟨F1',s1,f⟩:=key
  refine ⟨F1'++F2',AZ s1 s2,fun m m1 m2 m3=>⟨v,vs,F1',F2',rfl,rfl,f m (fun b mb=>m1 b (by simp [mb])) m2 (fun b mb hb=>?_),g m (fun b mb=>m1 b (by simp [mb])) m2 (fun b mb hb=>?_)⟩⟩
  ·rcases A5.1 (m3 b (by simp [mb]) hb) with h | h
   ·exact h
   ·exact absurd rfl (hnd.2.2 b mb b (s2.subset h))
  ·rcases A5.1 (m3 b (by simp [mb]) hb) with h | h
   ·exact absurd rfl (hnd.2.2 b (s1.subset h) b mb)
   ·exact h
theorem ZDe [NW] {B:Nat} {n:Nat→Prop} {x y:RT} {v:Value} {F:List Nat} (h:OP w B n x v F) (e1:x.1=y.1) (hw:wkC x.2 y.2) (d:F.Nodup):∃F',F'.Sublist F∧∀m:Nat→Prop,(∀b∈F',n b→m b)→(∀b,m b→n b)→(∀b∈F,m b→b∈F')→OP w B m y v F':=by
 rcases h with ⟨h1,vs,rfl,h2⟩ | ⟨h1,ct,h2,h3⟩
 ·obtain ⟨F',s,h⟩:=ZqN h2 hw d
  exact ⟨F',s,fun m a b c=>.inl ⟨e1 ▸ h1,vs,rfl,h m a b c⟩⟩
 ·obtain ⟨F',s,h⟩:=ZqN (r:=x.2) (vs:=[v]) (F:=F) (by rw [h2];exact ⟨v,[],F,[],rfl,yG,h3,rfl,rfl⟩) hw d
  refine ⟨F',s,fun m p1 p2 p3=>.inr ⟨e1 ▸ h1,?_⟩⟩
  have h4:=h m p1 p2 p3
  generalize y.2=l at h4 hw
  cases l with
  | nil=>rw [h2] at hw;exact hw.elim
  | cons c l=>
   cases l with
   | nil=>
    obtain ⟨v',vs',F1,F2,q1,rfl,q3,q4⟩:=h4
    simp only[Aa] at q1
    obtain ⟨rfl,rfl⟩:=q1
    obtain ⟨_,rfl⟩:=q4
    exact ⟨c,rfl,by simpa using q3⟩
   | cons _ _=>
    rw [h2] at hw
    have hw:wk1 _ _ False:=hw
    unfold wk1 at hw
    split at hw
    ·exact hw.elim
    ·exact hw.2.2.elim
theorem ZxM [NW] {B:Nat} {n:Nat→Prop}:∀{r a:List RT} {vs:List Value} {F:List Nat},OPs w B n r vs F→wkR r a→F.Nodup→∃F',F'.Sublist F∧∀m:Nat→Prop,(∀b∈F',n b→m b)→(∀b,m b→n b)→(∀b∈F,m b→b∈F')→OPs w B m a vs F'
 | [],[],vs,F,h,_,_=>⟨[],yG,fun m _ _ _=>⟨h.1,rfl⟩⟩
 | [],_::_,_,_,_,h,_=>h.elim
 | _::_,[],_,_,_,h,_=>h.elim
 | x::r,y::a,_,_,⟨v,vs,F1,F2,rfl,rfl,h1,h2⟩,⟨e1,e2,hw⟩,hnd=>by
  rw [AK] at hnd
  obtain ⟨F2',s2,c⟩:=ZxM h2 hw hnd.2.1
  obtain ⟨F1',s1,d⟩:=ZDe h1 e1 e2 hnd.1
  refine ⟨F1'++F2',AZ s1 s2,fun m m1 m2 m3=>⟨v,vs,F1',F2',rfl,rfl,d m (fun b mb=>m1 b (by simp [mb])) m2 (fun b mb hb=>?_),c m (fun b mb=>m1 b (by simp [mb])) m2 (fun b mb hb=>?_)⟩⟩
  ·rcases A5.1 (m3 b (by simp [mb]) hb) with h | h
   ·exact h
   ·exact absurd rfl (hnd.2.2 b mb b (s2.subset h))
  ·rcases A5.1 (m3 b (by simp [mb]) hb) with h | h
   ·exact absurd rfl (hnd.2.2 b (s1.subset h) b mb)
   ·exact h
def ZfZ (tmps:Array Value):ResultVar→Sem Value
 | .tmp t=>pure (tmps.getD t undef)
 | .cell b t=>do loadVar t (←asAddr (tmps.getD b undef))
theorem ZiZ (fn:Func) (a:Array Value):results fn a=(do let vs ←fn.results.mapM (ZfZ a);pure (if h:vs.size=1 then vs[0] else .tuple vs)):=by
 unfold results
 congr 1
theorem ZmR [NW] (htt:∀t i,tt t=some i→TOk P t i) (hI:HI W g st.ob w) (hS:∀t,SVR g w (st.sl t) (a.tmps.getD t undef)) (hU:StU U st) (hK:∀k,K k→ZkR (st.ob k)=false∧∀e m xs d,st.ob k=.row e m xs d→d=2):∀{rs:List ResultVar} {j:List RT} {ks:List Nat},Zc3 tt st rs=some (j,ks)→(∀k∈ks,K k∧∀b∈g.O k++g.D k,W.heap.size≤b)→
  ∃vs:List Value,(rs.mapM (ZfZ a.tmps)).run P w=.ok vs w∧OPs w W.heap.size (nK g K) j vs (g.F ks)
 | [],j,ks,h,_=>by
  simp only[Zc3,A3,A0] at h
  obtain ⟨rfl,rfl⟩:=h
  exact ⟨[],yG,rfl,by simp [Gh.F]⟩
 | .tmp t::r,j,ks,h,hks=>by
  simp only[Zc3] at h
  split at h
  ·rename_i ag cs f
   obtain ⟨⟨c1,k1⟩,h1,h⟩:=AE.1 h
   obtain ⟨⟨c2,k2⟩,h2,h⟩:=AF.1 h
   simp only[A0] at h
   obtain ⟨rfl,rfl⟩:=h
   obtain ⟨vs,i1,i2⟩:=ZmR htt hI hS hU hK h2 (fun k mk=>hks k (by simp [mk]))
   have hs:=hS t
   rw [f] at hs
   refine ⟨a.tmps.getD t undef::vs,?_,_,vs,g.F k1,g.F k2,rfl,by simp [Gh.F],Zr7 hI hK h1 (fun k mk=>hks k (by simp [mk])) hs,i2⟩
   simp only[Ac,ZfZ,Sem.run_bind,Sem.run_pure,Result.andThen_ok,i1]
  ·simp at h
 | .cell t ty::r,j,ks,h,hks=>by
  simp only[Zc3] at h
  split at h
  ·rename_i ag cs f
   obtain ⟨⟨c1,k1⟩,h1,h⟩:=AE.1 h
   obtain ⟨⟨c2,k2⟩,h2,h⟩:=AF.1 h
   simp only[A0] at h
   obtain ⟨rfl,rfl⟩:=h
   obtain ⟨vs,i1,i2⟩:=ZmR htt hI hS hU hK h2 (fun k mk=>hks k (by simp [mk]))
   obtain ⟨cv,l1,l2,_⟩:=Zu6 (P:=P) (U:=U) htt hI hU f (hS t)
   have hl:(do loadVar ty (←asAddr (a.tmps.getD t undef)):Sem Value).run P w=.ok cv w:=by
    have:∃b,a.tmps.getD t undef=.pointer (some b):=by
     have hs:=hS t
     cases hsl':st.sl t with
     | bp k off=>rw [hsl'] at hs;obtain ⟨b,_,hv⟩:=hs;exact ⟨_,hv⟩
     | rp k m i off=>rw [hsl'] at hs;obtain ⟨b,_,_,_,_,hv⟩:=hs;exact ⟨_,hv⟩
     | ep e off=>rw [hsl'] at hs;obtain ⟨b,_,_,_,hv,_⟩:=hs;exact ⟨_,hv⟩
     | p l o=>
      rw [hsl'] at hs f
      cases l with
      | true=>simp [QZ] at f
      | false=>
       cases o with
       | nil=>simp [QZ] at f
       | cons y q=>
        cases q with
        | cons _ _=>cases y<;>first | (simp [QZ] at f;done) | (rename_i z;cases z<;>simp [QZ] at f)
        | nil=>cases y with
         | c z=>cases z with
          | pt e=>obtain ⟨b,_,_,hv,_⟩:=Zu3 hs;exact ⟨_,hv⟩
          | _=>simp [QZ] at f
         | _=>simp [QZ] at f
     | _=>rw [hsl'] at f;simp [QZ] at f
    obtain ⟨b,hb⟩:=this
    rw [hb] at l1 ⊢
    simpa [Instr.loadAt,Instr.sureAddr,asAddr] using l1
   refine ⟨cv::vs,?_,_,vs,g.F k1,g.F k2,rfl,by simp [Gh.F],Zr7 hI hK h1 (fun k mk=>hks k (by simp [mk])) l2,i2⟩
   have u:(ZfZ a.tmps (.cell t ty)).run P w=.ok cv w:=hl
   simp only[Ac,Sem.run_bind,u,i1,Sem.run_pure,Result.andThen_ok]
  ·simp at h
theorem Ztr:∀{xs:List AV} {cts:List (Bool × CT)} {ks:List Nat},Zdc st xs=some (cts,ks)→∀k∈ks,∃e m xs,st.ob k=.row e m xs 2
 | [],_,_,h,k,mk=>by
  simp only[Zdc,A3,A0] at h
  rw [←h.2] at mk;simp at mk
 | x::r,cts,ks,h,k,mk=>by
  simp only[Zdc] at h
  obtain ⟨⟨c1,k1⟩,h1,h⟩:=AE.1 h
  obtain ⟨⟨c2,k2⟩,h2,h⟩:=AF.1 h
  simp only[A0] at h
  obtain ⟨rfl,rfl⟩:=h
  rcases A5.1 mk with mk | mk
  ·cases x with
   | c y=>cases y<;>simp only[ZfT,A3,A0] at h1<;>(rw [←h1.2] at mk;simp at mk)
   | row j=>
    simp only[ZfT] at h1
    split at h1
    ·rename_i e m xs d hk
     split at h1
     ·rename_i hd
      simp only[A3,A0] at h1
      rw [←h1.2] at mk
      simp at mk
      subst mk
      exact ⟨e,m,xs,by rw [hk,hd]⟩
     ·simp only[A3,A0] at h1
      rw [←h1.2] at mk;simp at mk
    ·simp only[A3,A0] at h1
     rw [←h1.2] at mk;simp at mk
    ·simp at h1
   | nil e m=>
    simp only[ZfT] at h1
    split at h1
    ·simp only[A3,A0] at h1
     rw [←h1.2] at mk;simp at mk
    ·simp at h1
   | n y=>
    simp only[ZfT,A3,A0] at h1
    rw [←h1.2] at mk;simp at mk
   | dead=>
    simp only[ZfT,A3,A0] at h1
    rw [←h1.2] at mk;simp at mk
  ·exact Ztr h2 k mk
theorem Zl3 [NW]:∀{rs:List ResultVar} {a:List RT} {ks:List Nat},Zc3 tt st rs=some (a,ks)→∀k∈ks,∃e m xs,st.ob k=.row e m xs 2
 | [],_,_,h,k,mk=>by
  simp only[Zc3,A3,A0] at h
  rw [←h.2] at mk;simp at mk
 | .tmp t::r,a,ks,h,k,mk=>by
  simp only[Zc3] at h
  split at h
  ·obtain ⟨⟨c1,k1⟩,h1,h⟩:=AE.1 h
   obtain ⟨⟨c2,k2⟩,h2,h⟩:=AF.1 h
   simp only[A0] at h
   obtain ⟨rfl,rfl⟩:=h
   rcases A5.1 mk with mk | mk
   ·exact Ztr h1 k mk
   ·exact Zl3 h2 k mk
  ·simp at h
 | .cell t ty::r,a,ks,h,k,mk=>by
  simp only[Zc3] at h
  split at h
  ·obtain ⟨⟨c1,k1⟩,h1,h⟩:=AE.1 h
   obtain ⟨⟨c2,k2⟩,h2,h⟩:=AF.1 h
   simp only[A0] at h
   obtain ⟨rfl,rfl⟩:=h
   rcases A5.1 mk with mk | mk
   ·exact Ztr h1 k mk
   ·exact Zl3 h2 k mk
  ·simp at h
theorem Zu4 [NW] {x:CT} {v:Value} {L:List Nat} (h:RC w x v L) (hL:∀b∈L,¬g.own b):AVR g w (Zjj x) v:=by
 cases x with
 | nl e m=>exact h.1
 | _=>exact ⟨L,h,hL⟩
theorem ZsY [NW]:∀{e:List CT} {cs:List Value} {L:List Nat},RCs w e cs L→(∀b∈L,¬g.own b)→ZM (AVR g w) (e.map Zjj) cs
 | [],_,_,⟨h1,h2⟩,_=>by subst h1;trivial
 | x::r,_,_,⟨v,cs,L1,L2,h1,h2,h3,h4⟩,hL=>by
  subst h1 h2
  exact ⟨Zu4 h3 fun b m=>hL b (by simp [m]),ZsY h4 fun b m=>hL b (by simp [m])⟩
theorem Znq [NW] {z:Nat→Prop} {x:Bool × List CT} {v:Value} (hg:∀b,g.own b→z b) (h:ZnX w z x v):SVR g w (.p x.1 (x.2.map Zjj)) v:=by
 rcases h with ⟨h1,vs,L,rfl,h2,h4⟩ | ⟨h1,ct,L,h2,h3,h4⟩
 ·rw [h1];exact ⟨vs,rfl,ZsY h2 fun b mb hb=>h4 b mb (hg b hb)⟩
 ·rw [h1,h2];exact ⟨_,rfl,Zu4 h3 fun b mb hb=>h4 b mb (hg b hb)⟩
theorem Zmw (e:List CT):QW U (e.map Zjj):=fun y m=>by
 obtain ⟨x,_,rfl⟩:=AD.1 m
 cases x<;>trivial
theorem Zxd [NW] (htt:∀t i,tt t=some i→TOk P t i) {fn:Func} {f:List RT} (hI:Inv W U st a w) (hH:HI W g st.ob w) (hS:∀t,SVR g w (st.sl t) (a.tmps.getD t undef)) {r:List RT} {ks:List Nat} (hx:Zc3 tt st fn.results.toList=some (r,ks)) (j:ks.Nodup) (hw:wkR r f)
  (hB:∀k∈ks,∀b∈g.O k++g.D k,W.heap.size≤b) (K0:Nat→Prop) (l:∀k,K0 k→ZkR (st.ob k)=false∧∀e m xs d,st.ob k=.row e m xs d→d=2):
  ∃v m,(results fn a.tmps).run P w=.ok v w∧ZkF w W.heap.size m f v∧(∀b,m b→g.own b)∧(∀b,m b→g.Z b∨(∃k,(k∈ks∨K0 k)∧b∈g.O k))∧∀b,b∉g.F ks→(g.Z b∨∃k,K0 k∧b∈g.O k)→m b:=by
 obtain ⟨us,r1,r2⟩:=ZmR (K:=fun k=>k∈ks∨K0 k) htt hH hS hI.wf (fun k hk=>by
  rcases hk with hk | hk
  ·obtain ⟨e',m',o,h'⟩:=Zl3 hx k hk
   refine ⟨by rw [h'];rfl,fun e m xs d he=>?_⟩
   rw [he] at h'
   simp only[Ob.row.injEq] at h'
   exact h'.2.2.2
  ·exact l k hk) hx (fun k mk=>⟨.inl mk,hB k mk⟩)
 have c:=hH.nodupF j
 obtain ⟨F',s,hF⟩:=ZxM r2 hw c
 have p:∀b∈g.F ks,W.heap.size≤b:=fun b mb=>by
  obtain ⟨k,hk,mk⟩:=ZkZ mb
  exact hB k hk b mk
 refine ⟨(if h:us.toArray.size=1 then us.toArray[0] else .tuple us.toArray),fun b=>nK g (fun k=>k∈ks∨K0 k) b∧(b∈g.F ks→b∈F'),?_,⟨us,F',hF _ (fun b mb hb=>⟨hb,fun _=>mb⟩) (fun b hb=>hb.1) (fun b mb hb=>hb.2 mb),⟨c.sublist s,fun b mb=>p b (s.subset mb),fun b mb=>?_⟩,rfl⟩,fun b hb=>?_,fun b hb=>hb.1,fun b hb hn=>⟨?_,fun mb=>absurd mb hb⟩⟩
 ·rw [ZiZ]
  have e:fn.results.mapM (ZfZ a.tmps)=AQ <$> fn.results.toList.mapM (ZfZ a.tmps):=by
   rw [←List.mapM_toArray]
  have e2:(AQ <$> fn.results.toList.mapM (ZfZ a.tmps)).run P w=.ok us.toArray w:=by
   rw [map_eq_pure_bind]
   simp only[Sem.run_bind,r1,Result.andThen_ok,Sem.run_pure]
  rw [e]
  simp only[Sem.run_bind,e2,Result.andThen_ok,Sem.run_pure]
 ·obtain ⟨k,hk,mk⟩:=ZkZ (s.subset mb)
  obtain ⟨e',m',o,h'⟩:=Zl3 hx k hk
  have:=(hH.plain k b mk).2
  rw [h'] at this
  exact this
 ·rcases hb.1 with hz | ⟨k,_,mk⟩
  ·exact .inr hz
  ·exact .inl ⟨k,mk⟩
 ·rcases hn with hz | ⟨k,hk,mk⟩
  ·exact .inl hz
  ·exact .inr ⟨k,.inr hk,mk⟩
theorem Zru [NW] {g':Gh} (hv:∀k e m xs,st.ob k=.row e m xs 2→g'.val k=g.val k∧U k) {x:AV} {v:Value} (h:AVR g w x v):AVR g' w (ZjS st x) v∧avU U (ZjS st x):=by
 have one:=h.one
 unfold ZjS
 split
 ·obtain ⟨L,⟨h1,_⟩,_⟩:=h
  exact ⟨⟨[],⟨h1,rfl⟩,yG⟩,trivial⟩
 ·obtain ⟨L,⟨h1,_⟩,_⟩:=h
  exact ⟨⟨[],⟨h1,rfl⟩,yG⟩,trivial⟩
 ·obtain ⟨L,⟨h1,_,h3⟩,_⟩:=h
  exact ⟨⟨[],⟨h1,rfl,h3⟩,yG⟩,trivial⟩
 ·rename_i k
  cases hk:st.ob k with
  | row e m xs d=>
   simp only[Zus]
   split
   ·rename_i hd
    subst hd
    obtain ⟨e1,e2⟩:=hv k e m xs hk
    exact ⟨⟨h.1.trans e1.symm,one⟩,e2⟩
   ·exact ⟨one,trivial⟩
  | gone=>exact ⟨one,trivial⟩
  | box _ _=>exact ⟨one,trivial⟩
  | map _ _ _=>exact ⟨one,trivial⟩
 ·exact ⟨one,trivial⟩
theorem Zkv [NW] {g':Gh} (hv:∀k e m xs,st.ob k=.row e m xs 2→g'.val k=g.val k∧U k):∀{cs:List AV} {vs:List Value},ZM (AVR g w) cs vs→ZM (AVR g' w) (cs.map (ZjS st)) vs
 | [],[],_=>trivial
 | _::_,_::_,h=>⟨(Zru hv h.1).1,Zkv hv h.2⟩
 | [],_::_,h=>h.elim
 | _::_,[],h=>h.elim
theorem ZxQ [NW] {x:SV} {v:Value} {g':Gh} (hv:∀k e m xs,st.ob k=.row e m xs 2→g'.val k=g.val k∧U k) (hu:svU U x) (a:∀k,U k→g'.val k=g.val k) (h:SVR g w x v):SVR g' w (ZoV st x) v:=by
 cases x with
 | p ag cs=>
  cases ag with
  | true=>obtain ⟨vs,e,h⟩:=h;exact ⟨vs,e,Zkv hv h⟩
  | false=>obtain ⟨y,rfl,h⟩:=h;exact ⟨_,rfl,(Zru hv h).1⟩
 | bp k off=>obtain ⟨b,h1,h2⟩:=h;exact ⟨b,(a k hu).trans h1,h2⟩
 | _=>trivial
theorem ZuH (hv:∀k e m xs,st.ob k=.row e m xs 2→U k) (x:AV):avU U (ZjS st x):=by
 unfold ZjS
 split
 ·trivial
 ·trivial
 ·trivial
 ·rename_i k
  cases hk:st.ob k with
  | row e m xs d=>
   simp only[Zus]
   split
   ·rename_i hd
    subst hd
    exact hv k e m xs hk
   ·trivial
  | gone=>trivial
  | box _ _=>trivial
  | map _ _ _=>trivial
 ·trivial
theorem ZyO (hv:∀k e m xs,st.ob k=.row e m xs 2→U k) (x:SV) (hu:svU U x):svU U (ZoV st x):=by
 cases x with
 | p ag cs=>
  intro y my
  obtain ⟨x,mx,rfl⟩:=AD.1 my
  exact ZuH hv x
 | bp k off=>exact hu
 | _=>trivial
theorem ZnB {o:Ob} (h:ZaX st o≠.gone):(∃e m xs,o=.row e m xs 2)∨∃t cs,o=.box t cs:=by
 cases o with
 | row e m xs d=>
  simp only[ZaX] at h
  split at h
  ·rename_i hd
   subst hd
   exact .inl ⟨e,m,xs,rfl⟩
  ·exact absurd rfl h
 | gone=>exact absurd rfl h
 | box t cs=>exact .inr ⟨t,cs,rfl⟩
 | map _ _ _=>exact absurd rfl h
theorem Zxg [NW] (hB:W.heap.size≤NW.B0) (t:Nat) (hI:Inv W U st a w) (B:∀k,st.n≤k→¬U k):∃U',Inv W U' (st.thaw t) a w:=by
 obtain ⟨⟨g,hH,hS⟩,hU,d,hh⟩:=hI
 unfold St.thaw
 cases hv:st.sl t with
 | p ag cs=>
  by_cases hc:∃e m xs,ag=false∧cs=[.n (.sl e m xs)]
  ·obtain ⟨e,m,xs,rfl,rfl⟩:=hc
   have hs:=hS t
   rw [hv] at hs
   obtain ⟨_,_,_,cs,L,h1,h2,h3,h4,h5,h6⟩:=ZFF hs
   simp only[CT.sl.injEq] at h1
   obtain ⟨rfl,rfl,rfl⟩:=h1
   let v:=a.tmps.getD t undef
   have hn:st.ob st.n=.gone:=hU.gone _ (B _ (A9 _))
   have c:∀k e m xs,st.ob k=.row e m xs 2→k≠st.n∧U k:=fun k e m xs hk=>⟨fun e=>by rw [e,hn] at hk;simp at hk,Classical.byContradiction fun h=>by rw [hU.gone k h] at hk;simp at hk⟩
   let g':Gh:=⟨fun k=>if k=st.n then v else g.val k,fun k=>if k=st.n then v.ownBlock.toList else (match ZaX st (st.ob k) with | .gone=>[] | _=>g.O k),fun k=>if k=st.n then L else (match ZaX st (st.ob k) with | .gone=>[] | _=>g.D k),g.Z⟩
   have gn:g'.val st.n=v∧g'.O st.n=v.ownBlock.toList∧g'.D st.n=L:=⟨if_pos rfl,if_pos rfl,if_pos rfl⟩
   have gk:∀k,k≠st.n→ZaX st (st.ob k)≠.gone→g'.O k=g.O k∧g'.D k=g.D k:=fun k hk ho=>by
    rcases ZnB ho with ⟨e',m',f,e1⟩ | ⟨t',i,e1⟩
    ·simp [g',if_neg hk,e1,ZaX]
    ·simp [g',if_neg hk,e1,ZaX]
   have gg:∀k,k≠st.n→ZaX st (st.ob k)=.gone→g'.O k=[]∧g'.D k=[]:=fun k hk ho=>by
    simp only[g',if_neg hk,ho]
    exact ⟨trivial,trivial⟩
   have o:∀k b,b∈g'.O k++g'.D k→(k=st.n∧b∈v.ownBlock.toList++L)∨(k≠st.n∧ZaX st (st.ob k)≠.gone∧b∈g.O k++g.D k):=fun k b mb=>by
    by_cases hk:k=st.n
    ·subst hk;rw [gn.2.1,gn.2.2] at mb;exact .inl ⟨rfl,mb⟩
    ·by_cases ho:ZaX st (st.ob k)=.gone
     ·rw [(gg k hk ho).1,(gg k hk ho).2] at mb;simp at mb
     ·rw [(gk k hk ho).1,(gk k hk ho).2] at mb;exact .inr ⟨hk,ho,mb⟩
   have z:∀k b,b∈g.O k++g.D k→g.low b:=fun k b mb=>by
    rcases A5.1 mb with m1 | m1
    ·exact .inl (.inl ⟨k,m1⟩)
    ·exact .inr ⟨k,m1⟩
   refine ⟨fun k=>U k∨k=st.n,⟨g',⟨hH.below,fun k=>?_,fun k=>?_,fun k j C b mb mj=>?_,fun k b mb=>?_,hH.gz,hH.zx,hH.nw⟩,fun s=>?_⟩,⟨fun s=>?_,fun k=>?_,fun k hk=>?_⟩,d,hh⟩
   ·show ObR g' w k (if k=st.n then .row e m xs 2 else ZaX st (st.ob k))
    by_cases hk:k=st.n
    ·subst hk
     rw [if_pos rfl]
     exact ⟨h2,cs,L,by rw [gn.1];exact h3,h4,.inl ⟨rfl,by rw [gn.2.1,gn.1],gn.2.2⟩⟩
    ·rw [if_neg hk]
     by_cases ho:ZaX st (st.ob k)=.gone
     ·rw [ho];exact gg k hk ho
     ·have u:=hH.obs k
      have ev:g'.val k=g.val k:=if_neg hk
      obtain ⟨eO,eD⟩:=gk k hk ho
      rcases ZnB ho with ⟨e',m',f,e1⟩ | ⟨t',i,e1⟩
      ·rw [e1] at u ⊢
       obtain ⟨p1,i,L',p2,p3,p4⟩:=u
       rw [show ZaX st (.row e' m' f 2)=.row e' m' f 2 from by simp [ZaX]]
       refine ⟨p1,i,L',by rw [ev];exact p2,p3,?_⟩
       rw [ev,eO,eD]
       rcases p4 with p4 | ⟨q,_⟩ | ⟨q,_⟩
       ·exact .inl p4
       ·omega
       ·omega
      ·rw [e1] at u ⊢
       obtain ⟨b,vs,p1,p2,p3,p4,p5⟩:=u
       exact ⟨b,vs,ev.trans p1,eO.trans p2,eD.trans p3,p4,Zkv (U:=U) (fun k e m xs hk=>⟨if_neg (c k e m xs hk).1,(c k e m xs hk).2⟩) p5⟩
   ·by_cases hk:k=st.n
    ·subst hk;rw [gn.2.1,gn.2.2];exact h5
    ·by_cases ho:ZaX st (st.ob k)=.gone
     ·rw [(gg k hk ho).1,(gg k hk ho).2];simp
     ·rw [(gk k hk ho).1,(gk k hk ho).2];exact hH.nodup k
   ·rcases o k b mb with ⟨rfl,m1⟩ | ⟨k1,k2,m1⟩
    ·rcases o j b mj with ⟨rfl,m2⟩ | ⟨j1,j2,m2⟩
     ·exact C rfl
     ·exact (h6 b m1).1 (z j b m2)
    ·rcases o j b mj with ⟨rfl,m2⟩ | ⟨j1,j2,m2⟩
     ·exact (h6 b m2).1 (z k b m1)
     ·exact hH.apart k j C b m1 m2
   ·show _∧Qf w (if k=st.n then .row e m xs 2 else ZaX st (st.ob k)) b
    rcases o k b mb with ⟨rfl,m1⟩ | ⟨k1,k2,m1⟩
    ·rw [if_pos rfl]
     exact ⟨.inl (Nat.le_trans hB (h6 b m1).2.1),(h6 b m1).2.2⟩
    ·obtain ⟨q1,q2⟩:=hH.plain k b m1
     rw [if_neg k1]
     refine ⟨q1,q2.of ?_⟩
     rcases ZnB k2 with ⟨e',m',f,e1⟩ | ⟨t',i,e1⟩
     ·rw [e1];rfl
     ·rw [e1];rfl
   ·show SVR g' w (if s=t then .p false [.row st.n] else ZoV st (st.sl s)) _
    by_cases l:s=t
    ·subst l
     rw [if_pos rfl]
     obtain ⟨A,cap,E⟩:=Zdl h3
     exact ⟨_,rfl,gn.1.symm,by rw [E];rfl⟩
    ·rw [if_neg l]
     exact ZxQ (U:=U) (fun k e m xs hk=>⟨if_neg (c k e m xs hk).1,(c k e m xs hk).2⟩) (hU.sl s) (fun k hk=>if_neg fun e=>B k yE hk) (hS s)
   ·show svU _ (if s=t then .p false [.row st.n] else ZoV st (st.sl s))
    by_cases l:s=t
    ·rw [if_pos l];intro y my;simp at my;subst my;exact .inr rfl
    ·rw [if_neg l];exact ZyO (fun k e m xs hk=>.inl (c k e m xs hk).2) _ ((hU.sl s).mono fun _=>.inl)
   ·show obU _ (if k=st.n then .row e m xs 2 else ZaX st (st.ob k))
    split
    ·trivial
    ·cases hk:st.ob k with
     | row e' m' f d'=>simp only[ZaX];split<;>trivial
     | box t' i=>
      intro y my
      obtain ⟨x,mx,rfl⟩:=AD.1 my
      exact ZuH (fun k e m xs hk=>.inl (c k e m xs hk).2) x
     | _=>trivial
   ·show (if k=st.n then .row e m xs 2 else ZaX st (st.ob k))=.gone
    rw [if_neg fun e=>hk (.inr e),hU.gone k fun h=>hk (.inl h)]
    rfl
  ·have e:ZrO st t (.p ag cs)=st:=by
    unfold ZrO
    split
    ·rename_i h
     simp only[SV.p.injEq] at h
     exact absurd ⟨_,_,_,h.1,h.2⟩ hc
    ·rfl
   rw [e]
   exact ⟨U,⟨g,hH,hS⟩,hU,d,hh⟩
 | _=>exact ⟨U,⟨g,hH,hS⟩,hU,d,hh⟩
end
abbrev nw0:NW:=⟨0⟩
section
variable {P:Program} {J:World→Prop} {JF:Nat→Prop} {W:ZaK} {U:Nat→Prop} {st:St} {w w':World} {a:Act} {tt:Nat→Option TI} {od:OD} {g:Gh}
structure JOk (J:World→Prop) (JF:Nat→Prop):Prop where
 below:∀(x:Nat→Prop) (w w':World),J w→(∀b,x b→JF b)→w'.os=w.os→w'.tape=w.tape→w'.output=w.output→w.heap.size≤w'.heap.size→(∀k,k<w.heap.size→¬x k→w'.heap[k]?=w.heap[k]?)→J w'
 new:∀(w:World) b,J w→w.heap.size≤b→JF b
theorem Znc {args:List (Bool × List CT)} {vs:List Value} {N t o:Nat} (h:vs.length≤N) (v:Value) (hv:vs[t]?=some v):(vs.toArray++AB (N - vs.toArray.size) undef).getD t undef=v:=by
 have hl:t<vs.length:=(A6.1 hv).1
 simp only[AL,Ae,Ag,hl,if_true,List.getElem?_toArray,hv,AX]
theorem ZnE {vs:List Value} {N t:Nat} (ht:vs.length≤t):(vs.toArray++AB (N - vs.toArray.size) undef).getD t undef=undef:=by
 simp only[AL,Ae,Ag,show ¬t<vs.length by omega,if_false,Array.getElem?_replicate]
 split<;>rfl
theorem ZwK (htt : ∀ t i, tt t = some i → TOk P t i) (hJ : JOk J JF) (hmix : P.follows .mixedOrders = true) {hds : FuncId → Nat} {f : FuncId} {fn : Func} {c : Code} {args : List (Bool × List CT)} {res : List RT} (hf : P.funcs[f]? = some fn) (hname : (fn.name == "runtime.NumGoroutine") = false) (hb : fn.body = some c)
  (hok:X7 od tt hds false fn.ntmps c=true) (hlen:Nat.ble args.length fn.ntmps=true) (h:fnS od tt (SC P J JF hds) fn.results.toList c args res):Zm P J f args res:=by
 letI:NW:=nw0
 refine ⟨⟨fn,hf,hname,by rw [hb];rfl⟩,fun w z vs hj hz hargs=>?_⟩
 have hlen':args.length≤fn.ntmps:=AA hlen
 have hvl:=hargs.len
 refine calls_of_wp hf hb ?_
 let W:ZaK:={ w with z:=z,x:=fun _=>False,hv:=none }
 let g0:Gh:=⟨fun _=>undef,fun _=>[],fun _=>[],z⟩
 have hg0:∀b,g0.own b→z b:=fun b hb=>by
  rcases hb with ⟨k,m⟩ | h
  ·simp [g0] at m
  ·exact h
 have hI0:Inv W (fun _=>False) (Zo args) { tmps:=vs.toArray++AB (fn.ntmps - vs.toArray.size) undef,defers:=[] } w:=by
  refine ⟨⟨g0,⟨⟨rfl,rfl,rfl,A9 _,fun _ _ _=>rfl⟩,fun k=>⟨rfl,rfl⟩,fun k=>by simp [g0],fun k j _ b m=>by simp [g0] at m,fun k b m=>by simp [g0] at m,rfl,fun b hb=>⟨hz b hb,fun h=>h⟩,fun _ _=>AP _⟩,fun t=>?_⟩,⟨fun t=>?_,fun k=>trivial,fun k _=>rfl⟩,rfl,fun v hv=>by simp [W] at hv⟩
  ·show SVR g0 w (match args[t]? with | some x=>.p x.1 (x.2.map Zjj) | none=>.und) _
   cases ht:args[t]? with
   | none=>exact ZnE (by have:args.length≤t:=(by simpa using ht);omega)
   | some x=>
    obtain ⟨v,hv,hr⟩:=hargs.at ht
    show SVR g0 w (.p x.1 (x.2.map Zjj)) ((vs.toArray++AB (fn.ntmps - vs.toArray.size) undef).getD t undef)
    rw [Znc (args:=args) (o:=0) yE v hv]
    exact Znq hg0 hr
  ·show svU _ (match args[t]? with | some x=>.p x.1 (x.2.map Zjj) | none=>.und)
   split
   ·exact Zmw _
   ·trivial
 have hM:MOk P J JF W tt:=⟨htt,fun w' hb=>hJ.below (fun _=>False) w w' hj (fun _ h=>h.elim) hb.os hb.tape hb.output hb.size (fun k hk hx=>hb.block k hk hx),fun b hb=>hJ.new w b hj hb,fun b h=>h.elim⟩
 refine ZaD (W:=W) hM hmix (.inl rfl) c hok (ZvT tt fn.results.toList fun _ r _=>wkR r res) _ ?_ _ (Zo args) _ w hI0 (fun _ _ h=>h) (by simp;omega) h
 intro ex U' st' a' w' hI' _ _ hK
 have fin:(match Zc3 tt st' fn.results.toList with | some x=>x.2.Nodup∧wkR x.1 res | none=>False)→a'.defers=[]∧∃v,(results fn a'.tmps).run P w'=.ok v w'∧∃u n,Ending.returned v=.returned u∧ZkF w' w.heap.size n res u∧(∀b,z b→n b)∧Below w.heap.size w w':=fun hK=>by
  split at hK
  ·rename_i x hx
   obtain ⟨r,ks⟩:=x
   obtain ⟨hnd,hw⟩:=hK
   obtain ⟨g,hH,hS⟩:=hI'.ex
   have hBg:∀k∈ks,∀b∈g.O k++g.D k,W.heap.size≤b:=fun k _ b mb=>(hH.plain k b mb).1.resolve_right fun h=>h
   obtain ⟨v,m,e1,e2,_,_,e4⟩:=Zxd htt hI' hH hS hx hnd hw hBg (fun _=>False) (fun _ h=>h.elim)
   have hbel:=hH.below
   exact ⟨hI'.defers,v,e1,v,m,rfl,e2,fun b hb=>e4 b (fun mb=>by obtain ⟨k,hk,mk⟩:=ZkZ mb;have:=hBg k hk b mk;have:=hz b hb;have e:W.heap.size=w.heap.size:=rfl;omega) (.inl (by rw [hH.gz];exact hb)),hbel.os,hbel.tape,hbel.output,hbel.size,fun k hk=>hbel.block k hk fun h=>h⟩
  ·exact hK.elim
 cases ex with
 | normal=>exact fin hK
 | exit id=>exact hK.elim
 | ret=>exact fin hK
theorem Zwj (htt : ∀ t i, tt t = some i → TOk P t i) (hJ : JOk J JF) (hmix : P.follows .mixedOrders = true) {hds : FuncId → Nat} {f : FuncId} {fn : Func} {c : Code} {args : List (Bool × List CT)} {res : List RT} (hf : P.funcs[f]? = some fn) (hname : (fn.name == "runtime.NumGoroutine") = false) (hb : fn.body = some c)
  (hok:X7 od tt hds false fn.ntmps c=true) (hlen:Nat.ble args.length fn.ntmps=true) (t0:Nat) (h:fnN od tt (SC P J JF hds) fn.results.toList t0 c args res):Zm P J f args res:=by
 refine ⟨⟨fn,hf,hname,by rw [hb];rfl⟩,fun w z vs hj hz hargs=>?_⟩
 letI:NW:=⟨w.heap.size⟩
 have hlen':args.length≤fn.ntmps:=AA hlen
 have hvl:=hargs.len
 refine calls_of_wp hf hb ?_
 let W:ZaK:={ w with z:=z,x:=fun _=>False,hv:=none }
 let g0:Gh:=⟨fun _=>undef,fun _=>[],fun _=>[],z⟩
 have hg0:∀b,g0.own b→z b:=fun b hb=>by
  rcases hb with ⟨k,m⟩ | h
  ·simp [g0] at m
  ·exact h
 have hI0:Inv W (fun _=>False) (Zo args) { tmps:=vs.toArray++AB (fn.ntmps - vs.toArray.size) undef,defers:=[] } w:=by
  refine ⟨⟨g0,⟨⟨rfl,rfl,rfl,A9 _,fun _ _ _=>rfl⟩,fun k=>⟨rfl,rfl⟩,fun k=>by simp [g0],fun k j _ b m=>by simp [g0] at m,fun k b m=>by simp [g0] at m,rfl,fun b hb=>⟨hz b hb,fun h=>h⟩,fun b hb=>hb.elim (fun h=>h) fun h=>h.elim⟩,fun t=>?_⟩,⟨fun t=>?_,fun k=>trivial,fun k _=>rfl⟩,rfl,fun v hv=>by simp [W] at hv⟩
  ·show SVR g0 w (match args[t]? with | some x=>.p x.1 (x.2.map Zjj) | none=>.und) _
   cases ht:args[t]? with
   | none=>exact ZnE (by have:args.length≤t:=(by simpa using ht);omega)
   | some x=>
    obtain ⟨v,hv,hr⟩:=hargs.at ht
    show SVR g0 w (.p x.1 (x.2.map Zjj)) ((vs.toArray++AB (fn.ntmps - vs.toArray.size) undef).getD t undef)
    rw [Znc (args:=args) (o:=0) yE v hv]
    exact Znq hg0 hr
  ·show svU _ (match args[t]? with | some x=>.p x.1 (x.2.map Zjj) | none=>.und)
   split
   ·exact Zmw _
   ·trivial
 have hM:MOk P J JF W tt:=⟨htt,fun w' hb=>hJ.below (fun _=>False) w w' hj (fun _ h=>h.elim) hb.os hb.tape hb.output hb.size (fun k hk hx=>hb.block k hk hx),fun b hb=>hJ.new w b hj hb,fun b h=>h.elim⟩
 refine ZaD (W:=W) hM hmix (.inl rfl) c hok (Zzu t0 (ZvT tt fn.results.toList fun _ r _=>wkR r res)) _ ?_ _ (Zo args) _ w hI0 (fun _ _ h=>h) (by simp;omega) h
 intro ex U1 st1 a' w' hI1 hn1 _ hK
 obtain ⟨U',hI'⟩:=Zxg (A9 _) t0 hI1 hn1
 generalize hst:st1.thaw t0=st' at hI'
 simp only[Zzu,hst] at hK
 have fin:(match Zc3 tt st' fn.results.toList with | some x=>x.2.Nodup∧wkR x.1 res | none=>False)→a'.defers=[]∧∃v,(results fn a'.tmps).run P w'=.ok v w'∧∃u n,Ending.returned v=.returned u∧ZkF w' w.heap.size n res u∧(∀b,z b→n b)∧Below w.heap.size w w':=fun hK=>by
  split at hK
  ·rename_i x hx
   obtain ⟨r,ks⟩:=x
   obtain ⟨hnd,hw⟩:=hK
   obtain ⟨g,hH,hS⟩:=hI'.ex
   have hBg:∀k∈ks,∀b∈g.O k++g.D k,W.heap.size≤b:=fun k _ b mb=>(hH.plain k b mb).1.resolve_right fun h=>h
   obtain ⟨v,m,e1,e2,_,_,e4⟩:=Zxd htt hI' hH hS hx hnd hw hBg (fun _=>False) (fun _ h=>h.elim)
   have hbel:=hH.below
   exact ⟨hI'.defers,v,e1,v,m,rfl,e2,fun b hb=>e4 b (fun mb=>by obtain ⟨k,hk,mk⟩:=ZkZ mb;have:=hBg k hk b mk;have:=hz b hb;have e:W.heap.size=w.heap.size:=rfl;omega) (.inl (by rw [hH.gz];exact hb)),hbel.os,hbel.tape,hbel.output,hbel.size,fun k hk=>hbel.block k hk fun h=>h⟩
  ·exact hK.elim
 cases ex with
 | normal=>exact fin hK
 | exit id=>exact hK.elim
 | ret=>exact fin hK
theorem Zvs (htt : ∀ t i, tt t = some i → TOk P t i) (hJ : JOk J JF) (hmix : P.follows .mixedOrders = true) {hds : FuncId → Nat} {f : FuncId} {fn : Func} {c : Code} {args : List (Bool × List CT)} {nb : NB} (hf : P.funcs[f]? = some fn) (hname : (fn.name == "runtime.NumGoroutine") = false) (hb : fn.body = some c)
  (hok:X7 od tt hds false fn.ntmps c=true) (hlen:Nat.ble args.length fn.ntmps=true) (h:fnB od tt (SC P J JF hds) fn.results.toList c args nb):ZqL P J f args nb:=by
 letI:NW:=nw0
 refine ⟨⟨fn,hf,hname,by rw [hb];rfl⟩,fun w z vs hj hz hargs=>?_⟩
 have hlen':args.length≤fn.ntmps:=AA hlen
 have hvl:=hargs.len
 refine calls_of_wp hf hb ?_
 let W:ZaK:={ w with z:=z,x:=fun _=>False,hv:=none }
 let g0:Gh:=⟨fun _=>undef,fun _=>[],fun _=>[],z⟩
 have hg0:∀b,g0.own b→z b:=fun b hb=>by
  rcases hb with ⟨k,m⟩ | h
  ·simp [g0] at m
  ·exact h
 have hI0:Inv W (fun _=>False) (Zo args) { tmps:=vs.toArray++AB (fn.ntmps - vs.toArray.size) undef,defers:=[] } w:=by
  refine ⟨⟨g0,⟨⟨rfl,rfl,rfl,A9 _,fun _ _ _=>rfl⟩,fun k=>⟨rfl,rfl⟩,fun k=>by simp [g0],fun k j _ b m=>by simp [g0] at m,fun k b m=>by simp [g0] at m,rfl,fun b hb=>⟨hz b hb,fun h=>h⟩,fun _ _=>AP _⟩,fun t=>?_⟩,⟨fun t=>?_,fun k=>trivial,fun k _=>rfl⟩,rfl,fun v hv=>by simp [W] at hv⟩
  ·show SVR g0 w (match args[t]? with | some x=>.p x.1 (x.2.map Zjj) | none=>.und) _
   cases ht:args[t]? with
   | none=>exact ZnE (by have:args.length≤t:=(by simpa using ht);omega)
   | some x=>
    obtain ⟨v,hv,hr⟩:=hargs.at ht
    show SVR g0 w (.p x.1 (x.2.map Zjj)) ((vs.toArray++AB (fn.ntmps - vs.toArray.size) undef).getD t undef)
    rw [Znc (args:=args) (o:=0) yE v hv]
    exact Znq hg0 hr
  ·show svU _ (match args[t]? with | some x=>.p x.1 (x.2.map Zjj) | none=>.und)
   split
   ·exact Zmw _
   ·trivial
 have hM:MOk P J JF W tt:=⟨htt,fun w' hb=>hJ.below (fun _=>False) w w' hj (fun _ h=>h.elim) hb.os hb.tape hb.output hb.size (fun k hk hx=>hb.block k hk hx),fun b hb=>hJ.new w b hj hb,fun b h=>h.elim⟩
 refine ZaD (W:=W) hM hmix (.inl rfl) c hok (Zzf fn.results.toList nb) _ ?_ _ (Zo args) _ w hI0 (fun _ _ h=>h) (by simp;omega) h
 intro ex U' st' a' w' hI' _ _ hK
 have fin:Zf6 st' fn.results.toList nb→a'.defers=[]∧∃v,(results fn a'.tmps).run P w'=.ok v w'∧∃(b:Nat) (n:Nat→Prop),Ending.returned v=.returned (ZpM b nb)∧w.heap.size≤b∧nbR w' n b nb∧n b∧(∀x,z x→n x)∧Below w.heap.size w w':=fun hK=>by
  unfold Zf6 at hK
  split at hK
  ·rename_i s hrs
   have er:fn.results=#[.tmp s]:=by
    have:=congrArg AQ hrs
    simpa using this
   obtain ⟨g,hH,hS⟩:=hI'.ex
   have hs:=hS s
   have hbel:=hH.below
   cases nb with
   | box t cs=>
    obtain ⟨k,ds,k1,k2,k3,k4⟩:=hK
    rw [k1] at hs
    obtain ⟨b,b1,b2⟩:=hs
    have hob:=hH.obs k
    rw [k2] at hob
    obtain ⟨b',us,o1,o2,o3,o4,o5⟩:=hob
    have hbb:b'=b:=by rw [b1] at o1;simpa using o1.symm
    subst hbb
    obtain ⟨L,hL,hL2⟩:=Zh1 hH k4 o5
    have hno:=hL2 fun y my=>by
     have:=AG.1 k3 y my
     cases y<;>simp [ZbX] at this<;>trivial
    refine ⟨hI'.defers,_,?_,b',fun x=>g.own x,rfl,(hH.plain k b' (by simp [o2])).1.resolve_right fun h=>h,⟨us,L,o4,hL,hno⟩,.inl ⟨k,by simp [o2]⟩,fun x hx=>.inr (by rw [hH.gz];exact hx),hbel.os,hbel.tape,hbel.output,hbel.size,fun k hk=>hbel.block k hk fun h=>h⟩
    rw [ZiZ,er]
    simp [ZfZ,b2,ZpM]
   | map kk vk kv=>
    obtain ⟨k,k1,k2⟩:=hK
    rw [k1] at hs
    obtain ⟨x,hx,hx3⟩:=hs
    simp only[Aa,and_true] at hx
    subst hx
    obtain ⟨hx2,_⟩:=hx3
    have hob:=hH.obs k
    rw [k2] at hob
    obtain ⟨b,es,c,o1,o2,o3,o4,o5⟩:=hob
    refine ⟨hI'.defers,_,?_,b,fun x=>g.own x,rfl,(hH.plain k b (by simp [o2])).1.resolve_right fun h=>h,⟨es,c,o4,o5⟩,.inl ⟨k,by simp [o2]⟩,fun x hx=>.inr (by rw [hH.gz];exact hx),hbel.os,hbel.tape,hbel.output,hbel.size,fun k hk=>hbel.block k hk fun h=>h⟩
    rw [ZiZ,er]
    simp [ZfZ,hx2,o1,ZpM]
  ·exact hK.elim
 cases ex with
 | normal=>exact fin hK
 | exit id=>exact hK.elim
 | ret=>exact fin hK
end
instance nwD:NW:=nw0
end
section
open Go.RowKit
def Zlc {α β:Type} (f:α→β→Bool):List α→List β→Bool
 | [],[]=>true
 | a::l,b::r=>f a b&&Zlc f l r
 | _,_=>false
theorem ZjP {α β:Type} {f:α→β→Bool} {R:α→β→Prop} (h:∀a b,f a b=true→R a b):∀{l:List α} {r:List β},Zlc f l r=true→ZM R l r
 | [],[],_=>trivial
 | a::l,b::r,hh=>by
  simp only[Zlc,A4] at hh
  exact ⟨h a b hh.1,ZjP h hh.2⟩
 | [],_::_,hh=>by simp [Zlc] at hh
 | _::_,[],hh=>by simp [Zlc] at hh
def ZwA (P:Program) (fi:FI) (f:Field):Bool:=
 f.offset==fi.off&&!(fi.size==0)&&match P.info? f.type,P.underlying f.type with
  | some j,some d=>j.size==fi.size&&(ZsK d==fi.agg)
  | _,_=>false
def ZAU:Value→Bool
 | .slice none 0 0=>true
 | _=>false
def Zv5 (P:Program):List PK→List Field→Nat→Bool
 | [],[],_=>true
 | k :: ks, f :: fs, n => (f.name != "_") && (f.offset == n) && (match P.underlying f.type with | some d => Zd8 k d | none => false) && Zv5 P ks fs (n + 1)
 | _,_,_=>false
theorem ZuU {P:Program}:∀{ks:List PK} {fs:List Field} {n:Nat},Zv5 P ks fs n=true→EqF P ks fs n
 | [],[],_,_=>trivial
 | k::ks,f::fs,n,h=>by
  simp only[Zv5,A4,bne_iff_ne,beq_iff_eq] at h
  obtain ⟨⟨⟨h1,h2⟩,h3⟩,h4⟩:=h
  split at h3
  ·rename_i d hd;exact ⟨h1,h2,⟨d,hd,h3⟩,ZuU h4⟩
  ·simp at h3
 | [],_::_,_,h=>by simp [Zv5] at h
 | _::_,[],_,h=>by simp [Zv5] at h
def ZoX:Option TypeDesc→Bool
 | some (.struct _)=>true
 | _=>false
def ZBL (P:Program) (t:TypeId) (ks:List PK):Bool:=
 Nat.ble 4000 t&&ZoX (P.underlying (t - 4000))&&!(P.stoodInHeld (t - 4000))&&!(P.eqGuardType P.depth (t - 4000))&&Zv5 P ks (P.fieldsOf (t - 4000)).toList 0
theorem ZyB {P:Program} {t:TypeId} {ks:List PK} (h:ZBL P t ks=true):TOk P t (.eqs ks):=by
 simp only[ZBL,A4,Ah] at h
 obtain ⟨⟨⟨⟨h1,h2⟩,h3⟩,h4⟩,h5⟩:=h
 refine ⟨t - 4000,?_,?_,h3,h4,ZuU h5⟩
 ·have:4000≤t:=AA h1
  exact (Nat.sub_add_cancel this).symm
 ·unfold ZoX at h2
  split at h2
  ·rename_i fs e
   unfold Program.fieldsOf
   rw [e]
  ·simp at h2
def tOk (P:Program) (t:TypeId) (ti:TI):Bool:=
 match ti with
 | .eqs ks=>ZBL P t ks
 | _=>
 match P.underlying t,P.info? t with
 | some d,some i=>match ti with
  | .atom z=>Zif d z&&i.size==1&&match i.zero with | some zv=>ZaM z zv | none=>false
  | .strct fs n z=>match d with
   | .struct fields=>i.size==n&&(match i.zero with | some (.agg zvs)=>Zlc ZaM z zvs.toList | _=>false)&&Zlc (ZwA P) fs fields.toList
   | _=>false
  | .slice e m bytes z=>match d with
   | .slice e'=>e==e'&&Nat.blt 0 m&&Nat.ble bytes 131072&&(match P.info? e with
     | some ie=>ie.size==m&&ie.bytes==bytes&&(match ie.zero with | some zv=>Zlc ZaM z zv.cells.toList | none=>false)
     | none=>false)&&z.length==m&&i.size==1&&(match i.zero with | some zv=>ZAU zv | none=>false)
   | _=>false
  | .map kk vk=>match d with
   | .map kt et=>(match P.underlying kt with | some dk=>Zd8 kk dk | none=>false)&&(match P.underlying et with | some dv=>Zd8 vk dv | none=>false)&&(match P.info? et with | some ie=>(match ie.zero with | some zv=>ZaM (Zfc vk) zv | none=>false) | none=>false)
   | _=>false
  | .ifc=>match d with
   | .interface _=>true
   | _=>false
  | .eqs _=>false
 | _,_=>false
theorem Zyj {v:Value} (h:ZAU v=true):v=.slice none 0 0:=by
 unfold ZAU at h
 split at h
 ·rfl
 ·simp at h
theorem ZzO {P:Program} {t:TypeId} {ti:TI} (h:tOk P t ti=true):TOk P t ti:=by
 unfold tOk at h
 split at h
 ·exact ZyB h
 split at h
 ·rename_i d i hd hi
  cases ti with
  | eqs ks=>simp at h
  | ifc=>
   simp only at h
   split at h
   ·exact ⟨_,hd⟩
   ·simp at h
  | map kk vk=>
   simp only at h
   split at h
   ·rename_i kt et
    simp only[A4] at h
    obtain ⟨⟨h1,h2⟩,h3⟩:=h
    split at h1
    ·rename_i dk c
     split at h2
     ·rename_i dv g
      split at h3
      ·rename_i ie b
       split at h3
       ·rename_i zv hz
        exact ⟨kt,et,dk,dv,ie,zv,hd,c,h1,g,h2,b,hz,h3⟩
       ·simp at h3
      ·simp at h3
     ·simp at h2
    ·simp at h1
   ·simp at h
  | atom z=>
   simp only[A4,beq_iff_eq] at h
   obtain ⟨⟨h1,h2⟩,h3⟩:=h
   split at h3
   ·rename_i zv hz;exact ⟨d,zv,i,hd,h1,hi,hz,h2,h3⟩
   ·simp at h3
  | strct fs n z=>
   simp only at h
   split at h
   ·rename_i a
    simp only[A4,beq_iff_eq] at h
    obtain ⟨⟨h1,h2⟩,h3⟩:=h
    split at h2
    ·rename_i zvs hz
     refine ⟨a,i,zvs,hd,hi,h1,hz,ZjP (fun _ _ h=>h) h2,ZjP (fun fi f hf=>?_) h3⟩
     unfold ZwA at hf
     simp only[A4,beq_iff_eq,Ah,beq_eq_false_iff_ne] at hf
     obtain ⟨⟨f1,f2⟩,f3⟩:=hf
     split at f3
     ·rename_i j d' hj k
      simp only[A4,beq_iff_eq] at f3
      exact ⟨f1,f2,j,d',hj,f3.1,k,f3.2⟩
     ·simp at f3
    ·simp at h2
   ·simp at h
  | slice e m bytes z=>
   simp only at h
   split at h
   ·rename_i e'
    simp only[A4,beq_iff_eq] at h
    obtain ⟨⟨⟨⟨⟨⟨h1,h2⟩,h3⟩,h4⟩,h5⟩,h6⟩,h7⟩:=h
    subst h1
    split at h4
    ·rename_i ie b
     simp only[A4,beq_iff_eq] at h4
     obtain ⟨⟨k1,k2⟩,k3⟩:=h4
     split at k3
     ·rename_i zv hz
      split at h7
      ·rename_i zv' l
       exact ⟨hd,AA h2,AA h3,⟨ie,zv,b,k1,k2,hz,ZjP (fun _ _ h=>h) k3,h5⟩,i,hi,h6,by rw [l,Zyj h7]⟩
      ·simp at h7
     ·simp at k3
    ·simp at h4
   ·simp at h
 ·simp at h
def Zx2:List (Nat × TI)→Nat→Option TI
 | [],_=>none
 | p::r,t=>if p.1=t then some p.2 else Zx2 r t
theorem Zxw {P:Program}:∀(l:List (Nat × TI)),(l.all fun p=>tOk P p.1 p.2)=true→∀t i,Zx2 l t=some i→TOk P t i
 | [],_,t,i,h=>by simp [Zx2] at h
 | p::r,ha,t,i,h=>by
  simp only[AU,A4] at ha
  simp only[Zx2] at h
  split at h
  ·rename_i e
   simp only[A3] at h
   subst h e
   exact ZzO ha.1
  ·exact Zxw r ha.2 t i h
end
section
open Go.RowKit
structure Zc where
 rel:ByteArray
 args:List ByteArray
def Z8:Yh Zc where
 size:=2
 rep:=fun w cs x L=>∃A1 c1 L1,cs=[.string x.rel,.slice A1 x.args.length c1]∧L=L1∧x.rel.size≤9223372036854775807∧x.args.length≤c1∧c1≤maxLen∧Sli Zde w A1 x.args L1
 len:=fun ⟨A1,c1,L1,h,hL,t0,n1,m1,s1⟩=>by simp [h]
 keep:=fun ⟨A1,c1,L1,h,hL,t0,n1,m1,s1⟩ hk=>⟨A1,c1,L1,h,hL,t0,n1,m1,s1.keep (fun b m=>hk b (by simp [hL,m]))⟩
 lt:=fun ⟨A1,c1,L1,h,hL,t0,n1,m1,s1⟩=>by intro b m;simp only[hL,A5] at m;exact s1.lt b m
 one:=fun ⟨A1,c1,L1,h,hL,t0,n1,m1,s1⟩=>by simp [h,Value.oneCell']
 pos:=by omega
theorem ZcS {w:World} {cs:List Value} {x:Zc} {L:List Nat} (h:Z8.rep w cs x L):∃A1 c1,cs=[.string x.rel,.slice A1 x.args.length c1]:=by
 obtain ⟨A1,c1,L1,h,hL,t0,n1,m1,s1⟩:=h
 exact ⟨A1,c1,h⟩
def Xx (x:Zc):Nat:=x.rel.size+XD x.args
def Yu (l:List Zc):Nat:=l.length+(l.map Xx).sum
def Zua (x:Zc):Prop:=(fun _=>True) x.rel∧(fun ds=>∀d∈ds,(fun _=>True) d) x.args
structure Zx where
 rel:ByteArray
 args:List ByteArray
def Qq:Yh Zx where
 size:=2
 rep:=fun w cs x L=>∃A1 c1 L1,cs=[.string x.rel,.slice A1 x.args.length c1]∧L=L1∧x.rel.size≤9223372036854775807∧x.args.length≤c1∧c1≤maxLen∧Sli Zde w A1 x.args L1
 len:=fun ⟨A1,c1,L1,h,hL,t0,n1,m1,s1⟩=>by simp [h]
 keep:=fun ⟨A1,c1,L1,h,hL,t0,n1,m1,s1⟩ hk=>⟨A1,c1,L1,h,hL,t0,n1,m1,s1.keep (fun b m=>hk b (by simp [hL,m]))⟩
 lt:=fun ⟨A1,c1,L1,h,hL,t0,n1,m1,s1⟩=>by intro b m;simp only[hL,A5] at m;exact s1.lt b m
 one:=fun ⟨A1,c1,L1,h,hL,t0,n1,m1,s1⟩=>by simp [h,Value.oneCell']
 pos:=by omega
theorem ZgK {w:World} {cs:List Value} {x:Zx} {L:List Nat} (h:Qq.rep w cs x L):∃A1 c1,cs=[.string x.rel,.slice A1 x.args.length c1]:=by
 obtain ⟨A1,c1,L1,h,hL,t0,n1,m1,s1⟩:=h
 exact ⟨A1,c1,h⟩
def Z6 (x:Zx):Nat:=x.rel.size+XD x.args
def ZkT (x:Zx):Prop:=(fun _=>True) x.rel∧(fun ds=>∀d∈ds,(fun _=>True) d) x.args
structure Zi where
 var:ByteArray
 value:ByteArray
def Yd:Yh Zi where
 size:=2
 rep:=fun w cs x L=>cs=[.string x.var,.string x.value]∧L=[]∧x.var.size≤9223372036854775807∧x.value.size≤9223372036854775807
 len:=fun h=>by simp [h.1]
 keep:=fun h _=>h
 lt:=fun h=>by simp [h.2.1]
 one:=fun h=>by simp [h.1,Value.oneCell']
 pos:=by omega
theorem Zlj {w:World} {cs:List Value} {x:Zi} {L:List Nat} (h:Yd.rep w cs x L):cs=[.string x.var,.string x.value]:=by
 exact h.1
def Zd1 (x:Zi):Nat:=x.var.size+x.value.size
def ZdD (l:List Zi):Nat:=l.length+(l.map Zd1).sum
structure Zl where
 kind:Int
 pattern:Zx
 left:ByteArray
 right:ByteArray
def YL:Yh Zl where
 size:=5
 rep:=fun w cs x L=>∃A1 c1 L1,cs=[.int .i64 x.kind,.string x.pattern.rel,.slice A1 x.pattern.args.length c1,.string x.left,.string x.right]∧L=L1∧x.pattern.rel.size≤9223372036854775807∧x.left.size≤9223372036854775807∧x.right.size≤9223372036854775807∧x.pattern.args.length≤c1∧c1≤maxLen∧Sli Zde w A1 x.pattern.args L1
 len:=fun ⟨A1,c1,L1,h,hL,t0,t1,t2,n1,m1,s1⟩=>by simp [h]
 keep:=fun ⟨A1,c1,L1,h,hL,t0,t1,t2,n1,m1,s1⟩ hk=>⟨A1,c1,L1,h,hL,t0,t1,t2,n1,m1,s1.keep (fun b m=>hk b (by simp [hL,m]))⟩
 lt:=fun ⟨A1,c1,L1,h,hL,t0,t1,t2,n1,m1,s1⟩=>by intro b m;simp only[hL,A5] at m;exact s1.lt b m
 one:=fun ⟨A1,c1,L1,h,hL,t0,t1,t2,n1,m1,s1⟩=>by simp [h,Value.oneCell']
 pos:=by omega
theorem ZcW {w:World} {cs:List Value} {x:Zl} {L:List Nat} (h:YL.rep w cs x L):∃A1 c1,cs=[.int .i64 x.kind,.string x.pattern.rel,.slice A1 x.pattern.args.length c1,.string x.left,.string x.right]:=by
 obtain ⟨A1,c1,L1,h,hL,t0,t1,t2,n1,m1,s1⟩:=h
 exact ⟨A1,c1,h⟩
def Ys (x:Zl):Nat:=Z6 x.pattern+x.left.size+x.right.size
def Z3 (l:List Zl):Nat:=l.length+(l.map Ys).sum
def Zp7 (x:Zl):Prop:=Zlp x.kind∧ZkT x.pattern∧(fun _=>True) x.left∧(fun _=>True) x.right
structure Zu where
 kind:Int
 pattern:Zx
def Yp:Yh Zu where
 size:=3
 rep:=fun w cs x L=>∃A1 c1 L1,cs=[.int .i64 x.kind,.string x.pattern.rel,.slice A1 x.pattern.args.length c1]∧L=L1∧x.pattern.rel.size≤9223372036854775807∧x.pattern.args.length≤c1∧c1≤maxLen∧Sli Zde w A1 x.pattern.args L1
 len:=fun ⟨A1,c1,L1,h,hL,t0,n1,m1,s1⟩=>by simp [h]
 keep:=fun ⟨A1,c1,L1,h,hL,t0,n1,m1,s1⟩ hk=>⟨A1,c1,L1,h,hL,t0,n1,m1,s1.keep (fun b m=>hk b (by simp [hL,m]))⟩
 lt:=fun ⟨A1,c1,L1,h,hL,t0,n1,m1,s1⟩=>by intro b m;simp only[hL,A5] at m;exact s1.lt b m
 one:=fun ⟨A1,c1,L1,h,hL,t0,n1,m1,s1⟩=>by simp [h,Value.oneCell']
 pos:=by omega
theorem ZaY {w:World} {cs:List Value} {x:Zu} {L:List Nat} (h:Yp.rep w cs x L):∃A1 c1,cs=[.int .i64 x.kind,.string x.pattern.rel,.slice A1 x.pattern.args.length c1]:=by
 obtain ⟨A1,c1,L1,h,hL,t0,n1,m1,s1⟩:=h
 exact ⟨A1,c1,h⟩
def Yt (x:Zu):Nat:=Z6 x.pattern
def Ym (l:List Zu):Nat:=l.length+(l.map Yt).sum
def ZrH (x:Zu):Prop:=Zlp x.kind∧ZkT x.pattern
structure Zg where
 name:ByteArray
 priority:Int
 cond:List Zl
 thn:List Zu
def XW:Yh Zg where
 size:=4
 rep:=fun w cs x L=>∃A1 c1 L1 A2 c2 L2,cs=[.string x.name,.int .i64 x.priority,.slice A1 x.cond.length c1,.slice A2 x.thn.length c2]∧L=L1++L2∧x.name.size≤9223372036854775807∧x.cond.length≤c1∧c1≤maxLen∧Sli YL w A1 x.cond L1∧x.thn.length≤c2∧c2≤maxLen∧Sli Yp w A2 x.thn L2
 len:=fun ⟨A1,c1,L1,A2,c2,L2,h,hL,t0,n1,m1,s1,n2,m2,s2⟩=>by simp [h]
 keep:=fun ⟨A1,c1,L1,A2,c2,L2,h,hL,t0,n1,m1,s1,n2,m2,s2⟩ hk=>⟨A1,c1,L1,A2,c2,L2,h,hL,t0,n1,m1,s1.keep (fun b m=>hk b (by simp [hL,m])),n2,m2,s2.keep (fun b m=>hk b (by simp [hL,m]))⟩
 lt:=fun ⟨A1,c1,L1,A2,c2,L2,h,hL,t0,n1,m1,s1,n2,m2,s2⟩=>by intro b m;simp only[hL,A5] at m;rcases m with m | m<;>first | exact s1.lt b m | exact s2.lt b m
 one:=fun ⟨A1,c1,L1,A2,c2,L2,h,hL,t0,n1,m1,s1,n2,m2,s2⟩=>by simp [h,Value.oneCell']
 pos:=by omega
theorem Zc2 {w:World} {cs:List Value} {x:Zg} {L:List Nat} (h:XW.rep w cs x L):∃A1 c1 A2 c2,cs=[.string x.name,.int .i64 x.priority,.slice A1 x.cond.length c1,.slice A2 x.thn.length c2]:=by
 obtain ⟨A1,c1,L1,A2,c2,L2,h,hL,t0,n1,m1,s1,n2,m2,s2⟩:=h
 exact ⟨A1,c1,A2,c2,h⟩
def Yv (x:Zg):Nat:=x.name.size+Z3 x.cond+Ym x.thn
def Yg (l:List Zg):Nat:=l.length+(l.map Yv).sum
def ZtX (x:Zg):Prop:=(fun _=>True) x.name∧Zlp x.priority∧(fun ds=>∀d∈ds,Zp7 d) x.cond∧(fun ds=>∀d∈ds,ZrH d) x.thn
structure Zq where
 facts:List Zc
 binding:List Zi
def Zb6:Yh Zq where
 size:=2
 rep:=fun w cs x L=>∃A1 c1 L1 A2 c2 L2,cs=[.slice A1 x.facts.length c1,.slice A2 x.binding.length c2]∧L=L1++L2∧x.facts.length≤c1∧c1≤maxLen∧Sli Z8 w A1 x.facts L1∧x.binding.length≤c2∧c2≤maxLen∧Sli Yd w A2 x.binding L2
 len:=fun ⟨A1,c1,L1,A2,c2,L2,h,hL,n1,m1,s1,n2,m2,s2⟩=>by simp [h]
 keep:=fun ⟨A1,c1,L1,A2,c2,L2,h,hL,n1,m1,s1,n2,m2,s2⟩ hk=>⟨A1,c1,L1,A2,c2,L2,h,hL,n1,m1,s1.keep (fun b m=>hk b (by simp [hL,m])),n2,m2,s2.keep (fun b m=>hk b (by simp [hL,m]))⟩
 lt:=fun ⟨A1,c1,L1,A2,c2,L2,h,hL,n1,m1,s1,n2,m2,s2⟩=>by intro b m;simp only[hL,A5] at m;rcases m with m | m<;>first | exact s1.lt b m | exact s2.lt b m
 one:=fun ⟨A1,c1,L1,A2,c2,L2,h,hL,n1,m1,s1,n2,m2,s2⟩=>by simp [h,Value.oneCell']
 pos:=by omega
structure Zf where
 for_:Int
 inn:List Int
 outs:List Int
structure Zt where
 nodes:Int
 reasons:List Zf
structure ZzC where
 fact:Zc
 rule:ByteArray
 uses:List Int
structure Zwt where
 rule:ByteArray
 done:Int
 cond:ByteArray
end
section
open Go.RowKit
section
variable {od:OD} {tt:Nat→Option TI} {S:Ctx}
theorem ZaH {α:Type} {r:Option α} {K K':α→Prop} (h:∀x,K x→K' x) (hh:YZ r K):YZ r K':=by
 cases r with
 | none=>exact hh
 | some v=>exact h v hh
theorem ZrC {key:Nat} {o:Oper} {K K':St→Prop} {st:St} (h:∀st,K st→K' st) (hh:opS tt S key o K st):opS tt S key o K' st:=by
 unfold opS at hh ⊢
 split
 ·rename_i c hc
  rw [hc] at hh
  simp only[spK] at hh ⊢
  split
  ·rename_i e
   rw [e] at hh
   exact ZaH (fun l ⟨f,h1,h2,h3,h4⟩=>⟨f,h1,h2,h3,h _ h4⟩) hh
  ·rename_i e
   rw [e] at hh
   simp only[ZuJ] at hh ⊢
   split
   ·rename_i e2;rw [e2] at hh;exact hh
   ·rename_i e2
    rw [e2] at hh
    exact ZaH (fun kh=>ZaH fun l ⟨f,h',h1,h2,h3,h4⟩=>⟨f,h',h1,h2,h3,h _ h4⟩) hh
  ·rename_i e
   rw [e] at hh
   exact ZaH (fun l ⟨nb,h1,h4⟩=>⟨nb,h1,h _ h4⟩) hh
  ·rename_i e
   rw [e] at hh
   exact ZaH (fun l ⟨f,h1,h2,h3,h4⟩=>⟨f,h1,h2,h3,h _ h4⟩) hh
  ·rename_i n0 n1 n3 n4
   have g:YZ (Z1 st (evs tt st c.2.1 c.2.2)) (Zzi S c.1 key o.dst K st (evs tt st c.2.1 c.2.2)):=by
    revert hh
    split
    ·rename_i e;exact absurd e n0
    ·rename_i e;exact absurd e n1
    ·rename_i e;exact absurd e n3
    ·rename_i e;exact absurd e n4
    ·exact id
   exact ZaH (fun l ⟨f,h1,h2,h3⟩=>⟨f,h1,h2,h _ h3⟩) g
 ·rename_i hc
  rw [hc] at hh
  simp only at hh
  split
  ·rename_i c hd
   rw [hd] at hh
   simp only at hh
   exact ZaH (fun fc ⟨h0,h1⟩=>⟨h0,ZaH (fun l ⟨f,a,b,c,d⟩=>⟨f,a,b,c,h _ d⟩) h1⟩) hh
  ·rename_i hd
   rw [hd] at hh
   simp only at hh
   exact ZaH (fun r hr=>h _ hr) hh
theorem ZmU {all:List Oper} {key:Nat} {o:Oper} {K K':St→Prop} {st:St} (h:∀st,K st→K' st) (hh:opG tt S all key o K st):opG tt S all key o K' st:=by
 unfold opG at hh ⊢
 split
 ·rename_i hg;rw [hg] at hh;exact ZrC h hh
 ·rename_i hg;rw [hg] at hh;exact h _ hh
 ·rename_i hg
  rw [hg] at hh
  simp only[gK] at hh ⊢
  split
  ·rename_i h1
   rw [if_pos h1] at hh
   split
   ·rename_i h2;rw [if_pos h2] at hh;exact ZrC h hh
   ·rename_i h2;rw [if_neg h2] at hh;exact h _ hh
  ·rename_i h1
   rw [if_neg h1] at hh
   split
   ·rename_i h2;rw [if_pos h2] at hh;exact h _ hh
   ·rename_i h2;rw [if_neg h2] at hh;exact hh
theorem ZoY {all:List Oper} {K K':St→Prop} (h:∀st,K st→K' st):∀(r:List Oper) (key:Nat) (st:St),Z7 tt S all key r K st→Z7 tt S all key r K' st
 | [],_,st,hh=>h st hh
 | o::r,key,st,hh=>ZmU (fun st' h'=>ZoY h r (key+16) st' h') hh
theorem Znh {F:(Ex→St→Prop)→St→Prop} (hF:∀Q Q' st,(∀e st,Q e st→Q' e st)→F Q st→F Q' st) {Q Q':Ex→St→Prop} (h:∀e st,Q e st→Q' e st):∀(n:Nat) (st:St),Zlo F Q n st→Zlo F Q' n st
 | 0,_,hh=>hh
 | n+1,st,⟨ms,ρ,h1,h2⟩=>⟨ms,ρ,h1,fun hw=>hF _ _ _ (fun e st' h'=>by cases e<;>first | exact Znh hF h n st' h' | exact h _ _ h') (h2 hw)⟩
theorem Zh5 {b:Bool} {all:List Oper} {base:Nat} {K K':St→Prop} (h:∀st,K st→K' st):∀(l:List Nat) (st:St),Zf3 tt S b all base l K st→Zf3 tt S b all base l K' st
 | [],st,hh=>h st hh
 | i::r,st,hh=>by
  simp only[Zf3] at hh ⊢
  split
  ·rename_i o ho
   rw [ho] at hh
   cases b with
   | true=>exact ⟨hh.1,ZmU (fun st' h'=>Zh5 h r st' h') hh.2⟩
   | false=>exact ZmU (fun st' h'=>Zh5 h r st' h') hh
  ·rename_i ho
   rw [ho] at hh
   exact Zh5 h r st hh
theorem Zak:∀(c:Code) (Q Q':Ex→St→Prop) (st:St),(∀e st,Q e st→Q' e st)→swp tt S od c Q st→swp tt S od c Q' st
 | .skip,Q,Q',st,h,hh=>h _ _ hh
 | .exit _,Q,Q',st,h,hh=>h _ _ hh
 | .ret,Q,Q',st,h,hh=>h _ _ hh
 | .region id d _,Q,Q',st,h,hh=>by
  simp only[swp,Zvi] at hh ⊢
  split
  ·rename_i e
   rw [e] at hh
   exact ZoY (fun st' h'=>h _ _ h') d.toList st.n st hh
  ·rename_i l e
   rw [e] at hh
   exact Zh5 (fun st' h'=>h _ _ h') l.1 st hh
 | .seq a b,Q,Q',st,h,hh=>Zak a _ _ st (fun e st' h'=>by cases e<;>first | exact Zak b Q Q' st' h h' | exact h _ _ h') hh
 | .cond c a b,Q,Q',st,h,hh=>by
  simp only[swp,ZpB] at hh ⊢
  split
  ·rename_i h1
   rw [if_pos h1] at hh
   split
   ·rename_i h2;rw [if_pos h2] at hh;exact Zak a Q Q' st h hh
   ·rename_i h2;rw [if_neg h2] at hh;exact Zak b Q Q' st h hh
  ·rename_i h1;rw [if_neg h1] at hh;exact hh
 | .block id b,Q,Q',st,h,hh=>Zak b _ _ st (fun e st' h'=>by
   cases e with
   | normal=>exact h _ _ h'
   | ret=>exact h _ _ h'
   | exit j=>
    simp only[Zhd] at h' ⊢
    split
    ·rename_i e;rw [if_pos e] at h';exact h _ _ h'
    ·rename_i e;rw [if_neg e] at h';exact h _ _ h') hh
 | .loop b,Q,Q',st,h,⟨n,hh⟩=>⟨n,Znh (fun Q Q' st hq hs=>Zak b Q Q' st hq hs) h n st hh⟩
 | .rangeFunc _ _ _ _,_,_,_,_,hh=>hh.elim
 | .scope _,_,_,_,_,hh=>hh.elim
 | .label _,_,_,_,_,hh=>hh.elim
 | .goto _,_,_,_,_,hh=>hh.elim
 | .refuse _,_,_,_,_,hh=>hh.elim
end
theorem ZeT {x:Int} (h0:-9223372036854775808≤x) (h1:x≤9223372036854775807):IntKind.i64.wrap x=x:=IntWalk.i64_in _ ⟨h0,h1⟩
theorem ZBo (sl:Nat→SV) (ob:Nat→Ob) (n:Nat) (ρ:List Nat) (t:Nat):(St.ren ⟨sl,ob,n⟩ ρ).sl t=rSV ρ (sl t):=yi rfl
theorem ZA9 (sl:Nat→SV) (ob:Nat→Ob) (n:Nat) (ρ:List Nat) (j:Nat):(St.ren ⟨sl,ob,n⟩ ρ).ob j=match ρ[j]? with | some k=>rOb ρ (ob k) | none=>.gone:=yi rfl
theorem ZEB (st:St) (ρ:List Nat):(st.ren ρ).n=ρ.length:=yi rfl
theorem ZxO (st:St):st.mats []=st:=yi rfl
theorem Zwk (sl:Nat→SV) (ob:Nat→Ob) (n t j:Nat) (r:List (Bool × Nat × Nat)):St.mats ⟨sl,ob,n⟩ ((false,t,j)::r)=if 4096≤j then St.mats (match sl t with
  | .p ag cs=>(match cs[j - 4096]? with
   | some (.row k)=>(match ob k with
    | .row e q xs d=>if d=2 then ⟨upd sl t (.p ag (cs.set (j - 4096) (.n (.sl e q xs)))),upd ob k (.row e q xs 0),n⟩ else ⟨sl,ob,n⟩
    | _=>⟨sl,ob,n⟩)
   | _=>⟨sl,ob,n⟩)
  | _=>⟨sl,ob,n⟩) r else St.mats (match sl t with
  | .p ag cs=>(match cs[j]? with
   | some (.nil e q)=>if 0<q then ⟨upd sl t (.p ag (cs.set j (.row n))),upd ob n (.row e q [] 2),n+1⟩ else ⟨sl,ob,n⟩
   | some (.row k)=>(match ob k with
    | .row e q xs _=>⟨upd sl t (.p ag (cs.set j (.c (.sl e q xs)))),upd ob k (.row e q xs 0),n⟩
    | _=>⟨sl,ob,n⟩)
   | _=>⟨sl,ob,n⟩)
  | _=>⟨sl,ob,n⟩) r:=by
 by_cases h:4096≤j
 ·rw [if_pos h,St.mats,if_pos ⟨rfl,h⟩];rfl
 ·rw [if_neg h,St.mats,if_neg (fun e=>h e.2)];rfl
theorem Zxs (sl:Nat→SV) (ob:Nat→Ob) (n k i:Nat) (r:List (Bool × Nat × Nat)):St.mats ⟨sl,ob,n⟩ ((true,k,i)::r)=St.mats (match ob k with
  | .box ty cs=>(match cs[i]? with
   | some (.nil e q)=>if 0<q then ⟨sl,upd (upd ob k (.box ty (cs.set i (.row n)))) n (.row e q [] 2),n+1⟩ else ⟨sl,ob,n⟩
   | some (.row j)=>(match ob j with
    | .row e q xs _=>⟨sl,upd (upd ob j (.row e q xs 0)) k (.box ty (cs.set i (.c (.sl e q xs)))),n⟩
    | _=>⟨sl,ob,n⟩)
   | _=>⟨sl,ob,n⟩)
  | .row e q xs d=>(if i<d then ⟨sl,upd ob k (.row e q xs i),n⟩ else ⟨sl,ob,n⟩)
  | _=>⟨sl,ob,n⟩) r:=yi rfl
theorem nn (k:Nat):(0≤(k:Int))=True:=by simp
theorem ZEp:(true==true)=true:=yi rfl
theorem ZEJ:(false==true)=false:=yi rfl
theorem ZEF:(true==false)=false:=yi rfl
theorem ZFR:(false==false)=true:=yi rfl
attribute [go_sem] Zut Zjl ZlO ZxO Zwk Zxs nn ZEp ZEJ ZEF ZFR ZBo ZA9 ZEB rSV rAV rOb ZqU
end
section
open Go.RowKit
def chk {α:Type} (c:Prop) [Decidable c] (x:Option α):Option α:=if c then x else none
def atI {α:Type} (l:List α) (i:Int):Option α:=if 0≤i then l[i.toNat]? else none
def Zp {α σ ρ:Type} (body:Nat→α→σ→Option (σ ⊕ ρ)) (fin:σ→Option ρ):List α→Nat→σ→Option ρ
 | [],_,s=>fin s
 | x::l,i,s=>match body i x s with
  | none=>none
  | some (.inl s')=>Zp body fin l (i+1) s'
  | some (.inr r)=>some r
def Zdj {σ ρ:Type} (body:σ→Option (σ ⊕ ρ)):Nat→σ→Option ρ
 | 0,_=>none
 | n+1,s=>match body s with
  | none=>none
  | some (.inl s')=>Zdj body n s'
  | some (.inr r)=>some r
open Classical in
noncomputable def XI {σ ρ:Type} (body:σ→Option (σ ⊕ ρ)) (s:σ):Option ρ:=if h:∃n,(Zdj body n s).isSome=true then Zdj body (Classical.choose h) s else none
section
variable {α β σ ρ:Type} {r:ρ}
theorem Zi9 {body:σ→Option (σ ⊕ ρ)}:∀{n:Nat} (m:Nat) {s:σ} {r:ρ},Zdj body n s=some r→Zdj body (n+m) s=some r
 | 0,_,_,_,h=>by simp [Zdj] at h
 | n+1,m,s,r,h=>by
  rw [show n+1+m=n+m+1 by omega]
  simp only[Zdj] at h ⊢
  cases e:body s with
  | none=>rw [e] at h;simp at h
  | some y=>
   rw [e] at h
   cases y with
   | inl s'=>exact Zi9 m h
   | inr r'=>exact h
theorem Zj3 {body:σ→Option (σ ⊕ ρ)} {s:σ} {r:ρ}:XI body s=some r↔∃n,Zdj body n s=some r:=by
 constructor
 ·intro h
  unfold XI at h
  split at h
  ·exact ⟨_,h⟩
  ·simp at h
 ·rintro ⟨n,hn⟩
  have a:∃n,(Zdj body n s).isSome=true:=⟨n,by simp [hn]⟩
  unfold XI
  rw [dif_pos a]
  have h2:=Classical.choose_spec a
  obtain ⟨r',b⟩:=Option.isSome_iff_exists.1 h2
  rw [b]
  have a1:=Zi9 n b
  have a2:=Zi9 (Classical.choose a) hn
  rw [Nat.add_comm] at a2
  rw [a1] at a2
  exact a2
theorem ZjL (body:σ→Option (σ ⊕ ρ)) (s:σ):XI body s=match body s with
  | none=>none
  | some (.inl s')=>XI body s'
  | some (.inr r)=>some r:=by
 apply Option.ext
 intro r
 rw [Zj3]
 constructor
 ·rintro ⟨n,hn⟩
  cases n with
  | zero=>simp [Zdj] at hn
  | succ n=>
   simp only[Zdj] at hn
   cases e:body s with
   | none=>rw [e] at hn;simp at hn
   | some y=>
    rw [e] at hn
    cases y with
    | inl s'=>exact Zj3.2 ⟨n,hn⟩
    | inr r'=>exact hn
 ·intro h
  cases e:body s with
  | none=>rw [e] at h;simp at h
  | some y=>
   rw [e] at h
   cases y with
   | inl s'=>
    obtain ⟨n,hn⟩:=Zj3.1 h
    exact ⟨n+1,by simp only[Zdj,e];exact hn⟩
   | inr r'=>exact ⟨1,by simp only[Zdj,e];exact h⟩
theorem Zv {c:Prop} [Decidable c] {x:Option α} {r:α} (h:chk c x=some r):c∧x=some r:=by
 unfold chk at h
 split at h
 ·rename_i hc;exact ⟨hc,h⟩
 ·simp at h
theorem Zj {c:Prop} [Decidable c] (x:Option α) (h:c):chk c x=x:=if_pos h
theorem Za {o:Option α} {f:α→Option β} {r:β} (h:o.bind f=some r):∃x,o=some x∧f x=some r:=by
 cases o with
 | none=>simp at h
 | some x=>exact ⟨x,rfl,h⟩
theorem ZcM {l:List α} {i:Int} {f:α→Option β} {r:β} (h:(atI l i).bind f=some r):∃x,0≤i∧i<(l.length:Int)∧l[i.toNat]?=some x∧f x=some r:=by
 unfold atI at h
 split at h
 ·rename_i hi
  obtain ⟨x,h1,h2⟩:=Za h
  obtain ⟨h3,_⟩:=A6.1 h1
  exact ⟨x,hi,yE,h1,h2⟩
 ·simp at h
theorem Ze {G:Prop} {b:Bool} {x y:Option α} {r:α} (h:(if b=true then x else y)=some r) (h1:b=true→x=some r→G) (h2:b=false→y=some r→G):G:=by
 cases b with
 | true=>exact h1 rfl (by simpa using h)
 | false=>exact h2 rfl (by simpa using h)
theorem Zr {y:σ ⊕ ρ} {v r:ρ} (h:some (.inr v)=some y) (hy:y=.inr r∨∃s,y=.inl s):some v=some r:=by
 obtain rfl:=AR h
 rcases hy with h | ⟨_,h⟩
 ·rw [Sum.inr.inj h]
 ·cases h
end
section
variable {od:OD} {tt:Nat→Option TI} {S:Ctx}
def ZzF {σ ρ:Type} (I:σ→St→Prop) (y:σ ⊕ ρ) (st:St):Prop:=∃s' ms ρk,y=.inl s'∧ρk.Nodup∧I s' ((st.mats ms).ren ρk)
theorem Xj {σ ρ:Type} {b:Code} {Q:Ex→St→Prop} {st:St} {body:σ→Option (σ ⊕ ρ)} {s0:σ} {r:ρ} (h:XI body s0=some r) (I:σ→St→Prop) (ms:List (Bool × Nat × Nat)) (ρk:List Nat) (hρ:ρk.Nodup) (h0:I s0 ((st.mats ms).ren ρk))
  (step:∀s st y,I s st→WF st→body s=some y→(y=.inr r∨∃s',y=.inl s')→swp tt S od b (ZgR (ZzF I y) Q) st):swp tt S od (.loop b) Q st:=by
 obtain ⟨n,hn⟩:=Zj3.1 h
 have key:∀n s st,Zdj body n s=some r→(∃ms ρk,ρk.Nodup∧I s ((st.mats ms).ren ρk))→Zlo (swp tt S od b) Q n st:=by
  intro n
  induction n with
  | zero=>intro s st h;simp [Zdj] at h
  | succ n ih=>
   rintro s st hn ⟨ms,ρk,h1,h2⟩
   refine ⟨ms,ρk,h1,fun hw=>?_⟩
   simp only[Zdj] at hn
   split at hn
   ·simp at hn
   ·rename_i s' e
    refine Zak b _ _ _ (fun ex st' h'=>?_) (step s _ _ h2 hw e (.inr ⟨_,rfl⟩))
    cases ex with
    | normal=>
     obtain ⟨s2,a,ρ',h3,h4,h5⟩:=h'
     obtain rfl:=Ai h3
     exact ih _ st' hn ⟨a,ρ',h4,h5⟩
    | exit _=>exact h'
    | ret=>exact h'
   ·rename_i r' e
    obtain rfl:=AR hn
    refine Zak b _ _ _ (fun ex st' h'=>?_) (step s _ _ h2 hw e (.inl rfl))
    cases ex with
    | normal=>
     obtain ⟨s2,a,ρ',h3,h4,h5⟩:=h'
     cases h3
    | exit _=>exact h'
    | ret=>exact h'
 exact ⟨n,key n s0 st hn ⟨ms,ρk,hρ,h0⟩⟩
theorem Zh {α σ ρ:Type} {b:Code} {Q:Ex→St→Prop} {st:St} {body:Nat→α→σ→Option (σ ⊕ ρ)} {fin:σ→Option ρ} {l:List α} {s0:σ} {r:ρ} (h:Zp body fin l 0 s0=some r) (I:Nat→σ→St→Prop) (ms:List (Bool × Nat × Nat)) (ρk:List Nat) (hρ:ρk.Nodup) (h0:I 0 s0 ((st.mats ms).ren ρk))
  (step:∀i x s st y,l[i]?=some x→I i s st→WF st→body i x s=some y→(y=.inr r∨∃s',y=.inl s')→swp tt S od b (ZgR (ZzF (I (i+1)) y) Q) st)
  (a:∀s st,I l.length s st→WF st→fin s=some r→swp tt S od b (ZgR (fun _=>False) Q) st):swp tt S od (.loop b) Q st:=by
 have key:∀n i s st,l.length - i<n→i≤l.length→Zp body fin (l.drop i) i s=some r→(∃ms ρk,ρk.Nodup∧I i s ((st.mats ms).ren ρk))→Zlo (swp tt S od b) Q n st:=by
  intro n
  induction n with
  | zero=>intro i s st h;omega
  | succ n ih=>
   rintro i s st hn hi hf ⟨ms,ρk,h1,h2⟩
   refine ⟨ms,ρk,h1,fun hw=>?_⟩
   by_cases c:i<l.length
   ·have hx:l[i]?=some l[i]:=List.getElem?_eq_getElem c
    rw [List.drop_eq_getElem_cons c] at hf
    simp only[Zp] at hf
    split at hf
    ·simp at hf
    ·rename_i s' e
     refine Zak b _ _ _ (fun ex st' h'=>?_) (step i _ s _ _ hx h2 hw e (.inr ⟨_,rfl⟩))
     cases ex with
     | normal=>
      obtain ⟨s2,d,ρ',h3,h4,h5⟩:=h'
      obtain rfl:=Ai h3
      exact ih (i+1) _ st' yE yE hf ⟨d,ρ',h4,h5⟩
     | exit _=>exact h'
     | ret=>exact h'
    ·rename_i r' e
     obtain rfl:=AR hf
     refine Zak b _ _ _ (fun ex st' h'=>?_) (step i _ s _ _ hx h2 hw e (.inl rfl))
     cases ex with
     | normal=>
      obtain ⟨s2,d,ρ',h3,h4,h5⟩:=h'
      cases h3
     | exit _=>exact h'
     | ret=>exact h'
   ·obtain rfl:i=l.length:=by omega
    rw [List.drop_length] at hf
    refine Zak b _ _ _ (fun ex st' h'=>?_) (a s _ h2 hw hf)
    cases ex with
    | normal=>exact h'.elim
    | exit _=>exact h'
    | ret=>exact h'
 exact ⟨l.length+1,key _ 0 s0 st yE yE (by simpa using h) ⟨ms,ρk,hρ,h0⟩⟩
theorem Zd {f:FuncId} {key:Nat} {d:Option Nat} {K:St→Prop} {st:St} {vs:List SV} {l:List (Bool × List CT)} {a:List RT} (hs:S.r f l a) (hk:(!Zdi a||vs.all Zia)=true∧(ZK key a).2.2≤key+16∧K ((st.put d (Zdg (ZK key a).1)).app (ZK key a).2.1)):ZsM S f key d K st vs l:=⟨a,hs,hk.1,hk.2.1,hk.2.2⟩
theorem ZnA {f:FuncId} {key:Nat} {d:Option Nat} {K:St→Prop} {st:St} {vs:List SV} {l:List (Bool × List CT)} {a:List RT} (hs:S.r f l a) (hk:(ZK key a).2.2≤key+16∧K ((st.put d (Zdg (ZK key a).1)).app (ZU st (Yb vs)++(ZK key a).2.1))):Zzi S f key d K st vs l:=⟨a,hs,hk.1,hk.2⟩
theorem ZDu {f:FuncId} {key:Nat} {d:Option Nat} {K:St→Prop} {st:St} {vs:List SV} {l:List (Bool × List CT)} {kk vk:PK} {kv:List (Value × Value)} (hs:S.b f l (.map kk vk kv)) (hk:K ((st.put d (.p false [.row key])).app (ZU st (Yb vs)++[(key,.map kk vk kv)]))):ZB0 S f key d K st vs l:=⟨_,hs,hk⟩
theorem Zwm {f:FuncId} {key:Nat} {d:Option Nat} {K:St→Prop} {st:St} {vs:List SV} {kh:Nat × Zme} {l:List (Bool × List CT)} {a:List RT} {h':Zme} (hs:S.h f kh.2 l a h') (hk:(Yb vs).all (fun j=>j != kh.1)=true∧(ZK key a).2.2≤key+16∧K ((st.put d (Zdg (ZK key a).1)).app (ZU st (Yb vs)++((kh.1,Zef h')::(ZK key a).2.1)))):ZxW S f key d K st vs kh l:=⟨a,h',hs,hk.1,hk.2.1,hk.2.2⟩
end
def sts:List (Nat × SV)→St→Prop
 | [],_=>True
 | p::r,st=>st.sl p.1=p.2∧sts r st
def obs:List Ob→Nat→St→Prop
 | [],k,st=>st.n=k
 | o::r,k,st=>st.ob k=o∧obs r (k+1) st
def IV (s:List (Nat × SV)) (o:List Ob) (st:St):Prop:=sts s st∧obs o 0 st
theorem Zyh (st:St):sts [] st=True:=yi rfl
theorem Zx7 (st:St) (t:Nat) (v:SV) (r:List (Nat × SV)):sts ((t,v)::r) st=(st.sl t=v∧sts r st):=yi rfl
theorem Zzs (st:St) (k:Nat):obs [] k st=(st.n=k):=yi rfl
theorem Zxz (st:St) (o:Ob) (k:Nat) (r:List Ob):obs (o::r) k st=(st.ob k=o∧obs r (k+1) st):=yi rfl
attribute [go_sem] IV Zx7 Zyh Zxz Zzs
theorem Zbf {α:Type} {g:α→List CT} (h:∀x,(g x).all CT.flat=true) (l:List α):ZaN (l.map g)=true:=by
 simp only[ZaN,List.all_map,AG]
 exact fun x _=>h x
def ZA (s:ByteArray):List CT:=[.str s]
def ZO (n:Int):List CT:=[.int .i64 n]
def Ze4 (b:Bool):List CT:=[.bool b]
def Zs8 (n:Int):List CT:=[.int .u8 n]
theorem ZyN (s:ByteArray):ZA s=[.str s]:=yi rfl
theorem Zza (n:Int):ZO n=[.int .i64 n]:=yi rfl
theorem ZwS (b:Bool):Ze4 b=[.bool b]:=yi rfl
theorem ZsZ (n:Int):Zs8 n=[.int .u8 n]:=yi rfl
theorem Zv0 (l:List ByteArray):ZaN (l.map ZA)=true:=Zbf (fun _=>rfl) l
theorem Zpz (l:List Int):ZaN (l.map ZO)=true:=Zbf (fun _=>rfl) l
theorem Zt6 (l:List Bool):ZaN (l.map Ze4)=true:=Zbf (fun _=>rfl) l
theorem ZtZ (l:List Int):ZaN (l.map Zs8)=true:=Zbf (fun _=>rfl) l
theorem Zp3 {s:ByteArray} {i:Nat} {x:UInt8} (h:s.data.toList[i]?=some x):s[i]?=some x:=by
 obtain ⟨h1,h2⟩:=A6.1 h
 have hs:i<s.size:=by rw [Ak];simpa using h1
 rw [getElem?_pos s i hs,←h2]
 rfl
theorem Zb (s:ByteArray):s.data.toList.length=s.size:=by rw [Ak,Array.length_toList]
theorem Zk {i n:Nat} (h:i<n) (hn:n≤9223372036854775807):IntKind.i64.wrap ((i:Int)+1)=((i+1:Nat):Int):=by
 rw [ZeT yE yE];omega
theorem ZC {α:Type} {l:List α} {i:Nat} {x:α} (h:l[i]?=some x):decide ((i:Int)<(l.length:Int))=true:=by
 obtain ⟨h1,_⟩:=A6.1 h
 exact decide_eq_true yE
theorem ZE {α:Type} {l:List α} {i:Nat} {x:α} (h:l[i]?=some x):(i:Int)<(l.length:Int):=of_decide_eq_true (ZC h)
theorem ZD {α:Type} {l:List α} {i:Nat} {x:α} (h:l[i]?=some x):i<l.length:=(A6.1 h).1
theorem ZB (n:Nat):decide ((n:Int)<(n:Int))=false:=decide_eq_false yE
def sAt (s:ByteArray) (i:Int):Option UInt8:=if 0≤i then s[i.toNat]? else none
theorem ZuE {β:Type} {s:ByteArray} {i:Int} {f:UInt8→Option β} {r:β} (h:(sAt s i).bind f=some r):∃x,0≤i∧s[i.toNat]?=some x∧f x=some r:=by
 unfold sAt at h
 split at h
 ·rename_i hi
  obtain ⟨x,h1,h2⟩:=Za h
  exact ⟨x,hi,h1,h2⟩
 ·simp at h
theorem ZuC {s:ByteArray} {i:Nat} {x:UInt8} (h:s.data.toList[i]?=some x):i<s.size:=by
 have:=ZD h
 rwa [Zb] at this
theorem Zxp {s:ByteArray} {i:Nat} {x:UInt8} (h:s.data.toList[i]?=some x):decide ((i:Int)<(s.size:Int))=true:=by
 have:=ZuC h
 exact decide_eq_true yE
theorem ZhU:∀{cs:List AV} {j:Nat} {x:AV},ZwH cs→cs[j]?=some x→avD x
 | [],_,_,_,h=>by simp at h
 | _::_,0,_,h,e=>by simp at e;subst e;exact h.1
 | _::_,j+1,_,h,e=>ZhU h.2 (by simpa using e)
theorem ZuK:∀{cs:List CT} {j:Nat} {x:CT},ctsD cs→cs[j]?=some x→ctD x
 | [],_,_,_,h=>by simp at h
 | _::_,0,_,h,e=>by simp at e;subst e;exact h.1
 | _::_,j+1,_,h,e=>ZuK h.2 (by simpa using e)
section
variable {α:Type} {st:St} {t k j e m:Nat} {a:Bool} {d:Nat} {cs:List AV} {g:α→List CT} {l:List α} {s:ByteArray}
theorem WF.slotL (hW:WF st) (h:st.sl t=.p a cs) (hc:cs[j]?=some (.c (.sl e m (AC g l)))):l.length≤9223372036854775807:=by
 have:=(ZhU (hW.sl _ _ _ h) hc).1
 simpa only [AH] using this
theorem WF.slotD (hW:WF st) (h:st.sl t=.p a cs) (hc:cs[j]?=some (.c (.sl e m (AC g l)))):essD (AC g l):=(ZhU (hW.sl _ _ _ h) hc).2
theorem WF.slotS (hW:WF st) (h:st.sl t=.p a cs) (hc:cs[j]?=some (.c (.str s))):s.size≤9223372036854775807:=ZhU (hW.sl _ _ _ h) hc
theorem WF.boxL (hW:WF st) (h:st.ob k=.box t cs) (hc:cs[j]?=some (.c (.sl e m (AC g l)))):l.length≤9223372036854775807:=by
 have:=(ZhU (hW.box _ _ _ h) hc).1
 simpa only [AH] using this
theorem WF.boxD (hW:WF st) (h:st.ob k=.box t cs) (hc:cs[j]?=some (.c (.sl e m (AC g l)))):essD (AC g l):=(ZhU (hW.box _ _ _ h) hc).2
theorem WF.rowL (hW:WF st) (h:st.ob k=.row e m (AC g l) d):l.length≤9223372036854775807:=by
 have:=(hW.row _ _ _ _ _ h).1
 simpa only [AH] using this
theorem WF.elL {β:Type} {g':β→List CT} {l':List β} {i:Nat} {x:α} (h:essD (AC g l)) (hx:l[i]?=some x) (hc:(g x)[j]?=some (.sl e m (AC g' l'))):l'.length≤9223372036854775807:=by
 have:=(ZuK (Zuo h hx) hc).1
 simpa only [AH] using this
end
/- maps of plain keys, as lists of pairs -/
def eSB (p:ByteArray × Bool):Value × Value:=(.string p.1,.bool p.2)
def eSS (p:ByteArray × ByteArray):Value × Value:=(.string p.1,.string p.2)
def eIB (p:Int × Bool):Value × Value:=(.int .i64 p.1,.bool p.2)
def ZgG {α β:Type} [DecidableEq α]:List (α × β)→α→Option β
 | [],_=>none
 | p::r,k=>if k=p.1 then some p.2 else ZgG r k
def Zf4 {α β:Type} [DecidableEq α]:List (α × β)→α→β→List (α × β)
 | [],k,v=>[(k,v)]
 | p::r,k,v=>if k=p.1 then (k,v)::r else p::Zf4 r k v
def ZaJ {α β:Type} [DecidableEq α] (l:List (α × β)) (k:α) (z:β):β:=(ZgG l k).getD z
def Zwc {α β:Type} [DecidableEq α] (l:List (α × β)) (k:α):Bool:=(ZgG l k).isSome
section
variable {α β:Type} [DecidableEq α] {e:α × β→Value × Value} {fk:α→Value} {fv:β→Value}
theorem Zeq (he:∀p,e p=(fk p.1,fv p.2)) (hk:∀a b,vEq (fk a) (fk b)=decide (a=b)):∀(l:List (α × β)) (k:α),ZlP (l.map e) (fk k)=(ZgG l k).map fv
 | [],_=>rfl
 | p::r,k=>by
  simp only[AI,ZlP,ZgG,he,hk,decide_eq_true_eq]
  split
  ·rfl
  ·exact Zeq he hk r k
theorem Zkm (he:∀p,e p=(fk p.1,fv p.2)) (hk:∀a b,vEq (fk a) (fk b)=decide (a=b)) (v:β):∀(l:List (α × β)) (k:α),ZfP (l.map e) (fk k) (fv v)=(Zf4 l k v).map e
 | [],k=>by simp [ZfP,Zf4,he]
 | p::r,k=>by
  simp only[AI,ZfP,Zf4,he,hk,decide_eq_true_eq]
  split
  ·simp [he]
  ·rw [Zkm he hk v r k];simp [he]
end
theorem Zo3 (a b:ByteArray):vEq (.string a) (.string b)=decide (a=b):=rfl
theorem Zxb (a b:Int):vEq (.int .i64 a) (.int .i64 b)=decide (a=b):=by simp [vEq,BEq.beq]
theorem ZyM (l:List (ByteArray × Bool)) (k:ByteArray):ZbO (l.map eSB) (.string k) (.c (.bool false))=.c (.bool (ZaJ l k false)):=by
 simp only[ZbO,Zeq (e:=eSB) (fk:=.string) (fv:=.bool) (fun _=>rfl) Zo3,ZaJ]
 cases ZgG l k<;>rfl
theorem Zys (l:List (ByteArray × ByteArray)) (k:ByteArray):ZbO (l.map eSS) (.string k) (.c (.str ⟨#[]⟩))=.c (.str (ZaJ l k ⟨#[]⟩)):=by
 simp only[ZbO,Zeq (e:=eSS) (fk:=.string) (fv:=.string) (fun _=>rfl) Zo3,ZaJ]
 cases ZgG l k<;>rfl
theorem ZyK (l:List (Int × Bool)) (k:Int):ZbO (l.map eIB) (.int .i64 k) (.c (.bool false))=.c (.bool (ZaJ l k false)):=by
 simp only[ZbO,Zeq (e:=eIB) (fk:=.int .i64) (fv:=.bool) (fun _=>rfl) Zxb,ZaJ]
 cases ZgG l k<;>rfl
theorem ZDH (l:List (ByteArray × Bool)) (k:ByteArray):Zfb (l.map eSB) (.string k)=Zwc l k:=by
 simp only[Zfb,Zeq (e:=eSB) (fk:=.string) (fv:=.bool) (fun _=>rfl) Zo3,Zwc]
 cases ZgG l k<;>rfl
theorem ZEb (l:List (ByteArray × ByteArray)) (k:ByteArray):Zfb (l.map eSS) (.string k)=Zwc l k:=by
 simp only[Zfb,Zeq (e:=eSS) (fk:=.string) (fv:=.string) (fun _=>rfl) Zo3,Zwc]
 cases ZgG l k<;>rfl
theorem ZAm (l:List (Int × Bool)) (k:Int):Zfb (l.map eIB) (.int .i64 k)=Zwc l k:=by
 simp only[Zfb,Zeq (e:=eIB) (fk:=.int .i64) (fv:=.bool) (fun _=>rfl) Zxb,Zwc]
 cases ZgG l k<;>rfl
theorem ZD0 (l:List (ByteArray × Bool)) (k:ByteArray) (v:Bool):ZfP (l.map eSB) (.string k) (.bool v)=(Zf4 l k v).map eSB:=Zkm (fk:=.string) (fv:=.bool) (fun _=>rfl) Zo3 v l k
theorem ZAl (l:List (ByteArray × ByteArray)) (k v:ByteArray):ZfP (l.map eSS) (.string k) (.string v)=(Zf4 l k v).map eSS:=Zkm (fk:=.string) (fv:=.string) (fun _=>rfl) Zo3 v l k
theorem ZA2 (l:List (Int × Bool)) (k:Int) (v:Bool):ZfP (l.map eIB) (.int .i64 k) (.bool v)=(Zf4 l k v).map eIB:=Zkm (fk:=.int .i64) (fv:=.bool) (fun _=>rfl) Zxb v l k
theorem Zm3:∀l:List Int,Ze6 (l.map Zs8)=some l
 | []=>rfl
 | n::r=>by simp only[AI,ZsZ,Ze6,Zm3 r,AO]
theorem Zlr (st:St):∀l:List CT,Z1 st (l.map Zk9)=some (l.map fun c=>(false,[c]))
 | []=>rfl
 | c::r=>by
  have h:=Zlr st r
  simp only[AI,Z1,h,Zk9,Zdh,Y0,Zb9,AW,AO]
theorem ZFy:((0:Nat):Int)=0:=yi rfl
attribute [go_sem] Zlr ZyM Zys ZyK ZDH ZEb ZAm ZD0 ZAl ZA2 Zm3 ZFy ZAz List.map_replicate ZyN Zza ZwS ZsZ Zv0 Zpz Zt6 ZtZ List.map_append List.getElem?_map List.map_set List.map_take List.map_drop List.length_append List.length_set AY
end
def toL (s:ByteArray):List UInt8:=s.data.toList
def ofL (l:List UInt8):ByteArray:=⟨l.toArray⟩
theorem Zj7 (s:ByteArray):ofL (toL s)=s:=by cases s;simp [ofL,toL]
theorem Zcu (l:List UInt8):toL (ofL l)=l:=by simp [ofL,toL]
def ZfD (l:List ByteArray):List ByteArray:=((l.map toL).mergeSort fun x y=>decide (x≤y)).map ofL
def Zk4 (l:List Int):List Int:=l.mergeSort fun x y=>decide (x≤y)
def Zcw (l:List ByteArray):Option (List ByteArray):=chk (l.length≤4611686018427387903) (some (ZfD l))
def Zf8 (l:List Int):Option (List Int):=chk (l.length≤4611686018427387903) (some (Zk4 l))
noncomputable def ZqT (n:Int):Option ByteArray:=chk (-9223372036854775808≤n∧n≤9223372036854775807) (some (ofL (Lib.itoa n)))
def ZfS (a b:ByteArray):Option Int:=some (Lib.compareBytes (toL a) (toL b))
def ZmK (s:ByteArray):Option (Int × Bool):=chk (s.size≤18) (some (match Lib.atoi (toL s) with | some n=>(n,true) | none=>(0,false)))
end Go.Proofs.YtlpkbfjcdaanmaaGreatDoor
