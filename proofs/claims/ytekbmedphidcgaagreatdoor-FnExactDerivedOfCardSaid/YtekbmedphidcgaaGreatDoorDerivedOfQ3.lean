/- Texts of this proof, joined: BSound, BSimp, BFn, BTok, Types, BLoop, BDec, ExtD, ExtL, Df, Laid. What each holds is said at its theorems. -/
import Derived.Test.YtekbmedphidcgaaGreatDoorDerivedOfQ2
import Derived.Test.YtekbmedphidcgaaGreatDoorDerivedOfQ1
import Derived.IntWalk
import Derived.Lib.ItoaNum
import Derived.Lib.Bytealg
import Derived.Lib.Join
import Derived.Lib.Atoi
import GoSem.Claims
set_option linter.unusedSimpArgs false
set_option linter.unusedVariables false
open Array renaming replicate→AA,getD_eq_getD_getElem?→AL,getElem?_append→Ad,getElem?_eq_none→Ai
open Bool renaming and_eq_true→A5,not_eq_true'→Af
open ByteArray renaming size→Ah
open Int renaming toNat→A0,toNat_natCast→Aa
open List renaming mem_append→A6,getElem?_eq_some_iff→A7,map→AB,mem_map→AD,set→AE,all_eq_true→AG,length_map→AH,map_cons→AI,nodup_cons→AJ,nodup_append→AK,replicate→AN,set_getElem_self→AO,mem_or_eq_of_mem_set→AP,toArray→AT,getElem_mem→AW,range_eq_range'→AX,all_cons→AY,mapM_cons→Ac,size_toArray→Ae
open List.Sublist renaming append→Ab
open List.cons renaming injEq→AS
open Nat renaming le_refl→A8,le_of_ble_eq_true→A9,zero_le→AR
open Option renaming bind_eq_some_iff→AC,map_eq_some_iff→AF,bind_some→AM,map_some→AQ,getD_some→AZ
open Option.some renaming injEq→A4,inj→AU
open Prod.mk renaming injEq→A3
open Sum.inl renaming inj→Ag
namespace Go.Proofs.YtekbmedphidcgaaGreatDoor
section
open Go.RowKit
theorem ZqS:∀{ρ:List Nat} {k i j:Nat},Znd ρ k i=some j→i≤j∧ρ[j - i]?=some k
 | [],_,_,_,h=>by simp [Znd] at h
 | x::r,k,i,j,h=>by
  simp only[Znd] at h
  split at h
  ·rename_i e
   simp only[A4] at h
   subst h e
   exact ⟨A8 _,by simp⟩
  ·obtain ⟨h1,h2⟩:=ZqS h
   refine ⟨by omega,?_⟩
   rw [show j - i=(j - (i+1))+1 by omega]
   simpa using h2
theorem Zcv [NW] {ρ:List Nat} {k j:Nat} (h:Znd ρ k 0=some j):ρ[j]?=some k:=by simpa using (ZqS h).2
theorem Zmi {α:Type}:∀{l:List α},l.Nodup→∀{i j:Nat} (hi:i<l.length) (hj:j<l.length),l[i]=l[j]→i=j
 | [],_,_,_,hi,_,_=>by simp at hi
 | x::l,h,0,0,_,_,_=>rfl
 | x::l,h,0,j+1,_,hj,e=>by
  rw [AJ] at h
  exact absurd (by simp at e;rw [e];exact AW _) h.1
 | x::l,h,i+1,0,hi,_,e=>by
  rw [AJ] at h
  exact absurd (by simp at e;rw [←e];exact AW _) h.1
 | x::l,h,i+1,j+1,hi,hj,e=>by
  rw [AJ] at h
  have:=Zmi h.2 (i:=i) (j:=j) (by simpa using hi) (by simpa using hj) (by simpa using e)
  omega
section
variable {P:Program} {J:World→Prop} {JF:Nat→Prop} {W:QK} {U:Nat→Prop} {st st':St} {w w':World} {a:Act} {tt:Nat→Option TI} {S:Ctx}
theorem ZAi [NW] {g g':Gh} {ρ:List Nat} (hv:∀j k,ρ[j]?=some k→g'.val j=g.val k) (ho:Y7 g' g) {x:AV} {v:Value} (h:AVR g w x v):AVR g' w (rAV ρ x) v:=by
 cases x with
 | c x=>obtain ⟨L,h1,h2⟩:=h;exact ⟨L,h1,fun b m o=>h2 b m (ho.own b o)⟩
 | n x=>exact NR.move h (fun _ _ _=>rfl) (ho.grow _)
 | row k=>
  simp only[rAV]
  split
  ·rename_i j hj
   exact ⟨by rw [hv j k (Zcv hj)];exact h.1,h.2⟩
  ·exact h.2
 | nil e m=>exact h
 | dead=>exact h
theorem ZH.map_left {α β γ:Type} {R:α→γ→Prop} {R':β→γ→Prop} (f:α→β) (h:∀a c,R a c→R' (f a) c):∀{l:List α} {r:List γ},ZH R l r→ZH R' (l.map f) r
 | [],[],_=>trivial
 | _::_,_::_,hh=>⟨h _ _ hh.1,hh.2.map_left f h⟩
 | [],_::_,h=>h.elim
 | _::_,[],h=>h.elim
theorem Zut [NW] (ρ:List Nat) (x:AV):avU (fun j=>j<ρ.length) (rAV ρ x):=by
 cases x with
 | row k=>
  simp only[rAV]
  split
  ·rename_i j hj
   exact (A7.1 (Zcv hj)).1
  ·trivial
 | _=>trivial
theorem ZqZ [NW] (hI:Inv W U st a w) {ρ:List Nat} (hρ:ρ.Nodup):Inv W (fun j=>j<ρ.length) (st.ren ρ) a w:=by
 obtain ⟨⟨g,hH,hS⟩,hU,hdef,hh⟩:=hI
 let g':Gh:=⟨fun j=>match ρ[j]? with | some k=>g.val k | none=>undef,fun j=>match ρ[j]? with | some k=>g.O k | none=>[],fun j=>match ρ[j]? with | some k=>g.D k | none=>[],g.Z⟩
 have gs:∀j k,ρ[j]?=some k→g'.val j=g.val k∧g'.O j=g.O k∧g'.D j=g.D k:=fun j k h=>by simp [g',h]
 have gn:∀j,ρ[j]?=none→g'.O j=[]∧g'.D j=[]:=fun j h=>by simp [g',h]
 have ho:∀b,g'.own b→g.own b:=fun b hb=>by
  rcases hb with ⟨j,mj⟩ | hz
  ·cases h:ρ[j]? with
   | none=>rw [(gn j h).1] at mj;simp at mj
   | some k=>rw [(gs j k h).2.1] at mj;exact .inl ⟨k,mj⟩
  ·exact .inr hz
 have hless:Y7 g' g:=.of ho fun j b mb=>by
  cases h:ρ[j]? with
  | none=>rw [(gn j h).2] at mb;simp at mb
  | some k=>rw [(gs j k h).2.2] at mb;exact ⟨k,mb⟩
 have hAV:∀x v,AVR g w x v→AVR g' w (rAV ρ x) v:=fun x v h=>ZAi (fun j k hjk=>(gs j k hjk).1) hless h
 have hAVs:∀xs vs,ZH (AVR g w) xs vs→ZH (AVR g' w) (xs.map (rAV ρ)) vs:=fun xs vs h=>h.map_left _ hAV
 have hPV:∀ag cs v,PVR g w ag cs v→PVR g' w ag (cs.map (rAV ρ)) v:=fun ag cs v h=>by
  cases ag with
  | true=>obtain ⟨vs,h1,h2⟩:=h;exact ⟨vs,h1,hAVs _ _ h2⟩
  | false=>obtain ⟨x,rfl,h2⟩:=h;exact ⟨_,rfl,hAV _ _ h2⟩
 refine ⟨⟨g',⟨hH.below,fun j=>?_,fun j=>?_,fun j i hji b mb=>?_,fun j b mb=>?_,hH.gz,hH.zx,hH.nw⟩,fun t=>?_⟩,⟨fun t=>?_,fun j=>?_,fun j hj=>?_⟩,hdef,hh⟩
 ·show ObR g' w j (match ρ[j]? with | some k=>rOb ρ (st.ob k) | none=>.gone)
  cases h:ρ[j]? with
  | none=>exact gn j h
  | some k=>
   obtain ⟨e1,e2,e3⟩:=gs j k h
   have hob:=hH.obs k
   show ObR g' w j (rOb ρ (st.ob k))
   cases hok:st.ob k with
   | gone=>rw [hok] at hob;exact ⟨e2.trans hob.1,e3.trans hob.2⟩
   | box t cs=>
    rw [hok] at hob
    obtain ⟨b,vs,h1,h2,h3,h4,h5⟩:=hob
    exact ⟨b,vs,e1.trans h1,e2.trans h2,e3.trans h3,h4,hAVs _ _ h5⟩
   | map kk vk kv=>
    rw [hok] at hob
    obtain ⟨b,es,c,h1,h2,h3,h4⟩:=hob
    exact ⟨b,es,c,e1.trans h1,e2.trans h2,e3.trans h3,h4⟩
   | row e m xs d=>
    rw [hok] at hob
    obtain ⟨hm,cs,L,h1,h2,h4⟩:=hob
    refine ⟨hm,cs,L,by rw [e1];exact h1,h2,?_⟩
    rw [e1,e2,e3]
    rcases h4 with h4 | ⟨hd,h3,h4,h5⟩ | ⟨hd,h3,h4,h5⟩
    ·exact .inl h4
    ·exact .inr (.inl ⟨hd,h3,h4,fun b mb o=>h5 b mb (ho b o)⟩)
    ·exact .inr (.inr ⟨hd,h3,h4,fun b mb o=>h5 b mb (ho b o)⟩)
 ·cases h:ρ[j]? with
  | none=>rw [(gn j h).1,(gn j h).2];simp
  | some k=>rw [(gs j k h).2.1,(gs j k h).2.2];exact hH.nodup k
 ·cases h:ρ[j]? with
  | none=>rw [(gn j h).1,(gn j h).2] at mb;simp at mb
  | some k=>
   rw [(gs j k h).2.1,(gs j k h).2.2] at mb
   cases h':ρ[i]? with
   | none=>rw [(gn i h').1,(gn i h').2];simp
   | some q=>
    rw [(gs i q h').2.1,(gs i q h').2.2]
    refine hH.apart k q (fun e=>hji ?_) b mb
    subst e
    obtain ⟨l1,e1⟩:=A7.1 h
    obtain ⟨l2,e2⟩:=A7.1 h'
    exact Zmi hρ l1 l2 (e1.trans e2.symm)
 ·cases h:ρ[j]? with
  | none=>rw [(gn j h).1,(gn j h).2] at mb;simp at mb
  | some k=>
   rw [(gs j k h).2.1,(gs j k h).2.2] at mb
   refine ⟨(hH.plain k b mb).1,(hH.plain k b mb).2.of ?_⟩
   show ZhR (match ρ[j]? with | some k=>rOb ρ (st.ob k) | none=>.gone)=_
   rw [h]
   show ZhR (rOb ρ (st.ob k))=_
   cases st.ob k<;>rfl
 ·have hs:=hS t
  show SVR g' w (rSV ρ (st.sl t)) _
  cases hsl:st.sl t with
  | any=>trivial
  | und=>rw [hsl] at hs;exact hs
  | p ag cs=>rw [hsl] at hs;exact hPV _ _ _ hs
  | tup xs=>
   rw [hsl] at hs
   obtain ⟨vs,h1,h2⟩:=hs
   exact ⟨vs,h1,h2.map_left (fun x:Bool × List AV=>(x.1,x.2.map (rAV ρ))) fun x v h=>hPV x.1 x.2 v h⟩
  | bp k off=>
   rw [hsl] at hs
   simp only[rSV]
   split
   ·rename_i j hj
    obtain ⟨b,h1,h2⟩:=hs
    exact ⟨b,((gs j k (Zcv hj)).1).trans h1,h2⟩
   ·trivial
  | rp k m i off=>
   rw [hsl] at hs
   simp only[rSV]
   split
   ·rename_i j hj
    obtain ⟨b,o,n,c,h1,h2⟩:=hs
    exact ⟨b,o,n,c,((gs j k (Zcv hj)).1).trans h1,h2⟩
   ·trivial
  | ep e off=>
   rw [hsl] at hs
   obtain ⟨b,lo,cs,L,h1,h2,h3,h4,h5⟩:=hs
   exact ⟨b,lo,cs,L,h1,h2,h3,fun x m o=>h4 x m (ho x o),h5⟩
  | fn f=>rw [hsl] at hs;exact hs
 ·show svU _ (rSV ρ (st.sl t))
  cases st.sl t with
  | p ag cs=>intro y my;obtain ⟨x,_,rfl⟩:=AD.1 my;exact Zut ρ x
  | tup xs=>
   intro y my
   obtain ⟨x,_,rfl⟩:=AD.1 my
   intro z mz
   obtain ⟨q,_,rfl⟩:=AD.1 mz
   exact Zut ρ q
  | bp k off=>
   simp only[rSV]
   split
   ·rename_i j hj;exact (A7.1 (Zcv hj)).1
   ·trivial
  | rp k m i off=>
   simp only[rSV]
   split
   ·rename_i j hj;exact (A7.1 (Zcv hj)).1
   ·trivial
  | _=>trivial
 ·show obU _ (match ρ[j]? with | some k=>rOb ρ (st.ob k) | none=>.gone)
  split
  ·rename_i k _
   cases st.ob k with
   | box t cs=>intro y my;obtain ⟨x,_,rfl⟩:=AD.1 my;exact Zut ρ x
   | _=>trivial
  ·trivial
 ·show (match ρ[j]? with | some k=>rOb ρ (st.ob k) | none=>.gone)=.gone
  have:ρ[j]?=none:=List.getElem?_eq_none (by omega)
  rw [this]
theorem Zu7 [NW] {g:Gh} {ob:Nat→Ob} (hI:HI W g ob w) {k e m d d':Nat} {xs:List (List CT)} (hk:ob k=.row e m xs d) (hd:d'<d):∃g1:Gh,HI W g1 (upd ob k (.row e m xs d')) w∧g1.val=g.val∧Y7 g1 g:=by
 by_cases h0:d'=0
 ·obtain ⟨g1,h1,h2,h3,_⟩:=ZhF hI k
  rw [hk] at h1
  exact ⟨g1,by rw [h0];exact h1,h2,h3⟩
 ·have ho:=hI.obs k
  rw [hk] at ho
  obtain ⟨hm,cs,L,o1,o2,o3⟩:=ho
  have h2:d=2∧g.O k=(g.val k).ownBlock.toList∧g.D k=L:=by
   rcases o3 with o3 | ⟨q,_⟩ | ⟨q,_⟩
   ·exact o3
   ·omega
   ·omega
  obtain ⟨rfl,q1,q2⟩:=h2
  obtain rfl:d'=1:=by omega
  let g1:Gh:=⟨g.val,g.O,upd g.D k [],g.Z⟩
  have hown:∀b,g1.own b↔g.own b:=fun b=>Iff.rfl
  have hless:Y7 g1 g:=.of (fun b hb=>hb) fun j b mb=>by
   by_cases hj:j=k
   ·subst hj;simp [g1,upd] at mb
   ·exact ⟨j,by simpa [g1,upd,hj] using mb⟩
  have hsub:∀j b,b∈g1.O j++g1.D j→b∈g.O j++g.D j:=fun j b mb=>by
   by_cases hj:j=k
   ·subst hj;simp [g1,upd] at mb;simp [mb]
   ·simpa [g1,upd,hj] using mb
  refine ⟨g1,⟨hI.below,fun j=>?_,fun j=>?_,fun i j hij b mb mj=>hI.apart i j hij b (hsub i b mb) (hsub j b mj),fun j b mb=>⟨(hI.plain j b (hsub j b mb)).1,(hI.plain j b (hsub j b mb)).2.of (by
   by_cases hj:j=k
   ·subst hj;rw [Zy,hk];rfl
   ·rw [ZI _ _ hj])⟩,hI.gz,hI.zx,hI.nw⟩,rfl,hless⟩
  ·by_cases hj:j=k
   ·subst hj
    rw [Zy]
    refine ⟨hm,cs,L,o1,o2,.inr (.inl ⟨rfl,q1,by simp [g1,upd],fun b mb hb=>?_⟩)⟩
    have mk:b∈g.D j:=by rw [q2];exact mb
    rcases hb with ⟨i,mi⟩ | hz
    ·by_cases hij:i=j
     ·subst hij
      have:=hI.nodup i
      rw [AK] at this
      exact this.2.2 b mi b mk rfl
     ·exact hI.apart i j hij b (by simp;exact .inl mi) (by simp [mk])
    ·exact hI.nz (k:=j) (b:=b) (by simp [mk]) hz
   ·rw [ZI _ _ hj]
    have hoj:=hI.obs j
    cases hh:ob j with
    | gone=>rw [hh] at hoj;exact ⟨hoj.1,by simpa [g1,upd,hj] using hoj.2⟩
    | box t ds=>
     rw [hh] at hoj
     obtain ⟨b,vs,h1,h2,h3,h4,h5⟩:=hoj
     exact ⟨b,vs,h1,h2,by simpa [g1,upd,hj] using h3,h4,h5.mono fun x u _ hx=>AVR.less hx rfl hless⟩
    | map kk vk kv=>
     rw [hh] at hoj
     obtain ⟨b,es,c,h1,h2,h3,h4⟩:=hoj
     exact ⟨b,es,c,h1,h2,by simpa [g1,upd,hj] using h3,h4⟩
    | row e' m' xs' d2=>
     rw [hh] at hoj
     obtain ⟨hm',cs',L',p1,p2,p3⟩:=hoj
     refine ⟨hm',cs',L',p1,p2,?_⟩
     have e2:g1.D j=g.D j:=by simp [g1,upd,hj]
     rw [e2]
     exact p3
  ·by_cases hj:j=k
   ·subst hj
    have:=hI.nodup j
    rw [AK] at this
    simpa [g1,upd] using this.1
   ·have:=hI.nodup j
    simpa [g1,upd,hj] using this
theorem ZuE [NW] (m:Bool × Nat × Nat) (hI:Inv W U st a w) (hk:∀k,st.n≤k→¬U k):∃U',Inv W U' (st.mat m) a w∧∀k,(st.mat m).n≤k→¬U' k:=by
 have same:∃U',Inv W U' st a w∧∀k,st.n≤k→¬U' k:=⟨U,hI,hk⟩
 have hk0:¬U st.n:=hk st.n (A8 _)
 have hU'n:∀k,st.n+1≤k→¬(U k∨k=st.n):=fun k hk' h=>by
  rcases h with h | h
  ·exact hk k (by omega) h
  ·omega
 have new:∀(e q:Nat),0<q→∀g,HI W g st.ob w→∃g',HI W g' (upd st.ob st.n (.row e q [] 2)) w∧(∀x u,svU U x→SVR g w x u→SVR g' w x u)∧g'.val st.n=.slice none 0 0∧(∀x u,avU U x→AVR g w x u→AVR g' w x u):=fun e q hq g hH=>by
  obtain ⟨t1,t2⟩:=hH.turn (key:=st.n) (U:=U) (w':=w) (v:=.slice none 0 0) (O:=[]) (D:=[]) (o:=.row e q [] 2) hI.wf.ob hk0 [] (by simp) hH.below (A8 _) (fun _ _ _=>rfl) (by simp) (by simp) (by simp) (by simp)
   (fun _=>⟨hq,[],[],by simpa [Gh.turn,upd] using ZiJ _ _ _ _,⟨rfl,rfl⟩,.inl ⟨rfl,by simp [Gh.turn,upd,Value.ownBlock],by simp [Gh.turn]⟩⟩)
  refine ⟨_,t1,t2,by simp [Gh.turn,upd],fun x u hx hu=>hu.move hx (fun k hk'=>ZI _ _ fun e=>hk0 (e ▸ hk')) (fun _ _ _=>rfl) (Zm7 (by simp) (by simp))⟩
 have up:∀k,U k→(U k∨k=st.n):=fun _ h=>.inl h
 obtain ⟨⟨g,hH,hS⟩,hU,hdef,hh⟩:=hI
 have tree:∀k e q xs d,st.ob k=.row e q xs d→∃g1:Gh,HI W g1 (upd st.ob k (.row e q xs 0)) w∧g1.val=g.val∧Y7 g1 g∧U k∧∀v,AVR g w (.row k) v→AVR g1 w (.c (.sl e q xs)) v:=fun k e q xs d hob=>by
  obtain ⟨g1,i1,i2,i3,_⟩:=ZhF hH k
  rw [hob] at i1
  obtain ⟨L,t1,t2⟩:=ZoZ i1 (Zy st.ob k (.row e q xs 0))
  exact ⟨g1,i1,i2,i3,Classical.byContradiction fun hn=>by have:=hU.gone _ hn;rw [hob] at this;simp at this,fun v hv=>⟨L,by rw [hv.1,←i2];exact t1,t2⟩⟩
 have sets:∀{gg:Gh} {cs:List AV} {vs:List Value} {j:Nat} {y:AV} {v:Value},ZH (AVR gg w) cs vs→vs[j]?=some v→AVR gg w y v→ZH (AVR gg w) (cs.set j y) vs:=fun {gg cs vs j y v} h1 h2 h3=>by
  have:=h1.set (i:=j) h3
  obtain ⟨hl,he⟩:=A7.1 h2
  rw [←he,AO hl] at this
  exact this
 have pset:∀{gg:Gh} {ag:Bool} {cs:List AV} {v:Value} {j:Nat} {x y:AV},PVR gg w ag cs v→cs[j]?=some x→(∀u,AVR gg w x u→AVR gg w y u)→PVR gg w ag (cs.set j y) v:=fun {gg ag cs v j x y} h1 h2 h3=>by
  cases ag with
  | true=>
   obtain ⟨vs,rfl,h4⟩:=h1
   obtain ⟨u,u1,u2⟩:=h4.at h2
   exact ⟨vs,rfl,sets h4 u1 (h3 u u2)⟩
  | false=>
   obtain ⟨z,rfl,h4⟩:=h1
   cases j with
   | zero=>simp at h2;subst h2;exact ⟨y,rfl,h3 v h4⟩
   | succ j=>simp at h2
 have uset:∀{V:Nat→Prop} {cs:List AV} {j:Nat} {y:AV},X6 V cs→avU V y→X6 V (cs.set j y):=fun {V cs j y} h1 h2 z mz=>by
  rcases AP mz with mz | mz
  ·exact h1 z mz
  ·subst mz;exact h2
 unfold St.mat
 split
 ·split
  ·rename_i ag cs hsl
   have hcu:X6 U cs:=by have:=hU.sl m.2.1;rw [hsl] at this;exact this
   have hs:=hS m.2.1
   rw [hsl] at hs
   split
   ·rename_i e q hcs
    split
    ·rename_i hq
     obtain ⟨g',t1,t2,t3,t4⟩:=new e q hq g hH
     refine ⟨fun k=>U k∨k=st.n,⟨⟨g',t1,fun t=>?_⟩,⟨fun t=>?_,fun k=>?_,fun k hk'=>?_⟩,hdef,hh⟩,hU'n⟩
     ·show SVR g' w (upd st.sl m.2.1 (.p ag (cs.set m.2.2 (.row st.n))) t) _
      by_cases ht:t=m.2.1
      ·subst ht
       rw [Zy]
       have h1:PVR g' w ag cs (a.tmps.getD m.2.1 undef):=t2 (.p ag cs) _ hcu hs
       refine pset h1 hcs fun u hu=>?_
       have hu':u=.slice none 0 0:=hu
       rw [hu']
       exact ⟨t3.symm,rfl⟩
      ·rw [ZI _ _ ht];exact t2 _ _ (hU.sl t) (hS t)
     ·show svU _ (upd st.sl m.2.1 (.p ag (cs.set m.2.2 (.row st.n))) t)
      by_cases ht:t=m.2.1
      ·subst ht;rw [Zy];exact uset (hcu.mono up) (.inr rfl)
      ·rw [ZI _ _ ht];exact (hU.sl t).mono up
     ·show obU _ (upd st.ob st.n _ k)
      by_cases hk':k=st.n
      ·subst hk';rw [Zy];trivial
      ·rw [ZI _ _ hk'];exact (hU.ob k).mono up
     ·show upd st.ob st.n _ k=_
      rw [ZI _ _ fun e=>hk' (.inr e)];exact hU.gone k fun h=>hk' (.inl h)
    ·exact same
   ·rename_i k hcs
    split
    ·rename_i e q xs d hob
     obtain ⟨g1,i1,i2,i3,hUk,i4⟩:=tree k e q xs d hob
     refine ⟨U,⟨⟨g1,i1,fun t=>?_⟩,⟨fun t=>?_,fun j=>?_,fun j hj=>?_⟩,hdef,hh⟩,hk⟩
     ·show SVR g1 w (upd st.sl m.2.1 (.p ag (cs.set m.2.2 (.c (.sl e q xs)))) t) _
      by_cases ht:t=m.2.1
      ·subst ht
       rw [Zy]
       have h1:PVR g1 w ag cs (a.tmps.getD m.2.1 undef):=(show SVR g w (.p ag cs) _ from hs).less i2 i3
       exact pset h1 hcs fun u hu=>i4 u ⟨hu.1.trans (by rw [i2]),hu.2⟩
      ·rw [ZI _ _ ht];exact (hS t).less i2 i3
     ·show svU _ (upd st.sl m.2.1 (.p ag (cs.set m.2.2 (.c (.sl e q xs)))) t)
      by_cases ht:t=m.2.1
      ·subst ht;rw [Zy];exact uset hcu trivial
      ·rw [ZI _ _ ht];exact hU.sl t
     ·show obU U (upd st.ob k (.row e q xs 0) j)
      by_cases h1:j=k
      ·subst h1;rw [Zy];trivial
      ·rw [ZI _ _ h1];exact hU.ob j
     ·show upd st.ob k (.row e q xs 0) j=_
      rw [ZI _ _ (show j≠k from fun e'=>hj (e' ▸ hUk))];exact hU.gone j hj
    ·exact same
   ·exact same
  ·exact same
 ·split
  ·rename_i ty cs hob
   split
   ·rename_i e q hcs
    split
    ·rename_i hq
     obtain ⟨g',t1,t2,t3,t4⟩:=new e q hq g hH
     have hUk:U m.2.1:=Classical.byContradiction fun hn=>by have:=hU.gone _ hn;rw [hob] at this;simp at this
     have hne:m.2.1≠st.n:=fun e=>hk0 (e ▸ hUk)
     have hcu:X6 U cs:=by have:=hU.ob m.2.1;rw [hob] at this;exact this
     have hbox:=t1.obs m.2.1
     rw [ZI _ _ hne,hob] at hbox
     obtain ⟨b,vs,b1,b2,b3,b4,b5⟩:=hbox
     obtain ⟨u,u1,u2⟩:=b5.at hcs
     have u2':u=.slice none 0 0:=u2
     have hvs:vs.set m.2.2 u=vs:=by
      obtain ⟨hl,he⟩:=A7.1 u1
      rw [←he];exact AO hl
     have hbox':ObR g' w m.2.1 (.box ty (cs.set m.2.2 (.row st.n))):=by
      refine ⟨b,vs,b1,b2,b3,b4,?_⟩
      have:=b5.set (i:=m.2.2) (a:=AV.row st.n) (b:=u) ⟨by rw [u2',t3],by rw [u2'];rfl⟩
      rw [hvs] at this
      exact this
     have hob':∀k,(upd (upd st.ob m.2.1 (.box ty (cs.set m.2.2 (.row st.n)))) st.n (.row e q [] 2)) k=if k=m.2.1 then .box ty (cs.set m.2.2 (.row st.n)) else (upd st.ob st.n (.row e q [] 2)) k:=fun k=>by
      by_cases h1:k=st.n
      ·have h2:¬k=m.2.1:=fun e'=>hne (e'.symm.trans h1)
       have h3:¬st.n=m.2.1:=fun e'=>hne e'.symm
       simp [upd,h1,h3]
      ·by_cases h2:k=m.2.1
       ·simp [upd,h2,hne]
       ·simp [upd,h1,h2]
     refine ⟨fun k=>U k∨k=st.n,⟨⟨g',⟨t1.below,fun k=>?_,t1.nodup,t1.apart,fun k b mb=>⟨(t1.plain k b mb).1,(t1.plain k b mb).2.of (by
       show ZhR ((upd (upd st.ob m.2.1 (.box ty (cs.set m.2.2 (.row st.n)))) st.n (.row e q [] 2)) k)=_
       rw [hob' k]
       split
       ·rename_i h1;subst h1;rw [ZI _ _ hne,hob];rfl
       ·rfl)⟩,t1.gz,t1.zx,t1.nw⟩,fun t=>t2 _ _ (hU.sl t) (hS t)⟩,⟨fun t=>(hU.sl t).mono up,fun k=>?_,fun k hk'=>?_⟩,hdef,hh⟩,hU'n⟩
     ·show ObR g' w k ((upd (upd st.ob m.2.1 (.box ty (cs.set m.2.2 (.row st.n)))) st.n (.row e q [] 2)) k)
      rw [hob' k]
      split
      ·rename_i h1;subst h1;exact hbox'
      ·exact t1.obs k
     ·show obU _ ((upd (upd st.ob m.2.1 (.box ty (cs.set m.2.2 (.row st.n)))) st.n (.row e q [] 2)) k)
      rw [hob' k]
      split
      ·intro y my
       rcases AP my with my | my
       ·exact (hcu y my).mono up
       ·subst my;exact .inr rfl
      ·by_cases h1:k=st.n
       ·subst h1;rw [Zy];trivial
       ·rw [ZI _ _ h1];exact (hU.ob k).mono up
     ·show (upd (upd st.ob m.2.1 (.box ty (cs.set m.2.2 (.row st.n)))) st.n (.row e q [] 2)) k=_
      rw [hob' k,if_neg (show ¬k=m.2.1 from fun e'=>hk' (.inl (e' ▸ hUk))),ZI _ _ (show k≠st.n from fun e'=>hk' (.inr e'))]
      exact hU.gone k fun h=>hk' (.inl h)
    ·exact same
   ·rename_i k hcs
    split
    ·rename_i e q xs d hob2
     obtain ⟨g1,i1,i2,i3,hUk,i4⟩:=tree k e q xs d hob2
     have hUm:U m.2.1:=Classical.byContradiction fun hn=>by have:=hU.gone _ hn;rw [hob] at this;simp at this
     have hne:k≠m.2.1:=fun e'=>by rw [e',hob] at hob2;simp at hob2
     have hcu:X6 U cs:=by have:=hU.ob m.2.1;rw [hob] at this;exact this
     have hbox:=i1.obs m.2.1
     rw [ZI _ _ (fun e'=>hne e'.symm),hob] at hbox
     obtain ⟨b,vs,b1,b2,b3,b4,b5⟩:=hbox
     obtain ⟨u,u1,u2⟩:=b5.at hcs
     have hbox':ObR g1 w m.2.1 (.box ty (cs.set m.2.2 (.c (.sl e q xs)))):=⟨b,vs,b1,b2,b3,b4,sets b5 u1 (i4 u ⟨u2.1.trans (by rw [i2]),u2.2⟩)⟩
     refine ⟨U,⟨⟨g1,⟨i1.below,fun j=>?_,i1.nodup,i1.apart,fun j b mb=>⟨(i1.plain j b mb).1,(i1.plain j b mb).2.of (by
       show ZhR (upd (upd st.ob k (.row e q xs 0)) m.2.1 (.box ty (cs.set m.2.2 (.c (.sl e q xs)))) j)=_
       by_cases h1:j=m.2.1
       ·subst h1;rw [Zy,ZI _ _ (fun e'=>hne e'.symm),hob];rfl
       ·rw [ZI _ _ h1])⟩,i1.gz,i1.zx,i1.nw⟩,fun t=>(hS t).less i2 i3⟩,⟨hU.sl,fun j=>?_,fun j hj=>?_⟩,hdef,hh⟩,hk⟩
     ·show ObR g1 w j (upd (upd st.ob k (.row e q xs 0)) m.2.1 (.box ty (cs.set m.2.2 (.c (.sl e q xs)))) j)
      by_cases h1:j=m.2.1
      ·subst h1;rw [Zy];exact hbox'
      ·rw [ZI _ _ h1];exact i1.obs j
     ·show obU U (upd (upd st.ob k (.row e q xs 0)) m.2.1 (.box ty (cs.set m.2.2 (.c (.sl e q xs)))) j)
      by_cases h1:j=m.2.1
      ·subst h1;rw [Zy];exact uset hcu trivial
      ·rw [ZI _ _ h1]
       by_cases h2:j=k
       ·subst h2;rw [Zy];trivial
       ·rw [ZI _ _ h2];exact hU.ob j
     ·show upd (upd st.ob k (.row e q xs 0)) m.2.1 (.box ty (cs.set m.2.2 (.c (.sl e q xs)))) j=_
      rw [ZI _ _ (show j≠m.2.1 from fun e'=>hj (e' ▸ hUm)),ZI _ _ (show j≠k from fun e'=>hj (e' ▸ hUk))];exact hU.gone j hj
    ·exact same
   ·exact same
  ·rename_i e q xs d hob
   split
   ·rename_i hlt
    have hUk:U m.2.1:=Classical.byContradiction fun hn=>by have:=hU.gone _ hn;rw [hob] at this;simp at this
    obtain ⟨g1,t1,t2,t3⟩:=Zu7 hH hob hlt
    refine ⟨U,⟨⟨g1,t1,fun t=>(hS t).less t2 t3⟩,⟨hU.sl,fun k=>?_,fun k hk'=>?_⟩,hdef,hh⟩,hk⟩
    ·show obU U (upd st.ob m.2.1 (.row e q xs m.2.2) k)
     by_cases h1:k=m.2.1
     ·subst h1;rw [Zy];trivial
     ·rw [ZI _ _ h1];exact hU.ob k
    ·show upd st.ob m.2.1 (.row e q xs m.2.2) k=_
     rw [ZI _ _ (show k≠m.2.1 from fun e'=>hk' (e' ▸ hUk))];exact hU.gone k hk'
   ·exact same
  ·exact same
theorem Ztb [NW] (m:Bool × Nat × Nat) (hI:Inv W U st a w) (hk:∀k,st.n≤k→¬U k):∃U',Inv W U' (st.matN m) a w∧∀k,(st.matN m).n≤k→¬U' k:=by
 have same:∃U',Inv W U' st a w∧∀k,st.n≤k→¬U' k:=⟨U,hI,hk⟩
 obtain ⟨⟨g,hH,hS⟩,hU,hdef,hh⟩:=hI
 unfold St.matN
 split
 ·rename_i ag cs hsl
  have hcu:X6 U cs:=by have:=hU.sl m.2.1;rw [hsl] at this;exact this
  have hs:=hS m.2.1
  rw [hsl] at hs
  split
  ·rename_i k hcs
   split
   ·rename_i e q xs d hob
    split
    ·rename_i hd
     subst hd
     obtain ⟨g1,i1,i2,i3,i5⟩:=ZhF hH k
     rw [hob] at i1
     obtain ⟨hm,cs0,L,o1,o2,o3,o5⟩:=hH.deep hob
     have i4:∀v,AVR g w (.row k) v→AVR g1 w (.n (.sl e q xs)) v:=fun v hv=>by
      rcases o5 with ⟨_,q1,q2⟩ | ⟨q1,_⟩ | ⟨q1,_⟩
      ·have hN:=hH.nodup k
       have hP:=hH.plain k
       have hF:=i5 ⟨_,_,_,_,hob⟩
       rw [q1,q2] at hN hP hF
       rw [hob] at hP
       refine ⟨e,q,xs,cs0,L,rfl,hm,by rw [hv.1];exact o1,o2,by rw [hv.1];exact hN,fun b mb=>?_⟩
       rw [hv.1] at mb
       exact ⟨hF b mb,hH.nw b (hP b mb).1,(hP b mb).2⟩
      ·omega
      ·omega
     have hUk:U k:=Classical.byContradiction fun hn=>by have:=hU.gone _ hn;rw [hob] at this;simp at this
     refine ⟨U,⟨⟨g1,i1,fun t=>?_⟩,⟨fun t=>?_,fun j=>?_,fun j hj=>?_⟩,hdef,hh⟩,hk⟩
     ·show SVR g1 w (upd st.sl m.2.1 (.p ag (cs.set (m.2.2 - 4096) (.n (.sl e q xs)))) t) _
      by_cases ht:t=m.2.1
      ·subst ht
       rw [Zy]
       have h0:PVR g w ag cs (a.tmps.getD m.2.1 undef):=hs
       have h1:PVR g1 w ag cs (a.tmps.getD m.2.1 undef):=(show SVR g w (.p ag cs) _ from hs).less i2 i3
       cases ag with
       | true=>
        obtain ⟨vs,e1,h4⟩:=h0
        obtain ⟨vs',e1',h4'⟩:=h1
        have ev:vs=vs':=by rw [e1] at e1';simpa using e1'
        subst ev
        obtain ⟨u,u1,u2⟩:=h4.at hcs
        refine ⟨vs,e1,?_⟩
        have:=h4'.set (i:=m.2.2 - 4096) (i4 u u2)
        obtain ⟨hl,he⟩:=A7.1 u1
        rw [←he,AO hl] at this
        exact this
       | false=>
        obtain ⟨z,rfl,h4⟩:=h0
        cases hj:m.2.2 - 4096 with
        | zero=>rw [hj] at hcs;simp at hcs;subst hcs;exact ⟨_,rfl,i4 _ h4⟩
        | succ j=>rw [hj] at hcs;simp at hcs
      ·rw [ZI _ _ ht];exact (hS t).less i2 i3
     ·show svU U (upd st.sl m.2.1 (.p ag (cs.set (m.2.2 - 4096) (.n (.sl e q xs)))) t)
      by_cases ht:t=m.2.1
      ·subst ht;rw [Zy]
       intro z mz
       rcases AP mz with mz | mz
       ·exact hcu z mz
       ·subst mz;trivial
      ·rw [ZI _ _ ht];exact hU.sl t
     ·show obU U (upd st.ob k (.row e q xs 0) j)
      by_cases h1:j=k
      ·subst h1;rw [Zy];trivial
      ·rw [ZI _ _ h1];exact hU.ob j
     ·show upd st.ob k (.row e q xs 0) j=_
      rw [ZI _ _ (show j≠k from fun e'=>hj (e' ▸ hUk))];exact hU.gone j hj
    ·exact same
   ·exact same
  ·exact same
 ·exact same
theorem Zj4 [NW]:∀(ms:List (Bool × Nat × Nat)) {U:Nat→Prop} {st:St},Inv W U st a w→(∀k,st.n≤k→¬U k)→∃U',Inv W U' (st.mats ms) a w
 | [],U,st,hI,_=>⟨U,hI⟩
 | m::r,U,st,hI,hk=>by
  simp only[St.mats]
  split
  ·obtain ⟨U',h1,h2⟩:=Ztb m hI hk
   exact Zj4 r h1 h2
  ·obtain ⟨U',h1,h2⟩:=ZuE m hI hk
   exact Zj4 r h1 h2
theorem least {p:Nat→Prop} (h:∃n,p n):∃n,p n∧∀m,m<n→¬p m:=by
 obtain ⟨n,hn⟩:=h
 induction n using Nat.strongRecOn with
 | _ n ih=>
  by_cases hm:∃m,m<n∧p m
  ·obtain ⟨m,h1,h2⟩:=hm;exact ih m h1 h2
  ·exact ⟨n,hn,fun m h1 h2=>hm ⟨m,h1,h2⟩⟩
theorem Zrw [NW] {c:Code} {Q:Exit→Act→World→Prop} (J:Nat→Act→World→Prop) (n:Nat) (h₀:J n a w) (round:∀n a w,J n a w→c.wp P (Exit.then (fun a' w'=>∃m,m<n∧J m a' w') Q) a w):(Code.loop c).wp P Q a w:=by
 classical
 let μ:Act→World→Nat:=fun a w=>if h:∃n,J n a w then Classical.choose (least h) else 0
 have hμ:∀a w (h:∃n,J n a w),J (μ a w) a w∧∀m,m<μ a w→¬J m a w:=fun a w h=>by
  simp only[μ,dif_pos h]
  exact Classical.choose_spec (least h)
 refine wp_loop (fun a w=>∃n,J n a w) μ ⟨n,h₀⟩ fun a w h=>?_
 refine wp_mono (round (μ a w) a w (hμ a w h).1) fun e a' w' he=>?_
 cases e with
 | normal=>
  obtain ⟨m,h1,h2⟩:=he
  refine ⟨⟨m,h2⟩,?_⟩
  have h3:=hμ a' w' ⟨m,h2⟩
  rcases Nat.lt_or_ge m (μ a' w') with h4 | h4
  ·exact absurd h2 (h3.2 m h4)
  ·omega
 | _=>exact he
mutual
theorem RC.deep {w:World}:∀{x:CT} {v:Value} {L:List Nat},RC w x v L→ctD x
 | .int _ _,_,_,_=>trivial
 | .bool _,_,_,_=>trivial
 | .str _,_,_,h=>h.2.2
 | .sl _ _ _,_,_,⟨A,cap,cs,L0,L1,h1,h2,h3,h4,h5,h6,h7⟩=>⟨by unfold maxLen at h3;omega,h7.deep⟩
 | .pt _,_,_,⟨_,_,_,_,_,_,_,h⟩=>h.deep
 | .fn _ _,_,_,⟨_,_,h⟩=>h.deep
 | .mp _ _ _,_,_,_=>trivial
 | .ifc _,_,_,_=>trivial
 | .any,_,_,_=>trivial
 | .nl _ _,_,_,_=>trivial
theorem RCs.deep {w:World}:∀{x:List CT} {v:List Value} {L:List Nat},RCs w x v L→ctsD x
 | [],_,_,_=>trivial
 | _::_,_,_,⟨v,cs,L1,L2,h1,h2,h3,h4⟩=>⟨h3.deep,h4.deep⟩
theorem REs.deep {w:World} {m:Nat}:∀{x:List (List CT)} {v:List Value} {L:List Nat},REs w m x v L→essD x
 | [],_,_,_=>trivial
 | _::_,_,_,⟨c1,c2,L1,L2,h1,h2,h3,h4⟩=>⟨h3.1.deep,h4.deep⟩
end
theorem AVR.deep [NW] {g:Gh} {w:World}:∀{x:AV} {v:Value},AVR g w x v→avD x
 | .c _,_,⟨_,h,_⟩=>h.deep
 | .n _,_,h=>by obtain ⟨_,h1,_⟩:=NR.toC h;exact h1.deep
 | .row _,_,_=>trivial
 | .nil _ _,_,_=>trivial
 | .dead,_,_=>trivial
theorem AVRs.deep [NW] {g:Gh} {w:World}:∀{x:List AV} {v:List Value},ZH (AVR g w) x v→Zti x
 | [],[],_=>trivial
 | _::_,_::_,h=>⟨h.1.deep,AVRs.deep h.2⟩
 | [],_::_,h=>h.elim
 | _::_,[],h=>h.elim
theorem Inv.deep [NW] (hI:Inv W U st a w):WF st:=by
 obtain ⟨⟨g,hH,hS⟩,hU,hdef,hh⟩:=hI
 refine ⟨fun t b cs ht=>?_,fun k t cs hk=>?_,fun k e m xs d hk=>?_⟩
 ·have h:=hS t
  rw [ht] at h
  cases b with
  | true=>obtain ⟨vs,_,h2⟩:=h;exact AVRs.deep h2
  | false=>obtain ⟨x,rfl,h2⟩:=h;exact ⟨h2.deep,trivial⟩
 ·have h:=hH.obs k
  rw [hk] at h
  obtain ⟨b,vs,_,_,_,_,h2⟩:=h
  exact AVRs.deep h2
 ·have h:=hH.obs k
  rw [hk] at h
  obtain ⟨_,cs,L,h1,h2,_⟩:=h
  refine ⟨?_,h2.deep⟩
  rcases h1.2 with ⟨_,h3⟩ | ⟨_,_,cap,_,_,_,_,h3,h4,_⟩
  ·omega
  ·unfold maxLen at h4;omega
def Zzt:Ex→Exit
 | .normal=>.normal
 | .exit id=>.exit id
 | .ret=>.ret
def Y4 (od:OD) (tt:Nat→Option TI) (hs:FuncId→Nat) (k0:Bool) (N:Nat):Code→Bool
 | .skip=>true
 | .region id ops d=>(ops.toList.all fun o=>match o.dst with | some t=>Nat.blt t N&&(!k0||Nat.blt 0 t) | none=>true)&&(match od id with | none=>!d||Zql tt hs ops | some l=>d&&Zru tt hs l.2 ops l.1)
 | .seq x y=>Y4 od tt hs k0 N x&&Y4 od tt hs k0 N y
 | .cond _ x y=>Y4 od tt hs k0 N x&&Y4 od tt hs k0 N y
 | .block _ x=>Y4 od tt hs k0 N x
 | .loop x=>Y4 od tt hs k0 N x
 | .exit _=>true
 | .ret=>true
 | _=>false
theorem X8 [NW] {od:OD} (htt:MOk P J JF W tt) (hmix:P.follows .mixedOrders=true) {hds:FuncId→Nat} {k0:Bool} (hk0:W.hv=none∨k0=true) {N:Nat}:∀(c:Code),Y4 od tt hds k0 N c=true→∀(Qs:Ex→St→Prop) (Q:Exit→Act→World→Prop),
  (∀ex U' st' a' w',Inv W U' st' a' w'→(∀k,st'.n≤k→¬U' k)→a'.tmps.size=N→Qs ex st'→Q (Zzt ex) a' w')→
  ∀U st a w,Inv W U st a w→(∀k,st.n≤k→¬U k)→a.tmps.size=N→swp tt (SC P J JF hds) od c Qs st→c.wp P Q a w
 | .skip,_,Qs,Q,hQ,U,st,a,w,hI,hk,hs,h=>wp_skip (hQ .normal U st a w hI hk hs h)
 | .exit id,_,Qs,Q,hQ,U,st,a,w,hI,hk,hs,h=>wp_exit (hQ (.exit id) U st a w hI hk hs h)
 | .ret,_,Qs,Q,hQ,U,st,a,w,hI,hk,hs,h=>wp_ret (hQ .ret U st a w hI hk hs h)
 | .region id ops d,hok,Qs,Q,hQ,U,st,a,w,hI,hk,hs,h=>by
  simp only[Y4,A5,AG] at hok
  have hN:∀o∈ops.toList,∀t,o.dst=some t→t<N∧(W.hv=none∨t≠0):=fun o mo t ht=>by
   have:=hok.1 o mo
   rw [ht] at this
   simp only[A5,Bool.or_eq_true] at this
   refine ⟨A9 this.1,hk0.imp (fun h=>h) fun h=>?_⟩
   rcases this.2 with h2 | h2
   ·rw [h] at h2;simp at h2
   ·have h3:0<t:=A9 h2
    exact Nat.ne_of_gt h3
  have hend:∀U' st' a' w',Inv W U' st' a' w'→(∀k,st.n+16 * ops.toList.length≤k→¬U' k)→a'.tmps.size=N→Zn5 (st.n+16 * ops.toList.length) (Qs .normal) st'→Q .normal a' w':=fun U' st' a' w' h1 h2 h3 h4=>
   hQ .normal U' { st' with n:=st.n+16 * ops.toList.length } a' w' ⟨h1.ex,⟨h1.wf.sl,h1.wf.ob,h1.wf.gone⟩,h1.defers,h1.hand⟩ h2 h3 h4
  have hdraw:Inv W U st a { w with drawn:=w.drawn+1 }:=by
   obtain ⟨⟨g,hH,hS⟩,hU,hdef,hh⟩:=hI
   have hw:∀b,b<w.heap.size→¬g.own b→({ w with drawn:=w.drawn+1 }:World).heap[b]?=w.heap[b]?:=fun _ _ _=>rfl
   refine ⟨⟨g,hH.step (U:=U) (fun _=>False) ⟨hH.below.os,hH.below.tape,hH.below.output,hH.below.size,hH.below.block⟩ rfl (fun _ _ _=>rfl) (fun _ _=>⟨rfl,rfl,rfl,rfl⟩) hU.ob (fun _ _=>rfl) (X7.refl _ _) (fun _ h=>h.elim),fun t=>?_⟩,hU,hdef,hh⟩
   exact (hS t).move (hU.sl t) (fun _ _=>rfl) hw (X7.refl _ _) (A8 _)
  have open_:∀(b:Bool) (R:List Nat),Zix tt hds b ops R=true→(∀j,elB ops j=true)→R.length≤ops.size→(∀i,i∈R↔i<ops.size)→ZeD tt (SC P J JF hds) b ops.toList st.n R (Zn5 (st.n+16 * ops.toList.length) (Qs .normal)) st→(Code.region id ops true).wp P Q a w:=fun b R h1 h2 h3 h4 h5=>by
   refine wp_region_any hmix ?_
   refine ZrL (base:=st.n) htt hN h2 (fun U' st' a' w' h1 h2 h3 h4=>hend U' st' a' w' h1 (by simpa using h2) h3 h4) ops.size R (AA ops.size false) U st a _ h3 (ZmE h1) (by simp) (fun i=>?_) (fun i o ho hl=>?_) h5 hdraw (fun j _ k hk' _=>hk k (by omega)) (fun k hk'=>hk k (by omega)) hs
   ·rw [h4]
    constructor
    ·intro hi;exact ⟨hi,by simp [AL,hi]⟩
    ·exact fun hi=>hi.1
   ·exfalso
    have hi:i<ops.size:=(Array.getElem?_eq_some_iff.1 ho).1
    simp [AL,hi] at hl
  cases ho:od id with
  | none=>
   have hok2:=hok.2
   simp only[ho] at hok2
   simp only[swp,ho,ZrA] at h
   have h':ZY tt (SC P J JF hds) ops.toList st.n ops.toList (Zn5 (st.n+16 * ops.toList.length) (Qs .normal)) st:=h
   cases d with
   | false=>
    refine wp_region ?_
    have:=Zl8 (Q:=Q) htt hN ops.toList 0 st.n U st a w (by simp) h' hI hk hs hend
    rw [AX]
    simpa using this
   | true=>
    have hdr:Zql tt hds ops=true:=by simpa using hok2
    simp only[Zql,A5] at hdr
    have h2:=ZqY (tt:=tt) (S:=SC P J JF hds) (all:=ops.toList) (base:=st.n) (K:=Zn5 (st.n+16 * ops.toList.length) (Qs .normal)) ops.toList 0 st (by simp) (by simpa using h')
    rw [←AX] at h2
    exact open_ false (List.range ops.size) hdr.1 (ZpI hdr.2) (by simp) (by simp) (by simpa using h2)
  | some l=>
   have hok2:=hok.2
   simp only[ho,A5] at hok2
   simp only[swp,ho,ZrA] at h
   obtain ⟨rfl,hdr⟩:=hok2
   simp only[Zru,A5] at hdr
   exact open_ l.2 l.1 hdr.1.1.1.1 (ZpI hdr.1.1.1.2) (A9 hdr.1.1.2) (fun i=>⟨fun mi=>A9 (AG.1 hdr.1.2 i mi),fun hi=>by simpa using AG.1 hdr.2 i (by simpa using hi)⟩) h
 | .seq x y,hok,Qs,Q,hQ,U,st,a,w,hI,hk,hs,h=>by
  simp only[Y4,A5] at hok
  refine wp_seq (X8 htt hmix hk0 x hok.1 (Zfv (swp tt (SC P J JF hds) od y Qs) Qs) _ ?_ U st a w hI hk hs h)
  intro ex U' st' a' w' h1 h2 h3 h4
  cases ex with
  | normal=>exact X8 htt hmix hk0 y hok.2 Qs Q hQ U' st' a' w' h1 h2 h3 h4
  | exit id=>exact hQ (.exit id) U' st' a' w' h1 h2 h3 h4
  | ret=>exact hQ .ret U' st' a' w' h1 h2 h3 h4
 | .cond c x y,hok,Qs,Q,hQ,U,st,a,w,hI,hk,hs,h=>by
  simp only[Y4,A5] at hok
  simp only[swp,Zmp] at h
  split at h
  ·rename_i hb
   obtain ⟨b,hb'⟩:∃b,st.ev tt 0 c=.p false [.c (.bool b)]:=by
    unfold QJ at hb
    split at hb
    ·rename_i b he;exact ⟨b,he⟩
    ·simp at hb
   obtain ⟨g,hH,hS⟩:=hI.ex
   have hv:=(Zi6 (P:=P) htt.tt hS hI.wf 0 c).1
   rw [hb'] at hv
   have hv':=ZeW hv
   refine wp_cond hv' ?_
   cases b with
   | true=>rw [if_pos (by rw [hb'];rfl)] at h;exact X8 htt hmix hk0 x hok.1 Qs Q hQ U st a w hI hk hs h
   | false=>rw [if_neg (by rw [hb'];simp [XB])] at h;exact X8 htt hmix hk0 y hok.2 Qs Q hQ U st a w hI hk hs h
  ·exact h.elim
 | .block id x,hok,Qs,Q,hQ,U,st,a,w,hI,hk,hs,h=>by
  refine wp_block (X8 htt hmix hk0 x hok (Zf6 id Qs) _ ?_ U st a w hI hk hs h)
  intro ex U' st' a' w' h1 h2 h3 h4
  cases ex with
  | normal=>exact hQ .normal U' st' a' w' h1 h2 h3 h4
  | exit j=>
   show Exit.inBlock id Q (.exit j) a' w'
   simp only[Zf6] at h4
   simp only[Exit.inBlock]
   split
   ·rename_i e;rw [if_pos e] at h4;exact hQ .normal U' st' a' w' h1 h2 h3 h4
   ·rename_i e;rw [if_neg e] at h4;exact hQ (.exit j) U' st' a' w' h1 h2 h3 h4
  | ret=>exact hQ .ret U' st' a' w' h1 h2 h3 h4
 | .loop x,hok,Qs,Q,hQ,U,st,a,w,hI,hk,hs,h=>by
  obtain ⟨n,hn⟩:=h
  refine Zrw (fun n a w=>∃U st,Inv W U st a w∧(∀k,st.n≤k→¬U k)∧a.tmps.size=N∧Zi1 (swp tt (SC P J JF hds) od x) Qs n st) n ⟨U,st,hI,hk,hs,hn⟩ ?_
  rintro n a w ⟨U,st,hI,hk,hs,hn⟩
  cases n with
  | zero=>exact hn.elim
  | succ n=>
   obtain ⟨ms,ρ,hρ,hb⟩:=hn
   obtain ⟨U2,hI2⟩:=Zj4 ms hI hk
   refine X8 htt hmix hk0 x hok (Zfv (Zi1 (swp tt (SC P J JF hds) od x) Qs n) Qs) _ ?_ _ ((st.mats ms).ren ρ) a w (ZqZ hI2 hρ) (fun k hk' hU=>by simp only[St.ren] at hk';omega) hs (hb (ZqZ hI2 hρ).deep)
   intro ex U' st' a' w' h1 h2 h3 h4
   cases ex with
   | normal=>exact ⟨n,by omega,U',st',h1,h2,h3,h4⟩
   | exit id=>exact hQ (.exit id) U' st' a' w' h1 h2 h3 h4
   | ret=>exact hQ .ret U' st' a' w' h1 h2 h3 h4
 | .rangeFunc _ _ _ _,hok,_,_,_,_,_,_,_,_,_,_,_=>by simp [Y4] at hok
 | .scope _,hok,_,_,_,_,_,_,_,_,_,_,_=>by simp [Y4] at hok
 | .label _,hok,_,_,_,_,_,_,_,_,_,_,_=>by simp [Y4] at hok
 | .goto _,hok,_,_,_,_,_,_,_,_,_,_,_=>by simp [Y4] at hok
 | .refuse _,hok,_,_,_,_,_,_,_,_,_,_,_=>by simp [Y4] at hok
end
end
section
section
variable {tt:Nat→Option TI} {S:Ctx} {all:List Oper} {key:Nat} {d:Option Nat} {ty:TypeId} {pos:String} {af:Array Edge} {r:List Oper} {K:St→Prop} {st:St}
theorem ZyY:ZY tt S all key [] K st=K st:=yi rfl
theorem Zvc (x:Operand):ZY tt S all key (⟨d,.move x,ty,pos,af,none⟩::r) K st=ZY tt S all (key+16) r K (st.put d (st.ev tt ty x)):=yi rfl
theorem ZsK (x:Operand):ZY tt S all key (⟨d,.assign x,ty,pos,af,none⟩::r) K st=ZY tt S all (key+16) r K (st.put d (st.ev tt ty x)):=yi rfl
def Zml (v a b:SV) (K:SV→Prop):Prop:=if QJ v=true then (if XB v=true then K a else K b) else False
theorem ZCF (a b:SV) (K:SV→Prop):Zml (.p false [.c (.bool true)]) a b K=K a:=by simp [Zml,QJ,XB]
theorem ZCk (a b:SV) (K:SV→Prop):Zml (.p false [.c (.bool false)]) a b K=K b:=by simp [Zml,QJ,XB]
theorem Zu1 (c a b:Operand):ZY tt S all key (⟨d,.pick c a b,ty,pos,af,none⟩::r) K st=Zml (st.ev tt 0 c) (st.ev tt ty a) (st.ev tt ty b) (Zgy d (ZY tt S all (key+16) r K) st):=by
 simp only[ZY,opG,QX,opS,Yx,YP,opE,Zml]
 generalize st.ev tt 0 c=v
 unfold QJ
 split
 ·simp only[XB,Yp,if_true]
  split<;>simp [Zjr,Zgy,St.app,Zk, *]
 ·simp [Yp]
theorem ZtL (t:TypeId):ZY tt S all key (⟨d,.alloc t,ty,pos,af,none⟩::r) K st=Yp ((Zj8 (tt t)).map fun z=>(SV.bp key 0,[(key,Ob.box t z)])) (Zjr d (ZY tt S all (key+16) r K) st):=yi rfl
def ZAo (key:Nat) (t:TypeId):SV→Option (SV × List (Nat × Ob))
 | .p _ cs=>some (.bp key 0,[(key,.box t cs)])
 | _=>none
theorem Zw7 (t:TypeId) (x:Operand):ZY tt S all key (⟨d,.box t x,ty,pos,af,none⟩::r) K st=Yp (ZAo key t (st.ev tt t x)) (Zjr d (ZY tt S all (key+16) r K) st):=yi rfl
def ZqA (tt:Nat→Option TI) (st:St) (parts:List (Nat × Operand)):Option TI→Option SV
 | some (.strct fs _ z)=>(ZhA fs z (parts.map (Ze5 tt st fs z))).map (.p true)
 | _=>none
theorem Zae (v:Option SV):Yp (Zay v) (Zjr d K st)=Yp v (Zgy d K st):=by cases v<;>rfl
theorem Zta (t:TypeId) (parts:Array (Nat × Operand)):ZY tt S all key (⟨d,.build t parts,ty,pos,af,none⟩::r) K st=Yp (ZqA tt st parts.toList (tt t)) (Zgy d (ZY tt S all (key+16) r K) st):=by
 rw [←Zae]
 simp only[ZY,opG,QX,opS,Yx,YP,opE,ZqA]
 cases tt t with
 | none=>rfl
 | some ti=>cases ti<;>first | rfl | (simp [Zay,Option.map_map];rfl)
def Zy2 (st:St) (key len:Nat) (is:List Nat) (xs:List SV) (e:Nat):Option TI→Option (SV × List (Nat × Ob))
 | some (.slice _ m _ z)=>(YL st m xs).bind fun a=>if is=List.range len∧len * m≤16777216∧a.2.1.Nodup∧(!z.all ZiM||a.2.1.isEmpty)=true then some (.p false [.row key],ZO st a.2.1++[(key,.row e m a.1 a.2.2)]) else none
 | _=>none
def ZnI:Option TI→Nat
 | some (.slice e _ _ _)=>e
 | _=>0
theorem ZAe (t:TypeId) (len:Nat) (parts:Array (Nat × Operand)):ZY tt S all key (⟨d,.buildSlice t len parts,ty,pos,af,none⟩::r) K st=Yp (Zy2 st key len (parts.toList.map (·.1)) (parts.toList.map fun p=>st.ev tt (ZnI (tt t)) p.2) (ZnI (tt t)) (tt t)) (Zjr d (ZY tt S all (key+16) r K) st):=by
 simp only[ZY,opG,QX,opS,Yx,YP,opE,Zy2,ZnI]
 cases tt t with
 | none=>rfl
 | some ti=>cases ti<;>rfl
theorem Zuu (t:TypeId) (x:Operand):ZY tt S all key (⟨d,.load t x,ty,pos,af,none⟩::r) K st=Yp (Qa st (tt t) (st.ev tt 0 x)) (Zgy d (ZY tt S all (key+16) r K) st):=Zae _
def Zyg (d:Option Nat) (K:St→Prop) (st:St) (u:List (Nat × Ob)):Prop:=K ((st.put d .und).app u)
theorem Zus (t:TypeId) (x v:Operand):ZY tt S all key (⟨d,.store t x v,ty,pos,af,none⟩::r) K st=Yp (Zk4 st (tt t) (st.ev tt 0 x) (st.ev tt t v)) (Zyg d (ZY tt S all (key+16) r K) st):=by
 simp only[ZY,opG,QX,opS,Yx,YP,opE]
 cases Zk4 st (tt t) (st.ev tt 0 x) (st.ev tt t v)<;>rfl
def Zz2:SV→Option SV
 | .bp k i=>some (.bp k i)
 | .rp k m i j=>some (.rp k m i j)
 | .ep e i=>some (.ep e i)
 | .p false [.c (.pt e)]=>some (.p false [.c (.pt e)])
 | _=>none
theorem Zyw (x:Operand):ZY tt S all key (⟨d,.nilCheck x,ty,pos,af,none⟩::r) K st=Yp (Zz2 (st.ev tt 0 x)) (Zgy d (ZY tt S all (key+16) r K) st):=by
 simp only[ZY,opG,QX,opS,Yx,YP,opE,←Zae,Zz2]
 generalize st.ev tt 0 x=v
 cases v with
 | p ag cs=>cases ag with
  | true=>rfl
  | false=>cases cs with
   | nil=>rfl
   | cons y r=>cases r<;>cases y<;>first | rfl | (rename_i z;cases z<;>rfl) | (rename_i z _ _;cases z<;>rfl)
 | _=>rfl
theorem ZwQ (op:BinOp) (t u:TypeId) (x y:Operand):ZY tt S all key (⟨d,.binOp op t x y u,ty,pos,af,none⟩::r) K st=Yp (ZtF tt t (Zil y) op (st.ev tt t x) (st.ev tt t y)) (Zgy d (ZY tt S all (key+16) r K) st):=Zae _
theorem ZA7 (op:UnOp) (t:TypeId) (x:Operand):ZY tt S all key (⟨d,.unOp op t x,ty,pos,af,none⟩::r) K st=Yp (unV op (st.ev tt 0 x)) (Zgy d (ZY tt S all (key+16) r K) st):=Zae _
theorem ZuS (s t:TypeId) (x:Operand):ZY tt S all key (⟨d,.convert s t x,ty,pos,af,none⟩::r) K st=Yp (ZfG tt st s t (st.ev tt 0 x)) (Zgy d (ZY tt S all (key+16) r K) st):=Zae _
theorem ZvK (t:TypeId) (n c:Operand):ZY tt S all key (⟨d,.makeSlice t n c,ty,pos,af,none⟩::r) K st=Yp (ZpS key (tt t) (st.ev tt 0 n) (st.ev tt 0 c)) (Zjr d (ZY tt S all (key+16) r K) st):=yi rfl
theorem Zuk (t:TypeId) (x:Operand) (lo hi:Option Operand):ZY tt S all key (⟨d,.slice t x lo hi none,ty,pos,af,none⟩::r) K st=Yp (Qi st key (tt t) (lo.map (st.ev tt 0)) (hi.map (st.ev tt 0)) (st.ev tt 0 x)) (Zjr d (ZY tt S all (key+16) r K) st):=yi rfl
def ZzI (fs:Option TI) (f:Nat):Option Nat:=match fs with | some (.strct fs _ _)=>(fs[f]?).map FI.off | _=>none
def Zyo (fs:Option TI) (f:Nat) (v:SV):Option SV:=(ZzI fs f).bind fun o=>Zit o v
theorem ZzO (t:TypeId) (x:Operand) (f:Nat):ZY tt S all key (⟨d,.fieldAddr t x f,ty,pos,af,none⟩::r) K st=Yp (Zyo (tt t) f (st.ev tt 0 x)) (Zgy d (ZY tt S all (key+16) r K) st):=by
 rw [←Zae]
 simp only[ZY,opG,QX,opS,Yx,YP,opE,Zyo,ZzI]
 cases tt t with
 | none=>rfl
 | some ti=>cases ti<;>first | rfl | (simp only[Option.bind_map];rfl)
def Zw3 (fs:Option TI) (f:Nat) (v:SV):Option SV:=match fs with | some (.strct fs _ _)=>Zlj fs f v | _=>none
theorem ZyQ (t:TypeId) (x:Operand) (f:Nat):ZY tt S all key (⟨d,.field t x f,ty,pos,af,none⟩::r) K st=Yp (Zw3 (tt t) f (st.ev tt 0 x)) (Zgy d (ZY tt S all (key+16) r K) st):=by
 rw [←Zae]
 simp only[ZY,opG,QX,opS,Yx,YP,opE,Zw3]
 cases tt t with
 | none=>rfl
 | some ti=>cases ti<;>rfl
def Zw2 (st:St) (t:Option TI) (x i:SV):Option SV:=match t with | some (.slice _ m _ _)=>Za9 st m x i | _=>none
theorem Zya (t:TypeId) (x i:Operand):ZY tt S all key (⟨d,.indexAddr t x i,ty,pos,af,none⟩::r) K st=Yp (Zw2 st (tt t) (st.ev tt 0 x) (st.ev tt 0 i)) (Zgy d (ZY tt S all (key+16) r K) st):=by
 rw [←Zae]
 simp only[ZY,opG,QX,opS,Yx,YP,opE,Zw2]
 cases tt t with
 | none=>rfl
 | some ti=>cases ti<;>rfl
theorem ZAc (t:TypeId) (x i:Operand):ZY tt S all key (⟨d,.index t x i,ty,pos,af,none⟩::r) K st=Yp (ZjW (tt t) (st.ev tt 0 x) (st.ev tt 0 i)) (Zgy d (ZY tt S all (key+16) r K) st):=Zae _
theorem ZxU (x:Operand) (i:Nat):ZY tt S all key (⟨d,.extract x i,ty,pos,af,none⟩::r) K st=Yp (Zt1 i (st.ev tt 0 x)) (Zgy d (ZY tt S all (key+16) r K) st):=Zae _
theorem ZzM (b:Builtin) (args:Array Operand) (ts:Array TypeId):ZY tt S all key (⟨d,.call ⟨.builtin b,args,ts⟩,ty,pos,af,none⟩::r) K st=Yp (Zet tt st key b ts.toList (evs tt st ts.toList args.toList)) (Zjr d (ZY tt S all (key+16) r K) st):=yi rfl
def ZAT (f:FuncId) (n:Nat) (st:St) (vs:List SV):Option (SV × List (Nat × Ob)):=if n=0 then (ZdD st vs).bind fun r=>if (r.2.map (·.1)).Nodup then some (.p false [.c (.fn f r.1)],r.2) else none else none
theorem ZxI (f:FuncId) (first caps:Array Operand):ZY tt S all key (⟨d,.makeFunc (.func f) first caps,ty,pos,af,none⟩::r) K st=Yp (ZAT f first.size st (caps.toList.map (st.ev tt 0))) (Zjr d (ZY tt S all (key+16) r K) st):=yi rfl
theorem ZyG (t:TypeId):ZY tt S all key (⟨d,.makeMap t none,ty,pos,af,none⟩::r) K st=Yp (Zl6 key (tt t)) (Zjr d (ZY tt S all (key+16) r K) st):=yi rfl
theorem ZuU (t:TypeId) (x i:Operand) (ok:Bool):ZY tt S all key (⟨d,.lookup t x i ok,ty,pos,af,none⟩::r) K st=Yp (Zfb st (tt t) (st.ev tt 0 x) (st.ev tt 0 i) ok) (Zgy d (ZY tt S all (key+16) r K) st):=Zae _
theorem ZyR (t:TypeId) (x i v:Operand):ZY tt S all key (⟨d,.mapUpdate t x i v,ty,pos,af,none⟩::r) K st=Yp (Zsw st (tt t) (st.ev tt 0 x) (st.ev tt 0 i) (st.ev tt 0 v)) (Zyg d (ZY tt S all (key+16) r K) st):=by
 simp only[ZY,opG,QX,opS,Yx,YP,opE]
 cases Zsw st (tt t) (st.ev tt 0 x) (st.ev tt 0 i) (st.ev tt 0 v)<;>rfl
theorem Zxj (s:Nat) (args:Array Operand) (ts:Array TypeId):ZY tt S all key (⟨d,.call ⟨.value (.tmp s),args,ts⟩,ty,pos,af,none⟩::r) K st=Yp (ZmF (st.sl s)) (Zx7 S key d (ZY tt S all (key+16) r K) st (evs tt st ts.toList args.toList)):=yi rfl
theorem Zuv (vs:List SV) (f:FuncId) (es:List CT):Zx7 S key d K st vs (f,es)=(S.hd f=0∧spK S f 0 key d K st (vs++es.map Zi8)):=yi rfl
theorem Zvh (f:FuncId) (args:Array Operand) (ts:Array TypeId):ZY tt S all key (⟨d,.call ⟨.value (.func f),args,ts⟩,ty,pos,af,none⟩::r) K st=spK S f (S.hd f) key d (ZY tt S all (key+16) r K) st (evs tt st ts.toList args.toList):=yi rfl
theorem ZCg (f:FuncId) (vs:List SV):spK S f 0 key d K st vs=Yp (ZT st vs) (Zo1 S f key d K st vs):=yi rfl
theorem ZB9 (f:FuncId) (v:SV) (vs:List SV):spK S f 1 key d K st (v::vs)=Yp (ZeF st v) fun kh=>Yp (ZT st vs) (Ztr S f key d K st vs kh):=yi rfl
theorem ZCP (f:FuncId) (vs:List SV):spK S f 3 key d K st vs=Yp (ZT st vs) (Zvd S f key d K st vs):=yi rfl
theorem ZCQ (f:FuncId) (vs:List SV):spK S f 4 key d K st vs=Yp (ZT st (vs.map nlS)) (Zo1 S f key d K st (vs.map nlS)):=yi rfl
theorem ZCK (f:FuncId) (vs:List SV):spK S f 2 key d K st vs=Yp (ZT st vs) (ZuM S f key d K st vs):=yi rfl
def gOf (all:List Oper) (j:Nat):Option Nat:=(all[j]?).bind (·.dst)
def gL (tt:Nat→Option TI) (S:Ctx) (all:List Oper) (key:Nat) (v:SV) (w:Bool) (o:Oper) (r:List Oper) (K:St→Prop) (st:St):Prop:=gK v w (ZY tt S all key (o::r) K st) (ZY tt S all (key+16) r K (st.put o.dst .und))
def Zn6 (st:St):Option Nat→SV
 | some t=>st.sl t
 | none=>.und
theorem Zp6 (sl:Nat→SV) (ob:Nat→Ob) (n t:Nat):Zn6 ⟨sl,ob,n⟩ (some t)=sl t:=yi rfl
theorem Zqd:Zn6 st none=.und:=yi rfl
theorem ZsP (op:Op) (j:Nat) (w:Bool):ZY tt S all key (⟨d,op,ty,pos,af,some (j,w)⟩::r) K st=gL tt S all key (Zn6 st (gOf all j)) w ⟨d,op,ty,pos,af,none⟩ r K st:=by
 cases hg:gOf all j with
 | none=>
  have h:QX all ⟨d,op,ty,pos,af,some (j,w)⟩=some (none,w):=by simp only[QX];rw [show (all[j]?).bind (·.dst)=none from hg]
  simp only[ZY,opG,h,gL,Zn6]
  simp [gK,QJ,Zpw]
 | some t=>
  have h:QX all ⟨d,op,ty,pos,af,some (j,w)⟩=some (some t,w):=by simp only[QX];rw [show (all[j]?).bind (·.dst)=some t from hg]
  simp only[ZY,opG,h,gL,Zn6]
  rfl
theorem ZBL (o:Oper):gL tt S all key (.p false [.c (.bool true)]) true o r K st=ZY tt S all key (o::r) K st:=by simp [gL,gK,QJ,XB]
theorem ZA5 (o:Oper):gL tt S all key (.p false [.c (.bool false)]) false o r K st=ZY tt S all key (o::r) K st:=by simp [gL,gK,QJ,XB]
theorem ZBs (o:Oper):gL tt S all key (.p false [.c (.bool true)]) false o r K st=ZY tt S all (key+16) r K (st.put o.dst .und):=by simp [gL,gK,QJ,XB]
theorem ZBX (o:Oper):gL tt S all key (.p false [.c (.bool false)]) true o r K st=ZY tt S all (key+16) r K (st.put o.dst .und):=by simp [gL,gK,QJ,XB]
theorem ZxX (o:Oper) (w:Bool):gL tt S all key .und w o r K st=ZY tt S all (key+16) r K (st.put o.dst .und):=by simp [gL,gK,QJ,Zpw]
theorem Zvx (v:SV):Zgy d K st v=K (st.put d v):=yi rfl
theorem ZuG (v:SV) (u:List (Nat × Ob)):Zjr d K st (v,u)=K ((st.put d v).app u):=yi rfl
theorem ZvM (u:List (Nat × Ob)):Zyg d K st u=K ((st.put d .und).app u):=yi rfl
theorem ZsI {α:Type} (v:α) (K:α→Prop):Yp (some v) K=K v:=yi rfl
theorem Zst {α:Type} (K:α→Prop):Yp none K=False:=yi rfl
theorem Zu8 (n m:Nat) (sl:Nat→SV) (ob:Nat→Ob):Zn5 n K ⟨sl,ob,m⟩=K ⟨sl,ob,n⟩:=yi rfl
theorem Zu9 (ops:List Oper) (sl:Nat→SV) (ob:Nat→Ob) (n:Nat):ZvC tt S ops K ⟨sl,ob,n⟩=ZY tt S ops n ops (Zn5 (n+16 * ops.length) K) ⟨sl,ob,n⟩:=yi rfl
theorem ZtZ (sl:Nat→SV) (ob:Nat→Ob) (n t:Nat) (v:SV):St.put ⟨sl,ob,n⟩ (some t) v=⟨upd sl t v,ob,n⟩:=yi rfl
theorem Zt6 (v:SV):St.put st none v=st:=yi rfl
theorem ZuP (sl:Nat→SV) (ob:Nat→Ob) (n:Nat):St.app ⟨sl,ob,n⟩ []=⟨sl,ob,n⟩:=yi rfl
theorem Zua (sl:Nat→SV) (ob:Nat→Ob) (n:Nat) (p:Nat × Ob) (u:List (Nat × Ob)):St.app ⟨sl,ob,n⟩ (p::u)=St.app ⟨sl,upd ob p.1 p.2,n⟩ u:=yi rfl
theorem Zzo {α:Type} (f:Nat→α) (k j:Nat) (v:α):upd f k v j=if j=k then v else f j:=yi rfl
end
section
variable {od:OD} {tt:Nat→Option TI} {S:Ctx} {Q:Ex→St→Prop} {st:St}
theorem ZuN:swp tt S od .skip Q st=Q .normal st:=yi rfl
theorem ZrZ (id:Nat) (ops:Array Oper) (dr:Bool):swp tt S (fun _=>none) (.region id ops dr) Q st=ZvC tt S ops.toList (Q .normal) st:=yi rfl
def ZuO:List (Nat × List Nat × Bool)→OD
 | [],_=>none
 | p::r,i=>if i=p.1 then some p.2 else ZuO r i
theorem Zw0 (i:Nat):ZuO [] i=none:=yi rfl
theorem ZvH (p:Nat × List Nat × Bool) (m:List (Nat × List Nat × Bool)) (i:Nat):ZuO (p::m) i=if i=p.1 then some p.2 else ZuO m i:=yi rfl
theorem ZvQ (ops:List Oper) (K:St→Prop):ZrA tt S none ops K st=ZvC tt S ops K st:=yi rfl
theorem Zu0 (l:List Nat) (b:Bool) (ops:List Oper) (K:St→Prop) (sl:Nat→SV) (ob:Nat→Ob) (n:Nat):ZrA tt S (some (l,b)) ops K ⟨sl,ob,n⟩=ZeD tt S b ops n l (Zn5 (n+16 * ops.length) K) ⟨sl,ob,n⟩:=yi rfl
def ZBD (tt:Nat→Option TI) (S:Ctx) (b:Bool) (all:List Oper) (key:Nat) (K:St→Prop) (st:St):Option Oper→Prop
 | some o=>ifB b (stk tt S o.op st) (ZY tt S all key [o] K st)
 | none=>K st
theorem ZzA (b:Bool) (all:List Oper) (base:Nat) (K:St→Prop):ZeD tt S b all base [] K st=K st:=yi rfl
theorem Zvt (b:Bool) (all:List Oper) (base i:Nat) (r:List Nat) (K:St→Prop):ZeD tt S b all base (i::r) K st=ZBD tt S b all (base+16 * i) (ZeD tt S b all base r K) st (all[i]?):=by
 simp only[ZeD]
 cases all[i]?<;>rfl
theorem Zyb (b:Bool) (all:List Oper) (key:Nat) (K:St→Prop) (o:Oper):ZBD tt S b all key K st (some o)=ifB b (stk tt S o.op st) (ZY tt S all key [o] K st):=yi rfl
theorem ZBG (c:Bool) (P:Prop):ifB true c P=(c=true∧P):=yi rfl
theorem ZBz (c:Bool) (P:Prop):ifB false c P=P:=yi rfl
theorem Zz3 (a b:Code):swp tt S od (.seq a b) Q st=swp tt S od a (Zfv (swp tt S od b Q) Q) st:=yi rfl
def Zov (tt:Nat→Option TI) (S:Ctx) (od:OD) (v:SV) (a b:Code) (Q:Ex→St→Prop) (st:St):Prop:=Zmp v (swp tt S od a Q st) (swp tt S od b Q st)
theorem ZvO (c:Operand) (a b:Code):swp tt S od (.cond c a b) Q st=Zov tt S od (st.ev tt 0 c) a b Q st:=yi rfl
theorem ZCH (a b:Code):Zov tt S od (.p false [.c (.bool true)]) a b Q st=swp tt S od a Q st:=by simp [Zov,Zmp,QJ,XB]
theorem ZCn (a b:Code):Zov tt S od (.p false [.c (.bool false)]) a b Q st=swp tt S od b Q st:=by simp [Zov,Zmp,QJ,XB]
theorem Zuo (id:Nat) (b:Code):swp tt S od (.block id b) Q st=swp tt S od b (Zf6 id Q) st:=yi rfl
theorem ZvE (id:Nat):swp tt S od (.exit id) Q st=Q (.exit id) st:=yi rfl
theorem Zxk:swp tt S od .ret Q st=Q .ret st:=yi rfl
theorem ZCr (k:St→Prop):Zfv k Q .normal st=k st:=yi rfl
theorem ZCj (k:St→Prop) (i:Nat):Zfv k Q (.exit i) st=Q (.exit i) st:=yi rfl
theorem ZCG (k:St→Prop):Zfv k Q .ret st=Q .ret st:=yi rfl
theorem ZCM (i:Nat):Zf6 i Q .normal st=Q .normal st:=yi rfl
theorem ZB8 (i:Nat):Zf6 i Q .ret st=Q .ret st:=yi rfl
theorem ZCd (i j:Nat):Zf6 i Q (.exit j) st=if j=i then Q .normal st else Q (.exit j) st:=yi rfl
theorem ZyI (sl:Nat→SV) (ob:Nat→Ob) (n t s:Nat):St.ev tt ⟨sl,ob,n⟩ t (.tmp s)=sl s:=yi rfl
theorem Ztn (t:Nat) (v:Value):St.ev tt st t (.const v)=cvT (tt t) v:=yi rfl
theorem Zvj (t f:Nat):St.ev tt st t (.func f)=.fn f:=yi rfl
theorem ZCa (rs:List ResultVar) (R:St→List RT→List Nat→Prop):ZoL tt rs R .ret st=match Zbb tt st rs with | some x=>x.2.Nodup∧R st x.1 x.2 | none=>False:=yi rfl
theorem ZCA (rs:List ResultVar) (R:St→List RT→List Nat→Prop):ZoL tt rs R .normal st=match Zbb tt st rs with | some x=>x.2.Nodup∧R st x.1 x.2 | none=>False:=yi rfl
end
attribute [go_sem] ZyY Zvc ZsK Zu1 ZtL Zw7 Zta ZAe Zuu Zus Zyw ZwQ ZA7 ZuS ZvK Zuk ZzO ZyQ Zya ZAc ZxU ZzM Zvh ZxI ZyG ZuU ZyR Zxj Zuv ZAT Zl6 Zfb ZpB Zsw Zrz ZdE ZdG ZdD Zhy Zhy.zBox ZmF Zi8 eqC ZlL Zvq ZtP Zn8 Zqo Zil ZzV Zur Zts ZtF ZdK ZkO ZgV ZnC ZfG ZsP Zvx ZuG ZvM ZsI Zst Zu8 Zu9 ZtZ Zt6 ZuP Zua Zzo ZuN ZrZ ZvQ Zu0 ZzA Zvt Zyb Zw0 ZvH ZBG ZBz stk hdC ldB hdB Yx List.head?_cons Zz3 ZvO Zuo ZvE Zxk ZCr ZCj ZCG ZCM ZB8 ZCd ZyI Ztn Zvj ZCa ZCA ZCF ZCk ZCH ZCn ZBL ZA5 ZBs ZBX ZxX Zp6 Zqd ZAo ZqA Zy2 ZnI ZiM AY List.all_nil List.isEmpty_nil Bool.true_or Bool.false_or Bool.or_true Bool.or_false Bool.false_and Zz2 ZzI Zyo Zw3 Zw2 gOf cvT Zj8 Zvn Zu3 Zux unV ZoY ZlW Za9 ZjW cut Qa splice Zhl Zk4 Zit Zlj ZhA Ze5 avT Zex ZhM Ze6 YL Zaf ZeU ZeO Zj6 Zi4 Zl2 ZtJ ZkW Qi mvS hiB loB ZiK Za2 ZbY ZpS Zt1 Zay Zet evs Zbc Yq Zcd ZT ZhJ ZCg ZB9 ZCK ZeF Y9 Zaa Zgk Zcg Zbk Zhn Z1 Z4 ZO ZCy ZAQ wkC wkR ZnP Zo8 Zot Zva ZuY ZwT ZvG ZtR Zsb ZCP ZCQ nlA nlS Zhh ZvB Zu4 Zop Zmy Zid Zrh QW ZqX wk1 ZdV Zcb Zbb ZE Z3 Zcf List.length_cons List.length_nil AH List.length_replicate List.getElem?_cons_zero List.getElem?_cons_succ List.getElem?_nil AI List.map_nil AM Option.bind_none AQ Option.map_none List.cons_append List.nil_append List.append_nil List.nodup_nil List.drop_zero List.drop_succ_cons List.drop_nil List.take_succ_cons List.take_zero List.take_nil List.set_cons_zero List.set_cons_succ List.range_zero Bool.and_true Bool.true_and Bool.and_self and_true true_and and_self AR A8 beq_self_eq_true AZ ite_true ite_false Nat.zero_add Nat.lt_add_one Nat.zero_lt_succ eq_self or_false false_or and_false false_and or_self Nat.lt_irrefl true_or or_true List.not_mem_nil AJ List.mem_cons Bool.false_eq_true if_true if_false decide_true decide_false Bool.not_true Bool.not_false Aa ne_eq not_true_eq_false not_false_eq_true
end
section
open Go.RowKit
section
variable {P:Program} {J:World→Prop} {JF:Nat→Prop} {W:QK} {U:Nat→Prop} {st:St} {w w':World} {a:Act} {tt:Nat→Option TI} {g:Gh}
def nK (g:Gh) (K:Nat→Prop) (b:Nat):Prop:=g.Z b∨∃k,K k∧b∈g.O k
theorem ZtB {k e m n B:Nat} {cs:List Value} (h:w.ownsV 0 e m (g.val k) n cs) (hB:∀b∈(g.val k).ownBlock.toList,B≤b):w.ownsV B e m (g.val k) n cs:=by
 refine ⟨h.1,?_⟩
 rcases h.2 with h0 | ⟨q,o,cap,cur,hv,hg,r⟩
 ·exact .inl h0
 ·exact .inr ⟨q,o,cap,cur,hv,hB q (by simp [hv,Value.ownBlock]),r⟩
variable {K:Nat→Prop}
theorem Zok [NW] (hI:HI W g st.ob w) (hK:∀k,K k→ZhR (st.ob k)=false∧∀e m xs d,st.ob k=.row e m xs d→d=2) {x:AV} {ct:Bool × CT} {ks:List Nat} {v:Value} (h:ZdV st x=some (ct,ks)) (hks:∀k∈ks,K k∧∀b∈g.O k++g.D k,W.heap.size≤b) (hx:AVR g w x v):OC w W.heap.size (nK g K) ct v (g.F ks):=by
 have hsub:∀b,nK g K b→g.own b:=fun b hb=>by
  rcases hb with hz | ⟨k,_,mk⟩
  ·exact .inr hz
  ·exact .inl ⟨k,mk⟩
 cases x with
 | c y=>
  obtain ⟨L,h1,h2⟩:=hx
  cases y<;>simp only[ZdV,A4,A3] at h<;>obtain ⟨rfl,rfl⟩:=h
  ·exact ⟨⟨h1.1,rfl⟩,by simp [Gh.F]⟩
  ·exact ⟨⟨h1.1,rfl⟩,by simp [Gh.F]⟩
  ·exact ⟨⟨h1.1,rfl,h1.2.2⟩,by simp [Gh.F]⟩
  ·exact ⟨by simp [Gh.F],L,h1,fun b mb hb=>h2 b mb (hsub b hb)⟩
  ·exact ⟨by simp [Gh.F],L,h1,fun b mb hb=>h2 b mb (hsub b hb)⟩
  ·exact ⟨by simp [Gh.F],L,h1,fun b mb hb=>h2 b mb (hsub b hb)⟩
  ·exact ⟨by simp [Gh.F],L,h1,fun b mb hb=>h2 b mb (hsub b hb)⟩
  ·exact ⟨⟨rfl,h1.2⟩,by simp [Gh.F]⟩
  ·exact ⟨by simp [Gh.F],L,h1,fun b mb hb=>h2 b mb (hsub b hb)⟩
  ·exact ⟨by simp [Gh.F],L,h1,fun b mb hb=>h2 b mb (hsub b hb)⟩
 | row k=>
  simp only[ZdV] at h
  split at h
  ·rename_i e m xs d hk
   obtain ⟨hm,cs,L,o1,o2,o3,o5⟩:=hI.deep hk
   split at h
   ·rename_i hd
    simp only[A4,A3] at h
    obtain ⟨rfl,rfl⟩:=h
    have hKk:=hks k (by simp)
    rcases o5 with ⟨_,q1,q2⟩ | ⟨q,_⟩ | ⟨q,_⟩
    ·refine ⟨hm,cs,L,by rw [hx.1];exact ZtB o1 fun b mb=>hKk.2 b (by simp [q1,mb]),o2,by simp [Gh.F,q1,q2,hx.1],fun b mb=>.inr ⟨k,hKk.1,by rw [q1];rw [hx.1] at mb;exact mb⟩⟩
    ·omega
    ·omega
   ·rename_i hd
    simp only[A4,A3] at h
    obtain ⟨rfl,rfl⟩:=h
    have hnK:¬K k:=fun h=>hd ((hK k h).2 e m xs d hk)
    obtain ⟨A,cap,L0,s1,s2,s3,s4,s5⟩:=Sl.row o1
    refine ⟨by simp [Gh.F],L0++L,⟨A,cap,cs,L0,L,by rw [hx.1,s1],s2,s3,rfl,hm,s4,o2⟩,fun b mb hb=>?_⟩
    rcases A6.1 mb with m1 | m1
    ·have m2:=s5.subset m1
     rcases o5 with ⟨q,_⟩ | ⟨_,q1,q2⟩ | ⟨_,_,_,q⟩
     ·exact hd q
     ·have mk:b∈g.O k++g.D k:=by simp [q1,m2]
      rcases hb with hz | ⟨j,hj,mj⟩
      ·exact hI.nz mk hz
      ·exact hI.apart k j (fun e=>hnK (e ▸ hj)) b mk (by simp [mj])
     ·exact q b m2 (hsub b hb)
    ·exact o3 b m1 (hsub b hb)
  ·rename_i kk vk kv hk
   simp only[A4,A3] at h
   obtain ⟨rfl,rfl⟩:=h
   have ho:=hI.obs k
   rw [hk] at ho
   obtain ⟨b,es,c,q1,q2,q3,q4,q5,q6⟩:=ho
   have hnK:¬K k:=fun h=>by have:=(hK k h).1;rw [hk] at this;simp [ZhR] at this
   refine ⟨by simp [Gh.F],[b],⟨b,es,c,by rw [hx.1,q1],q4,q5,q6,rfl⟩,fun x mx hb=>?_⟩
   simp at mx;subst mx
   have mk:x∈g.O k++g.D k:=by simp [q2]
   rcases hb with hz | ⟨j,hj,mj⟩
   ·exact hI.nz mk hz
   ·exact hI.apart k j (fun e=>hnK (e ▸ hj)) x mk (by simp [mj])
  ·simp at h
 | nil e m=>
  simp only[ZdV] at h
  split at h
  ·rename_i hm
   simp only[A4,A3] at h
   obtain ⟨rfl,rfl⟩:=h
   have hx':v=.slice none 0 0:=hx
   subst hx'
   exact ⟨hm,[],[],ZiJ _ _ _ _,⟨rfl,rfl⟩,by simp [Gh.F,Value.ownBlock],by simp [Value.ownBlock]⟩
  ·simp at h
 | n y=>
  obtain ⟨L,h1,h2⟩:=NR.toC hx
  simp only[ZdV,A4,A3] at h
  obtain ⟨rfl,rfl⟩:=h
  exact ⟨by simp [Gh.F],L,h1,fun b mb hb=>h2 b mb (hsub b hb)⟩
 | dead=>
  simp only[ZdV,A4,A3] at h
  obtain ⟨rfl,rfl⟩:=h
  exact ⟨by simp [Gh.F],[],⟨rfl,hx⟩,by simp⟩
theorem Znb [NW] (hI:HI W g st.ob w) (hK:∀k,K k→ZhR (st.ob k)=false∧∀e m xs d,st.ob k=.row e m xs d→d=2):∀{xs:List AV} {cts:List (Bool × CT)} {ks:List Nat} {vs:List Value},Zcb st xs=some (cts,ks)→(∀k∈ks,K k∧∀b∈g.O k++g.D k,W.heap.size≤b)→ZH (AVR g w) xs vs→OCs w W.heap.size (nK g K) cts vs (g.F ks)
 | [],_,_,[],h,_,_=>by
  simp only[Zcb,A4,A3] at h
  obtain ⟨rfl,rfl⟩:=h
  exact ⟨rfl,by simp [Gh.F]⟩
 | [],_,_,_::_,_,_,h=>h.elim
 | _::_,_,_,[],_,_,h=>h.elim
 | x::r,cts,ks,v::vs,h,hks,hr=>by
  simp only[Zcb] at h
  obtain ⟨⟨c1,k1⟩,h1,h⟩:=AC.1 h
  obtain ⟨⟨c2,k2⟩,h2,h⟩:=AF.1 h
  simp only[A3] at h
  obtain ⟨rfl,rfl⟩:=h
  exact ⟨v,vs,g.F k1,g.F k2,rfl,by simp [Gh.F],Zok hI hK h1 (fun k mk=>hks k (by simp [mk])) hr.1,Znb hI hK h2 (fun k mk=>hks k (by simp [mk])) hr.2⟩
theorem ZpF [NW] (hI:HI W g st.ob w) (hK:∀k,K k→ZhR (st.ob k)=false∧∀e m xs d,st.ob k=.row e m xs d→d=2) {ag:Bool} {cs:List AV} {cts:List (Bool × CT)} {ks:List Nat} {v:Value} (h:Zcb st cs=some (cts,ks)) (hks:∀k∈ks,K k∧∀b∈g.O k++g.D k,W.heap.size≤b) (hx:PVR g w ag cs v):OP w W.heap.size (nK g K) (ag,cts) v (g.F ks):=by
 cases ag with
 | true=>obtain ⟨vs,rfl,h2⟩:=hx;exact .inl ⟨rfl,vs,rfl,Znb hI hK h hks h2⟩
 | false=>
  obtain ⟨x,rfl,h2⟩:=hx
  simp only[Zcb] at h
  obtain ⟨⟨c1,k1⟩,h1,h⟩:=AC.1 h
  simp at h
  obtain ⟨rfl,rfl⟩:=h
  exact .inr ⟨rfl,c1,rfl,Zok hI hK h1 hks h2⟩
theorem OC.one {B:Nat} {n:Nat→Prop} {x:Bool × CT} {v:Value} {F:List Nat} (h:OC w B n x v F):v.oneCell'=true:=by
 obtain ⟨b,x⟩:=x
 cases b with
 | true=>obtain ⟨_,L,h1,_⟩:=h;exact h1.one
 | false=>
  cases x with
  | sl e q xs=>
   obtain ⟨_,cs,L,o1,_⟩:=h
   obtain ⟨A,cap,hv⟩:=Q8 o1
   rw [hv];rfl
  | int k i=>exact h.1.one
  | bool b=>exact h.1.one
  | str s=>exact h.1.one
  | ifc s=>exact h.1.one
  | any=>exact h.1.one
  | _=>exact h.elim
/- what is given is said to be lent -/
theorem Zn4 [NW] {B:Nat} {n:Nat→Prop}:∀{r res:List (Bool × CT)} {vs:List Value} {F:List Nat},OCs w B n r vs F→wkC r res→F.Nodup→∃F',F'.Sublist F∧∀m:Nat→Prop,(∀b∈F',n b→m b)→(∀b,m b→n b)→(∀b∈F,m b→b∈F')→OCs w B m res vs F'
 | [],[],vs,F,h,_,_=>⟨[],by simp,fun m _ _ _=>⟨h.1,rfl⟩⟩
 | [],_::_,_,_,_,h,_=>h.elim
 | _::_,[],_,_,_,h,_=>h.elim
 | x::r,y::res,_,_,⟨v,vs,F1,F2,rfl,rfl,h1,h2⟩,hw0,hnd=>by
  rw [AK] at hnd
  have hw0:wk1 x y (wkC r res):=hw0
  unfold wk1 at hw0
  by_cases hany:ZqX y.2=true
  ·rw [if_pos hany] at hw0
   obtain ⟨F2',s2,h2'⟩:=Zn4 h2 hw0 hnd.2.1
   refine ⟨F2',s2.trans (List.sublist_append_right _ _),fun m m1 m2 m3=>⟨v,vs,[],F2',rfl,rfl,?_,h2' m m1 m2 fun b mb hb=>m3 b (by simp [mb]) hb⟩⟩
   have h1':=h1.one
   obtain ⟨b2,y⟩:=y
   cases y<;>simp [ZqX] at hany
   cases b2 with
   | true=>exact ⟨rfl,[],⟨rfl,h1'⟩,by simp⟩
   | false=>exact ⟨⟨rfl,h1'⟩,rfl⟩
  rw [if_neg hany] at hw0
  obtain ⟨e1,e2,hw⟩:=hw0
  obtain ⟨F2',s2,h2'⟩:=Zn4 h2 hw hnd.2.1
  have key:∃F1',F1'.Sublist F1∧∀m:Nat→Prop,(∀b∈F1',n b→m b)→(∀b,m b→n b)→(∀b∈F1,m b→b∈F1')→OC w B m y v F1':=by
   obtain ⟨b1,x⟩:=x
   obtain ⟨b2,y⟩:=y
   simp only at e1 e2
   subst e1
   cases b1 with
   | true=>
    have:b2=true:=by rcases e2 with e | e<;>simp_all
    subst this
    obtain ⟨rfl,L,q1,q2⟩:=h1
    exact ⟨[],by simp,fun m _ m2 _=>⟨rfl,L,q1,fun b mb hb=>q2 b mb (m2 b hb)⟩⟩
   | false=>
    cases b2 with
    | false=>
     refine ⟨F1,List.Sublist.refl _,fun m m1 _ _=>?_⟩
     cases x with
     | sl e q xs=>
      obtain ⟨hm,cs,L,o1,o2,o3,o4⟩:=h1
      exact ⟨hm,cs,L,o1,o2,o3,fun b mb=>m1 b (by simp [o3,mb]) (o4 b mb)⟩
     | int k i=>exact h1
     | bool b=>exact h1
     | str s=>exact h1
     | ifc s=>exact h1
     | any=>exact h1
     | _=>exact h1.elim
    | true=>
     refine ⟨[],by simp,fun m _ _ m3=>⟨rfl,?_⟩⟩
     cases x with
     | sl e q xs=>
      obtain ⟨hm,cs,L,o1,o2,o3,o4⟩:=h1
      obtain ⟨A,cap,L0,s1,s2,s3,s4,s5⟩:=Sl.row o1
      refine ⟨L0++L,⟨A,cap,cs,L0,L,s1,s2,s3,rfl,hm,s4,o2⟩,fun b mb hb=>?_⟩
      have:b∈F1:=by
       rw [o3]
       rcases A6.1 mb with m1 | m1
       ·exact A6.2 (.inl (s5.subset m1))
       ·exact A6.2 (.inr m1)
      have:=m3 b this hb
      simp at this
     | int k i=>exact ⟨[],h1.1,by simp⟩
     | bool b=>exact ⟨[],h1.1,by simp⟩
     | str s=>exact ⟨[],h1.1,by simp⟩
     | ifc s=>exact ⟨[],h1.1,by simp⟩
     | any=>exact ⟨[],h1.1,by simp⟩
     | _=>exact h1.elim
  obtain ⟨F1',s1,h1'⟩:=key
  refine ⟨F1'++F2',Ab s1 s2,fun m m1 m2 m3=>⟨v,vs,F1',F2',rfl,rfl,h1' m (fun b mb=>m1 b (by simp [mb])) m2 (fun b mb hb=>?_),h2' m (fun b mb=>m1 b (by simp [mb])) m2 (fun b mb hb=>?_)⟩⟩
  ·rcases A6.1 (m3 b (by simp [mb]) hb) with h | h
   ·exact h
   ·exact absurd rfl (hnd.2.2 b mb b (s2.subset h))
  ·rcases A6.1 (m3 b (by simp [mb]) hb) with h | h
   ·exact absurd rfl (hnd.2.2 b (s1.subset h) b mb)
   ·exact h
theorem ZyJ [NW] {B:Nat} {n:Nat→Prop} {x y:RT} {v:Value} {F:List Nat} (h:OP w B n x v F) (e1:x.1=y.1) (hw:wkC x.2 y.2) (hnd:F.Nodup):∃F',F'.Sublist F∧∀m:Nat→Prop,(∀b∈F',n b→m b)→(∀b,m b→n b)→(∀b∈F,m b→b∈F')→OP w B m y v F':=by
 rcases h with ⟨h1,vs,rfl,h2⟩ | ⟨h1,ct,h2,h3⟩
 ·obtain ⟨F',s,h⟩:=Zn4 h2 hw hnd
  exact ⟨F',s,fun m a b c=>.inl ⟨e1 ▸ h1,vs,rfl,h m a b c⟩⟩
 ·obtain ⟨F',s,h⟩:=Zn4 (r:=x.2) (vs:=[v]) (F:=F) (by rw [h2];exact ⟨v,[],F,[],rfl,by simp,h3,rfl,rfl⟩) hw hnd
  refine ⟨F',s,fun m p1 p2 p3=>.inr ⟨e1 ▸ h1,?_⟩⟩
  have h4:=h m p1 p2 p3
  generalize y.2=l at h4 hw
  cases l with
  | nil=>rw [h2] at hw;exact hw.elim
  | cons c l=>
   cases l with
   | nil=>
    obtain ⟨v',vs',F1,F2,q1,rfl,q3,q4⟩:=h4
    simp only[AS] at q1
    obtain ⟨rfl,rfl⟩:=q1
    obtain ⟨_,rfl⟩:=q4
    exact ⟨c,rfl,by simpa using q3⟩
   | cons _ _=>
    rw [h2] at hw
    have hw:wk1 _ _ False:=hw
    unfold wk1 at hw
    split at hw
    ·exact hw.elim
    ·exact hw.2.2.elim
theorem ZsM [NW] {B:Nat} {n:Nat→Prop}:∀{r res:List RT} {vs:List Value} {F:List Nat},OPs w B n r vs F→wkR r res→F.Nodup→∃F',F'.Sublist F∧∀m:Nat→Prop,(∀b∈F',n b→m b)→(∀b,m b→n b)→(∀b∈F,m b→b∈F')→OPs w B m res vs F'
 | [],[],vs,F,h,_,_=>⟨[],by simp,fun m _ _ _=>⟨h.1,rfl⟩⟩
 | [],_::_,_,_,_,h,_=>h.elim
 | _::_,[],_,_,_,h,_=>h.elim
 | x::r,y::res,_,_,⟨v,vs,F1,F2,rfl,rfl,h1,h2⟩,⟨e1,e2,hw⟩,hnd=>by
  rw [AK] at hnd
  obtain ⟨F2',s2,h2'⟩:=ZsM h2 hw hnd.2.1
  obtain ⟨F1',s1,h1'⟩:=ZyJ h1 e1 e2 hnd.1
  refine ⟨F1'++F2',Ab s1 s2,fun m m1 m2 m3=>⟨v,vs,F1',F2',rfl,rfl,h1' m (fun b mb=>m1 b (by simp [mb])) m2 (fun b mb hb=>?_),h2' m (fun b mb=>m1 b (by simp [mb])) m2 (fun b mb hb=>?_)⟩⟩
  ·rcases A6.1 (m3 b (by simp [mb]) hb) with h | h
   ·exact h
   ·exact absurd rfl (hnd.2.2 b mb b (s2.subset h))
  ·rcases A6.1 (m3 b (by simp [mb]) hb) with h | h
   ·exact absurd rfl (hnd.2.2 b (s1.subset h) b mb)
   ·exact h
def Zes (tmps:Array Value):ResultVar→Sem Value
 | .tmp t=>pure (tmps.getD t undef)
 | .cell b t=>do loadVar t (←asAddr (tmps.getD b undef))
theorem Zg4 (fn:Func) (tmps:Array Value):results fn tmps=(do let vs ←fn.results.mapM (Zes tmps);pure (if h:vs.size=1 then vs[0] else .tuple vs)):=by
 unfold results
 congr 1
theorem Zk7 [NW] (htt:∀t i,tt t=some i→TOk P t i) (hI:HI W g st.ob w) (hS:∀t,SVR g w (st.sl t) (a.tmps.getD t undef)) (hU:StU U st) (hK:∀k,K k→ZhR (st.ob k)=false∧∀e m xs d,st.ob k=.row e m xs d→d=2):∀{rs:List ResultVar} {res:List RT} {ks:List Nat},Zbb tt st rs=some (res,ks)→(∀k∈ks,K k∧∀b∈g.O k++g.D k,W.heap.size≤b)→
  ∃vs:List Value,(rs.mapM (Zes a.tmps)).run P w=.ok vs w∧OPs w W.heap.size (nK g K) res vs (g.F ks)
 | [],res,ks,h,_=>by
  simp only[Zbb,A4,A3] at h
  obtain ⟨rfl,rfl⟩:=h
  exact ⟨[],by simp,rfl,by simp [Gh.F]⟩
 | .tmp t::r,res,ks,h,hks=>by
  simp only[Zbb] at h
  split at h
  ·rename_i ag cs hsl
   obtain ⟨⟨c1,k1⟩,h1,h⟩:=AC.1 h
   obtain ⟨⟨c2,k2⟩,h2,h⟩:=AF.1 h
   simp only[A3] at h
   obtain ⟨rfl,rfl⟩:=h
   obtain ⟨vs,i1,i2⟩:=Zk7 htt hI hS hU hK h2 (fun k mk=>hks k (by simp [mk]))
   have hs:=hS t
   rw [hsl] at hs
   refine ⟨a.tmps.getD t undef::vs,?_,_,vs,g.F k1,g.F k2,rfl,by simp [Gh.F],ZpF hI hK h1 (fun k mk=>hks k (by simp [mk])) hs,i2⟩
   simp only[Ac,Zes,Sem.run_bind,Sem.run_pure,Result.andThen_ok,i1]
  ·simp at h
 | .cell t ty::r,res,ks,h,hks=>by
  simp only[Zbb] at h
  split at h
  ·rename_i ag cs hsl
   obtain ⟨⟨c1,k1⟩,h1,h⟩:=AC.1 h
   obtain ⟨⟨c2,k2⟩,h2,h⟩:=AF.1 h
   simp only[A3] at h
   obtain ⟨rfl,rfl⟩:=h
   obtain ⟨vs,i1,i2⟩:=Zk7 htt hI hS hU hK h2 (fun k mk=>hks k (by simp [mk]))
   obtain ⟨cv,l1,l2,_⟩:=Zq2 (P:=P) (U:=U) htt hI hU hsl (hS t)
   have hl:(do loadVar ty (←asAddr (a.tmps.getD t undef)):Sem Value).run P w=.ok cv w:=by
    have:∃b,a.tmps.getD t undef=.pointer (some b):=by
     have hs:=hS t
     cases hsl':st.sl t with
     | bp k off=>rw [hsl'] at hs;obtain ⟨b,_,hv⟩:=hs;exact ⟨_,hv⟩
     | rp k m i off=>rw [hsl'] at hs;obtain ⟨b,_,_,_,_,hv⟩:=hs;exact ⟨_,hv⟩
     | ep e off=>rw [hsl'] at hs;obtain ⟨b,_,_,_,hv,_⟩:=hs;exact ⟨_,hv⟩
     | p ag2 cs2=>
      rw [hsl'] at hs hsl
      cases ag2 with
      | true=>simp [Qa] at hsl
      | false=>
       cases cs2 with
       | nil=>simp [Qa] at hsl
       | cons y q=>
        cases q with
        | cons _ _=>cases y<;>first | (simp [Qa] at hsl;done) | (rename_i z;cases z<;>simp [Qa] at hsl)
        | nil=>cases y with
         | c z=>cases z with
          | pt e=>obtain ⟨b,_,_,hv,_⟩:=ZqT hs;exact ⟨_,hv⟩
          | _=>simp [Qa] at hsl
         | _=>simp [Qa] at hsl
     | _=>rw [hsl'] at hsl;simp [Qa] at hsl
    obtain ⟨b,hb⟩:=this
    rw [hb] at l1 ⊢
    simpa [Instr.loadAt,Instr.sureAddr,asAddr] using l1
   refine ⟨cv::vs,?_,_,vs,g.F k1,g.F k2,rfl,by simp [Gh.F],ZpF hI hK h1 (fun k mk=>hks k (by simp [mk])) l2,i2⟩
   have hl':(Zes a.tmps (.cell t ty)).run P w=.ok cv w:=hl
   simp only[Ac,Sem.run_bind,hl',i1,Sem.run_pure,Result.andThen_ok]
  ·simp at h
theorem ZqF:∀{xs:List AV} {cts:List (Bool × CT)} {ks:List Nat},Zcb st xs=some (cts,ks)→∀k∈ks,∃e m xs,st.ob k=.row e m xs 2
 | [],_,_,h,k,mk=>by
  simp only[Zcb,A4,A3] at h
  rw [←h.2] at mk;simp at mk
 | x::r,cts,ks,h,k,mk=>by
  simp only[Zcb] at h
  obtain ⟨⟨c1,k1⟩,h1,h⟩:=AC.1 h
  obtain ⟨⟨c2,k2⟩,h2,h⟩:=AF.1 h
  simp only[A3] at h
  obtain ⟨rfl,rfl⟩:=h
  rcases A6.1 mk with mk | mk
  ·cases x with
   | c y=>cases y<;>simp only[ZdV,A4,A3] at h1<;>(rw [←h1.2] at mk;simp at mk)
   | row j=>
    simp only[ZdV] at h1
    split at h1
    ·rename_i e m xs d hk
     split at h1
     ·rename_i hd
      simp only[A4,A3] at h1
      rw [←h1.2] at mk
      simp at mk
      subst mk
      exact ⟨e,m,xs,by rw [hk,hd]⟩
     ·simp only[A4,A3] at h1
      rw [←h1.2] at mk;simp at mk
    ·simp only[A4,A3] at h1
     rw [←h1.2] at mk;simp at mk
    ·simp at h1
   | nil e m=>
    simp only[ZdV] at h1
    split at h1
    ·simp only[A4,A3] at h1
     rw [←h1.2] at mk;simp at mk
    ·simp at h1
   | n y=>
    simp only[ZdV,A4,A3] at h1
    rw [←h1.2] at mk;simp at mk
   | dead=>
    simp only[ZdV,A4,A3] at h1
    rw [←h1.2] at mk;simp at mk
  ·exact ZqF h2 k mk
theorem ZhP [NW]:∀{rs:List ResultVar} {res:List RT} {ks:List Nat},Zbb tt st rs=some (res,ks)→∀k∈ks,∃e m xs,st.ob k=.row e m xs 2
 | [],_,_,h,k,mk=>by
  simp only[Zbb,A4,A3] at h
  rw [←h.2] at mk;simp at mk
 | .tmp t::r,res,ks,h,k,mk=>by
  simp only[Zbb] at h
  split at h
  ·obtain ⟨⟨c1,k1⟩,h1,h⟩:=AC.1 h
   obtain ⟨⟨c2,k2⟩,h2,h⟩:=AF.1 h
   simp only[A3] at h
   obtain ⟨rfl,rfl⟩:=h
   rcases A6.1 mk with mk | mk
   ·exact ZqF h1 k mk
   ·exact ZhP h2 k mk
  ·simp at h
 | .cell t ty::r,res,ks,h,k,mk=>by
  simp only[Zbb] at h
  split at h
  ·obtain ⟨⟨c1,k1⟩,h1,h⟩:=AC.1 h
   obtain ⟨⟨c2,k2⟩,h2,h⟩:=AF.1 h
   simp only[A3] at h
   obtain ⟨rfl,rfl⟩:=h
   rcases A6.1 mk with mk | mk
   ·exact ZqF h1 k mk
   ·exact ZhP h2 k mk
  ·simp at h
theorem Zrv [NW] {x:CT} {v:Value} {L:List Nat} (h:RC w x v L) (hL:∀b∈L,¬g.own b):AVR g w (Zhh x) v:=by
 cases x with
 | nl e m=>exact h.1
 | _=>exact ⟨L,h,hL⟩
theorem ZoT [NW]:∀{e:List CT} {cs:List Value} {L:List Nat},RCs w e cs L→(∀b∈L,¬g.own b)→ZH (AVR g w) (e.map Zhh) cs
 | [],_,_,⟨h1,h2⟩,_=>by subst h1;trivial
 | x::r,_,_,⟨v,cs,L1,L2,h1,h2,h3,h4⟩,hL=>by
  subst h1 h2
  exact ⟨Zrv h3 fun b m=>hL b (by simp [m]),ZoT h4 fun b m=>hL b (by simp [m])⟩
theorem Zlc [NW] {z:Nat→Prop} {x:Bool × List CT} {v:Value} (hg:∀b,g.own b→z b) (h:Zjv w z x v):SVR g w (.p x.1 (x.2.map Zhh)) v:=by
 rcases h with ⟨h1,vs,L,rfl,h2,h4⟩ | ⟨h1,ct,L,h2,h3,h4⟩
 ·rw [h1];exact ⟨vs,rfl,ZoT h2 fun b mb hb=>h4 b mb (hg b hb)⟩
 ·rw [h1,h2];exact ⟨_,rfl,Zrv h3 fun b mb hb=>h4 b mb (hg b hb)⟩
theorem ZjT (e:List CT):X6 U (e.map Zhh):=fun y m=>by
 obtain ⟨x,_,rfl⟩:=AD.1 m
 cases x<;>trivial
theorem Zp0 [NW] (htt:∀t i,tt t=some i→TOk P t i) {fn:Func} {res:List RT} (hI:Inv W U st a w) (hH:HI W g st.ob w) (hS:∀t,SVR g w (st.sl t) (a.tmps.getD t undef)) {r:List RT} {ks:List Nat} (hx:Zbb tt st fn.results.toList=some (r,ks)) (hnd:ks.Nodup) (hw:wkR r res)
  (hB:∀k∈ks,∀b∈g.O k++g.D k,W.heap.size≤b) (K0:Nat→Prop) (hK0:∀k,K0 k→ZhR (st.ob k)=false∧∀e m xs d,st.ob k=.row e m xs d→d=2):
  ∃v m,(results fn a.tmps).run P w=.ok v w∧Ziy w W.heap.size m res v∧(∀b,m b→g.own b)∧(∀b,m b→g.Z b∨(∃k,(k∈ks∨K0 k)∧b∈g.O k))∧∀b,b∉g.F ks→(g.Z b∨∃k,K0 k∧b∈g.O k)→m b:=by
 obtain ⟨us,r1,r2⟩:=Zk7 (K:=fun k=>k∈ks∨K0 k) htt hH hS hI.wf (fun k hk=>by
  rcases hk with hk | hk
  ·obtain ⟨e',m',xs',h'⟩:=ZhP hx k hk
   refine ⟨by rw [h'];rfl,fun e m xs d he=>?_⟩
   rw [he] at h'
   simp only[Ob.row.injEq] at h'
   exact h'.2.2.2
  ·exact hK0 k hk) hx (fun k mk=>⟨.inl mk,hB k mk⟩)
 have hndF:=hH.nodupF hnd
 obtain ⟨F',s,hF⟩:=ZsM r2 hw hndF
 have hge:∀b∈g.F ks,W.heap.size≤b:=fun b mb=>by
  obtain ⟨k,hk,mk⟩:=Zie mb
  exact hB k hk b mk
 refine ⟨(if h:us.toArray.size=1 then us.toArray[0] else .tuple us.toArray),fun b=>nK g (fun k=>k∈ks∨K0 k) b∧(b∈g.F ks→b∈F'),?_,⟨us,F',hF _ (fun b mb hb=>⟨hb,fun _=>mb⟩) (fun b hb=>hb.1) (fun b mb hb=>hb.2 mb),⟨hndF.sublist s,fun b mb=>hge b (s.subset mb),fun b mb=>?_⟩,rfl⟩,fun b hb=>?_,fun b hb=>hb.1,fun b hb hn=>⟨?_,fun mb=>absurd mb hb⟩⟩
 ·rw [Zg4]
  have e:fn.results.mapM (Zes a.tmps)=AT <$> fn.results.toList.mapM (Zes a.tmps):=by
   rw [←List.mapM_toArray]
  have e2:(AT <$> fn.results.toList.mapM (Zes a.tmps)).run P w=.ok us.toArray w:=by
   rw [map_eq_pure_bind]
   simp only[Sem.run_bind,r1,Result.andThen_ok,Sem.run_pure]
  rw [e]
  simp only[Sem.run_bind,e2,Result.andThen_ok,Sem.run_pure]
 ·obtain ⟨k,hk,mk⟩:=Zie (s.subset mb)
  obtain ⟨e',m',xs',h'⟩:=ZhP hx k hk
  have:=(hH.plain k b mk).2
  rw [h'] at this
  exact this
 ·rcases hb.1 with hz | ⟨k,_,mk⟩
  ·exact .inr hz
  ·exact .inl ⟨k,mk⟩
 ·rcases hn with hz | ⟨k,hk,mk⟩
  ·exact .inl hz
  ·exact .inr ⟨k,.inr hk,mk⟩
theorem ZpK [NW] {g':Gh} (hv:∀k e m xs,st.ob k=.row e m xs 2→g'.val k=g.val k∧U k) {x:AV} {v:Value} (h:AVR g w x v):AVR g' w (Zid st x) v∧avU U (Zid st x):=by
 have one:=h.one
 unfold Zid
 split
 ·obtain ⟨L,⟨h1,_⟩,_⟩:=h
  exact ⟨⟨[],⟨h1,rfl⟩,by simp⟩,trivial⟩
 ·obtain ⟨L,⟨h1,_⟩,_⟩:=h
  exact ⟨⟨[],⟨h1,rfl⟩,by simp⟩,trivial⟩
 ·obtain ⟨L,⟨h1,_,h3⟩,_⟩:=h
  exact ⟨⟨[],⟨h1,rfl,h3⟩,by simp⟩,trivial⟩
 ·rename_i k
  cases hk:st.ob k with
  | row e m xs d=>
   simp only[Zrh]
   split
   ·rename_i hd
    subst hd
    obtain ⟨e1,e2⟩:=hv k e m xs hk
    exact ⟨⟨h.1.trans e1.symm,one⟩,e2⟩
   ·exact ⟨one,trivial⟩
  | gone=>exact ⟨one,trivial⟩
  | box _ _=>exact ⟨one,trivial⟩
  | map _ _ _=>exact ⟨one,trivial⟩
 ·exact ⟨one,trivial⟩
theorem ZiE [NW] {g':Gh} (hv:∀k e m xs,st.ob k=.row e m xs 2→g'.val k=g.val k∧U k):∀{cs:List AV} {vs:List Value},ZH (AVR g w) cs vs→ZH (AVR g' w) (cs.map (Zid st)) vs
 | [],[],_=>trivial
 | _::_,_::_,h=>⟨(ZpK hv h.1).1,ZiE hv h.2⟩
 | [],_::_,h=>h.elim
 | _::_,[],h=>h.elim
theorem Zt5 [NW] {x:SV} {v:Value} {g':Gh} (hv:∀k e m xs,st.ob k=.row e m xs 2→g'.val k=g.val k∧U k) (hu:svU U x) (hvu:∀k,U k→g'.val k=g.val k) (h:SVR g w x v):SVR g' w (Zmy st x) v:=by
 cases x with
 | p ag cs=>
  cases ag with
  | true=>obtain ⟨vs,e,h⟩:=h;exact ⟨vs,e,ZiE hv h⟩
  | false=>obtain ⟨y,rfl,h⟩:=h;exact ⟨_,rfl,(ZpK hv h).1⟩
 | bp k off=>obtain ⟨b,h1,h2⟩:=h;exact ⟨b,(hvu k hu).trans h1,h2⟩
 | _=>trivial
theorem ZqW (hv:∀k e m xs,st.ob k=.row e m xs 2→U k) (x:AV):avU U (Zid st x):=by
 unfold Zid
 split
 ·trivial
 ·trivial
 ·trivial
 ·rename_i k
  cases hk:st.ob k with
  | row e m xs d=>
   simp only[Zrh]
   split
   ·rename_i hd
    subst hd
    exact hv k e m xs hk
   ·trivial
  | gone=>trivial
  | box _ _=>trivial
  | map _ _ _=>trivial
 ·trivial
theorem Zvg (hv:∀k e m xs,st.ob k=.row e m xs 2→U k) (x:SV) (hu:svU U x):svU U (Zmy st x):=by
 cases x with
 | p ag cs=>
  intro y my
  obtain ⟨x,mx,rfl⟩:=AD.1 my
  exact ZqW hv x
 | bp k off=>exact hu
 | _=>trivial
theorem ZkY {o:Ob} (h:QW st o≠.gone):(∃e m xs,o=.row e m xs 2)∨∃t cs,o=.box t cs:=by
 cases o with
 | row e m xs d=>
  simp only[QW] at h
  split at h
  ·rename_i hd
   subst hd
   exact .inl ⟨e,m,xs,rfl⟩
  ·exact absurd rfl h
 | gone=>exact absurd rfl h
 | box t cs=>exact .inr ⟨t,cs,rfl⟩
 | map _ _ _=>exact absurd rfl h
theorem ZtS [NW] (hB:W.heap.size≤NW.B0) (t:Nat) (hI:Inv W U st a w) (hkn:∀k,st.n≤k→¬U k):∃U',Inv W U' (st.thaw t) a w:=by
 obtain ⟨⟨g,hH,hS⟩,hU,hdef,hh⟩:=hI
 unfold St.thaw
 cases hv:st.sl t with
 | p ag cs=>
  by_cases hc:∃e m xs,ag=false∧cs=[.n (.sl e m xs)]
  ·obtain ⟨e,m,xs,rfl,rfl⟩:=hc
   have hs:=hS t
   rw [hv] at hs
   obtain ⟨_,_,_,cs,L,h1,h2,h3,h4,h5,h6⟩:=ZBN hs
   simp only[CT.sl.injEq] at h1
   obtain ⟨rfl,rfl,rfl⟩:=h1
   let v:=a.tmps.getD t undef
   have hn:st.ob st.n=.gone:=hU.gone _ (hkn _ (A8 _))
   have hrow:∀k e m xs,st.ob k=.row e m xs 2→k≠st.n∧U k:=fun k e m xs hk=>⟨fun e=>by rw [e,hn] at hk;simp at hk,Classical.byContradiction fun h=>by rw [hU.gone k h] at hk;simp at hk⟩
   let g':Gh:=⟨fun k=>if k=st.n then v else g.val k,fun k=>if k=st.n then v.ownBlock.toList else (match QW st (st.ob k) with | .gone=>[] | _=>g.O k),fun k=>if k=st.n then L else (match QW st (st.ob k) with | .gone=>[] | _=>g.D k),g.Z⟩
   have gn:g'.val st.n=v∧g'.O st.n=v.ownBlock.toList∧g'.D st.n=L:=⟨if_pos rfl,if_pos rfl,if_pos rfl⟩
   have gk:∀k,k≠st.n→QW st (st.ob k)≠.gone→g'.O k=g.O k∧g'.D k=g.D k:=fun k hk ho=>by
    rcases ZkY ho with ⟨e',m',xs',e1⟩ | ⟨t',cs',e1⟩
    ·simp [g',if_neg hk,e1,QW]
    ·simp [g',if_neg hk,e1,QW]
   have gg:∀k,k≠st.n→QW st (st.ob k)=.gone→g'.O k=[]∧g'.D k=[]:=fun k hk ho=>by
    simp only[g',if_neg hk,ho]
    exact ⟨trivial,trivial⟩
   have hOD:∀k b,b∈g'.O k++g'.D k→(k=st.n∧b∈v.ownBlock.toList++L)∨(k≠st.n∧QW st (st.ob k)≠.gone∧b∈g.O k++g.D k):=fun k b mb=>by
    by_cases hk:k=st.n
    ·subst hk;rw [gn.2.1,gn.2.2] at mb;exact .inl ⟨rfl,mb⟩
    ·by_cases ho:QW st (st.ob k)=.gone
     ·rw [(gg k hk ho).1,(gg k hk ho).2] at mb;simp at mb
     ·rw [(gk k hk ho).1,(gk k hk ho).2] at mb;exact .inr ⟨hk,ho,mb⟩
   have hlow:∀k b,b∈g.O k++g.D k→g.low b:=fun k b mb=>by
    rcases A6.1 mb with m1 | m1
    ·exact .inl (.inl ⟨k,m1⟩)
    ·exact .inr ⟨k,m1⟩
   refine ⟨fun k=>U k∨k=st.n,⟨g',⟨hH.below,fun k=>?_,fun k=>?_,fun k j hkj b mb mj=>?_,fun k b mb=>?_,hH.gz,hH.zx,hH.nw⟩,fun s=>?_⟩,⟨fun s=>?_,fun k=>?_,fun k hk=>?_⟩,hdef,hh⟩
   ·show ObR g' w k (if k=st.n then .row e m xs 2 else QW st (st.ob k))
    by_cases hk:k=st.n
    ·subst hk
     rw [if_pos rfl]
     exact ⟨h2,cs,L,by rw [gn.1];exact h3,h4,.inl ⟨rfl,by rw [gn.2.1,gn.1],gn.2.2⟩⟩
    ·rw [if_neg hk]
     by_cases ho:QW st (st.ob k)=.gone
     ·rw [ho];exact gg k hk ho
     ·have hob:=hH.obs k
      have ev:g'.val k=g.val k:=if_neg hk
      obtain ⟨eO,eD⟩:=gk k hk ho
      rcases ZkY ho with ⟨e',m',xs',e1⟩ | ⟨t',cs',e1⟩
      ·rw [e1] at hob ⊢
       obtain ⟨p1,cs',L',p2,p3,p4⟩:=hob
       rw [show QW st (.row e' m' xs' 2)=.row e' m' xs' 2 from by simp [QW]]
       refine ⟨p1,cs',L',by rw [ev];exact p2,p3,?_⟩
       rw [ev,eO,eD]
       rcases p4 with p4 | ⟨q,_⟩ | ⟨q,_⟩
       ·exact .inl p4
       ·omega
       ·omega
      ·rw [e1] at hob ⊢
       obtain ⟨b,vs,p1,p2,p3,p4,p5⟩:=hob
       exact ⟨b,vs,ev.trans p1,eO.trans p2,eD.trans p3,p4,ZiE (U:=U) (fun k e m xs hk=>⟨if_neg (hrow k e m xs hk).1,(hrow k e m xs hk).2⟩) p5⟩
   ·by_cases hk:k=st.n
    ·subst hk;rw [gn.2.1,gn.2.2];exact h5
    ·by_cases ho:QW st (st.ob k)=.gone
     ·rw [(gg k hk ho).1,(gg k hk ho).2];simp
     ·rw [(gk k hk ho).1,(gk k hk ho).2];exact hH.nodup k
   ·rcases hOD k b mb with ⟨rfl,m1⟩ | ⟨k1,k2,m1⟩
    ·rcases hOD j b mj with ⟨rfl,m2⟩ | ⟨j1,j2,m2⟩
     ·exact hkj rfl
     ·exact (h6 b m1).1 (hlow j b m2)
    ·rcases hOD j b mj with ⟨rfl,m2⟩ | ⟨j1,j2,m2⟩
     ·exact (h6 b m2).1 (hlow k b m1)
     ·exact hH.apart k j hkj b m1 m2
   ·show _∧Xk w (if k=st.n then .row e m xs 2 else QW st (st.ob k)) b
    rcases hOD k b mb with ⟨rfl,m1⟩ | ⟨k1,k2,m1⟩
    ·rw [if_pos rfl]
     exact ⟨.inl (Nat.le_trans hB (h6 b m1).2.1),(h6 b m1).2.2⟩
    ·obtain ⟨q1,q2⟩:=hH.plain k b m1
     rw [if_neg k1]
     refine ⟨q1,q2.of ?_⟩
     rcases ZkY k2 with ⟨e',m',xs',e1⟩ | ⟨t',cs',e1⟩
     ·rw [e1];rfl
     ·rw [e1];rfl
   ·show SVR g' w (if s=t then .p false [.row st.n] else Zmy st (st.sl s)) _
    by_cases hs':s=t
    ·subst hs'
     rw [if_pos rfl]
     obtain ⟨A,cap,hval⟩:=Q8 h3
     exact ⟨_,rfl,gn.1.symm,by rw [hval];rfl⟩
    ·rw [if_neg hs']
     exact Zt5 (U:=U) (fun k e m xs hk=>⟨if_neg (hrow k e m xs hk).1,(hrow k e m xs hk).2⟩) (hU.sl s) (fun k hk=>if_neg fun e=>hkn k (by omega) hk) (hS s)
   ·show svU _ (if s=t then .p false [.row st.n] else Zmy st (st.sl s))
    by_cases hs':s=t
    ·rw [if_pos hs'];intro y my;simp at my;subst my;exact .inr rfl
    ·rw [if_neg hs'];exact Zvg (fun k e m xs hk=>.inl (hrow k e m xs hk).2) _ ((hU.sl s).mono fun _=>.inl)
   ·show obU _ (if k=st.n then .row e m xs 2 else QW st (st.ob k))
    split
    ·trivial
    ·cases hk:st.ob k with
     | row e' m' xs' d'=>simp only[QW];split<;>trivial
     | box t' cs'=>
      intro y my
      obtain ⟨x,mx,rfl⟩:=AD.1 my
      exact ZqW (fun k e m xs hk=>.inl (hrow k e m xs hk).2) x
     | _=>trivial
   ·show (if k=st.n then .row e m xs 2 else QW st (st.ob k))=.gone
    rw [if_neg fun e=>hk (.inr e),hU.gone k fun h=>hk (.inl h)]
    rfl
  ·have e:Zop st t (.p ag cs)=st:=by
    unfold Zop
    split
    ·rename_i h
     simp only[SV.p.injEq] at h
     exact absurd ⟨_,_,_,h.1,h.2⟩ hc
    ·rfl
   rw [e]
   exact ⟨U,⟨g,hH,hS⟩,hU,hdef,hh⟩
 | _=>exact ⟨U,⟨g,hH,hS⟩,hU,hdef,hh⟩
end
abbrev nw0:NW:=⟨0⟩
section
variable {P:Program} {J:World→Prop} {JF:Nat→Prop} {W:QK} {U:Nat→Prop} {st:St} {w w':World} {a:Act} {tt:Nat→Option TI} {od:OD} {g:Gh}
structure JOk (J:World→Prop) (JF:Nat→Prop):Prop where
 below:∀(x:Nat→Prop) (w w':World),J w→(∀b,x b→JF b)→w'.os=w.os→w'.tape=w.tape→w'.output=w.output→w.heap.size≤w'.heap.size→(∀k,k<w.heap.size→¬x k→w'.heap[k]?=w.heap[k]?)→J w'
 new:∀(w:World) b,J w→w.heap.size≤b→JF b
theorem Zea {args:List (Bool × List CT)} {vs:List Value} {N t o:Nat} (h:vs.length≤N) (v:Value) (hv:vs[t]?=some v):(vs.toArray++AA (N - vs.toArray.size) undef).getD t undef=v:=by
 have hl:t<vs.length:=(A7.1 hv).1
 simp only[AL,Ad,Ae,hl,if_true,List.getElem?_toArray,hv,AZ]
theorem Zh0 {vs:List Value} {N t:Nat} (ht:vs.length≤t):(vs.toArray++AA (N - vs.toArray.size) undef).getD t undef=undef:=by
 simp only[AL,Ad,Ae,show ¬t<vs.length by omega,if_false,Array.getElem?_replicate]
 split<;>rfl
theorem Zt7 (htt : ∀ t i, tt t = some i → TOk P t i) (hJ : JOk J JF) (hmix : P.follows .mixedOrders = true) {hds : FuncId → Nat} {f : FuncId} {fn : Func} {c : Code} {args : List (Bool × List CT)} {res : List RT} (hf : P.funcs[f]? = some fn) (hname : (fn.name == "runtime.NumGoroutine") = false) (hb : fn.body = some c)
  (hok:Y4 od tt hds false fn.ntmps c=true) (hlen:Nat.ble args.length fn.ntmps=true) (h:fnS od tt (SC P J JF hds) fn.results.toList c args res):Zl P J f args res:=by
 letI:NW:=nw0
 refine ⟨⟨fn,hf,hname,by rw [hb];rfl⟩,fun w z vs hj hz hargs=>?_⟩
 have hlen':args.length≤fn.ntmps:=A9 hlen
 have hvl:=hargs.len
 refine calls_of_wp hf hb ?_
 let W:QK:={ w with z:=z,x:=fun _=>False,hv:=none }
 let g0:Gh:=⟨fun _=>undef,fun _=>[],fun _=>[],z⟩
 have hg0:∀b,g0.own b→z b:=fun b hb=>by
  rcases hb with ⟨k,m⟩ | h
  ·simp [g0] at m
  ·exact h
 have hI0:Inv W (fun _=>False) (Zm args) { tmps:=vs.toArray++AA (fn.ntmps - vs.toArray.size) undef,defers:=[] } w:=by
  refine ⟨⟨g0,⟨⟨rfl,rfl,rfl,A8 _,fun _ _ _=>rfl⟩,fun k=>⟨rfl,rfl⟩,fun k=>by simp [g0],fun k j _ b m=>by simp [g0] at m,fun k b m=>by simp [g0] at m,rfl,fun b hb=>⟨hz b hb,fun h=>h⟩,fun _ _=>AR _⟩,fun t=>?_⟩,⟨fun t=>?_,fun k=>trivial,fun k _=>rfl⟩,rfl,fun v hv=>by simp [W] at hv⟩
  ·show SVR g0 w (match args[t]? with | some x=>.p x.1 (x.2.map Zhh) | none=>.und) _
   cases ht:args[t]? with
   | none=>exact Zh0 (by have:args.length≤t:=(by simpa using ht);omega)
   | some x=>
    obtain ⟨v,hv,hr⟩:=hargs.at ht
    show SVR g0 w (.p x.1 (x.2.map Zhh)) ((vs.toArray++AA (fn.ntmps - vs.toArray.size) undef).getD t undef)
    rw [Zea (args:=args) (o:=0) (by omega) v hv]
    exact Zlc hg0 hr
  ·show svU _ (match args[t]? with | some x=>.p x.1 (x.2.map Zhh) | none=>.und)
   split
   ·exact ZjT _
   ·trivial
 have hM:MOk P J JF W tt:=⟨htt,fun w' hb=>hJ.below (fun _=>False) w w' hj (fun _ h=>h.elim) hb.os hb.tape hb.output hb.size (fun k hk hx=>hb.block k hk hx),fun b hb=>hJ.new w b hj hb,fun b h=>h.elim⟩
 refine X8 (W:=W) hM hmix (.inl rfl) c hok (ZoL tt fn.results.toList fun _ r _=>wkR r res) _ ?_ _ (Zm args) _ w hI0 (fun _ _ h=>h) (by simp;omega) h
 intro ex U' st' a' w' hI' _ _ hK
 have fin:(match Zbb tt st' fn.results.toList with | some x=>x.2.Nodup∧wkR x.1 res | none=>False)→a'.defers=[]∧∃v,(results fn a'.tmps).run P w'=.ok v w'∧∃u n,Ending.returned v=.returned u∧Ziy w' w.heap.size n res u∧(∀b,z b→n b)∧Below w.heap.size w w':=fun hK=>by
  split at hK
  ·rename_i x hx
   obtain ⟨r,ks⟩:=x
   obtain ⟨hnd,hw⟩:=hK
   obtain ⟨g,hH,hS⟩:=hI'.ex
   have hBg:∀k∈ks,∀b∈g.O k++g.D k,W.heap.size≤b:=fun k _ b mb=>(hH.plain k b mb).1.resolve_right fun h=>h
   obtain ⟨v,m,e1,e2,_,_,e4⟩:=Zp0 htt hI' hH hS hx hnd hw hBg (fun _=>False) (fun _ h=>h.elim)
   have hbel:=hH.below
   exact ⟨hI'.defers,v,e1,v,m,rfl,e2,fun b hb=>e4 b (fun mb=>by obtain ⟨k,hk,mk⟩:=Zie mb;have:=hBg k hk b mk;have:=hz b hb;have e:W.heap.size=w.heap.size:=rfl;omega) (.inl (by rw [hH.gz];exact hb)),hbel.os,hbel.tape,hbel.output,hbel.size,fun k hk=>hbel.block k hk fun h=>h⟩
  ·exact hK.elim
 cases ex with
 | normal=>exact fin hK
 | exit id=>exact hK.elim
 | ret=>exact fin hK
theorem ZrX (htt : ∀ t i, tt t = some i → TOk P t i) (hJ : JOk J JF) (hmix : P.follows .mixedOrders = true) {hds : FuncId → Nat} {f : FuncId} {fn : Func} {c : Code} {args : List (Bool × List CT)} {res : List RT} (hf : P.funcs[f]? = some fn) (hname : (fn.name == "runtime.NumGoroutine") = false) (hb : fn.body = some c)
  (hok:Y4 od tt hds false fn.ntmps c=true) (hlen:Nat.ble args.length fn.ntmps=true) (t0:Nat) (h:fnN od tt (SC P J JF hds) fn.results.toList t0 c args res):Zl P J f args res:=by
 refine ⟨⟨fn,hf,hname,by rw [hb];rfl⟩,fun w z vs hj hz hargs=>?_⟩
 letI:NW:=⟨w.heap.size⟩
 have hlen':args.length≤fn.ntmps:=A9 hlen
 have hvl:=hargs.len
 refine calls_of_wp hf hb ?_
 let W:QK:={ w with z:=z,x:=fun _=>False,hv:=none }
 let g0:Gh:=⟨fun _=>undef,fun _=>[],fun _=>[],z⟩
 have hg0:∀b,g0.own b→z b:=fun b hb=>by
  rcases hb with ⟨k,m⟩ | h
  ·simp [g0] at m
  ·exact h
 have hI0:Inv W (fun _=>False) (Zm args) { tmps:=vs.toArray++AA (fn.ntmps - vs.toArray.size) undef,defers:=[] } w:=by
  refine ⟨⟨g0,⟨⟨rfl,rfl,rfl,A8 _,fun _ _ _=>rfl⟩,fun k=>⟨rfl,rfl⟩,fun k=>by simp [g0],fun k j _ b m=>by simp [g0] at m,fun k b m=>by simp [g0] at m,rfl,fun b hb=>⟨hz b hb,fun h=>h⟩,fun b hb=>hb.elim (fun h=>h) fun h=>h.elim⟩,fun t=>?_⟩,⟨fun t=>?_,fun k=>trivial,fun k _=>rfl⟩,rfl,fun v hv=>by simp [W] at hv⟩
  ·show SVR g0 w (match args[t]? with | some x=>.p x.1 (x.2.map Zhh) | none=>.und) _
   cases ht:args[t]? with
   | none=>exact Zh0 (by have:args.length≤t:=(by simpa using ht);omega)
   | some x=>
    obtain ⟨v,hv,hr⟩:=hargs.at ht
    show SVR g0 w (.p x.1 (x.2.map Zhh)) ((vs.toArray++AA (fn.ntmps - vs.toArray.size) undef).getD t undef)
    rw [Zea (args:=args) (o:=0) (by omega) v hv]
    exact Zlc hg0 hr
  ·show svU _ (match args[t]? with | some x=>.p x.1 (x.2.map Zhh) | none=>.und)
   split
   ·exact ZjT _
   ·trivial
 have hM:MOk P J JF W tt:=⟨htt,fun w' hb=>hJ.below (fun _=>False) w w' hj (fun _ h=>h.elim) hb.os hb.tape hb.output hb.size (fun k hk hx=>hb.block k hk hx),fun b hb=>hJ.new w b hj hb,fun b h=>h.elim⟩
 refine X8 (W:=W) hM hmix (.inl rfl) c hok (Zu5 t0 (ZoL tt fn.results.toList fun _ r _=>wkR r res)) _ ?_ _ (Zm args) _ w hI0 (fun _ _ h=>h) (by simp;omega) h
 intro ex U1 st1 a' w' hI1 hn1 _ hK
 obtain ⟨U',hI'⟩:=ZtS (A8 _) t0 hI1 hn1
 generalize hst:st1.thaw t0=st' at hI'
 simp only[Zu5,hst] at hK
 have fin:(match Zbb tt st' fn.results.toList with | some x=>x.2.Nodup∧wkR x.1 res | none=>False)→a'.defers=[]∧∃v,(results fn a'.tmps).run P w'=.ok v w'∧∃u n,Ending.returned v=.returned u∧Ziy w' w.heap.size n res u∧(∀b,z b→n b)∧Below w.heap.size w w':=fun hK=>by
  split at hK
  ·rename_i x hx
   obtain ⟨r,ks⟩:=x
   obtain ⟨hnd,hw⟩:=hK
   obtain ⟨g,hH,hS⟩:=hI'.ex
   have hBg:∀k∈ks,∀b∈g.O k++g.D k,W.heap.size≤b:=fun k _ b mb=>(hH.plain k b mb).1.resolve_right fun h=>h
   obtain ⟨v,m,e1,e2,_,_,e4⟩:=Zp0 htt hI' hH hS hx hnd hw hBg (fun _=>False) (fun _ h=>h.elim)
   have hbel:=hH.below
   exact ⟨hI'.defers,v,e1,v,m,rfl,e2,fun b hb=>e4 b (fun mb=>by obtain ⟨k,hk,mk⟩:=Zie mb;have:=hBg k hk b mk;have:=hz b hb;have e:W.heap.size=w.heap.size:=rfl;omega) (.inl (by rw [hH.gz];exact hb)),hbel.os,hbel.tape,hbel.output,hbel.size,fun k hk=>hbel.block k hk fun h=>h⟩
  ·exact hK.elim
 cases ex with
 | normal=>exact fin hK
 | exit id=>exact hK.elim
 | ret=>exact fin hK
theorem ZsF (htt : ∀ t i, tt t = some i → TOk P t i) (hJ : JOk J JF) (hmix : P.follows .mixedOrders = true) {hds : FuncId → Nat} {f : FuncId} {fn : Func} {c : Code} {args : List (Bool × List CT)} {nb : NB} (hf : P.funcs[f]? = some fn) (hname : (fn.name == "runtime.NumGoroutine") = false) (hb : fn.body = some c)
  (hok:Y4 od tt hds false fn.ntmps c=true) (hlen:Nat.ble args.length fn.ntmps=true) (h:fnB od tt (SC P J JF hds) fn.results.toList c args nb):Zj3 P J f args nb:=by
 letI:NW:=nw0
 refine ⟨⟨fn,hf,hname,by rw [hb];rfl⟩,fun w z vs hj hz hargs=>?_⟩
 have hlen':args.length≤fn.ntmps:=A9 hlen
 have hvl:=hargs.len
 refine calls_of_wp hf hb ?_
 let W:QK:={ w with z:=z,x:=fun _=>False,hv:=none }
 let g0:Gh:=⟨fun _=>undef,fun _=>[],fun _=>[],z⟩
 have hg0:∀b,g0.own b→z b:=fun b hb=>by
  rcases hb with ⟨k,m⟩ | h
  ·simp [g0] at m
  ·exact h
 have hI0:Inv W (fun _=>False) (Zm args) { tmps:=vs.toArray++AA (fn.ntmps - vs.toArray.size) undef,defers:=[] } w:=by
  refine ⟨⟨g0,⟨⟨rfl,rfl,rfl,A8 _,fun _ _ _=>rfl⟩,fun k=>⟨rfl,rfl⟩,fun k=>by simp [g0],fun k j _ b m=>by simp [g0] at m,fun k b m=>by simp [g0] at m,rfl,fun b hb=>⟨hz b hb,fun h=>h⟩,fun _ _=>AR _⟩,fun t=>?_⟩,⟨fun t=>?_,fun k=>trivial,fun k _=>rfl⟩,rfl,fun v hv=>by simp [W] at hv⟩
  ·show SVR g0 w (match args[t]? with | some x=>.p x.1 (x.2.map Zhh) | none=>.und) _
   cases ht:args[t]? with
   | none=>exact Zh0 (by have:args.length≤t:=(by simpa using ht);omega)
   | some x=>
    obtain ⟨v,hv,hr⟩:=hargs.at ht
    show SVR g0 w (.p x.1 (x.2.map Zhh)) ((vs.toArray++AA (fn.ntmps - vs.toArray.size) undef).getD t undef)
    rw [Zea (args:=args) (o:=0) (by omega) v hv]
    exact Zlc hg0 hr
  ·show svU _ (match args[t]? with | some x=>.p x.1 (x.2.map Zhh) | none=>.und)
   split
   ·exact ZjT _
   ·trivial
 have hM:MOk P J JF W tt:=⟨htt,fun w' hb=>hJ.below (fun _=>False) w w' hj (fun _ h=>h.elim) hb.os hb.tape hb.output hb.size (fun k hk hx=>hb.block k hk hx),fun b hb=>hJ.new w b hj hb,fun b h=>h.elim⟩
 refine X8 (W:=W) hM hmix (.inl rfl) c hok (ZuB fn.results.toList nb) _ ?_ _ (Zm args) _ w hI0 (fun _ _ h=>h) (by simp;omega) h
 intro ex U' st' a' w' hI' _ _ hK
 have fin:ZeR st' fn.results.toList nb→a'.defers=[]∧∃v,(results fn a'.tmps).run P w'=.ok v w'∧∃(b:Nat) (n:Nat→Prop),Ending.returned v=.returned (Zmc b nb)∧w.heap.size≤b∧nbR w' n b nb∧n b∧(∀x,z x→n x)∧Below w.heap.size w w':=fun hK=>by
  unfold ZeR at hK
  split at hK
  ·rename_i s hrs
   have er:fn.results=#[.tmp s]:=by
    have:=congrArg AT hrs
    simpa using this
   obtain ⟨g,hH,hS⟩:=hI'.ex
   have hs:=hS s
   have hbel:=hH.below
   cases nb with
   | box t cs=>
    obtain ⟨k,ds,k1,k2,k3,k4⟩:=hK
    rw [k1] at hs
    obtain ⟨b,b1,b2⟩:=hs
    have hob:=hH.obs k
    rw [k2] at hob
    obtain ⟨b',us,o1,o2,o3,o4,o5⟩:=hob
    have hbb:b'=b:=by rw [b1] at o1;simpa using o1.symm
    subst hbb
    obtain ⟨L,hL,hL2⟩:=Zei hH k4 o5
    have hno:=hL2 fun y my=>by
     have:=AG.1 k3 y my
     cases y<;>simp [Zaa] at this<;>trivial
    refine ⟨hI'.defers,_,?_,b',fun x=>g.own x,rfl,(hH.plain k b' (by simp [o2])).1.resolve_right fun h=>h,⟨us,L,o4,hL,hno⟩,.inl ⟨k,by simp [o2]⟩,fun x hx=>.inr (by rw [hH.gz];exact hx),hbel.os,hbel.tape,hbel.output,hbel.size,fun k hk=>hbel.block k hk fun h=>h⟩
    rw [Zg4,er]
    simp [Zes,b2,Zmc]
   | map kk vk kv=>
    obtain ⟨k,k1,k2⟩:=hK
    rw [k1] at hs
    obtain ⟨x,hx,hx3⟩:=hs
    simp only[AS,and_true] at hx
    subst hx
    obtain ⟨hx2,_⟩:=hx3
    have hob:=hH.obs k
    rw [k2] at hob
    obtain ⟨b,es,c,o1,o2,o3,o4,o5⟩:=hob
    refine ⟨hI'.defers,_,?_,b,fun x=>g.own x,rfl,(hH.plain k b (by simp [o2])).1.resolve_right fun h=>h,⟨es,c,o4,o5⟩,.inl ⟨k,by simp [o2]⟩,fun x hx=>.inr (by rw [hH.gz];exact hx),hbel.os,hbel.tape,hbel.output,hbel.size,fun k hk=>hbel.block k hk fun h=>h⟩
    rw [Zg4,er]
    simp [Zes,hx2,o1,Zmc]
  ·exact hK.elim
 cases ex with
 | normal=>exact fin hK
 | exit id=>exact hK.elim
 | ret=>exact fin hK
end
instance nwD:NW:=nw0
end
section
open Go.RowKit
def Zi0 {α β:Type} (f:α→β→Bool):List α→List β→Bool
 | [],[]=>true
 | a::l,b::r=>f a b&&Zi0 f l r
 | _,_=>false
theorem ZhV {α β:Type} {f:α→β→Bool} {R:α→β→Prop} (h:∀a b,f a b=true→R a b):∀{l:List α} {r:List β},Zi0 f l r=true→ZH R l r
 | [],[],_=>trivial
 | a::l,b::r,hh=>by
  simp only[Zi0,A5] at hh
  exact ⟨h a b hh.1,ZhV h hh.2⟩
 | [],_::_,hh=>by simp [Zi0] at hh
 | _::_,[],hh=>by simp [Zi0] at hh
def Zs9 (P:Program) (fi:FI) (f:Field):Bool:=
 f.offset==fi.off&&!(fi.size==0)&&match P.info? f.type,P.underlying f.type with
  | some j,some d=>j.size==fi.size&&(Zpk d==fi.agg)
  | _,_=>false
def ZyM:Value→Bool
 | .slice none 0 0=>true
 | _=>false
def Zsx (P:Program):List PK→List Field→Nat→Bool
 | [],[],_=>true
 | k :: ks, f :: fs, n => (f.name != "_") && (f.offset == n) && (match P.underlying f.type with | some d => Zc4 k d | none => false) && Zsx P ks fs (n + 1)
 | _,_,_=>false
theorem Zq8 {P:Program}:∀{ks:List PK} {fs:List Field} {n:Nat},Zsx P ks fs n=true→EqF P ks fs n
 | [],[],_,_=>trivial
 | k::ks,f::fs,n,h=>by
  simp only[Zsx,A5,bne_iff_ne,beq_iff_eq] at h
  obtain ⟨⟨⟨h1,h2⟩,h3⟩,h4⟩:=h
  split at h3
  ·rename_i d hd;exact ⟨h1,h2,⟨d,hd,h3⟩,Zq8 h4⟩
  ·simp at h3
 | [],_::_,_,h=>by simp [Zsx] at h
 | _::_,[],_,h=>by simp [Zsx] at h
def Zmn:Option TypeDesc→Bool
 | some (.struct _)=>true
 | _=>false
def ZzP (P:Program) (t:TypeId) (ks:List PK):Bool:=
 Nat.ble 4000 t&&Zmn (P.underlying (t - 4000))&&!(P.stoodInHeld (t - 4000))&&!(P.eqGuardType P.depth (t - 4000))&&Zsx P ks (P.fieldsOf (t - 4000)).toList 0
theorem Zvr {P:Program} {t:TypeId} {ks:List PK} (h:ZzP P t ks=true):TOk P t (.eqs ks):=by
 simp only[ZzP,A5,Af] at h
 obtain ⟨⟨⟨⟨h1,h2⟩,h3⟩,h4⟩,h5⟩:=h
 refine ⟨t - 4000,?_,?_,h3,h4,Zq8 h5⟩
 ·have:4000≤t:=A9 h1
  exact (Nat.sub_add_cancel this).symm
 ·unfold Zmn at h2
  split at h2
  ·rename_i fs e
   unfold Program.fieldsOf
   rw [e]
  ·simp at h2
def tOk (P:Program) (t:TypeId) (ti:TI):Bool:=
 match ti with
 | .eqs ks=>ZzP P t ks
 | _=>
 match P.underlying t,P.info? t with
 | some d,some i=>match ti with
  | .atom z=>ZgW d z&&i.size==1&&match i.zero with | some zv=>QV z zv | none=>false
  | .strct fs n z=>match d with
   | .struct fields=>i.size==n&&(match i.zero with | some (.agg zvs)=>Zi0 QV z zvs.toList | _=>false)&&Zi0 (Zs9 P) fs fields.toList
   | _=>false
  | .slice e m bytes z=>match d with
   | .slice e'=>e==e'&&Nat.blt 0 m&&Nat.ble bytes 131072&&(match P.info? e with
     | some ie=>ie.size==m&&ie.bytes==bytes&&(match ie.zero with | some zv=>Zi0 QV z zv.cells.toList | none=>false)
     | none=>false)&&z.length==m&&i.size==1&&(match i.zero with | some zv=>ZyM zv | none=>false)
   | _=>false
  | .map kk vk=>match d with
   | .map kt et=>(match P.underlying kt with | some dk=>Zc4 kk dk | none=>false)&&(match P.underlying et with | some dv=>Zc4 vk dv | none=>false)&&(match P.info? et with | some ie=>(match ie.zero with | some zv=>QV (ZdG vk) zv | none=>false) | none=>false)
   | _=>false
  | .ifc=>match d with
   | .interface _=>true
   | _=>false
  | .eqs _=>false
 | _,_=>false
theorem Zvb {v:Value} (h:ZyM v=true):v=.slice none 0 0:=by
 unfold ZyM at h
 split at h
 ·rfl
 ·simp at h
theorem Zwq {P:Program} {t:TypeId} {ti:TI} (h:tOk P t ti=true):TOk P t ti:=by
 unfold tOk at h
 split at h
 ·exact Zvr h
 split at h
 ·rename_i d i hd hi
  cases ti with
  | eqs ks=>simp at h
  | ifc=>
   simp only at h
   split at h
   ·exact ⟨_,hd⟩
   ·simp at h
  | map kk vk=>
   simp only at h
   split at h
   ·rename_i kt et
    simp only[A5] at h
    obtain ⟨⟨h1,h2⟩,h3⟩:=h
    split at h1
    ·rename_i dk hdk
     split at h2
     ·rename_i dv hdv
      split at h3
      ·rename_i ie hie
       split at h3
       ·rename_i zv hz
        exact ⟨kt,et,dk,dv,ie,zv,hd,hdk,h1,hdv,h2,hie,hz,h3⟩
       ·simp at h3
      ·simp at h3
     ·simp at h2
    ·simp at h1
   ·simp at h
  | atom z=>
   simp only[A5,beq_iff_eq] at h
   obtain ⟨⟨h1,h2⟩,h3⟩:=h
   split at h3
   ·rename_i zv hz;exact ⟨d,zv,i,hd,h1,hi,hz,h2,h3⟩
   ·simp at h3
  | strct fs n z=>
   simp only at h
   split at h
   ·rename_i fields
    simp only[A5,beq_iff_eq] at h
    obtain ⟨⟨h1,h2⟩,h3⟩:=h
    split at h2
    ·rename_i zvs hz
     refine ⟨fields,i,zvs,hd,hi,h1,hz,ZhV (fun _ _ h=>h) h2,ZhV (fun fi f hf=>?_) h3⟩
     unfold Zs9 at hf
     simp only[A5,beq_iff_eq,Af,beq_eq_false_iff_ne] at hf
     obtain ⟨⟨f1,f2⟩,f3⟩:=hf
     split at f3
     ·rename_i j d' hj hd'
      simp only[A5,beq_iff_eq] at f3
      exact ⟨f1,f2,j,d',hj,f3.1,hd',f3.2⟩
     ·simp at f3
    ·simp at h2
   ·simp at h
  | slice e m bytes z=>
   simp only at h
   split at h
   ·rename_i e'
    simp only[A5,beq_iff_eq] at h
    obtain ⟨⟨⟨⟨⟨⟨h1,h2⟩,h3⟩,h4⟩,h5⟩,h6⟩,h7⟩:=h
    subst h1
    split at h4
    ·rename_i ie hie
     simp only[A5,beq_iff_eq] at h4
     obtain ⟨⟨k1,k2⟩,k3⟩:=h4
     split at k3
     ·rename_i zv hz
      split at h7
      ·rename_i zv' hz'
       exact ⟨hd,A9 h2,A9 h3,⟨ie,zv,hie,k1,k2,hz,ZhV (fun _ _ h=>h) k3,h5⟩,i,hi,h6,by rw [hz',Zvb h7]⟩
      ·simp at h7
     ·simp at k3
    ·simp at h4
   ·simp at h
 ·simp at h
def ZtC:List (Nat × TI)→Nat→Option TI
 | [],_=>none
 | p::r,t=>if p.1=t then some p.2 else ZtC r t
theorem Zs8 {P:Program}:∀(l:List (Nat × TI)),(l.all fun p=>tOk P p.1 p.2)=true→∀t i,ZtC l t=some i→TOk P t i
 | [],_,t,i,h=>by simp [ZtC] at h
 | p::r,ha,t,i,h=>by
  simp only[AY,A5] at ha
  simp only[ZtC] at h
  split at h
  ·rename_i e
   simp only[A4] at h
   subst h e
   exact Zwq ha.1
  ·exact Zs8 r ha.2 t i h
end
section
open Go.RowKit
structure Zd where
 rel:ByteArray
 args:List ByteArray
def ZDc:ZaE Zd where
 size:=2
 rep:=fun w cs x L=>∃A1 c1 L1,cs=[.string x.rel,.slice A1 x.args.length c1]∧L=L1∧x.rel.size≤9223372036854775807∧x.args.length≤c1∧c1≤maxLen∧Sli ZCD w A1 x.args L1
 len:=fun ⟨A1,c1,L1,h,hL,t0,n1,m1,s1⟩=>by simp [h]
 keep:=fun ⟨A1,c1,L1,h,hL,t0,n1,m1,s1⟩ hk=>⟨A1,c1,L1,h,hL,t0,n1,m1,s1.keep (fun b m=>hk b (by simp [hL,m]))⟩
 lt:=fun ⟨A1,c1,L1,h,hL,t0,n1,m1,s1⟩=>by intro b m;simp only[hL,A6] at m;exact s1.lt b m
 one:=fun ⟨A1,c1,L1,h,hL,t0,n1,m1,s1⟩=>by simp [h,Value.oneCell']
 pos:=by omega
theorem ZDq {w:World} {cs:List Value} {x:Zd} {L:List Nat} (h:ZDc.rep w cs x L):∃A1 c1,cs=[.string x.rel,.slice A1 x.args.length c1]:=by
 obtain ⟨A1,c1,L1,h,hL,t0,n1,m1,s1⟩:=h
 exact ⟨A1,c1,h⟩
def ZC2 (x:Zd):Nat:=x.rel.size+ZDs x.args
def ZDa (l:List Zd):Nat:=l.length+(l.map ZC2).sum
def ZF3 (x:Zd):Prop:=(fun _=>True) x.rel∧(fun ds=>∀d∈ds,(fun _=>True) d) x.args
structure Zv where
 rel:ByteArray
 args:List ByteArray
def ZEp:ZaE Zv where
 size:=2
 rep:=fun w cs x L=>∃A1 c1 L1,cs=[.string x.rel,.slice A1 x.args.length c1]∧L=L1∧x.rel.size≤9223372036854775807∧x.args.length≤c1∧c1≤maxLen∧Sli ZCD w A1 x.args L1
 len:=fun ⟨A1,c1,L1,h,hL,t0,n1,m1,s1⟩=>by simp [h]
 keep:=fun ⟨A1,c1,L1,h,hL,t0,n1,m1,s1⟩ hk=>⟨A1,c1,L1,h,hL,t0,n1,m1,s1.keep (fun b m=>hk b (by simp [hL,m]))⟩
 lt:=fun ⟨A1,c1,L1,h,hL,t0,n1,m1,s1⟩=>by intro b m;simp only[hL,A6] at m;exact s1.lt b m
 one:=fun ⟨A1,c1,L1,h,hL,t0,n1,m1,s1⟩=>by simp [h,Value.oneCell']
 pos:=by omega
theorem ZEL {w:World} {cs:List Value} {x:Zv} {L:List Nat} (h:ZEp.rep w cs x L):∃A1 c1,cs=[.string x.rel,.slice A1 x.args.length c1]:=by
 obtain ⟨A1,c1,L1,h,hL,t0,n1,m1,s1⟩:=h
 exact ⟨A1,c1,h⟩
def ZC1 (x:Zv):Nat:=x.rel.size+ZDs x.args
def ZFF (x:Zv):Prop:=(fun _=>True) x.rel∧(fun ds=>∀d∈ds,(fun _=>True) d) x.args
structure Zp where
 var:ByteArray
 value:ByteArray
structure Zr where
 kind:Int
 pattern:Zv
 left:ByteArray
 right:ByteArray
def ZDC:ZaE Zr where
 size:=5
 rep:=fun w cs x L=>∃A1 c1 L1,cs=[.int .i64 x.kind,.string x.pattern.rel,.slice A1 x.pattern.args.length c1,.string x.left,.string x.right]∧L=L1∧x.pattern.rel.size≤9223372036854775807∧x.left.size≤9223372036854775807∧x.right.size≤9223372036854775807∧x.pattern.args.length≤c1∧c1≤maxLen∧Sli ZCD w A1 x.pattern.args L1
 len:=fun ⟨A1,c1,L1,h,hL,t0,t1,t2,n1,m1,s1⟩=>by simp [h]
 keep:=fun ⟨A1,c1,L1,h,hL,t0,t1,t2,n1,m1,s1⟩ hk=>⟨A1,c1,L1,h,hL,t0,t1,t2,n1,m1,s1.keep (fun b m=>hk b (by simp [hL,m]))⟩
 lt:=fun ⟨A1,c1,L1,h,hL,t0,t1,t2,n1,m1,s1⟩=>by intro b m;simp only[hL,A6] at m;exact s1.lt b m
 one:=fun ⟨A1,c1,L1,h,hL,t0,t1,t2,n1,m1,s1⟩=>by simp [h,Value.oneCell']
 pos:=by omega
theorem ZEc {w:World} {cs:List Value} {x:Zr} {L:List Nat} (h:ZDC.rep w cs x L):∃A1 c1,cs=[.int .i64 x.kind,.string x.pattern.rel,.slice A1 x.pattern.args.length c1,.string x.left,.string x.right]:=by
 obtain ⟨A1,c1,L1,h,hL,t0,t1,t2,n1,m1,s1⟩:=h
 exact ⟨A1,c1,h⟩
def ZDl (x:Zr):Nat:=ZC1 x.pattern+x.left.size+x.right.size
def ZDh (l:List Zr):Nat:=l.length+(l.map ZDl).sum
def ZIz (x:Zr):Prop:=ZoN x.kind∧ZFF x.pattern∧(fun _=>True) x.left∧(fun _=>True) x.right
structure Zx where
 kind:Int
 pattern:Zv
def ZC8:ZaE Zx where
 size:=3
 rep:=fun w cs x L=>∃A1 c1 L1,cs=[.int .i64 x.kind,.string x.pattern.rel,.slice A1 x.pattern.args.length c1]∧L=L1∧x.pattern.rel.size≤9223372036854775807∧x.pattern.args.length≤c1∧c1≤maxLen∧Sli ZCD w A1 x.pattern.args L1
 len:=fun ⟨A1,c1,L1,h,hL,t0,n1,m1,s1⟩=>by simp [h]
 keep:=fun ⟨A1,c1,L1,h,hL,t0,n1,m1,s1⟩ hk=>⟨A1,c1,L1,h,hL,t0,n1,m1,s1.keep (fun b m=>hk b (by simp [hL,m]))⟩
 lt:=fun ⟨A1,c1,L1,h,hL,t0,n1,m1,s1⟩=>by intro b m;simp only[hL,A6] at m;exact s1.lt b m
 one:=fun ⟨A1,c1,L1,h,hL,t0,n1,m1,s1⟩=>by simp [h,Value.oneCell']
 pos:=by omega
theorem ZDW {w:World} {cs:List Value} {x:Zx} {L:List Nat} (h:ZC8.rep w cs x L):∃A1 c1,cs=[.int .i64 x.kind,.string x.pattern.rel,.slice A1 x.pattern.args.length c1]:=by
 obtain ⟨A1,c1,L1,h,hL,t0,n1,m1,s1⟩:=h
 exact ⟨A1,c1,h⟩
def ZC9 (x:Zx):Nat:=ZC1 x.pattern
def ZC7 (l:List Zx):Nat:=l.length+(l.map ZC9).sum
def ZHA (x:Zx):Prop:=ZoN x.kind∧ZFF x.pattern
structure Zf where
 name:ByteArray
 priority:Int
 cond:List Zr
 thn:List Zx
def ZDB:ZaE Zf where
 size:=4
 rep:=fun w cs x L=>∃A1 c1 L1 A2 c2 L2,cs=[.string x.name,.int .i64 x.priority,.slice A1 x.cond.length c1,.slice A2 x.thn.length c2]∧L=L1++L2∧x.name.size≤9223372036854775807∧x.cond.length≤c1∧c1≤maxLen∧Sli ZDC w A1 x.cond L1∧x.thn.length≤c2∧c2≤maxLen∧Sli ZC8 w A2 x.thn L2
 len:=fun ⟨A1,c1,L1,A2,c2,L2,h,hL,t0,n1,m1,s1,n2,m2,s2⟩=>by simp [h]
 keep:=fun ⟨A1,c1,L1,A2,c2,L2,h,hL,t0,n1,m1,s1,n2,m2,s2⟩ hk=>⟨A1,c1,L1,A2,c2,L2,h,hL,t0,n1,m1,s1.keep (fun b m=>hk b (by simp [hL,m])),n2,m2,s2.keep (fun b m=>hk b (by simp [hL,m]))⟩
 lt:=fun ⟨A1,c1,L1,A2,c2,L2,h,hL,t0,n1,m1,s1,n2,m2,s2⟩=>by intro b m;simp only[hL,A6] at m;rcases m with m | m<;>first | exact s1.lt b m | exact s2.lt b m
 one:=fun ⟨A1,c1,L1,A2,c2,L2,h,hL,t0,n1,m1,s1,n2,m2,s2⟩=>by simp [h,Value.oneCell']
 pos:=by omega
theorem ZD9 {w:World} {cs:List Value} {x:Zf} {L:List Nat} (h:ZDB.rep w cs x L):∃A1 c1 A2 c2,cs=[.string x.name,.int .i64 x.priority,.slice A1 x.cond.length c1,.slice A2 x.thn.length c2]:=by
 obtain ⟨A1,c1,L1,A2,c2,L2,h,hL,t0,n1,m1,s1,n2,m2,s2⟩:=h
 exact ⟨A1,c1,A2,c2,h⟩
def ZDd (x:Zf):Nat:=x.name.size+ZDh x.cond+ZC7 x.thn
def ZC4 (l:List Zf):Nat:=l.length+(l.map ZDd).sum
def ZIa (x:Zf):Prop:=(fun _=>True) x.name∧ZoN x.priority∧(fun ds=>∀d∈ds,ZIz d) x.cond∧(fun ds=>∀d∈ds,ZHA d) x.thn
structure Zt where
 facts:List Zd
 binding:List Zp
structure Zg where
 for_:Int
 inn:List Int
 outs:List Int
structure Zu where
 nodes:Int
 reasons:List Zg
structure ZvY where
 fact:Zd
 rule:ByteArray
 uses:List Int
end
section
open Go.RowKit
section
variable {od:OD} {tt:Nat→Option TI} {S:Ctx}
theorem QP {α:Type} {r:Option α} {K K':α→Prop} (h:∀x,K x→K' x) (hh:Yp r K):Yp r K':=by
 cases r with
 | none=>exact hh
 | some v=>exact h v hh
theorem Zou {key:Nat} {o:Oper} {K K':St→Prop} {st:St} (h:∀st,K st→K' st) (hh:opS tt S key o K st):opS tt S key o K' st:=by
 unfold opS at hh ⊢
 split
 ·rename_i c hc
  rw [hc] at hh
  simp only[spK] at hh ⊢
  split
  ·rename_i e
   rw [e] at hh
   exact QP (fun l ⟨res,h1,h2,h3,h4⟩=>⟨res,h1,h2,h3,h _ h4⟩) hh
  ·rename_i e
   rw [e] at hh
   simp only[Zro] at hh ⊢
   split
   ·rename_i e2;rw [e2] at hh;exact hh
   ·rename_i e2
    rw [e2] at hh
    exact QP (fun kh=>QP fun l ⟨res,h',h1,h2,h3,h4⟩=>⟨res,h',h1,h2,h3,h _ h4⟩) hh
  ·rename_i e
   rw [e] at hh
   exact QP (fun l ⟨nb,h1,h4⟩=>⟨nb,h1,h _ h4⟩) hh
  ·rename_i e
   rw [e] at hh
   exact QP (fun l ⟨res,h1,h2,h3,h4⟩=>⟨res,h1,h2,h3,h _ h4⟩) hh
  ·rename_i n0 n1 n3 n4
   have hh':Yp (ZT st (evs tt st c.2.1 c.2.2)) (ZuM S c.1 key o.dst K st (evs tt st c.2.1 c.2.2)):=by
    revert hh
    split
    ·rename_i e;exact absurd e n0
    ·rename_i e;exact absurd e n1
    ·rename_i e;exact absurd e n3
    ·rename_i e;exact absurd e n4
    ·exact id
   exact QP (fun l ⟨res,h1,h2,h3⟩=>⟨res,h1,h2,h _ h3⟩) hh'
 ·rename_i hc
  rw [hc] at hh
  simp only at hh
  split
  ·rename_i c hd
   rw [hd] at hh
   simp only at hh
   exact QP (fun fc ⟨h0,h1⟩=>⟨h0,QP (fun l ⟨res,a,b,c,d⟩=>⟨res,a,b,c,h _ d⟩) h1⟩) hh
  ·rename_i hd
   rw [hd] at hh
   simp only at hh
   exact QP (fun r hr=>h _ hr) hh
theorem ZkI {all:List Oper} {key:Nat} {o:Oper} {K K':St→Prop} {st:St} (h:∀st,K st→K' st) (hh:opG tt S all key o K st):opG tt S all key o K' st:=by
 unfold opG at hh ⊢
 split
 ·rename_i hg;rw [hg] at hh;exact Zou h hh
 ·rename_i hg;rw [hg] at hh;exact h _ hh
 ·rename_i hg
  rw [hg] at hh
  simp only[gK] at hh ⊢
  split
  ·rename_i h1
   rw [if_pos h1] at hh
   split
   ·rename_i h2;rw [if_pos h2] at hh;exact Zou h hh
   ·rename_i h2;rw [if_neg h2] at hh;exact h _ hh
  ·rename_i h1
   rw [if_neg h1] at hh
   split
   ·rename_i h2;rw [if_pos h2] at hh;exact h _ hh
   ·rename_i h2;rw [if_neg h2] at hh;exact hh
theorem Zm5 {all:List Oper} {K K':St→Prop} (h:∀st,K st→K' st):∀(r:List Oper) (key:Nat) (st:St),ZY tt S all key r K st→ZY tt S all key r K' st
 | [],_,st,hh=>h st hh
 | o::r,key,st,hh=>ZkI (fun st' h'=>Zm5 h r (key+16) st' h') hh
theorem ZkU {F:(Ex→St→Prop)→St→Prop} (hF:∀Q Q' st,(∀e st,Q e st→Q' e st)→F Q st→F Q' st) {Q Q':Ex→St→Prop} (h:∀e st,Q e st→Q' e st):∀(n:Nat) (st:St),Zi1 F Q n st→Zi1 F Q' n st
 | 0,_,hh=>hh
 | n+1,st,⟨ms,ρ,h1,h2⟩=>⟨ms,ρ,h1,fun hw=>hF _ _ _ (fun e st' h'=>by cases e<;>first | exact ZkU hF h n st' h' | exact h _ _ h') (h2 hw)⟩
theorem Zgd {b:Bool} {all:List Oper} {base:Nat} {K K':St→Prop} (h:∀st,K st→K' st):∀(l:List Nat) (st:St),ZeD tt S b all base l K st→ZeD tt S b all base l K' st
 | [],st,hh=>h st hh
 | i::r,st,hh=>by
  simp only[ZeD] at hh ⊢
  split
  ·rename_i o ho
   rw [ho] at hh
   cases b with
   | true=>exact ⟨hh.1,ZkI (fun st' h'=>Zgd h r st' h') hh.2⟩
   | false=>exact ZkI (fun st' h'=>Zgd h r st' h') hh
  ·rename_i ho
   rw [ho] at hh
   exact Zgd h r st hh
theorem QE:∀(c:Code) (Q Q':Ex→St→Prop) (st:St),(∀e st,Q e st→Q' e st)→swp tt S od c Q st→swp tt S od c Q' st
 | .skip,Q,Q',st,h,hh=>h _ _ hh
 | .exit _,Q,Q',st,h,hh=>h _ _ hh
 | .ret,Q,Q',st,h,hh=>h _ _ hh
 | .region id ops _,Q,Q',st,h,hh=>by
  simp only[swp,ZrA] at hh ⊢
  split
  ·rename_i e
   rw [e] at hh
   exact Zm5 (fun st' h'=>h _ _ h') ops.toList st.n st hh
  ·rename_i l e
   rw [e] at hh
   exact Zgd (fun st' h'=>h _ _ h') l.1 st hh
 | .seq a b,Q,Q',st,h,hh=>QE a _ _ st (fun e st' h'=>by cases e<;>first | exact QE b Q Q' st' h h' | exact h _ _ h') hh
 | .cond c a b,Q,Q',st,h,hh=>by
  simp only[swp,Zmp] at hh ⊢
  split
  ·rename_i h1
   rw [if_pos h1] at hh
   split
   ·rename_i h2;rw [if_pos h2] at hh;exact QE a Q Q' st h hh
   ·rename_i h2;rw [if_neg h2] at hh;exact QE b Q Q' st h hh
  ·rename_i h1;rw [if_neg h1] at hh;exact hh
 | .block id b,Q,Q',st,h,hh=>QE b _ _ st (fun e st' h'=>by
   cases e with
   | normal=>exact h _ _ h'
   | ret=>exact h _ _ h'
   | exit j=>
    simp only[Zf6] at h' ⊢
    split
    ·rename_i e;rw [if_pos e] at h';exact h _ _ h'
    ·rename_i e;rw [if_neg e] at h';exact h _ _ h') hh
 | .loop b,Q,Q',st,h,⟨n,hh⟩=>⟨n,ZkU (fun Q Q' st hq hs=>QE b Q Q' st hq hs) h n st hh⟩
 | .rangeFunc _ _ _ _,_,_,_,_,hh=>hh.elim
 | .scope _,_,_,_,_,hh=>hh.elim
 | .label _,_,_,_,_,hh=>hh.elim
 | .goto _,_,_,_,_,hh=>hh.elim
 | .refuse _,_,_,_,_,hh=>hh.elim
end
theorem Xn {x:Int} (h0:-9223372036854775808≤x) (h1:x≤9223372036854775807):IntKind.i64.wrap x=x:=IntWalk.i64_in _ ⟨h0,h1⟩
theorem ZwF (sl:Nat→SV) (ob:Nat→Ob) (n:Nat) (ρ:List Nat) (t:Nat):(St.ren ⟨sl,ob,n⟩ ρ).sl t=rSV ρ (sl t):=yi rfl
theorem Zyy (sl:Nat→SV) (ob:Nat→Ob) (n:Nat) (ρ:List Nat) (j:Nat):(St.ren ⟨sl,ob,n⟩ ρ).ob j=match ρ[j]? with | some k=>rOb ρ (ob k) | none=>.gone:=yi rfl
theorem ZBv (st:St) (ρ:List Nat):(st.ren ρ).n=ρ.length:=yi rfl
theorem Zt8 (st:St):st.mats []=st:=yi rfl
theorem Zr6 (sl:Nat→SV) (ob:Nat→Ob) (n t j:Nat) (r:List (Bool × Nat × Nat)):St.mats ⟨sl,ob,n⟩ ((false,t,j)::r)=if 4096≤j then St.mats (match sl t with
  | .p ag cs=>(match cs[j - 4096]? with
   | some (.row k)=>(match ob k with
    | .row e q xs d=>if d=2 then ⟨upd sl t (.p ag (cs.set (j - 4096) (.n (.sl e q xs)))),upd ob k (.row e q xs 0),n⟩ else ⟨sl,ob,n⟩
    | _=>⟨sl,ob,n⟩)
   | _=>⟨sl,ob,n⟩)
  | _=>⟨sl,ob,n⟩) r else St.mats (match sl t with
  | .p ag cs=>(match cs[j]? with
   | some (.nil e q)=>if 0<q then ⟨upd sl t (.p ag (cs.set j (.row n))),upd ob n (.row e q [] 2),n+1⟩ else ⟨sl,ob,n⟩
   | some (.row k)=>(match ob k with
    | .row e q xs _=>⟨upd sl t (.p ag (cs.set j (.c (.sl e q xs)))),upd ob k (.row e q xs 0),n⟩
    | _=>⟨sl,ob,n⟩)
   | _=>⟨sl,ob,n⟩)
  | _=>⟨sl,ob,n⟩) r:=by
 by_cases h:4096≤j
 ·rw [if_pos h,St.mats,if_pos ⟨rfl,h⟩];rfl
 ·rw [if_neg h,St.mats,if_neg (fun e=>h e.2)];rfl
theorem Zt9 (sl:Nat→SV) (ob:Nat→Ob) (n k i:Nat) (r:List (Bool × Nat × Nat)):St.mats ⟨sl,ob,n⟩ ((true,k,i)::r)=St.mats (match ob k with
  | .box ty cs=>(match cs[i]? with
   | some (.nil e q)=>if 0<q then ⟨sl,upd (upd ob k (.box ty (cs.set i (.row n)))) n (.row e q [] 2),n+1⟩ else ⟨sl,ob,n⟩
   | some (.row j)=>(match ob j with
    | .row e q xs _=>⟨sl,upd (upd ob j (.row e q xs 0)) k (.box ty (cs.set i (.c (.sl e q xs)))),n⟩
    | _=>⟨sl,ob,n⟩)
   | _=>⟨sl,ob,n⟩)
  | .row e q xs d=>(if i<d then ⟨sl,upd ob k (.row e q xs i),n⟩ else ⟨sl,ob,n⟩)
  | _=>⟨sl,ob,n⟩) r:=yi rfl
theorem nn (k:Nat):(0≤(k:Int))=True:=by simp
theorem ZAG:(true==true)=true:=yi rfl
theorem ZBP:(false==true)=false:=yi rfl
theorem ZAL:(true==false)=false:=yi rfl
theorem ZAx:(false==false)=true:=yi rfl
attribute [go_sem] Zq6 Zg8 Zjt Zt8 Zr6 Zt9 nn ZAG ZBP ZAL ZAx ZwF Zyy ZBv rSV rAV rOb Znd
end
section
open Go.RowKit
def chk {α:Type} (c:Prop) [Decidable c] (x:Option α):Option α:=if c then x else none
def atI {α:Type} (l:List α) (i:Int):Option α:=if 0≤i then l[i.toNat]? else none
def Zn {α σ ρ:Type} (body:Nat→α→σ→Option (σ ⊕ ρ)) (fin:σ→Option ρ):List α→Nat→σ→Option ρ
 | [],_,s=>fin s
 | x::l,i,s=>match body i x s with
  | none=>none
  | some (.inl s')=>Zn body fin l (i+1) s'
  | some (.inr r)=>some r
def Zcc {σ ρ:Type} (body:σ→Option (σ ⊕ ρ)):Nat→σ→Option ρ
 | 0,_=>none
 | n+1,s=>match body s with
  | none=>none
  | some (.inl s')=>Zcc body n s'
  | some (.inr r)=>some r
open Classical in
noncomputable def Y5 {σ ρ:Type} (body:σ→Option (σ ⊕ ρ)) (s:σ):Option ρ:=if h:∃n,(Zcc body n s).isSome=true then Zcc body (Classical.choose h) s else none
section
variable {α β σ ρ:Type} {r:ρ}
theorem Zhj {body:σ→Option (σ ⊕ ρ)}:∀{n:Nat} (m:Nat) {s:σ} {r:ρ},Zcc body n s=some r→Zcc body (n+m) s=some r
 | 0,_,_,_,h=>by simp [Zcc] at h
 | n+1,m,s,r,h=>by
  rw [show n+1+m=n+m+1 by omega]
  simp only[Zcc] at h ⊢
  cases e:body s with
  | none=>rw [e] at h;simp at h
  | some y=>
   rw [e] at h
   cases y with
   | inl s'=>exact Zhj m h
   | inr r'=>exact h
theorem Zh8 {body:σ→Option (σ ⊕ ρ)} {s:σ} {r:ρ}:Y5 body s=some r↔∃n,Zcc body n s=some r:=by
 constructor
 ·intro h
  unfold Y5 at h
  split at h
  ·exact ⟨_,h⟩
  ·simp at h
 ·rintro ⟨n,hn⟩
  have hex:∃n,(Zcc body n s).isSome=true:=⟨n,by simp [hn]⟩
  unfold Y5
  rw [dif_pos hex]
  have h2:=Classical.choose_spec hex
  obtain ⟨r',hr'⟩:=Option.isSome_iff_exists.1 h2
  rw [hr']
  have a1:=Zhj n hr'
  have a2:=Zhj (Classical.choose hex) hn
  rw [Nat.add_comm] at a2
  rw [a1] at a2
  exact a2
theorem Zig (body:σ→Option (σ ⊕ ρ)) (s:σ):Y5 body s=match body s with
  | none=>none
  | some (.inl s')=>Y5 body s'
  | some (.inr r)=>some r:=by
 apply Option.ext
 intro r
 rw [Zh8]
 constructor
 ·rintro ⟨n,hn⟩
  cases n with
  | zero=>simp [Zcc] at hn
  | succ n=>
   simp only[Zcc] at hn
   cases e:body s with
   | none=>rw [e] at hn;simp at hn
   | some y=>
    rw [e] at hn
    cases y with
    | inl s'=>exact Zh8.2 ⟨n,hn⟩
    | inr r'=>exact hn
 ·intro h
  cases e:body s with
  | none=>rw [e] at h;simp at h
  | some y=>
   rw [e] at h
   cases y with
   | inl s'=>
    obtain ⟨n,hn⟩:=Zh8.1 h
    exact ⟨n+1,by simp only[Zcc,e];exact hn⟩
   | inr r'=>exact ⟨1,by simp only[Zcc,e];exact h⟩
theorem Zs {c:Prop} [Decidable c] {x:Option α} {r:α} (h:chk c x=some r):c∧x=some r:=by
 unfold chk at h
 split at h
 ·rename_i hc;exact ⟨hc,h⟩
 ·simp at h
theorem Zi {c:Prop} [Decidable c] (x:Option α) (h:c):chk c x=x:=if_pos h
theorem Za {α β:Type} {o:Option α} {f:α→Option β} {r:β} {G:Prop} (h:o.bind f=some r) (k:∀v,o=some v→f v=some r→G):G:=by
 cases o with
 | none=>simp at h
 | some v=>exact k v rfl h
theorem ZJ {o:Option α} {f:α→Option β} {r:β} (h:o.bind f=some r):∃x,o=some x∧f x=some r:=by
 cases o with
 | none=>simp at h
 | some x=>exact ⟨x,rfl,h⟩
theorem Zci {l:List α} {i:Int} {f:α→Option β} {r:β} (h:(atI l i).bind f=some r):∃x,0≤i∧i<(l.length:Int)∧l[i.toNat]?=some x∧f x=some r:=by
 unfold atI at h
 split at h
 ·rename_i hi
  obtain ⟨x,h1,h2⟩:=ZJ h
  obtain ⟨h3,_⟩:=A7.1 h1
  exact ⟨x,hi,by omega,h1,h2⟩
 ·simp at h
theorem Ze {G:Prop} {b:Bool} {x y:Option α} {r:α} (h:(if b=true then x else y)=some r) (h1:b=true→x=some r→G) (h2:b=false→y=some r→G):G:=by
 cases b with
 | true=>exact h1 rfl (by simpa using h)
 | false=>exact h2 rfl (by simpa using h)
theorem Zo {y:σ ⊕ ρ} {v r:ρ} (h:some (.inr v)=some y) (hy:y=.inr r∨∃s,y=.inl s):some v=some r:=by
 obtain rfl:=AU h
 rcases hy with h | ⟨_,h⟩
 ·rw [Sum.inr.inj h]
 ·cases h
end
section
variable {od:OD} {tt:Nat→Option TI} {S:Ctx}
def Zv0 {σ ρ:Type} (I:σ→St→Prop) (y:σ ⊕ ρ) (st:St):Prop:=∃s' ms ρk,y=.inl s'∧ρk.Nodup∧I s' ((st.mats ms).ren ρk)
theorem XH {σ ρ:Type} {b:Code} {Q:Ex→St→Prop} {st:St} {body:σ→Option (σ ⊕ ρ)} {s0:σ} {r:ρ} (h:Y5 body s0=some r) (I:σ→St→Prop) (ms:List (Bool × Nat × Nat)) (ρk:List Nat) (hρ:ρk.Nodup) (h0:I s0 ((st.mats ms).ren ρk))
  (step:∀s st y,I s st→WF st→body s=some y→(y=.inr r∨∃s',y=.inl s')→swp tt S od b (Zfv (Zv0 I y) Q) st):swp tt S od (.loop b) Q st:=by
 obtain ⟨n,hn⟩:=Zh8.1 h
 have key:∀n s st,Zcc body n s=some r→(∃ms ρk,ρk.Nodup∧I s ((st.mats ms).ren ρk))→Zi1 (swp tt S od b) Q n st:=by
  intro n
  induction n with
  | zero=>intro s st h;simp [Zcc] at h
  | succ n ih=>
   rintro s st hn ⟨ms,ρk,h1,h2⟩
   refine ⟨ms,ρk,h1,fun hw=>?_⟩
   simp only[Zcc] at hn
   split at hn
   ·simp at hn
   ·rename_i s' e
    refine QE b _ _ _ (fun ex st' h'=>?_) (step s _ _ h2 hw e (.inr ⟨_,rfl⟩))
    cases ex with
    | normal=>
     obtain ⟨s2,ms',ρ',h3,h4,h5⟩:=h'
     obtain rfl:=Ag h3
     exact ih _ st' hn ⟨ms',ρ',h4,h5⟩
    | exit _=>exact h'
    | ret=>exact h'
   ·rename_i r' e
    obtain rfl:=AU hn
    refine QE b _ _ _ (fun ex st' h'=>?_) (step s _ _ h2 hw e (.inl rfl))
    cases ex with
    | normal=>
     obtain ⟨s2,ms',ρ',h3,h4,h5⟩:=h'
     cases h3
    | exit _=>exact h'
    | ret=>exact h'
 exact ⟨n,key n s0 st hn ⟨ms,ρk,hρ,h0⟩⟩
theorem Zh {α σ ρ:Type} {b:Code} {Q:Ex→St→Prop} {st:St} {body:Nat→α→σ→Option (σ ⊕ ρ)} {fin:σ→Option ρ} {l:List α} {s0:σ} {r:ρ} (h:Zn body fin l 0 s0=some r) (I:Nat→σ→St→Prop) (ms:List (Bool × Nat × Nat)) (ρk:List Nat) (hρ:ρk.Nodup) (h0:I 0 s0 ((st.mats ms).ren ρk))
  (step:∀i x s st y,l[i]?=some x→I i s st→WF st→body i x s=some y→(y=.inr r∨∃s',y=.inl s')→swp tt S od b (Zfv (Zv0 (I (i+1)) y) Q) st)
  (last:∀s st,I l.length s st→WF st→fin s=some r→swp tt S od b (Zfv (fun _=>False) Q) st):swp tt S od (.loop b) Q st:=by
 have key:∀n i s st,l.length - i<n→i≤l.length→Zn body fin (l.drop i) i s=some r→(∃ms ρk,ρk.Nodup∧I i s ((st.mats ms).ren ρk))→Zi1 (swp tt S od b) Q n st:=by
  intro n
  induction n with
  | zero=>intro i s st h;omega
  | succ n ih=>
   rintro i s st hn hi hf ⟨ms,ρk,h1,h2⟩
   refine ⟨ms,ρk,h1,fun hw=>?_⟩
   by_cases hil:i<l.length
   ·have hx:l[i]?=some l[i]:=List.getElem?_eq_getElem hil
    rw [List.drop_eq_getElem_cons hil] at hf
    simp only[Zn] at hf
    split at hf
    ·simp at hf
    ·rename_i s' e
     refine QE b _ _ _ (fun ex st' h'=>?_) (step i _ s _ _ hx h2 hw e (.inr ⟨_,rfl⟩))
     cases ex with
     | normal=>
      obtain ⟨s2,ms',ρ',h3,h4,h5⟩:=h'
      obtain rfl:=Ag h3
      exact ih (i+1) _ st' (by omega) (by omega) hf ⟨ms',ρ',h4,h5⟩
     | exit _=>exact h'
     | ret=>exact h'
    ·rename_i r' e
     obtain rfl:=AU hf
     refine QE b _ _ _ (fun ex st' h'=>?_) (step i _ s _ _ hx h2 hw e (.inl rfl))
     cases ex with
     | normal=>
      obtain ⟨s2,ms',ρ',h3,h4,h5⟩:=h'
      cases h3
     | exit _=>exact h'
     | ret=>exact h'
   ·obtain rfl:i=l.length:=by omega
    rw [List.drop_length] at hf
    refine QE b _ _ _ (fun ex st' h'=>?_) (last s _ h2 hw hf)
    cases ex with
    | normal=>exact h'.elim
    | exit _=>exact h'
    | ret=>exact h'
 exact ⟨l.length+1,key _ 0 s0 st (by omega) (by omega) (by simpa using h) ⟨ms,ρk,hρ,h0⟩⟩
theorem Zb {f:FuncId} {key:Nat} {d:Option Nat} {K:St→Prop} {st:St} {vs:List SV} {l:List (Bool × List CT)} {res:List RT} (hs:S.r f l res) (hk:(!Zcg res||vs.all Zgk)=true∧(ZE key res).2.2≤key+16∧K ((st.put d (Zcf (ZE key res).1)).app (ZE key res).2.1)):Zo1 S f key d K st vs l:=⟨res,hs,hk.1,hk.2.1,hk.2.2⟩
theorem ZkJ {f:FuncId} {key:Nat} {d:Option Nat} {K:St→Prop} {st:St} {vs:List SV} {l:List (Bool × List CT)} {res:List RT} (hs:S.r f l res) (hk:(ZE key res).2.2≤key+16∧K ((st.put d (Zcf (ZE key res).1)).app (ZO st (Z1 vs)++(ZE key res).2.1))):ZuM S f key d K st vs l:=⟨res,hs,hk.1,hk.2⟩
theorem Zyh {f:FuncId} {key:Nat} {d:Option Nat} {K:St→Prop} {st:St} {vs:List SV} {l:List (Bool × List CT)} {kk vk:PK} {kv:List (Value × Value)} (hs:S.b f l (.map kk vk kv)) (hk:K ((st.put d (.p false [.row key])).app (ZO st (Z1 vs)++[(key,.map kk vk kv)]))):Zvd S f key d K st vs l:=⟨_,hs,hk⟩
theorem QC {f:FuncId} {key:Nat} {d:Option Nat} {K:St→Prop} {st:St} {vs:List SV} {kh:Nat × Zf7} {l:List (Bool × List CT)} {res:List RT} {h':Zf7} (hs:S.h f kh.2 l res h') (hk:(Z1 vs).all (fun j=>j != kh.1)=true∧(ZE key res).2.2≤key+16∧K ((st.put d (Zcf (ZE key res).1)).app (ZO st (Z1 vs)++((kh.1,Y9 h')::(ZE key res).2.1)))):Ztr S f key d K st vs kh l:=⟨res,h',hs,hk.1,hk.2.1,hk.2.2⟩
end
def sts:List (Nat × SV)→St→Prop
 | [],_=>True
 | p::r,st=>st.sl p.1=p.2∧sts r st
def obs:List Ob→Nat→St→Prop
 | [],k,st=>st.n=k
 | o::r,k,st=>st.ob k=o∧obs r (k+1) st
def IV (s:List (Nat × SV)) (o:List Ob) (st:St):Prop:=sts s st∧obs o 0 st
theorem Zvu (st:St):sts [] st=True:=yi rfl
theorem Zuc (st:St) (t:Nat) (v:SV) (r:List (Nat × SV)):sts ((t,v)::r) st=(st.sl t=v∧sts r st):=yi rfl
theorem Zuy (st:St) (k:Nat):obs [] k st=(st.n=k):=yi rfl
theorem ZsZ (st:St) (o:Ob) (k:Nat) (r:List Ob):obs (o::r) k st=(st.ob k=o∧obs r (k+1) st):=yi rfl
attribute [go_sem] IV Zuc Zvu ZsZ Zuy
theorem Zbi {α:Type} {g:α→List CT} (h:∀x,(g x).all CT.flat=true) (l:List α):Zal (l.map g)=true:=by
 simp only[Zal,List.all_map,AG]
 exact fun x _=>h x
def Zw (s:ByteArray):List CT:=[.str s]
def Z5 (n:Int):List CT:=[.int .i64 n]
def ZgO (b:Bool):List CT:=[.bool b]
def Zek (n:Int):List CT:=[.int .u8 n]
theorem Znj (s:ByteArray):Zw s=[.str s]:=yi rfl
theorem ZvT (n:Int):Z5 n=[.int .i64 n]:=yi rfl
theorem ZtG (b:Bool):ZgO b=[.bool b]:=yi rfl
theorem ZoG (n:Int):Zek n=[.int .u8 n]:=yi rfl
theorem ZsA (l:List ByteArray):Zal (l.map Zw)=true:=Zbi (fun _=>rfl) l
theorem Zmd (l:List Int):Zal (l.map Z5)=true:=Zbi (fun _=>rfl) l
theorem ZqK (l:List Bool):Zal (l.map ZgO)=true:=Zbi (fun _=>rfl) l
theorem Zp1 (l:List Int):Zal (l.map Zek)=true:=Zbi (fun _=>rfl) l
theorem Znm {s:ByteArray} {i:Nat} {x:UInt8} (h:s.data.toList[i]?=some x):s[i]?=some x:=by
 obtain ⟨h1,h2⟩:=A7.1 h
 have hs:i<s.size:=by rw [Ah];simpa using h1
 rw [getElem?_pos s i hs,←h2]
 rfl
theorem Zc (s:ByteArray):s.data.toList.length=s.size:=by rw [Ah,Array.length_toList]
theorem Zj {i n:Nat} (h:i<n) (hn:n≤9223372036854775807):IntKind.i64.wrap ((i:Int)+1)=((i+1:Nat):Int):=by
 rw [Xn (by omega) (by omega)];omega
theorem ZB {α:Type} {l:List α} {i:Nat} {x:α} (h:l[i]?=some x):decide ((i:Int)<(l.length:Int))=true:=by
 obtain ⟨h1,_⟩:=A7.1 h
 exact decide_eq_true (by omega)
theorem ZC {α:Type} {l:List α} {i:Nat} {x:α} (h:l[i]?=some x):(i:Int)<(l.length:Int):=of_decide_eq_true (ZB h)
theorem ZA {α:Type} {l:List α} {i:Nat} {x:α} (h:l[i]?=some x):i<l.length:=(A7.1 h).1
theorem Zz (n:Nat):decide ((n:Int)<(n:Int))=false:=decide_eq_false (by omega)
def sAt (s:ByteArray) (i:Int):Option UInt8:=if 0≤i then s[i.toNat]? else none
theorem ZpV {β:Type} {s:ByteArray} {i:Int} {f:UInt8→Option β} {r:β} (h:(sAt s i).bind f=some r):∃x,0≤i∧s[i.toNat]?=some x∧f x=some r:=by
 unfold sAt at h
 split at h
 ·rename_i hi
  obtain ⟨x,h1,h2⟩:=ZJ h
  exact ⟨x,hi,h1,h2⟩
 ·simp at h
theorem Zrk {s:ByteArray} {i:Nat} {x:UInt8} (h:s.data.toList[i]?=some x):i<s.size:=by
 have:=ZA h
 rwa [Zc] at this
theorem Zuf {s:ByteArray} {i:Nat} {x:UInt8} (h:s.data.toList[i]?=some x):decide ((i:Int)<(s.size:Int))=true:=by
 have:=Zrk h
 exact decide_eq_true (by omega)
theorem ZhE:∀{cs:List AV} {j:Nat} {x:AV},Zti cs→cs[j]?=some x→avD x
 | [],_,_,_,h=>by simp at h
 | _::_,0,_,h,e=>by simp at e;subst e;exact h.1
 | _::_,j+1,_,h,e=>ZhE h.2 (by simpa using e)
theorem Zrr:∀{cs:List CT} {j:Nat} {x:CT},ctsD cs→cs[j]?=some x→ctD x
 | [],_,_,_,h=>by simp at h
 | _::_,0,_,h,e=>by simp at e;subst e;exact h.1
 | _::_,j+1,_,h,e=>Zrr h.2 (by simpa using e)
section
variable {α:Type} {st:St} {t k j e m:Nat} {a:Bool} {d:Nat} {cs:List AV} {g:α→List CT} {l:List α} {s:ByteArray}
theorem WF.slotL (hW:WF st) (h:st.sl t=.p a cs) (hc:cs[j]?=some (.c (.sl e m (AB g l)))):l.length≤9223372036854775807:=by
 have:=(ZhE (hW.sl _ _ _ h) hc).1
 simpa only [AH] using this
theorem WF.slotD (hW:WF st) (h:st.sl t=.p a cs) (hc:cs[j]?=some (.c (.sl e m (AB g l)))):essD (AB g l):=(ZhE (hW.sl _ _ _ h) hc).2
theorem WF.slotS (hW:WF st) (h:st.sl t=.p a cs) (hc:cs[j]?=some (.c (.str s))):s.size≤9223372036854775807:=ZhE (hW.sl _ _ _ h) hc
theorem WF.boxL (hW:WF st) (h:st.ob k=.box t cs) (hc:cs[j]?=some (.c (.sl e m (AB g l)))):l.length≤9223372036854775807:=by
 have:=(ZhE (hW.box _ _ _ h) hc).1
 simpa only [AH] using this
theorem WF.boxD (hW:WF st) (h:st.ob k=.box t cs) (hc:cs[j]?=some (.c (.sl e m (AB g l)))):essD (AB g l):=(ZhE (hW.box _ _ _ h) hc).2
theorem WF.rowL (hW:WF st) (h:st.ob k=.row e m (AB g l) d):l.length≤9223372036854775807:=by
 have:=(hW.row _ _ _ _ _ h).1
 simpa only [AH] using this
theorem WF.elL {β:Type} {g':β→List CT} {l':List β} {i:Nat} {x:α} (h:essD (AB g l)) (hx:l[i]?=some x) (hc:(g x)[j]?=some (.sl e m (AB g' l'))):l'.length≤9223372036854775807:=by
 have:=(Zrr (Zra h hx) hc).1
 simpa only [AH] using this
end
/- maps of plain keys, as lists of pairs -/
def eSB (p:ByteArray × Bool):Value × Value:=(.string p.1,.bool p.2)
def eSS (p:ByteArray × ByteArray):Value × Value:=(.string p.1,.string p.2)
def eIB (p:Int × Bool):Value × Value:=(.int .i64 p.1,.bool p.2)
def Ze9 {α β:Type} [DecidableEq α]:List (α × β)→α→Option β
 | [],_=>none
 | p::r,k=>if k=p.1 then some p.2 else Ze9 r k
def Zeu {α β:Type} [DecidableEq α]:List (α × β)→α→β→List (α × β)
 | [],k,v=>[(k,v)]
 | p::r,k,v=>if k=p.1 then (k,v)::r else p::Zeu r k v
def QU {α β:Type} [DecidableEq α] (l:List (α × β)) (k:α) (z:β):β:=(Ze9 l k).getD z
def ZrF {α β:Type} [DecidableEq α] (l:List (α × β)) (k:α):Bool:=(Ze9 l k).isSome
section
variable {α β:Type} [DecidableEq α] {e:α × β→Value × Value} {fk:α→Value} {fv:β→Value}
theorem Zc8 (he:∀p,e p=(fk p.1,fv p.2)) (hk:∀a b,vEq (fk a) (fk b)=decide (a=b)):∀(l:List (α × β)) (k:α),Zjs (l.map e) (fk k)=(Ze9 l k).map fv
 | [],_=>rfl
 | p::r,k=>by
  simp only[AI,Zjs,Ze9,he,hk,decide_eq_true_eq]
  split
  ·rfl
  ·exact Zc8 he hk r k
theorem Zhx (he:∀p,e p=(fk p.1,fv p.2)) (hk:∀a b,vEq (fk a) (fk b)=decide (a=b)) (v:β):∀(l:List (α × β)) (k:α),Zd6 (l.map e) (fk k) (fv v)=(Zeu l k v).map e
 | [],k=>by simp [Zd6,Zeu,he]
 | p::r,k=>by
  simp only[AI,Zd6,Zeu,he,hk,decide_eq_true_eq]
  split
  ·simp [he]
  ·rw [Zhx he hk v r k];simp [he]
end
theorem ZmS (a b:ByteArray):vEq (.string a) (.string b)=decide (a=b):=rfl
theorem ZtU (a b:Int):vEq (.int .i64 a) (.int .i64 b)=decide (a=b):=by simp [vEq,BEq.beq]
theorem Zve (l:List (ByteArray × Bool)) (k:ByteArray):ZaV (l.map eSB) (.string k) (.c (.bool false))=.c (.bool (QU l k false)):=by
 simp only[ZaV,Zc8 (e:=eSB) (fk:=.string) (fv:=.bool) (fun _=>rfl) ZmS,QU]
 cases Ze9 l k<;>rfl
theorem ZuW (l:List (ByteArray × ByteArray)) (k:ByteArray):ZaV (l.map eSS) (.string k) (.c (.str ⟨#[]⟩))=.c (.str (QU l k ⟨#[]⟩)):=by
 simp only[ZaV,Zc8 (e:=eSS) (fk:=.string) (fv:=.string) (fun _=>rfl) ZmS,QU]
 cases Ze9 l k<;>rfl
theorem Zu6 (l:List (Int × Bool)) (k:Int):ZaV (l.map eIB) (.int .i64 k) (.c (.bool false))=.c (.bool (QU l k false)):=by
 simp only[ZaV,Zc8 (e:=eIB) (fk:=.int .i64) (fv:=.bool) (fun _=>rfl) ZtU,QU]
 cases Ze9 l k<;>rfl
theorem Zx9 (l:List (ByteArray × Bool)) (k:ByteArray):ZdR (l.map eSB) (.string k)=ZrF l k:=by
 simp only[ZdR,Zc8 (e:=eSB) (fk:=.string) (fv:=.bool) (fun _=>rfl) ZmS,ZrF]
 cases Ze9 l k<;>rfl
theorem Zw6 (l:List (ByteArray × ByteArray)) (k:ByteArray):ZdR (l.map eSS) (.string k)=ZrF l k:=by
 simp only[ZdR,Zc8 (e:=eSS) (fk:=.string) (fv:=.string) (fun _=>rfl) ZmS,ZrF]
 cases Ze9 l k<;>rfl
theorem Zzz (l:List (Int × Bool)) (k:Int):ZdR (l.map eIB) (.int .i64 k)=ZrF l k:=by
 simp only[ZdR,Zc8 (e:=eIB) (fk:=.int .i64) (fv:=.bool) (fun _=>rfl) ZtU,ZrF]
 cases Ze9 l k<;>rfl
theorem ZxN (l:List (ByteArray × Bool)) (k:ByteArray) (v:Bool):Zd6 (l.map eSB) (.string k) (.bool v)=(Zeu l k v).map eSB:=Zhx (fk:=.string) (fv:=.bool) (fun _=>rfl) ZmS v l k
theorem ZyD (l:List (ByteArray × ByteArray)) (k v:ByteArray):Zd6 (l.map eSS) (.string k) (.string v)=(Zeu l k v).map eSS:=Zhx (fk:=.string) (fv:=.string) (fun _=>rfl) ZmS v l k
theorem Zyt (l:List (Int × Bool)) (k:Int) (v:Bool):Zd6 (l.map eIB) (.int .i64 k) (.bool v)=(Zeu l k v).map eIB:=Zhx (fk:=.int .i64) (fv:=.bool) (fun _=>rfl) ZtU v l k
theorem Zko:∀l:List Int,ZdK (l.map Zek)=some l
 | []=>rfl
 | n::r=>by simp only[AI,ZoG,ZdK,Zko r,AQ]
theorem ZiX (st:St):∀l:List CT,ZT st (l.map Zi8)=some (l.map fun c=>(false,[c]))
 | []=>rfl
 | c::r=>by
  have h:=ZiX st r
  simp only[AI,ZT,h,Zi8,Zcd,Yq,Zbc,AM,AQ]
theorem ZA6:((0:Nat):Int)=0:=yi rfl
attribute [go_sem] ZiX Zve ZuW Zu6 Zx9 Zw6 Zzz ZxN ZyD Zyt Zko ZA6 Zy5 List.map_replicate Znj ZvT ZtG ZoG ZsA Zmd ZqK Zp1 List.map_append List.getElem?_map List.map_set List.map_take List.map_drop List.length_append List.length_set Aa
end
def toL (s:ByteArray):List UInt8:=s.data.toList
def ofL (l:List UInt8):ByteArray:=⟨l.toArray⟩
theorem Zh4 (s:ByteArray):ofL (toL s)=s:=by cases s;simp [ofL,toL]
theorem ZbD (l:List UInt8):toL (ofL l)=l:=by simp [ofL,toL]
def Zeg (l:List ByteArray):List ByteArray:=((l.map toL).mergeSort fun x y=>decide (x≤y)).map ofL
def Zjh (l:List Int):List Int:=l.mergeSort fun x y=>decide (x≤y)
def ZbK (l:List ByteArray):Option (List ByteArray):=chk (l.length≤4611686018427387903) (some (Zeg l))
def ZeC (l:List Int):Option (List Int):=chk (l.length≤4611686018427387903) (some (Zjh l))
noncomputable def Zno (n:Int):Option ByteArray:=chk (-9223372036854775808≤n∧n≤9223372036854775807) (some (ofL (Lib.itoa n)))
def Zd1 (a b:ByteArray):Option Int:=some (Lib.compareBytes (toL a) (toL b))
def Zkj (s:ByteArray):Option (Int × Bool):=chk (s.size≤18) (some (match Lib.atoi (toL s) with | some n=>(n,true) | none=>(0,false)))
section
set_option linter.unusedVariables false
structure Xd where
 rule:ByteArray
 token:Zt
structure Zac where
 rule:ByteArray
 facts:(List Zd)
structure ZF where
 b:(List Int)
 i:Int
 h:Int
noncomputable def Zb4 (a_0:(List ByteArray)) (a:(List ByteArray)):Option Bool:=
 if (((a_0.length:Nat):Int) != ((a.length:Nat):Int))=true then
  some false
 else
  Zn (σ:=Unit)
   (fun (b:Nat) (c:ByteArray) _=>
    (atI a ((b:Nat):Int)).bind fun d=>
    if (sEq c d)=true then
     some (.inl ())
    else
     some (.inr false))
   (fun _=>
    some true)
   a_0 0 ()
noncomputable def Zbe (a_0:Zd) (b_1:Zd):Option Bool:=
 if (sEq a_0.rel b_1.rel)=true then
  (Zb4 a_0.args b_1.args).bind fun a=>
  some a
 else
  some false
noncomputable def Z8 (l_0:(List Zd)) (f_1:Zd):Option Int:=
 Zn (σ:=Unit)
  (fun (i6:Nat) (a:Zd) _=>
   (Zbe a f_1).bind fun b=>
   if b=true then
    some (.inr ((i6:Nat):Int))
   else
    some (.inl ()))
  (fun _=>
   some (-1))
  l_0 0 ()
noncomputable def Zaw (l_0:(List ByteArray)):Option (List ByteArray):=
 chk (l_0.length≤1073741824) <|
 some l_0
noncomputable def Yl (f_0:Zd):Option Zd:=
 (Zaw f_0.args).bind fun a=>
 some ({ rel:=f_0.rel,args:=a }:Zd)
noncomputable def X5 (s_0:ByteArray):Option Bool:=
 if (decide (((s_0.size:Nat):Int)<1))=true then
  some false
 else
  if (decide (8<((s_0.size:Nat):Int)))=true then
   some false
  else
   Zn (σ:=Unit)
    (fun (i4:Nat) (a:UInt8) _=>
     if (decide (((a.toNat:Nat):Int)<97))=true then
      if (decide (((a.toNat:Nat):Int)<48))=true then
       some (.inr false)
      else
       if (decide (57<((a.toNat:Nat):Int)))=true then
        some (.inr false)
       else
        some (.inl ())
     else
      if (decide (122<((a.toNat:Nat):Int)))=true then
       if (decide (((a.toNat:Nat):Int)<48))=true then
        some (.inr false)
       else
        if (decide (57<((a.toNat:Nat):Int)))=true then
         some (.inr false)
        else
         some (.inl ())
      else
       some (.inl ()))
    (fun _=>
     some true)
    s_0.data.toList 0 ()
noncomputable def Zdg (s_0:ByteArray):Option Bool:=
 (X5 s_0).bind fun a=>
 if a=true then
  (sAt s_0 0).bind fun b=>
  some (decide (97≤((b.toNat:Nat):Int)))
 else
  some false
noncomputable def Zcp (a:ByteArray):Option Bool:=
 if (decide (1<((a.size:Nat):Int)))=true then
  (sAt a 0).bind fun b=>
  if (((b.toNat:Nat):Int)==63)=true then
   chk (0≤1∧1≤((a.size:Nat):Int)) <|
   (X5 (a.extract (A0 1) a.size)).bind fun c=>
   some c
  else
   some false
 else
  some false
noncomputable def Qx (s_0:ByteArray):Option Bool:=
 (X5 s_0).bind fun a=>
 if a=true then
  some true
 else
  (Zcp s_0).bind fun b=>
  some b
noncomputable def YR (p_0:Zv):Option Bool:=
 (Zdg p_0.rel).bind fun a=>
 if a=true then
  if (decide (3<((p_0.args.length:Nat):Int)))=true then
   some false
  else
   Zn (σ:=Unit)
    (fun (i7:Nat) (b:ByteArray) _=>
     (Qx b).bind fun c=>
     if c=true then
      some (.inl ())
     else
      some (.inr false))
    (fun _=>
     some true)
    p_0.args 0 ()
 else
  some false
noncomputable def Xq (a:(List Zp)):Option Bool:=
 if (decide (6<((a.length:Nat):Int)))=true then
  some false
 else
  Zn (σ:=Unit)
   (fun (c:Nat) (b:Zp) _=>
    (Zcp b.var).bind fun d=>
    if d=true then
     (X5 b.value).bind fun e=>
     if e=true then
      if (decide (0<((c:Nat):Int)))=true then
       (atI a (IntKind.i64.wrap (((c:Nat):Int) - 1))).bind fun f=>
       if (sLt f.var b.var)=true then
        some (.inl ())
       else
        some (.inr false)
      else
       some (.inl ())
     else
      some (.inr false)
    else
     some (.inr false))
   (fun _=>
    some true)
   a 0 ()
noncomputable def Zej (f_0:Zd):Option Bool:=
 (Zdg f_0.rel).bind fun a=>
 if a=true then
  if (decide (3<((f_0.args.length:Nat):Int)))=true then
   some false
  else
   Zn (σ:=Unit)
    (fun (i7:Nat) (b:ByteArray) _=>
     (X5 b).bind fun c=>
     if c=true then
      some (.inl ())
     else
      some (.inr false))
    (fun _=>
     some true)
    f_0.args 0 ()
 else
  some false
noncomputable def ZaB (b_0:(List Zp)):Option (List Zp):=
 chk (b_0.length≤1073741824) <|
 some b_0
noncomputable def ZaC (b_0:(List Zp)) (term_1:ByteArray):Option (ByteArray × Bool):=
 (X5 term_1).bind fun b=>
 if b=true then
  some (term_1,true)
 else
  (Zcp term_1).bind fun c=>
  if c=true then
   Zn (σ:=Unit)
    (fun (i6:Nat) (a:Zp) _=>
     if (sEq a.var term_1)=true then
      some (.inr (a.value,true))
     else
      some (.inl ()))
    (fun _=>
     some ((⟨#[]⟩),false))
    b_0 0 ()
  else
   some ((⟨#[]⟩),false)
noncomputable def Zf0 (append_0:(List Zp)) (b:ByteArray) (a_2:ByteArray):Option ((List Zp) × Bool):=
 (Xq append_0).bind fun f=>
 if f=true then
  (Zcp b).bind fun g=>
  if g=true then
   (X5 a_2).bind fun i=>
   if i=true then
    (ZaC append_0 b).bind fun e=>
    if e.2=true then
     if (sEq e.1 a_2)=true then
      (ZaB append_0).bind fun j=>
      some (j,true)
     else
      some ([],false)
    else
     if (decide (6≤((append_0.length:Nat):Int)))=true then
      some ([],false)
     else
      Zn (σ:=(List Zp) × Bool)
       (fun (i13:Nat) (c:Zp) s=>
        match s with
        | (a,d)=>
        if d=true then
         chk (a.length+1≤1073741824) <|
         some (.inl ((a++[c]),true))
        else
         if (sLt c.var b||sEq c.var b)=true then
          chk (a.length+1≤1073741824) <|
          some (.inl ((a++[c]),false))
         else
          chk (a.length+1≤1073741824) <|
          chk (a.length+1+1≤1073741824) <|
          some (.inl (((a++[({ var:=b,value:=a_2 }:Zp)])++[c]),true)))
       (fun s=>
        match s with
        | (a,d)=>
        if d=true then
         some (a,true)
        else
         chk (a.length+1≤1073741824) <|
         some ((a++[({ var:=b,value:=a_2 }:Zp)]),true))
       append_0 0 ([],false)
   else
    some ([],false)
  else
   some ([],false)
 else
  some ([],false)
noncomputable def ZaF (append_0:Zv) (a:Zd) (a_2:(List Zp)):Option ((List Zp) × Bool):=
 (YR append_0).bind fun f=>
 if f=true then
  (Zej a).bind fun g=>
  if g=true then
   (Xq a_2).bind fun i=>
   if i=true then
    if (sEq append_0.rel a.rel)=true then
     if (((append_0.args.length:Nat):Int) != ((a.args.length:Nat):Int))=true then
      some ([],false)
     else
      (ZaB a_2).bind fun j=>
      Zn (σ:=(List Zp))
       (fun (d:Nat) (c:ByteArray) b=>
        (X5 c).bind fun k=>
        if k=true then
         (atI a.args ((d:Nat):Int)).bind fun l=>
         if (sEq c l)=true then
          some (.inl b)
         else
          some (.inr ([],false))
        else
         (atI a.args ((d:Nat):Int)).bind fun m=>
         (Zf0 b c m).bind fun e=>
         if e.2=true then
          some (.inl e.1)
         else
          some (.inr ([],false)))
       (fun b=>
        some (b,true))
       append_0.args 0 j
    else
     some ([],false)
   else
    some ([],false)
  else
   some ([],false)
 else
  some ([],false)
noncomputable def Xc (p_0:Zv) (b_1:(List Zp)) (facts_2:(List Zd)):Option (List Zd):=
 Zn (σ:=(List Zd))
  (fun (i12:Nat) (b:Zd) a=>
   (ZaF p_0 b b_1).bind fun c=>
   if c.2=true then
    (Yl b).bind fun d=>
    chk (a.length+1≤1073741824) <|
    some (.inl (a++[d]))
   else
    some (.inl a))
  (fun a=>
   some a)
  facts_2 0 []
noncomputable def YS (p_0:Zv):Option Bool:=
 if (sEq p_0.rel ⟨#[]⟩)=true then
  some (((p_0.args.length:Nat):Int)==0)
 else
  some false
noncomputable def Zdj (x_0:Zr):Option Bool:=
 if (x_0.kind==1)=true then
  (YR x_0.pattern).bind fun a=>
  if a=true then
   if (sEq x_0.left ⟨#[]⟩)=true then
    some (sEq x_0.right ⟨#[]⟩)
   else
    some false
  else
   some false
 else
  if (x_0.kind==2)=true then
   (YR x_0.pattern).bind fun b=>
   if b=true then
    if (sEq x_0.left ⟨#[]⟩)=true then
     some (sEq x_0.right ⟨#[]⟩)
    else
     some false
   else
    some false
  else
   if (x_0.kind==3)=true then
    (Qx x_0.left).bind fun c=>
    if c=true then
     (Qx x_0.right).bind fun d=>
     if d=true then
      (YS x_0.pattern).bind fun e=>
      some e
     else
      some false
    else
     some false
   else
    if (x_0.kind==4)=true then
     (Qx x_0.left).bind fun f=>
     if f=true then
      (Qx x_0.right).bind fun g=>
      if g=true then
       (YS x_0.pattern).bind fun i=>
       some i
      else
       some false
     else
      some false
    else
     if (x_0.kind==5)=true then
      (Qx x_0.left).bind fun j=>
      if j=true then
       (Qx x_0.right).bind fun k=>
       if k=true then
        (YS x_0.pattern).bind fun l=>
        some l
       else
        some false
      else
       some false
     else
      some false
noncomputable def Zhs (x_0:Zr):Option Bool:=
 (Zdj x_0).bind fun a=>
 if a=true then
  some (decide (3≤x_0.kind))
 else
  some false
noncomputable def Zav (n_0:Int):Option ByteArray:=
 (Zno n_0).bind fun a=>
 some a
noncomputable def QD (s_0:ByteArray):Option (Int × Bool):=
 if (decide (((s_0.size:Nat):Int)<1))=true then
  some (0,false)
 else
  if (decide (4<((s_0.size:Nat):Int)))=true then
   some (0,false)
  else
   (Zkj s_0).bind fun a=>
   if a.2=true then
    if (decide (a.1<0))=true then
     some (0,false)
    else
     if (decide (9999<a.1))=true then
      some (0,false)
     else
      (Zav a.1).bind fun b=>
      if (sEq b s_0)=true then
       some (a.1,true)
      else
       some (0,false)
   else
    some (0,false)
noncomputable def ZbM (append_0:Zr) (String_1:(List Zp)):Option Bool:=
 (Zhs append_0).bind fun e=>
 if e=true then
  (Xq String_1).bind fun f=>
  if f=true then
   (ZaC String_1 append_0.left).bind fun a=>
   (ZaC String_1 append_0.right).bind fun b=>
   if a.2=true then
    if b.2=true then
     if (append_0.kind==3)=true then
      some (sEq a.1 b.1)
     else
      if (append_0.kind==4)=true then
       some (!(sEq a.1 b.1))
      else
       (QD a.1).bind fun c=>
       (QD b.1).bind fun d=>
       if c.2=true then
        if d.2=true then
         some (decide (c.1<d.1))
        else
         some false
       else
        some false
    else
     some false
   else
    some false
  else
   some false
 else
  some false
noncomputable def Zb5 (x_0:Zr) (a:(List Zp)) (b:(List Zd)):Option Bool:=
 (Zdj x_0).bind fun c=>
 if c=true then
  (Xq a).bind fun d=>
  if d=true then
   if (x_0.kind==1)=true then
    (Xc x_0.pattern a b).bind fun e=>
    some (decide (0<((e.length:Nat):Int)))
   else
    if (x_0.kind==2)=true then
     (Xc x_0.pattern a b).bind fun f=>
     some (((f.length:Nat):Int)==0)
    else
     (ZbM x_0 a).bind fun g=>
     some g
  else
   some false
 else
  some false
noncomputable def ZaG (l_0:(List Zd)):Option (List Zd):=
 Zn (σ:=(List Zd))
  (fun (i9:Nat) (b:Zd) a=>
   (Yl b).bind fun c=>
   chk (a.length+1≤1073741824) <|
   some (.inl (a++[c])))
  (fun a=>
   some a)
  l_0 0 []
noncomputable def Zam (append_0:(List Zr)) (String_1:(List Zd)):Option (List Zt):=
 Zn (σ:=(List Zt))
  (fun (i246:Nat) (d:Zr) e=>
   Zn (σ:=(List Zt))
    (fun (i322:Nat) (c:Zt) a=>
     if (d.kind != 1)=true then
      (Zb5 d c.binding String_1).bind fun j=>
      if j=true then
       chk (a.length+1≤1073741824) <|
       some (.inl (a++[c]))
      else
       some (.inl a)
     else
      Zn (σ:=(List Zt))
       (fun (i335:Nat) (f:Zd) b=>
        (ZaF d.pattern f c.binding).bind fun g=>
        if g.2=true then
         (ZaG c.facts).bind fun i=>
         (Yl f).bind fun k=>
         chk (i.length+1≤1073741824) <|
         chk (b.length+1≤1073741824) <|
         some (.inl (b++[({ facts:=(i++[k]),binding:=g.1 }:Zt)]))
        else
         some (.inl b))
       (fun b=>
        some (.inl b))
       String_1 0 a)
    (fun a=>
     some (.inl a))
    e 0 [])
  (fun e=>
   some e)
  append_0 0 ([({ facts:=[],binding:=[] }:Zt)])
noncomputable def Xw (a_0:Int) (b_1:Int):Option Int:=
 if (decide (a_0<b_1))=true then
  some (-1)
 else
  if (decide (b_1<a_0))=true then
   some 1
  else
   some 0
noncomputable def Qj (a_0:ByteArray) (b_1:ByteArray):Option Int:=
 (QD a_0).bind fun b=>
 (QD b_1).bind fun a=>
 if b.2=true then
  if a.2=true then
   (Xw b.1 a.1).bind fun c=>
   some c
  else
   some (-1)
 else
  if a.2=true then
   some 1
  else
   (Zd1 a_0 b_1).bind fun d=>
   some d
noncomputable def XJ (a_0:Zd) (a:Zd):Option Int:=
 (Zd1 a_0.rel a.rel).bind fun b=>
 if (b != 0)=true then
  some b
 else
  Zn (σ:=Unit)
   (fun (c:Nat) (e:ByteArray) _=>
    if (decide (((c:Nat):Int)<((a.args.length:Nat):Int)))=true then
     (atI a.args ((c:Nat):Int)).bind fun f=>
     (Qj e f).bind fun d=>
     if (d != 0)=true then
      some (.inr d)
     else
      some (.inl ())
    else
     (Xw ((a_0.args.length:Nat):Int) ((a.args.length:Nat):Int)).bind fun g=>
     some (.inr g))
   (fun _=>
    (Xw ((a_0.args.length:Nat):Int) ((a.args.length:Nat):Int)).bind fun i=>
    some i)
   a_0.args 0 ()
noncomputable def XF (l_0:(List Zd)) (f_1:Zd):Option (List Zd):=
 Zn (σ:=(List Zd) × Bool)
  (fun (i21:Nat) (b:Zd) s=>
   match s with
   | (a,c)=>
   if c=true then
    (Yl b).bind fun d=>
    chk (a.length+1≤1073741824) <|
    some (.inl ((a++[d]),true))
   else
    (XJ b f_1).bind fun e=>
    if (decide (0<e))=true then
     (Yl f_1).bind fun f=>
     chk (a.length+1≤1073741824) <|
     (Yl b).bind fun g=>
     chk (a.length+1+1≤1073741824) <|
     some (.inl (((a++[f])++[g]),true))
    else
     (Yl b).bind fun i=>
     chk (a.length+1≤1073741824) <|
     some (.inl ((a++[i]),false)))
  (fun s=>
   match s with
   | (a,c)=>
   if c=true then
    some a
   else
    (Yl f_1).bind fun j=>
    chk (a.length+1≤1073741824) <|
    some (a++[j]))
  l_0 0 ([],false)
noncomputable def YA (r_0:Zf):Option (List Zr):=
 Zn (σ:=(List Zr))
  (fun (i7:Nat) (b:Zr) a=>
   if (b.kind != 2)=true then
    chk (a.length+1≤1073741824) <|
    some (.inl (a++[b]))
   else
    some (.inl a))
  (fun a=>
   some a)
  r_0.cond 0 []
noncomputable def XZ (p_0:Zv) (b_1:(List Zp)):Option (Zd × Bool):=
 (YR p_0).bind fun c=>
 if c=true then
  (Xq b_1).bind fun d=>
  if d=true then
   Zn (σ:=(List ByteArray))
    (fun (i11:Nat) (e:ByteArray) a=>
     (ZaC b_1 e).bind fun b=>
     if b.2=true then
      chk (a.length+1≤1073741824) <|
      some (.inl (a++[b.1]))
     else
      some (.inr (({ rel:=(⟨#[]⟩),args:=[] }:Zd),false)))
    (fun a=>
     some (({ rel:=p_0.rel,args:=a }:Zd),true))
    p_0.args 0 []
  else
   some (({ rel:=(⟨#[]⟩),args:=[] }:Zd),false)
 else
  some (({ rel:=(⟨#[]⟩),args:=[] }:Zd),false)
noncomputable def Qn (l_0:(List ByteArray)):Option (List ByteArray):=
 Zn (σ:=(List ByteArray))
  (fun (i9:Nat) (b:ByteArray) a=>
   (Zcp b).bind fun c=>
   if c=true then
    chk (a.length+1≤1073741824) <|
    some (.inl (a++[b]))
   else
    some (.inl a))
  (fun a=>
   some a)
  l_0 0 []
noncomputable def Yb (l_0:(List ByteArray)):Option (List ByteArray):=
 chk (l_0.length≤1073741824) <|
 (ZbK l_0).bind fun c=>
 Zn (σ:=(List ByteArray))
  (fun (b:Nat) (d:ByteArray) a=>
   if (((b:Nat):Int)==0)=true then
    chk (a.length+1≤1073741824) <|
    some (.inl (a++[d]))
   else
    chk (0≤(IntKind.i64.wrap (((b:Nat):Int) - 1))∧(IntKind.i64.wrap (((b:Nat):Int) - 1))<((c.length:Nat):Int)) <|
    (c[(A0 (IntKind.i64.wrap (((b:Nat):Int) - 1)))]?).bind fun e=>
    if (sEq e d)=true then
     some (.inl a)
    else
     chk (a.length+1≤1073741824) <|
     some (.inl (a++[d])))
  (fun a=>
   some a)
  c 0 []
noncomputable def Qu (r_0:Zf) (n_1:Int):Option (List ByteArray):=
 Zn (σ:=(List ByteArray))
  (fun (i10:Nat) (b:Zr) a=>
   if (decide (((i10:Nat):Int)<n_1))=true then
    if (b.kind==1)=true then
     (Qn b.pattern.args).bind fun c=>
     chk (a.length+c.length≤1073741824) <|
     some (.inl (a++c))
    else
     some (.inl a)
   else
    some (.inl a))
  (fun a=>
   (Yb a).bind fun d=>
   some d)
  r_0.cond 0 []
noncomputable def YV (l_0:(List ByteArray)) (s_1:ByteArray):Option Bool:=
 Zn (σ:=Unit)
  (fun (i4:Nat) (a:ByteArray) _=>
   if (sEq a s_1)=true then
    some (.inr true)
   else
    some (.inl ()))
  (fun _=>
   some false)
  l_0 0 ()
noncomputable def Zgs (x_0:Zr):Option (List ByteArray):=
 (Zaw x_0.pattern.args).bind fun a=>
 chk (a.length+2≤1073741824) <|
 some (a++[x_0.left,x_0.right])
noncomputable def X1 (x_0:Zr):Option (List ByteArray):=
 (Zgs x_0).bind fun a=>
 (Qn a).bind fun b=>
 (Yb b).bind fun c=>
 some c
noncomputable def Xm (r_0:Zf) (k_1:Int) (a:ByteArray):Option Bool:=
 Zn (σ:=Unit)
  (fun (i16:Nat) (b:Zr) _=>
   if (((i16:Nat):Int) != k_1)=true then
    (X1 b).bind fun c=>
    (YV c a).bind fun d=>
    if d=true then
     some (.inr true)
    else
     some (.inl ())
   else
    some (.inl ()))
  (fun _=>
   Zn (σ:=Unit)
    (fun (i25:Nat) (e:Zx) _=>
     (YV e.pattern.args a).bind fun f=>
     if f=true then
      some (.inr true)
     else
      some (.inl ()))
    (fun _=>
     some false)
    r_0.thn 0 ())
  r_0.cond 0 ()
noncomputable def Zbs (a:Zf) (b:Int):Option Bool:=
 (atI a.cond b).bind fun c=>
 (Qu a b).bind fun e=>
 (X1 c).bind fun f=>
 Zn (σ:=Unit)
  (fun (i11:Nat) (d:ByteArray) _=>
   if (c.kind==1)=true then
    some (.inl ())
   else
    (YV e d).bind fun g=>
    if g=true then
     some (.inl ())
    else
     if (c.kind != 2)=true then
      some (.inr false)
     else
      (Xm a b d).bind fun i=>
      if i=true then
       some (.inr false)
      else
       some (.inl ()))
  (fun _=>
   some true)
  f 0 ()
noncomputable def Zc5 (a_0:Zx):Option Bool:=
 if (a_0.kind==1)=true then
  (YR a_0.pattern).bind fun a=>
  some a
 else
  if (a_0.kind==2)=true then
   (YR a_0.pattern).bind fun b=>
   some b
  else
   if (a_0.kind==3)=true then
    (YS a_0.pattern).bind fun c=>
    some c
   else
    some false
noncomputable def Za4 (l_0:(List Zr)):Option (List ByteArray):=
 Zn (σ:=(List ByteArray))
  (fun (i9:Nat) (c:Zr) a=>
   (X1 c).bind fun b=>
   chk (a.length+b.length≤1073741824) <|
   some (.inl (a++b)))
  (fun a=>
   some a)
  l_0 0 []
noncomputable def ZdT (append_0:Zf):Option Bool:=
 (Zdg append_0.name).bind fun c=>
 if c=true then
  if (decide (append_0.priority<0))=true then
   some false
  else
   if (decide (9<append_0.priority))=true then
    some false
   else
    if (decide (((append_0.cond.length:Nat):Int)<1))=true then
     some false
    else
     if (decide (4<((append_0.cond.length:Nat):Int)))=true then
      some false
     else
      if (decide (((append_0.thn.length:Nat):Int)<1))=true then
       some false
      else
       if (decide (2<((append_0.thn.length:Nat):Int)))=true then
        some false
       else
        Zn (σ:=Unit)
         (fun (i50:Nat) (a:Zr) _=>
          (Zdj a).bind fun d=>
          if d=true then
           if (((i50:Nat):Int)==0)=true then
            if (a.kind != 1)=true then
             some (.inr false)
            else
             (Zbs append_0 ((i50:Nat):Int)).bind fun e=>
             if e=true then
              some (.inl ())
             else
              some (.inr false)
           else
            (Zbs append_0 ((i50:Nat):Int)).bind fun f=>
            if f=true then
             some (.inl ())
            else
             some (.inr false)
          else
           some (.inr false))
         (fun _=>
          (Qu append_0 ((append_0.cond.length:Nat):Int)).bind fun g=>
          Zn (σ:=Unit)
           (fun (i81:Nat) (b:Zx) _=>
            (Zc5 b).bind fun i=>
            if i=true then
             (Qn b.pattern.args).bind fun j=>
             Zn (σ:=Unit)
              (fun (i90:Nat) (k:ByteArray) _=>
               (YV g k).bind fun l=>
               if l=true then
                some (.inl ())
               else
                some (.inr (.inr false)))
              (fun _=>
               some (.inl ()))
              j 0 ()
            else
             some (.inr false))
           (fun _=>
            (Za4 append_0.cond).bind fun m=>
            (Yb m).bind fun o=>
            some (decide (((o.length:Nat):Int)≤6)))
           append_0.thn 0 ())
         append_0.cond 0 ()
 else
  some false
noncomputable def Zao (l_0:(List Zf)) (name_1:ByteArray):Option Int:=
 Zn (σ:=Unit)
  (fun (i4:Nat) (a:Zf) _=>
   if (sEq a.name name_1)=true then
    some (.inr ((i4:Nat):Int))
   else
    some (.inl ()))
  (fun _=>
   some (-1))
  l_0 0 ()
noncomputable def ZcN (l_0:(List Zf)):Option Bool:=
 if (decide (6<((l_0.length:Nat):Int)))=true then
  some false
 else
  Zn (σ:=Unit)
   (fun (i8:Nat) (a:Zf) _=>
    (ZdT a).bind fun b=>
    if b=true then
     (Zao l_0 a.name).bind fun c=>
     if (c != ((i8:Nat):Int))=true then
      some (.inr false)
     else
      some (.inl ())
    else
     some (.inr false))
   (fun _=>
    some true)
   l_0 0 ()
noncomputable def Zc0 (r_0:Zf):Option Bool:=
 Zn (σ:=Unit)
  (fun (i4:Nat) (a:Zx) _=>
   if (a.kind != 1)=true then
    some (.inr false)
   else
    some (.inl ()))
  (fun _=>
   some true)
  r_0.thn 0 ()
noncomputable def ZbU (r_0:Zf):Option Bool:=
 (ZdT r_0).bind fun b=>
 if b=true then
  (Zc0 r_0).bind fun c=>
  if c=true then
   Zn (σ:=Unit)
    (fun (i26:Nat) (a:Zr) _=>
     if (a.kind != 2)=true then
      some (.inl ())
     else
      (Qu r_0 ((i26:Nat):Int)).bind fun d=>
      (X1 a).bind fun e=>
      Zn (σ:=Unit)
       (fun (i35:Nat) (f:ByteArray) _=>
        (YV d f).bind fun g=>
        if g=true then
         some (.inl ())
        else
         some (.inr (.inr false)))
       (fun _=>
        some (.inl ()))
       e 0 ())
    (fun _=>
     some true)
    r_0.cond 0 ()
  else
   some false
 else
  some false
noncomputable def XY (r_0:Zf):Option (List ByteArray):=
 Zn (σ:=(List ByteArray))
  (fun (i7:Nat) (b:Zx) a=>
   if (b.kind==1)=true then
    chk (a.length+1≤1073741824) <|
    some (.inl (a++[b.pattern.rel]))
   else
    if (b.kind==2)=true then
     chk (a.length+1≤1073741824) <|
     some (.inl (a++[b.pattern.rel]))
    else
     some (.inl a))
  (fun a=>
   (Yb a).bind fun c=>
   some c)
  r_0.thn 0 []
noncomputable def Zbm (r_0:Zf):Option (List ByteArray):=
 Zn (σ:=(List ByteArray))
  (fun (i7:Nat) (b:Zr) a=>
   if (b.kind==1)=true then
    chk (a.length+1≤1073741824) <|
    some (.inl (a++[b.pattern.rel]))
   else
    if (b.kind==2)=true then
     chk (a.length+1≤1073741824) <|
     some (.inl (a++[b.pattern.rel]))
    else
     some (.inl a))
  (fun a=>
   (Yb a).bind fun c=>
   some c)
  r_0.cond 0 []
noncomputable def ZcF (rules_0:(List Zf)) (a_1:ByteArray):Option (List (ByteArray × Bool)):=
 Y5 (σ:=(List (ByteArray × Bool)) × (List ByteArray))
  (fun s=>
   match s with
   | (g,a)=>
   if (decide (0<((a.length:Nat):Int)))=true then
    chk (0≤0∧0<((a.length:Nat):Int)) <|
    (a[(A0 0)]?).bind fun j=>
    chk (0≤1∧1≤((a.length:Nat):Int)) <|
    Zn (σ:=(List (ByteArray × Bool)) × (List ByteArray))
     (fun (i72:Nat) (i:Zf) s=>
      match s with
      | (d,e)=>
      (XY i).bind fun k=>
      (YV k j).bind fun l=>
      if l=true then
       (Zbm i).bind fun m=>
       Zn (σ:=(List (ByteArray × Bool)) × (List ByteArray))
        (fun (i83:Nat) (f:ByteArray) s=>
         match s with
         | (b,c)=>
         if (QU b f false)=true then
          some (.inl (b,c))
         else
          chk (c.length+1≤1073741824) <|
          some (.inl ((Zeu b f true),(c++[f]))))
        (fun s=>
         match s with
         | (b,c)=>
         some (.inl (b,c)))
        m 0 (d,e)
      else
       some (.inl (d,e)))
     (fun s=>
      match s with
      | (d,e)=>
      some (.inl (d,e)))
     rules_0 0 (g,(List.drop (A0 1) a))
   else
    some (.inr g))
  ([],[a_1])
noncomputable def ZaP (rules_0:(List Zf)):Option Bool:=
 (ZcN rules_0).bind fun d=>
 if d=true then
  Zn (σ:=Unit)
   (fun (i59:Nat) (a:Zf) _=>
    (ZbU a).bind fun e=>
    if e=true then
     Zn (σ:=Unit)
      (fun (i79:Nat) (b:Zr) _=>
       if (b.kind != 2)=true then
        some (.inl ())
       else
        (ZcF rules_0 b.pattern.rel).bind fun f=>
        (XY a).bind fun g=>
        Zn (σ:=Unit)
         (fun (i86:Nat) (c:ByteArray) _=>
          if (sEq c b.pattern.rel)=true then
           some (.inr (.inr (.inr false)))
          else
           if (QU f c false)=true then
            some (.inr (.inr (.inr false)))
           else
            some (.inl ()))
         (fun _=>
          some (.inl ()))
         g 0 ())
      (fun _=>
       some (.inl ()))
      a.cond 0 ()
    else
     some (.inr false))
   (fun _=>
    some true)
   rules_0 0 ()
 else
  some false
noncomputable def ZcA (a:(List Zd)):Option Bool:=
 if (decide (24<((a.length:Nat):Int)))=true then
  some false
 else
  Zn (σ:=Unit)
   (fun (b:Nat) (c:Zd) _=>
    (Zej c).bind fun d=>
    if d=true then
     if (decide (0<((b:Nat):Int)))=true then
      (atI a (IntKind.i64.wrap (((b:Nat):Int) - 1))).bind fun e=>
      (XJ e c).bind fun f=>
      if (decide (0≤f))=true then
       some (.inr false)
      else
       some (.inl ())
     else
      some (.inl ())
    else
     some (.inr false))
   (fun _=>
    some true)
   a 0 ()
noncomputable def Yf (append_0:(List Zf)) (String_1:(List Zd)):Option ((List Zd) × Bool):=
 (ZaP append_0).bind fun k=>
 if k=true then
  (ZcA String_1).bind fun l=>
  if l=true then
   (ZaG String_1).bind fun m=>
   Y5 (σ:=(List Zd) × Bool)
    (fun s=>
     match s with
     | (g,o)=>
     if o=true then
      Zn (σ:=(List Zd) × Bool)
       (fun (i423:Nat) (i:Zf) s=>
        match s with
        | (b,c)=>
        (YA i).bind fun p=>
        (Zam p b).bind fun q=>
        Zn (σ:=(List Zd) × Bool)
         (fun (i480:Nat) (t:Zt) s=>
          match s with
          | (d,e)=>
          Zn (σ:=(List Zd) × Bool)
           (fun (i501:Nat) (u:Zx) s=>
            match s with
            | (a,f)=>
            (XZ u.pattern t.binding).bind fun j=>
            (Z8 a j.1).bind fun v=>
            if (decide (0≤v))=true then
             some (.inl (a,f))
            else
             if (decide (24≤((a.length:Nat):Int)))=true then
              some (.inr (.inr (.inr (.inr ([],false)))))
             else
              (XF a j.1).bind fun w=>
              some (.inl (w,true)))
           (fun s=>
            match s with
            | (a,f)=>
            some (.inl (a,f)))
           i.thn 0 (d,e))
         (fun s=>
          match s with
          | (d,e)=>
          some (.inl (d,e)))
         q 0 (b,c))
       (fun s=>
        match s with
        | (b,c)=>
        some (.inl (b,c)))
       append_0 0 (g,false)
     else
      some (.inr (g,true)))
    (m,true)
  else
   some ([],false)
 else
  some ([],false)
noncomputable def ZfM (l_0:(List Int)) (n_1:Int):Option Bool:=
 Zn (σ:=Unit)
  (fun (i4:Nat) (a:Int) _=>
   if (a==n_1)=true then
    some (.inr true)
   else
    some (.inl ()))
  (fun _=>
   some false)
  l_0 0 ()
noncomputable def Zcr (facts_0:(List Zd)) (l_1:(List Zd)):Option (List Int):=
 Zn (σ:=(List Int))
  (fun (i16:Nat) (c:Zd) a=>
   (Z8 facts_0 c).bind fun b=>
   if (decide (0≤b))=true then
    (ZfM a b).bind fun d=>
    if d=true then
     some (.inl a)
    else
     chk (a.length+1≤1073741824) <|
     some (.inl (a++[b]))
   else
    some (.inl a))
  (fun a=>
   (ZeC a).bind fun e=>
   some e)
  l_1 0 []
noncomputable def Zbh (a_0:(List Int)) (a:(List Int)):Option Bool:=
 if (((a_0.length:Nat):Int) != ((a.length:Nat):Int))=true then
  some false
 else
  Zn (σ:=Unit)
   (fun (b:Nat) (c:Int) _=>
    (atI a ((b:Nat):Int)).bind fun d=>
    if (c != d)=true then
     some (.inr false)
    else
     some (.inl ()))
   (fun _=>
    some true)
   a_0 0 ()
noncomputable def ZaK (a_0:Zg) (b_1:Zg):Option Bool:=
 if (a_0.for_==b_1.for_)=true then
  (Zbh a_0.inn b_1.inn).bind fun a=>
  if a=true then
   (Zbh a_0.outs b_1.outs).bind fun b=>
   some b
  else
   some false
 else
  some false
noncomputable def ZaA (l_0:(List Zg)) (r_1:Zg):Option Bool:=
 Zn (σ:=Unit)
  (fun (i6:Nat) (a:Zg) _=>
   (ZaK a r_1).bind fun b=>
   if b=true then
    some (.inr true)
   else
    some (.inl ()))
  (fun _=>
   some false)
  l_0 0 ()
noncomputable def ZaJ (append_0:(List Zf)) (String_1:(List Zd)):Option ((List Zd) × Zu × (List Zac) × Bool):=
 (Yf append_0 String_1).bind fun a=>
 if a.2=true then
  Zn (σ:=(List Zg) × (List Zac))
   (fun (i941:Nat) (u:Zd) s=>
    match s with
    | (e,f)=>
    (Z8 a.1 u).bind fun v=>
    chk (e.length+1≤1073741824) <|
    chk (f.length+1≤1073741824) <|
    some (.inl ((e++[({ for_:=v,inn:=[],outs:=[] }:Zg)]),(f++[({ rule:=(⟨#[]⟩),facts:=[] }:Zac)]))))
   (fun s=>
    match s with
    | (e,f)=>
    Zn (σ:=(List Zg) × (List Zac))
     (fun (i1660:Nat) (g:Zf) s=>
      match s with
      | (i,k)=>
      (YA g).bind fun w=>
      (Zam w a.1).bind fun x=>
      Zn (σ:=(List Zg) × (List Zac))
       (fun (i1803:Nat) (j:Zt) s=>
        match s with
        | (l,m)=>
        Zn (σ:=(List Zd))
         (fun (i1841:Nat) (o:Zr) c=>
          if (o.kind==2)=true then
           (XZ o.pattern j.binding).bind fun y=>
           chk (c.length+1≤1073741824) <|
           some (.inl (c++[y.1]))
          else
           some (.inl c))
         (fun c=>
          Zn (σ:=(List Zg) × (List Zac))
           (fun (i1865:Nat) (z:Zx) s=>
            match s with
            | (b,d)=>
            (XZ z.pattern j.binding).bind fun A=>
            (Z8 a.1 A.1).bind fun p=>
            (Zcr a.1 j.facts).bind fun q=>
            (Zcr a.1 c).bind fun t=>
            (ZaA b ({ for_:=p,inn:=q,outs:=t }:Zg)).bind fun B=>
            if B=true then
             some (.inl (b,d))
            else
             chk (b.length+1≤1073741824) <|
             chk (d.length+1≤1073741824) <|
             some (.inl ((b++[({ for_:=p,inn:=q,outs:=t }:Zg)]),(d++[({ rule:=g.name,facts:=j.facts }:Zac)]))))
           (fun s=>
            match s with
            | (b,d)=>
            some (.inl (b,d)))
           g.thn 0 (l,m))
         g.cond 0 [])
       (fun s=>
        match s with
        | (l,m)=>
        some (.inl (l,m)))
       x 0 (i,k))
     (fun s=>
      match s with
      | (i,k)=>
      if (decide (60<((i.length:Nat):Int)))=true then
       some ([],({ nodes:=0,reasons:=[] }:Zu),[],false)
      else
       some (a.1,({ nodes:=((a.1.length:Nat):Int),reasons:=i }:Zu),k,true))
     append_0 0 (e,f))
   String_1 0 ([],[])
 else
  some ([],({ nodes:=0,reasons:=[] }:Zu),[],false)
noncomputable def Xe (rules_0:(List Zf)) (base_1:(List Zd)):Option ((List Zd) × Zu × Bool):=
 (ZaJ rules_0 base_1).bind fun a=>
 some (a.1,a.2.1,a.2.2.2)
noncomputable def ZfS (d:Zu):Option (List Int):=
 chk (0≤d.nodes∧d.nodes≤1073741824) <|
 Y5 (σ:=(List Int) × Bool)
  (fun s=>
   match s with
   | (j,o)=>
   if o=true then
    Zn (σ:=(List Int) × Bool)
     (fun (i155:Nat) (b:Zg) s=>
      match s with
      | (a,f)=>
      chk (0≤b.for_∧b.for_<((a.length:Nat):Int)) <|
      (a[(A0 b.for_)]?).bind fun k=>
      Zn (σ:=Int)
       (fun (i173:Nat) (g:Int) e=>
        chk (0≤g∧g<((a.length:Nat):Int)) <|
        (a[(A0 g)]?).bind fun l=>
        some (.inl (if e<l then l else e)))
       (fun e=>
        Zn (σ:=Int)
         (fun (i182:Nat) (i:Int) c=>
          chk (0≤i∧i<((a.length:Nat):Int)) <|
          (a[(A0 i)]?).bind fun m=>
          some (.inl (if c<(IntKind.i64.wrap (m+1)) then (IntKind.i64.wrap (m+1)) else c)))
         (fun c=>
          if (decide (k<c))=true then
           some (.inl ((AE a (A0 b.for_) c),true))
          else
           some (.inl (a,f)))
         b.outs 0 e)
       b.inn 0 k)
     (fun s=>
      match s with
      | (a,f)=>
      some (.inl (a,f)))
     d.reasons 0 (j,false)
   else
    some (.inr j))
  ((AN (A0 d.nodes) 0),true)
noncomputable def Zas (r_0:Zg) (a:(List Int)) (before_2:Int):Option Bool:=
 Zn (σ:=Unit)
  (fun (i14:Nat) (c:Int) _=>
   (atI a c).bind fun b=>
   if (decide (b<0))=true then
    some (.inr false)
   else
    if (decide (before_2≤b))=true then
     some (.inr false)
    else
     some (.inl ()))
  (fun _=>
   Zn (σ:=Unit)
    (fun (i22:Nat) (d:Int) _=>
     (atI a d).bind fun e=>
     if (decide (0≤e))=true then
      some (.inr false)
     else
      some (.inl ()))
    (fun _=>
     some true)
    r_0.outs 0 ())
  r_0.inn 0 ()
noncomputable def ZfP (d:Zu):Option (List Int):=
 (ZfS d).bind fun g=>
 chk (0≤d.nodes∧d.nodes≤1073741824) <|
 Y5 (σ:=(List Int) × Int × Int)
  (fun s=>
   match s with
   | (i,a,m)=>
   if (decide (a<((A0 d.nodes:Nat):Int)))=true then
    chk (0≤a∧a<((i.length:Nat):Int)) <|
    (i[(A0 a)]?).bind fun u=>
    chk (a<((g.length:Nat):Int)) <|
    (g[(A0 a)]?).bind fun o=>
    some (.inl ((AE i (A0 a) (-1)),(IntKind.i64.wrap (a+1)),(if m<o then o else m)))
   else
    Y5 (σ:=(List Int) × Int × Int)
     (fun s=>
      match s with
      | (e,j,k)=>
      if (decide (k≤m))=true then
       Zn (σ:=(List Int))
        (fun (i109:Nat) (c:Zg) b=>
         chk (0≤c.for_∧c.for_<((g.length:Nat):Int)) <|
         (g[(A0 c.for_)]?).bind fun p=>
         if (p==k)=true then
          chk (c.for_<((e.length:Nat):Int)) <|
          (e[(A0 c.for_)]?).bind fun q=>
          if (decide (q<0))=true then
           (Zas c e j).bind fun t=>
           if t=true then
            chk (b.length+1≤1073741824) <|
            some (.inl (b++[c.for_]))
           else
            some (.inl b)
          else
           some (.inl b)
         else
          some (.inl b))
        (fun b=>
         if (((b.length:Nat):Int)==0)=true then
          some (.inl (e,j,(IntKind.i64.wrap (k+1))))
         else
          Zn (σ:=(List Int))
           (fun (i120:Nat) (l:Int) f=>
            chk (0≤l∧l<((f.length:Nat):Int)) <|
            (f[(A0 l)]?).bind fun v=>
            some (.inl (AE f (A0 l) j)))
           (fun f=>
            some (.inl (f,(IntKind.i64.wrap (j+1)),k)))
           b 0 e)
        d.reasons 0 []
      else
       some (.inr (.inr e)))
     (i,0,0))
  ((AN (A0 d.nodes) 0),0,0)
noncomputable def ZdW (b_0:Zu):Option (List Bool):=
 (ZfP b_0).bind fun b=>
 Zn (σ:=(List Bool))
  (fun (i7:Nat) (c:Int) a=>
   chk (a.length+1≤1073741824) <|
   some (.inl (a++[(decide (0≤c))])))
  (fun a=>
   some a)
  b 0 []
noncomputable def ZcT (b:(List Zd)) (b_1:Zu):Option (List Zd):=
 (ZdW b_1).bind fun c=>
 Zn (σ:=(List Zd))
  (fun (d:Nat) (e:Bool) a=>
   if e=true then
    (atI b ((d:Nat):Int)).bind fun f=>
    (Yl f).bind fun g=>
    chk (a.length+1≤1073741824) <|
    some (.inl (a++[g]))
   else
    some (.inl a))
  (fun a=>
   some a)
  c 0 []
noncomputable def Zbg (rules_0:(List Zf)) (base_1:(List Zd)):Option ((List Zd) × Bool):=
 (Xe rules_0 base_1).bind fun a=>
 if a.2.2=true then
  (ZcT a.1 a.2.1).bind fun b=>
  some (b,true)
 else
  some ([],false)
noncomputable def Za5 (x_0:Int) (least_1:Int) (most_2:Int):Option Bool:=
 if (decide (least_1≤x_0))=true then
  some (decide (x_0≤most_2))
 else
  some false
noncomputable def Q4 (n_0:Int):Option ByteArray:=
 if (n_0==(-9223372036854775808))=true then
  some (⟨#[45,57,50,50,51,51,55,50,48,51,54,56,53,52,55,55,53,56,48,56]⟩)
 else
  if (decide (n_0<0))=true then
   none
  else
   Y5 (σ:=Int × ByteArray)
    (fun s=>
     match s with
     | (a,b)=>
     chk ((YQ [(IntKind.u8.wrap (IntKind.i64.wrap (48+(Int.tmod a 10))))]).size+b.size≤9223372036854775807) <|
     if ((IntKind.i64.wrap (Int.tdiv a 10))==0)=true then
      some (.inr ((YQ [(IntKind.u8.wrap (IntKind.i64.wrap (48+(Int.tmod a 10))))])++b))
     else
      some (.inl ((IntKind.i64.wrap (Int.tdiv a 10)),((YQ [(IntKind.u8.wrap (IntKind.i64.wrap (48+(Int.tmod a 10))))])++b))))
    (n_0,⟨#[]⟩)
noncomputable def XO (n_0:Int):Option ByteArray:=
 if (n_0==(-9223372036854775808))=true then
  some (⟨#[45,57,50,50,51,51,55,50,48,51,54,56,53,52,55,55,53,56,48,56]⟩)
 else
  if (decide (n_0<0))=true then
   (Q4 (IntKind.i64.wrap (0 - n_0))).bind fun c=>
   chk ((⟨#[45]⟩:ByteArray).size+c.size≤9223372036854775807) <|
   some ((⟨#[45]⟩:ByteArray)++c)
  else
   Y5 (σ:=Int × ByteArray)
    (fun s=>
     match s with
     | (a,b)=>
     chk ((YQ [(IntKind.u8.wrap (IntKind.i64.wrap (48+(Int.tmod a 10))))]).size+b.size≤9223372036854775807) <|
     if ((IntKind.i64.wrap (Int.tdiv a 10))==0)=true then
      some (.inr ((YQ [(IntKind.u8.wrap (IntKind.i64.wrap (48+(Int.tmod a 10))))])++b))
     else
      some (.inl ((IntKind.i64.wrap (Int.tdiv a 10)),((YQ [(IntKind.u8.wrap (IntKind.i64.wrap (48+(Int.tmod a 10))))])++b))))
    (n_0,⟨#[]⟩)
noncomputable def X0 (s_0:ByteArray):Option (Int × Bool):=
 (Za5 ((s_0.size:Nat):Int) 1 4).bind fun c=>
 if c=true then
  Zn (σ:=Int)
   (fun (i7:Nat) (b:UInt8) a=>
    if (decide (((b.toNat:Nat):Int)<48))=true then
     some (.inr (0,false))
    else
     if (decide (57<((b.toNat:Nat):Int)))=true then
      some (.inr (0,false))
     else
      some (.inl (IntKind.i64.wrap ((IntKind.i64.wrap (10 * a))+IntKind.i64.wrap (IntKind.u8.wrap (((b.toNat:Nat):Int) - 48))))))
   (fun a=>
    (XO a).bind fun d=>
    if (sEq d s_0)=true then
     some (a,true)
    else
     some (0,false))
   s_0.data.toList 0 0
 else
  some (0,false)
noncomputable def X3 (s_0:ByteArray):Option Bool:=
 Zn (σ:=Unit)
  (fun (i9:Nat) (a:UInt8) _=>
   (Za5 (IntKind.i64.wrap ((a.toNat:Nat):Int)) 97 122).bind fun b=>
   if b=true then
    some (.inl ())
   else
    (Za5 (IntKind.i64.wrap ((a.toNat:Nat):Int)) 48 57).bind fun c=>
    if c=true then
     some (.inl ())
    else
     some (.inr false))
  (fun _=>
   (Za5 ((s_0.size:Nat):Int) 1 8).bind fun d=>
   some d)
  s_0.data.toList 0 ()
noncomputable def ZcY (s_0:ByteArray):Option Bool:=
 (X3 s_0).bind fun a=>
 if a=true then
  (sAt s_0 0).bind fun b=>
  (Za5 (IntKind.i64.wrap ((b.toNat:Nat):Int)) 97 122).bind fun c=>
  some c
 else
  some false
noncomputable def Zab (a:ByteArray):Option Bool:=
 if (decide (1<((a.size:Nat):Int)))=true then
  (sAt a 0).bind fun b=>
  if (((b.toNat:Nat):Int)==63)=true then
   chk (0≤1∧1≤((a.size:Nat):Int)) <|
   (X3 (a.extract (A0 1) a.size)).bind fun c=>
   some c
  else
   some false
 else
  some false
noncomputable def Qv (s_0:ByteArray):Option Bool:=
 (X3 s_0).bind fun a=>
 if a=true then
  some true
 else
  (Zab s_0).bind fun b=>
  some b
noncomputable def YD (p_0:Zv):Option Bool:=
 Zn (σ:=Unit)
  (fun (i7:Nat) (a:ByteArray) _=>
   (Qv a).bind fun b=>
   if b=true then
    some (.inl ())
   else
    some (.inr false))
  (fun _=>
   (ZcY p_0.rel).bind fun c=>
   if c=true then
    some (decide (((p_0.args.length:Nat):Int)≤3))
   else
    some false)
  p_0.args 0 ()
noncomputable def Zb1 (x_0:Zr):Option Bool:=
 if (x_0.kind==1)=true then
  (YD x_0.pattern).bind fun a=>
  if a=true then
   if (sEq x_0.left ⟨#[]⟩)=true then
    some (sEq x_0.right ⟨#[]⟩)
   else
    some false
  else
   some false
 else
  if (x_0.kind==2)=true then
   (YD x_0.pattern).bind fun b=>
   if b=true then
    if (sEq x_0.left ⟨#[]⟩)=true then
     some (sEq x_0.right ⟨#[]⟩)
    else
     some false
   else
    some false
  else
   if (x_0.kind==3)=true then
    if (sEq x_0.pattern.rel ⟨#[]⟩)=true then
     if (((x_0.pattern.args.length:Nat):Int)==0)=true then
      (Qv x_0.left).bind fun c=>
      if c=true then
       (Qv x_0.right).bind fun d=>
       some d
      else
       some false
     else
      some false
    else
     some false
   else
    if (x_0.kind==4)=true then
     if (sEq x_0.pattern.rel ⟨#[]⟩)=true then
      if (((x_0.pattern.args.length:Nat):Int)==0)=true then
       (Qv x_0.left).bind fun e=>
       if e=true then
        (Qv x_0.right).bind fun f=>
        some f
       else
        some false
      else
       some false
     else
      some false
    else
     if (x_0.kind==5)=true then
      if (sEq x_0.pattern.rel ⟨#[]⟩)=true then
       if (((x_0.pattern.args.length:Nat):Int)==0)=true then
        (Qv x_0.left).bind fun g=>
        if g=true then
         (Qv x_0.right).bind fun i=>
         some i
        else
         some false
       else
        some false
      else
       some false
     else
      some false
noncomputable def XA (l_0:(List ByteArray)) (s_1:ByteArray):Option (List ByteArray):=
 Zn (σ:=(List ByteArray) × Bool)
  (fun (i8:Nat) (b:ByteArray) s=>
   match s with
   | (a,c)=>
   if c=true then
    chk (a.length+1≤1073741824) <|
    some (.inl ((a++[b]),true))
   else
    if (sLt b s_1)=true then
     chk (a.length+1≤1073741824) <|
     some (.inl ((a++[b]),false))
    else
     if (sEq b s_1)=true then
      chk (a.length+1≤1073741824) <|
      some (.inl ((a++[b]),true))
     else
      chk (a.length+1≤1073741824) <|
      chk (a.length+1+1≤1073741824) <|
      some (.inl (((a++[s_1])++[b]),true)))
  (fun s=>
   match s with
   | (a,c)=>
   if c=true then
    some a
   else
    chk (a.length+1≤1073741824) <|
    some (a++[s_1]))
  l_0 0 ([],false)
noncomputable def Za0 (p_0:Zv):Option (List ByteArray):=
 Zn (σ:=(List ByteArray))
  (fun (i9:Nat) (b:ByteArray) a=>
   (Zab b).bind fun c=>
   if c=true then
    (XA a b).bind fun d=>
    some (.inl d)
   else
    some (.inl a))
  (fun a=>
   some a)
  p_0.args 0 []
noncomputable def XT (r_0:Zf) (n_1:Int):Option (List ByteArray):=
 Zn (σ:=(List ByteArray))
  (fun (i25:Nat) (c:Zr) a=>
   if (decide (((i25:Nat):Int)<n_1))=true then
    if (c.kind==1)=true then
     (Za0 c.pattern).bind fun d=>
     Zn (σ:=(List ByteArray))
      (fun (i34:Nat) (e:ByteArray) b=>
       (XA b e).bind fun f=>
       some (.inl f))
      (fun b=>
       some (.inl b))
      d 0 a
    else
     some (.inl a)
   else
    some (.inr a))
  (fun a=>
   some a)
  r_0.cond 0 []
noncomputable def Xz (x_0:Zr):Option (List ByteArray):=
 (Za0 x_0.pattern).bind fun a=>
 (Zab x_0.left).bind fun c=>
 if c=true then
  (XA a x_0.left).bind fun b=>
  (Zab x_0.right).bind fun d=>
  if d=true then
   (XA b x_0.right).bind fun e=>
   some e
  else
   some b
 else
  (Zab x_0.right).bind fun f=>
  if f=true then
   (XA a x_0.right).bind fun g=>
   some g
  else
   some a
noncomputable def ZR (l_0:(List ByteArray)) (s_1:ByteArray):Option Bool:=
 Zn (σ:=Unit)
  (fun (i4:Nat) (a:ByteArray) _=>
   if (sEq a s_1)=true then
    some (.inr true)
   else
    some (.inl ()))
  (fun _=>
   some false)
  l_0 0 ()
noncomputable def ZaT (x_0:Zr):Option Bool:=
 (Zb1 x_0).bind fun a=>
 if a=true then
  some (decide (3≤x_0.kind))
 else
  some false
noncomputable def Xu (r_0:Zf) (i_1:Int) (v_2:ByteArray):Option Bool:=
 Zn (σ:=Unit)
  (fun (i19:Nat) (a:Zr) _=>
   if (((i19:Nat):Int) != i_1)=true then
    (Xz a).bind fun b=>
    (ZR b v_2).bind fun c=>
    if c=true then
     some (.inr true)
    else
     some (.inl ())
   else
    some (.inl ()))
  (fun _=>
   Zn (σ:=Unit)
    (fun (i30:Nat) (d:Zx) _=>
     (Za0 d.pattern).bind fun e=>
     (ZR e v_2).bind fun f=>
     if f=true then
      some (.inr true)
     else
      some (.inl ()))
    (fun _=>
     some false)
    r_0.thn 0 ())
  r_0.cond 0 ()
noncomputable def ZcM (a_0:Zx):Option Bool:=
 if (a_0.kind==1)=true then
  (YD a_0.pattern).bind fun a=>
  some a
 else
  if (a_0.kind==2)=true then
   (YD a_0.pattern).bind fun b=>
   some b
  else
   if (a_0.kind==3)=true then
    if (sEq a_0.pattern.rel ⟨#[]⟩)=true then
     some (((a_0.pattern.args.length:Nat):Int)==0)
    else
     some false
   else
    some false
noncomputable def ZcH (r_0:Zf):Option (List ByteArray):=
 Zn (σ:=(List ByteArray))
  (fun (i61:Nat) (e:Zr) a=>
   (Xz e).bind fun f=>
   Zn (σ:=(List ByteArray))
    (fun (i70:Nat) (g:ByteArray) b=>
     (XA b g).bind fun i=>
     some (.inl i))
    (fun b=>
     some (.inl b))
    f 0 a)
  (fun a=>
   Zn (σ:=(List ByteArray))
    (fun (i97:Nat) (j:Zx) c=>
     (Za0 j.pattern).bind fun k=>
     Zn (σ:=(List ByteArray))
      (fun (i106:Nat) (l:ByteArray) d=>
       (XA d l).bind fun m=>
       some (.inl m))
      (fun d=>
       some (.inl d))
      k 0 c)
    (fun c=>
     some c)
    r_0.thn 0 a)
  r_0.cond 0 []
noncomputable def ZbX (append_0:Zf):Option Bool:=
 (ZcY append_0.name).bind fun g=>
 if g=true then
  (Za5 append_0.priority 0 9).bind fun i=>
  if i=true then
   (Za5 ((append_0.cond.length:Nat):Int) 1 4).bind fun j=>
   if j=true then
    (Za5 ((append_0.thn.length:Nat):Int) 1 2).bind fun k=>
    if k=true then
     (XT append_0 ((append_0.cond.length:Nat):Int)).bind fun l=>
     Zn (σ:=Unit)
      (fun (i96:Nat) (a:Zr) _=>
       (Zb1 a).bind fun m=>
       if m=true then
        if (((i96:Nat):Int)==0)=true then
         if (a.kind != 1)=true then
          some (.inr false)
         else
          (XT append_0 ((i96:Nat):Int)).bind fun o=>
          (Xz a).bind fun p=>
          Zn (σ:=Unit)
           (fun (i110:Nat) (b:ByteArray) _=>
            (ZR o b).bind fun c=>
            (ZaT a).bind fun q=>
            if q=true then
             if c=true then
              if (a.kind==2)=true then
               some (.inl ())
              else
               some (.inl ())
             else
              some (.inr (.inr false))
            else
             if (a.kind==2)=true then
              if c=true then
               some (.inl ())
              else
               (Xu append_0 ((i96:Nat):Int) b).bind fun t=>
               if t=true then
                some (.inr (.inr false))
               else
                some (.inl ())
             else
              some (.inl ()))
           (fun _=>
            some (.inl ()))
           p 0 ()
        else
         (XT append_0 ((i96:Nat):Int)).bind fun u=>
         (Xz a).bind fun v=>
         Zn (σ:=Unit)
          (fun (i126:Nat) (d:ByteArray) _=>
           (ZR u d).bind fun e=>
           (ZaT a).bind fun w=>
           if w=true then
            if e=true then
             if (a.kind==2)=true then
              some (.inl ())
             else
              some (.inl ())
            else
             some (.inr (.inr false))
           else
            if (a.kind==2)=true then
             if e=true then
              some (.inl ())
             else
              (Xu append_0 ((i96:Nat):Int) d).bind fun x=>
              if x=true then
               some (.inr (.inr false))
              else
               some (.inl ())
            else
             some (.inl ()))
          (fun _=>
           some (.inl ()))
          v 0 ()
       else
        some (.inr false))
      (fun _=>
       Zn (σ:=Unit)
        (fun (i155:Nat) (f:Zx) _=>
         (ZcM f).bind fun y=>
         if y=true then
          (Za0 f.pattern).bind fun z=>
          Zn (σ:=Unit)
           (fun (i164:Nat) (A:ByteArray) _=>
            (ZR l A).bind fun B=>
            if B=true then
             some (.inl ())
            else
             some (.inr (.inr false)))
           (fun _=>
            some (.inl ()))
           z 0 ()
         else
          some (.inr false))
        (fun _=>
         (ZcH append_0).bind fun C=>
         some (decide (((C.length:Nat):Int)≤6)))
        append_0.thn 0 ())
      append_0.cond 0 ()
    else
     some false
   else
    some false
  else
   some false
 else
  some false
noncomputable def Zgl (a:ByteArray) (b:ByteArray):Option Int:=
 if (sLt a b)=true then
  some (-1)
 else
  if (sLt a b||sEq a b)=true then
   some 0
  else
   some 1
noncomputable def Y0 (a_0:ByteArray) (b_1:ByteArray):Option Int:=
 (X0 a_0).bind fun b=>
 (X0 b_1).bind fun a=>
 if b.2=true then
  if a.2=true then
   if (decide (b.1<a.1))=true then
    some (-1)
   else
    if (decide (a.1<b.1))=true then
     some 1
    else
     some 0
  else
   some (-1)
 else
  if a.2=true then
   some 1
  else
   (Zgl a_0 b_1).bind fun c=>
   some c
noncomputable def YZ (a_0:Zd) (a:Zd):Option Int:=
 if (sEq a_0.rel a.rel)=true then
  Zn (σ:=Unit)
   (fun (b:Nat) (d:ByteArray) _=>
    if (decide (((b:Nat):Int)<((a.args.length:Nat):Int)))=true then
     (atI a.args ((b:Nat):Int)).bind fun e=>
     (Y0 d e).bind fun c=>
     if (c != 0)=true then
      some (.inr c)
     else
      some (.inl ())
    else
     if (decide (((a_0.args.length:Nat):Int)<((a.args.length:Nat):Int)))=true then
      some (.inr (-1))
     else
      if (decide (((a.args.length:Nat):Int)<((a_0.args.length:Nat):Int)))=true then
       some (.inr 1)
      else
       some (.inr 0))
   (fun _=>
    if (decide (((a_0.args.length:Nat):Int)<((a.args.length:Nat):Int)))=true then
     some (-1)
    else
     if (decide (((a.args.length:Nat):Int)<((a_0.args.length:Nat):Int)))=true then
      some 1
     else
      some 0)
   a_0.args 0 ()
 else
  (Zgl a_0.rel a.rel).bind fun f=>
  some f
noncomputable def Zeq (l_0:(List ByteArray)):Option (List ByteArray):=
 chk (l_0.length≤1073741824) <|
 some l_0
noncomputable def XM (f_0:Zd):Option Zd:=
 (Zeq f_0.args).bind fun a=>
 some ({ rel:=f_0.rel,args:=a }:Zd)
noncomputable def YI (l_0:(List Zd)) (f_1:Zd):Option (List Zd):=
 Zn (σ:=(List Zd) × Bool)
  (fun (i21:Nat) (b:Zd) s=>
   match s with
   | (a,c)=>
   if c=true then
    (XM b).bind fun d=>
    chk (a.length+1≤1073741824) <|
    some (.inl ((a++[d]),true))
   else
    (YZ b f_1).bind fun e=>
    if (decide (0≤e))=true then
     (YZ b f_1).bind fun f=>
     if (decide (0<f))=true then
      (XM f_1).bind fun g=>
      chk (a.length+1≤1073741824) <|
      (XM b).bind fun i=>
      chk (a.length+1+1≤1073741824) <|
      some (.inl (((a++[g])++[i]),true))
     else
      (XM b).bind fun j=>
      chk (a.length+1≤1073741824) <|
      some (.inl ((a++[j]),true))
    else
     (XM b).bind fun k=>
     chk (a.length+1≤1073741824) <|
     some (.inl ((a++[k]),false)))
  (fun s=>
   match s with
   | (a,c)=>
   if c=true then
    some a
   else
    (XM f_1).bind fun l=>
    chk (a.length+1≤1073741824) <|
    some (a++[l]))
  l_0 0 ([],false)
noncomputable def ZcU (a_0:(List ByteArray)) (b_1:(List ByteArray)):Option Bool:=
 Zn (σ:=Unit)
  (fun (i6:Nat) (a:ByteArray) _=>
   (ZR b_1 a).bind fun b=>
   if b=true then
    some (.inl ())
   else
    some (.inr false))
  (fun _=>
   some true)
  a_0 0 ()
noncomputable def ZbL (r_0:Zf):Option Bool:=
 (ZbX r_0).bind fun b=>
 if b=true then
  Zn (σ:=Unit)
   (fun (i16:Nat) (a:Zr) _=>
    if (a.kind==2)=true then
     (Xz a).bind fun c=>
     (XT r_0 ((i16:Nat):Int)).bind fun d=>
     (ZcU c d).bind fun e=>
     if e=true then
      some (.inl ())
     else
      some (.inr false)
    else
     some (.inl ()))
   (fun _=>
    Zn (σ:=Unit)
     (fun (i24:Nat) (f:Zx) _=>
      if (f.kind != 1)=true then
       some (.inr false)
      else
       some (.inl ()))
     (fun _=>
      some true)
     r_0.thn 0 ())
   r_0.cond 0 ()
 else
  some false
noncomputable def QI (r_0:Zf):Option (List ByteArray):=
 Zn (σ:=(List ByteArray))
  (fun (i9:Nat) (b:Zx) a=>
   if (b.kind==1)=true then
    (XA a b.pattern.rel).bind fun c=>
    some (.inl c)
   else
    if (b.kind==2)=true then
     (XA a b.pattern.rel).bind fun d=>
     some (.inl d)
    else
     some (.inl a))
  (fun a=>
   some a)
  r_0.thn 0 []
noncomputable def Zbt (r_0:Zf):Option (List ByteArray):=
 Zn (σ:=(List ByteArray))
  (fun (i9:Nat) (b:Zr) a=>
   if (b.kind==1)=true then
    (XA a b.pattern.rel).bind fun c=>
    some (.inl c)
   else
    if (b.kind==2)=true then
     (XA a b.pattern.rel).bind fun d=>
     some (.inl d)
    else
     some (.inl a))
  (fun a=>
   some a)
  r_0.cond 0 []
noncomputable def ZaO (append_0:(List Zf)) (String_1:ByteArray) (a_2:ByteArray):Option Bool:=
 Y5 (σ:=(List ByteArray) × Int)
  (fun s=>
   match s with
   | (d,c)=>
   if (decide (c<((d.length:Nat):Int)))=true then
    Zn (σ:=(List ByteArray))
     (fun (i93:Nat) (e:Zf) a=>
      (QI e).bind fun i=>
      chk (0≤c∧c<((a.length:Nat):Int)) <|
      (a[(A0 c)]?).bind fun j=>
      (ZR i j).bind fun k=>
      if k=true then
       (Zbt e).bind fun f=>
       (ZR f a_2).bind fun l=>
       if l=true then
        some (.inr (.inr true))
       else
        Zn (σ:=(List ByteArray))
         (fun (i108:Nat) (g:ByteArray) b=>
          (ZR b g).bind fun m=>
          if m=true then
           some (.inl b)
          else
           chk (b.length+1≤1073741824) <|
           some (.inl (b++[g])))
         (fun b=>
          some (.inl b))
         f 0 a
      else
       some (.inl a))
     (fun a=>
      some (.inl (a,(IntKind.i64.wrap (c+1)))))
     append_0 0 d
   else
    some (.inr false))
  ([String_1],0)
noncomputable def Zev (l_0:(List Zf)) (name_1:ByteArray):Option Int:=
 Zn (σ:=Unit)
  (fun (i4:Nat) (a:Zf) _=>
   if (sEq a.name name_1)=true then
    some (.inr ((i4:Nat):Int))
   else
    some (.inl ()))
  (fun _=>
   some (-1))
  l_0 0 ()
noncomputable def Zcz (l_0:(List Zf)):Option Bool:=
 Zn (σ:=Unit)
  (fun (i8:Nat) (a:Zf) _=>
   (ZbX a).bind fun b=>
   if b=true then
    (Zev l_0 a.name).bind fun c=>
    if (c != ((i8:Nat):Int))=true then
     some (.inr false)
    else
     some (.inl ())
   else
    some (.inr false))
  (fun _=>
   some (decide (((l_0.length:Nat):Int)≤6)))
  l_0 0 ()
noncomputable def ZaM (append_0:(List Zf)):Option Bool:=
 Zn (σ:=Unit)
  (fun (i67:Nat) (a:Zf) _=>
   (ZbL a).bind fun d=>
   if d=true then
    (QI a).bind fun e=>
    Zn (σ:=Unit)
     (fun (i90:Nat) (b:Zr) _=>
      Zn (σ:=Unit)
       (fun (i97:Nat) (c:ByteArray) _=>
        if (b.kind==2)=true then
         if (sEq b.pattern.rel c)=true then
          some (.inr (.inr (.inr false)))
         else
          (ZaO append_0 b.pattern.rel c).bind fun f=>
          if f=true then
           some (.inr (.inr (.inr false)))
          else
           some (.inl ())
        else
         some (.inr (.inl ())))
       (fun _=>
        some (.inl ()))
       e 0 ())
     (fun _=>
      some (.inl ()))
     a.cond 0 ()
   else
    some (.inr false))
  (fun _=>
   (Zcz append_0).bind fun g=>
   some g)
  append_0 0 ()
noncomputable def ZdZ (f_0:Zd):Option Bool:=
 Zn (σ:=Unit)
  (fun (i7:Nat) (a:ByteArray) _=>
   (X3 a).bind fun b=>
   if b=true then
    some (.inl ())
   else
    some (.inr false))
  (fun _=>
   (ZcY f_0.rel).bind fun c=>
   if c=true then
    some (decide (((f_0.args.length:Nat):Int)≤3))
   else
    some false)
  f_0.args 0 ()
noncomputable def Zdd (a:(List Zd)):Option Bool:=
 Zn (σ:=Unit)
  (fun (b:Nat) (c:Zd) _=>
   (ZdZ c).bind fun d=>
   if d=true then
    if (decide (0<((b:Nat):Int)))=true then
     (atI a (IntKind.i64.wrap (((b:Nat):Int) - 1))).bind fun e=>
     (YZ e c).bind fun f=>
     if (decide (0≤f))=true then
      some (.inr false)
     else
      some (.inl ())
    else
     some (.inl ())
   else
    some (.inr false))
  (fun _=>
   some (decide (((a.length:Nat):Int)≤24)))
  a 0 ()
noncomputable def Zak (l_0:(List Zd)):Option (List Zd):=
 Zn (σ:=(List Zd))
  (fun (i7:Nat) (b:Zd) a=>
   (XM b).bind fun c=>
   chk (a.length+1≤1073741824) <|
   some (.inl (a++[c])))
  (fun a=>
   some a)
  l_0 0 []
noncomputable def Xt (a:(List Zp)):Option Bool:=
 Zn (σ:=Unit)
  (fun (c:Nat) (b:Zp) _=>
   (Zab b.var).bind fun d=>
   if d=true then
    (X3 b.value).bind fun e=>
    if e=true then
     if (decide (0<((c:Nat):Int)))=true then
      (atI a (IntKind.i64.wrap (((c:Nat):Int) - 1))).bind fun f=>
      if (sLt f.var b.var)=true then
       some (.inl ())
      else
       some (.inr false)
     else
      some (.inl ())
    else
     some (.inr false)
   else
    some (.inr false))
  (fun _=>
   some (decide (((a.length:Nat):Int)≤6)))
  a 0 ()
noncomputable def Zb7 (b_0:(List Zp)):Option (List Zp):=
 chk (b_0.length≤1073741824) <|
 some b_0
noncomputable def ZaI (b_0:(List Zp)) (term_1:ByteArray):Option (ByteArray × Bool):=
 (X3 term_1).bind fun b=>
 if b=true then
  some (term_1,true)
 else
  Zn (σ:=Unit)
   (fun (i7:Nat) (a:Zp) _=>
    if (sEq a.var term_1)=true then
     (Zab term_1).bind fun c=>
     if c=true then
      some (.inr (a.value,true))
     else
      some (.inl ())
    else
     some (.inl ()))
   (fun _=>
    some ((⟨#[]⟩),false))
   b_0 0 ()
noncomputable def Zh3 (b_0:(List Zp)) (c:ByteArray) (value_2:ByteArray):Option (List Zp):=
 Zn (σ:=(List Zp) × Bool)
  (fun (i8:Nat) (b:Zp) s=>
   match s with
   | (a,d)=>
   if d=true then
    chk (a.length+1≤1073741824) <|
    some (.inl ((a++[b]),true))
   else
    if (sLt b.var c||sEq b.var c)=true then
     chk (a.length+1≤1073741824) <|
     some (.inl ((a++[b]),false))
    else
     chk (a.length+1≤1073741824) <|
     chk (a.length+1+1≤1073741824) <|
     some (.inl (((a++[({ var:=c,value:=value_2 }:Zp)])++[b]),true)))
  (fun s=>
   match s with
   | (a,d)=>
   if d=true then
    some a
   else
    chk (a.length+1≤1073741824) <|
    some (a++[({ var:=c,value:=value_2 }:Zp)]))
  b_0 0 ([],false)
noncomputable def Zfm (b_0:(List Zp)) (v_1:ByteArray) (value_2:ByteArray):Option ((List Zp) × Bool):=
 (Xt b_0).bind fun b=>
 if b=true then
  (Zab v_1).bind fun c=>
  if c=true then
   (X3 value_2).bind fun d=>
   if d=true then
    (ZaI b_0 v_1).bind fun a=>
    if a.2=true then
     if (sEq a.1 value_2)=true then
      (Zb7 b_0).bind fun e=>
      some (e,true)
     else
      some ([],false)
    else
     if (((b_0.length:Nat):Int)==6)=true then
      some ([],false)
     else
      (Zh3 b_0 v_1 value_2).bind fun f=>
      some (f,true)
   else
    some ([],false)
  else
   some ([],false)
 else
  some ([],false)
noncomputable def Zau (append_0:Zv) (a:Zd) (a_2:(List Zp)):Option ((List Zp) × Bool):=
 (YD append_0).bind fun f=>
 if f=true then
  (ZdZ a).bind fun g=>
  if g=true then
   (Xt a_2).bind fun i=>
   if i=true then
    if (sEq append_0.rel a.rel)=true then
     if (((append_0.args.length:Nat):Int) != ((a.args.length:Nat):Int))=true then
      some ([],false)
     else
      (Zb7 a_2).bind fun j=>
      Zn (σ:=(List Zp))
       (fun (d:Nat) (c:ByteArray) b=>
        (X3 c).bind fun k=>
        if k=true then
         (atI a.args ((d:Nat):Int)).bind fun l=>
         if (sEq c l)=true then
          some (.inl b)
         else
          some (.inr ([],false))
        else
         (atI a.args ((d:Nat):Int)).bind fun m=>
         (Zfm b c m).bind fun e=>
         if e.2=true then
          some (.inl e.1)
         else
          some (.inr ([],false)))
       (fun b=>
        some (b,true))
       append_0.args 0 j
    else
     some ([],false)
   else
    some ([],false)
  else
   some ([],false)
 else
  some ([],false)
noncomputable def Xf (p_0:Zv) (b_1:(List Zp)) (facts_2:(List Zd)):Option (List Zd):=
 Zn (σ:=(List Zd))
  (fun (i9:Nat) (b:Zd) a=>
   (Zau p_0 b b_1).bind fun c=>
   if c.2=true then
    (XM b).bind fun d=>
    chk (a.length+1≤1073741824) <|
    some (.inl (a++[d]))
   else
    some (.inl a))
  (fun a=>
   some a)
  facts_2 0 []
noncomputable def ZcE (s_0:ByteArray):Option Bool:=
 (X0 s_0).bind fun a=>
 some a.2
noncomputable def ZbO (x_0:Zr) (b_1:(List Zp)):Option Bool:=
 (ZaT x_0).bind fun c=>
 if c=true then
  (Xt b_1).bind fun d=>
  if d=true then
   (ZaI b_1 x_0.left).bind fun a=>
   (ZaI b_1 x_0.right).bind fun b=>
   if a.2=true then
    if b.2=true then
     if (x_0.kind==3)=true then
      some (sEq a.1 b.1)
     else
      if (x_0.kind==4)=true then
       some (!(sEq a.1 b.1))
      else
       (ZcE a.1).bind fun e=>
       if e=true then
        (ZcE b.1).bind fun f=>
        if f=true then
         (Y0 a.1 b.1).bind fun g=>
         some (decide (g<0))
        else
         some false
       else
        some false
    else
     some false
   else
    some false
  else
   some false
 else
  some false
noncomputable def ZbV (x_0:Zr) (a:(List Zp)) (b:(List Zd)):Option Bool:=
 (Zb1 x_0).bind fun c=>
 if c=true then
  (Xt a).bind fun d=>
  if d=true then
   if (x_0.kind==1)=true then
    (Xf x_0.pattern a b).bind fun e=>
    some (decide (0<((e.length:Nat):Int)))
   else
    if (x_0.kind==2)=true then
     (Xf x_0.pattern a b).bind fun f=>
     some (((f.length:Nat):Int)==0)
    else
     (ZbO x_0 a).bind fun g=>
     some g
  else
   some false
 else
  some false
noncomputable def ZfQ (t_0:Zt):Option Zt:=
 (Zak t_0.facts).bind fun a=>
 (Zb7 t_0.binding).bind fun b=>
 some ({ facts:=a,binding:=b }:Zt)
noncomputable def Zfi (append_0:(List Zt)) (String_1:Zr) (a_2:(List Zd)):Option (List Zt):=
 Zn (σ:=(List Zt))
  (fun (i45:Nat) (c:Zt) a=>
   if (String_1.kind != 1)=true then
    (ZbV String_1 c.binding a_2).bind fun g=>
    if g=true then
     (ZfQ c).bind fun i=>
     chk (a.length+1≤1073741824) <|
     some (.inl (a++[i]))
    else
     some (.inl a)
   else
    Zn (σ:=(List Zt))
     (fun (i59:Nat) (d:Zd) b=>
      (Zau String_1.pattern d c.binding).bind fun e=>
      if e.2=true then
       (Zak c.facts).bind fun f=>
       (XM d).bind fun j=>
       chk (f.length+1≤1073741824) <|
       chk (b.length+1≤1073741824) <|
       some (.inl (b++[({ facts:=(f++[j]),binding:=e.1 }:Zt)]))
      else
       some (.inl b))
     (fun b=>
      some (.inl b))
     a_2 0 a)
  (fun a=>
   some a)
  append_0 0 []
noncomputable def Zai (l_0:(List Zr)) (facts_1:(List Zd)):Option (List Zt):=
 Zn (σ:=(List Zt))
  (fun (i7:Nat) (b:Zr) a=>
   (Zfi a b facts_1).bind fun c=>
   some (.inl c))
  (fun a=>
   some a)
  l_0 0 ([({ facts:=[],binding:=[] }:Zt)])
noncomputable def Xv (r_0:Zf):Option (List Zr):=
 Zn (σ:=(List Zr))
  (fun (i6:Nat) (b:Zr) a=>
   if (b.kind != 2)=true then
    chk (a.length+1≤1073741824) <|
    some (.inl (a++[b]))
   else
    some (.inl a))
  (fun a=>
   some a)
  r_0.cond 0 []
noncomputable def Y2 (p_0:Zv) (b_1:(List Zp)):Option (Zd × Bool):=
 (YD p_0).bind fun c=>
 if c=true then
  (Xt b_1).bind fun d=>
  if d=true then
   Zn (σ:=(List ByteArray))
    (fun (i11:Nat) (e:ByteArray) a=>
     (ZaI b_1 e).bind fun b=>
     if b.2=true then
      chk (a.length+1≤1073741824) <|
      some (.inl (a++[b.1]))
     else
      some (.inr (({ rel:=(⟨#[]⟩),args:=[] }:Zd),false)))
    (fun a=>
     some (({ rel:=p_0.rel,args:=a }:Zd),true))
    p_0.args 0 []
  else
   some (({ rel:=(⟨#[]⟩),args:=[] }:Zd),false)
 else
  some (({ rel:=(⟨#[]⟩),args:=[] }:Zd),false)
noncomputable def Yg (append_0:(List Zf)) (String_1:(List Zd)):Option ((List Zd) × Bool):=
 (ZaM append_0).bind fun f=>
 if f=true then
  (Zdd String_1).bind fun g=>
  if g=true then
   (Zak String_1).bind fun i=>
   Y5 (σ:=(List Zd) × Bool)
    (fun s=>
     match s with
     | (a,j)=>
     if j=true then
      Zn (σ:=(List Zd))
       (fun (i311:Nat) (e:Zf) b=>
        (Xv e).bind fun k=>
        (Zai k a).bind fun l=>
        Zn (σ:=(List Zd))
         (fun (i355:Nat) (m:Zt) c=>
          Zn (σ:=(List Zd))
           (fun (i368:Nat) (o:Zx) d=>
            (Y2 o.pattern m.binding).bind fun p=>
            (YI d p.1).bind fun q=>
            some (.inl q))
           (fun d=>
            some (.inl d))
           e.thn 0 c)
         (fun c=>
          if (decide (24<((c.length:Nat):Int)))=true then
           some (.inr (.inr ([],false)))
          else
           some (.inl c))
         l 0 b)
       (fun b=>
        some (.inl (b,(decide (((a.length:Nat):Int)<((b.length:Nat):Int))))))
       append_0 0 a
     else
      some (.inr (a,true)))
    (i,true)
  else
   some ([],false)
 else
  some ([],false)
noncomputable def ZdL (a_0:(List ByteArray)) (a:(List ByteArray)):Option Bool:=
 if (((a_0.length:Nat):Int) != ((a.length:Nat):Int))=true then
  some false
 else
  Zn (σ:=Unit)
   (fun (b:Nat) (c:ByteArray) _=>
    (atI a ((b:Nat):Int)).bind fun d=>
    if (sEq c d)=true then
     some (.inl ())
    else
     some (.inr false))
   (fun _=>
    some true)
   a_0 0 ()
noncomputable def Zj1 (a_0:Zd) (b_1:Zd):Option Bool:=
 if (sEq a_0.rel b_1.rel)=true then
  (ZdL a_0.args b_1.args).bind fun a=>
  some a
 else
  some false
noncomputable def Ql (l_0:(List Zd)) (f_1:Zd):Option Int:=
 Zn (σ:=Unit)
  (fun (i6:Nat) (a:Zd) _=>
   (Zj1 a f_1).bind fun b=>
   if b=true then
    some (.inr ((i6:Nat):Int))
   else
    some (.inl ()))
  (fun _=>
   some (-1))
  l_0 0 ()
noncomputable def Zga (l_0:(List Int)) (x_1:Int):Option (List Int):=
 Zn (σ:=(List Int) × Bool)
  (fun (i7:Nat) (b:Int) s=>
   match s with
   | (a,c)=>
   if c=true then
    chk (a.length+1≤1073741824) <|
    some (.inl ((a++[b]),true))
   else
    if (decide (x_1≤b))=true then
     if (b != x_1)=true then
      chk (a.length+1≤1073741824) <|
      chk (a.length+1+1≤1073741824) <|
      some (.inl (((a++[x_1])++[b]),true))
     else
      chk (a.length+1≤1073741824) <|
      some (.inl ((a++[b]),true))
    else
     chk (a.length+1≤1073741824) <|
     some (.inl ((a++[b]),false)))
  (fun s=>
   match s with
   | (a,c)=>
   if c=true then
    some a
   else
    chk (a.length+1≤1073741824) <|
    some (a++[x_1]))
  l_0 0 ([],false)
noncomputable def Zbu (l_0:(List Zd)) (facts_1:(List Zd)):Option (List Int):=
 Zn (σ:=(List Int))
  (fun (i9:Nat) (c:Zd) a=>
   (Ql l_0 c).bind fun b=>
   if (decide (0≤b))=true then
    (Zga a b).bind fun d=>
    some (.inl d)
   else
    some (.inl a))
  (fun a=>
   some a)
  facts_1 0 []
noncomputable def ZaD (c:Zf) (e:Int) (b:Zt) (a_3:(List Zd)):Option Zg:=
 (atI c.thn e).bind fun f=>
 (Y2 f.pattern b.binding).bind fun g=>
 Zn (σ:=(List Zd))
  (fun (i12:Nat) (d:Zr) a=>
   if (d.kind==2)=true then
    (Y2 d.pattern b.binding).bind fun i=>
    chk (a.length+1≤1073741824) <|
    some (.inl (a++[i.1]))
   else
    some (.inl a))
  (fun a=>
   (Ql a_3 g.1).bind fun j=>
   (Zbu a_3 b.facts).bind fun k=>
   (Zbu a_3 a).bind fun l=>
   some ({ for_:=j,inn:=k,outs:=l }:Zg))
  c.cond 0 []
noncomputable def ZaN (a_0:(List Int)) (a:(List Int)):Option Bool:=
 if (((a_0.length:Nat):Int) != ((a.length:Nat):Int))=true then
  some false
 else
  Zn (σ:=Unit)
   (fun (b:Nat) (c:Int) _=>
    (atI a ((b:Nat):Int)).bind fun d=>
    if (c != d)=true then
     some (.inr false)
    else
     some (.inl ()))
   (fun _=>
    some true)
   a_0 0 ()
noncomputable def Zd8 (l_0:(List Zg)) (r_1:Zg):Option Int:=
 Zn (σ:=Unit)
  (fun (i8:Nat) (a:Zg) _=>
   if (a.for_==r_1.for_)=true then
    (ZaN a.inn r_1.inn).bind fun b=>
    if b=true then
     (ZaN a.outs r_1.outs).bind fun c=>
     if c=true then
      some (.inr ((i8:Nat):Int))
     else
      some (.inl ())
    else
     some (.inl ())
   else
    some (.inl ()))
  (fun _=>
   some (-1))
  l_0 0 ()
noncomputable def Xl (append_0:(List Zf)) (String_1:(List Zd)):Option ((List Zd) × Zu × (List Xd) × Bool):=
 (Yg append_0 String_1).bind fun b=>
 if b.2=true then
  Zn (σ:=(List Zg) × (List Xd))
   (fun (i255:Nat) (o:Zd) s=>
    match s with
    | (d,e)=>
    (Ql b.1 o).bind fun p=>
    chk (d.length+1≤1073741824) <|
    chk (e.length+1≤1073741824) <|
    some (.inl ((d++[({ for_:=p,inn:=[],outs:=[] }:Zg)]),(e++[({ rule:=(⟨#[]⟩),token:=({ facts:=[],binding:=[] }:Zt) }:Xd)]))))
   (fun s=>
    match s with
    | (d,e)=>
    Zn (σ:=(List Zg) × (List Xd))
     (fun (i446:Nat) (f:Zf) s=>
      match s with
      | (g,i)=>
      (Xv f).bind fun q=>
      (Zai q b.1).bind fun t=>
      Zn (σ:=(List Zg) × (List Xd))
       (fun (i487:Nat) (l:Zt) s=>
        match s with
        | (j,k)=>
        Zn (σ:=(List Zg) × (List Xd))
         (fun (i498:Nat) (v:Zx) s=>
          match s with
          | (a,c)=>
          (ZaD f ((i498:Nat):Int) l b.1).bind fun m=>
          (Zd8 a m).bind fun u=>
          if (decide (0≤u))=true then
           some (.inl (a,c))
          else
           if (decide (60≤((a.length:Nat):Int)))=true then
            some (.inr (.inr (.inr ([],({ nodes:=0,reasons:=[] }:Zu),[],false))))
           else
            chk (a.length+1≤1073741824) <|
            chk (c.length+1≤1073741824) <|
            some (.inl ((a++[m]),(c++[({ rule:=f.name,token:=l }:Xd)]))))
         (fun s=>
          match s with
          | (a,c)=>
          some (.inl (a,c)))
         f.thn 0 (j,k))
       (fun s=>
        match s with
        | (j,k)=>
        some (.inl (j,k)))
       t 0 (g,i))
     (fun s=>
      match s with
      | (g,i)=>
      some (b.1,({ nodes:=((b.1.length:Nat):Int),reasons:=g }:Zu),i,true))
     append_0 0 (d,e))
   String_1 0 ([],[])
 else
  some ([],({ nodes:=0,reasons:=[] }:Zu),[],false)
noncomputable def X4 (rules_0:(List Zf)) (base_1:(List Zd)):Option ((List Zd) × Zu × Bool):=
 (Xl rules_0 base_1).bind fun a=>
 if a.2.2.2=true then
  some (a.1,a.2.1,true)
 else
  some ([],({ nodes:=0,reasons:=[] }:Zu),false)
noncomputable def ZD4 (a:(List Int)) (n_1:Int):Option Bool:=
 Zn (σ:=Unit)
  (fun (b:Nat) (c:Int) _=>
   (Za5 c 0 (IntKind.i64.wrap (n_1 - 1))).bind fun d=>
   if d=true then
    if (decide (0<((b:Nat):Int)))=true then
     (atI a (IntKind.i64.wrap (((b:Nat):Int) - 1))).bind fun e=>
     if (decide (c≤e))=true then
      some (.inr false)
     else
      some (.inl ())
    else
     some (.inl ())
   else
    some (.inr false))
  (fun _=>
   some true)
  a 0 ()
noncomputable def ZEb (b_0:Zu):Option Bool:=
 Zn (σ:=Unit)
  (fun (i11:Nat) (a:Zg) _=>
   (Za5 a.for_ 0 (IntKind.i64.wrap (b_0.nodes - 1))).bind fun b=>
   if b=true then
    (ZD4 a.inn b_0.nodes).bind fun c=>
    if c=true then
     (ZD4 a.outs b_0.nodes).bind fun d=>
     if d=true then
      some (.inl ())
     else
      some (.inr false)
    else
     some (.inr false)
   else
    some (.inr false))
  (fun _=>
   (Za5 b_0.nodes 0 24).bind fun e=>
   if e=true then
    some (decide (((b_0.reasons.length:Nat):Int)≤60))
   else
    some false)
  b_0.reasons 0 ()
noncomputable def ZFr (l_0:(List Int)):Option (List Int):=
 chk (l_0.length≤1073741824) <|
 some l_0
noncomputable def ZEk (g:Zu) (o:Int):Option (List Bool):=
 chk (0≤g.nodes∧g.nodes≤1073741824) <|
 Y5 (σ:=(List Bool) × (List Int) × Int)
  (fun s=>
   match s with
   | (l,m,d)=>
   if (decide (d<((m.length:Nat):Int)))=true then
    Zn (σ:=(List Bool) × (List Int))
     (fun (i95:Nat) (a:Zg) s=>
      match s with
      | (i,b)=>
      chk (0≤d∧d<((b.length:Nat):Int)) <|
      (b[(A0 d)]?).bind fun p=>
      if (a.for_ != p)=true then
       some (.inl (i,b))
      else
       (ZFr a.inn).bind fun j=>
       chk (j.length+a.outs.length≤1073741824) <|
       Y5 (σ:=(List Bool) × (List Int) × Int)
        (fun s=>
         match s with
         | (e,k,c)=>
         if (decide (c<((j.length+a.outs.length:Nat):Int)))=true then
          chk (0≤c∧c<((j.length+a.outs.length:Nat):Int)) <|
          ((j++a.outs)[(A0 c)]?).bind fun f=>
          chk (0≤f∧f<((e.length:Nat):Int)) <|
          (e[(A0 f)]?).bind fun q=>
          if q=true then
           some (.inl (e,k,(IntKind.i64.wrap (c+1))))
          else
           chk (k.length+1≤1073741824) <|
           some (.inl ((AE e (A0 f) true),(k++[f]),(IntKind.i64.wrap (c+1))))
         else
          some (.inr (.inl (e,k))))
        (i,b,0))
     (fun s=>
      match s with
      | (i,b)=>
      some (.inl (i,b,(IntKind.i64.wrap (d+1)))))
     g.reasons 0 (l,m)
   else
    some (.inr l))
  ((AN (A0 g.nodes) false),[o],0)
noncomputable def ZDG (b_0:Zu):Option Bool:=
 (ZEb b_0).bind fun d=>
 if d=true then
  Zn (σ:=Unit)
   (fun (i27:Nat) (a:Zg) _=>
    Zn (σ:=Unit)
     (fun (i36:Nat) (b:Int) _=>
      if (b==a.for_)=true then
       some (.inr (.inr false))
      else
       (ZEk b_0 b).bind fun c=>
       chk (0≤a.for_∧a.for_<((c.length:Nat):Int)) <|
       (c[(A0 a.for_)]?).bind fun e=>
       if e=true then
        some (.inr (.inr false))
       else
        some (.inl ()))
     (fun _=>
      some (.inl ()))
     a.outs 0 ())
   (fun _=>
    some true)
   b_0.reasons 0 ()
 else
  some false
noncomputable def ZEq (d:Zu):Option (List Int):=
 (ZDG d).bind fun p=>
 if p=true then
  chk (0≤d.nodes∧d.nodes≤1073741824) <|
  Y5 (σ:=(List Int) × Int)
   (fun s=>
    match s with
    | (i,j)=>
    if (decide (j≤d.nodes))=true then
     Zn (σ:=(List Int))
      (fun (i194:Nat) (a:Zg) e=>
       Zn (σ:=(List Int))
        (fun (i216:Nat) (f:Int) b=>
         chk (0≤a.for_∧a.for_<((b.length:Nat):Int)) <|
         (b[(A0 a.for_)]?).bind fun k=>
         chk (0≤f∧f<((b.length:Nat):Int)) <|
         (b[(A0 f)]?).bind fun l=>
         some (.inl (AE b (A0 a.for_) (if k<l then l else k))))
        (fun b=>
         Zn (σ:=(List Int))
          (fun (i228:Nat) (g:Int) c=>
           chk (0≤a.for_∧a.for_<((c.length:Nat):Int)) <|
           (c[(A0 a.for_)]?).bind fun m=>
           chk (0≤g∧g<((c.length:Nat):Int)) <|
           (c[(A0 g)]?).bind fun o=>
           some (.inl (AE c (A0 a.for_) (if m<(IntKind.i64.wrap (o+1)) then (IntKind.i64.wrap (o+1)) else m))))
          (fun c=>
           some (.inl c))
          a.outs 0 b)
        a.inn 0 e)
      (fun e=>
       some (.inl (e,(IntKind.i64.wrap (j+1)))))
      d.reasons 0 i
    else
     some (.inr i))
   ((AN (A0 d.nodes) 0),0)
 else
  some []
noncomputable def ZDx (l_0:(List Int)) (b:(List Int)) (round_2:Int):Option Bool:=
 Zn (σ:=Unit)
  (fun (i6:Nat) (c:Int) _=>
   (atI b c).bind fun a=>
   if (decide (a<0))=true then
    some (.inr false)
   else
    if (decide (round_2≤a))=true then
     some (.inr false)
    else
     some (.inl ()))
  (fun _=>
   some true)
  l_0 0 ()
noncomputable def ZDR (l_0:(List Int)) (a:(List Int)):Option Bool:=
 Zn (σ:=Unit)
  (fun (i6:Nat) (b:Int) _=>
   (atI a b).bind fun c=>
   if (decide (0≤c))=true then
    some (.inr false)
   else
    some (.inl ()))
  (fun _=>
   some true)
  l_0 0 ()
noncomputable def ZD5 (append_0:Zu) (e:(List Int)) (a_2:Int) (c:(List Int)) (a_4:Int):Option (List Int):=
 Y5 (σ:=(List Int) × Int)
  (fun s=>
   match s with
   | (b,a)=>
   if (decide (a<append_0.nodes))=true then
    (atI e a).bind fun f=>
    if (f != a_2)=true then
     some (.inl (b,(IntKind.i64.wrap (a+1))))
    else
     (atI c a).bind fun g=>
     if (decide (0≤g))=true then
      some (.inl (b,(IntKind.i64.wrap (a+1))))
     else
      Zn (σ:=Unit)
       (fun (i38:Nat) (d:Zg) _=>
        if (d.for_==a)=true then
         (ZDx d.inn c a_4).bind fun i=>
         if i=true then
          (ZDR d.outs c).bind fun j=>
          if j=true then
           chk (b.length+1≤1073741824) <|
           some (.inr (.inl ((b++[a]),(IntKind.i64.wrap (a+1)))))
          else
           some (.inl ())
         else
          some (.inl ())
        else
         some (.inl ()))
       (fun _=>
        some (.inl (b,(IntKind.i64.wrap (a+1)))))
       append_0.reasons 0 ()
   else
    some (.inr b))
  ([],0)
noncomputable def ZD6 (b_0:Zu):Option (List Int):=
 (ZDG b_0).bind fun m=>
 if m=true then
  (ZEq b_0).bind fun g=>
  Y5 (σ:=(List Int) × Int)
   (fun s=>
    match s with
    | (e,i)=>
    if (decide (i<b_0.nodes))=true then
     chk (e.length+1≤1073741824) <|
     some (.inl ((e++[(-1)]),(IntKind.i64.wrap (i+1))))
    else
     Y5 (σ:=(List Int) × Int × Int)
      (fun s=>
       match s with
       | (f,j,b)=>
       if (decide (b<b_0.nodes))=true then
        (ZD5 b_0 g b f j).bind fun o=>
        Y5 (σ:=(List Int) × (List Int) × Int)
         (fun s=>
          match s with
          | (k,l,c)=>
          if (decide (0<((l.length:Nat):Int)))=true then
           Zn (σ:=(List Int))
            (fun (i56:Nat) (d:Int) a=>
             chk (0≤d∧d<((a.length:Nat):Int)) <|
             (a[(A0 d)]?).bind fun q=>
             some (.inl (AE a (A0 d) c)))
            (fun a=>
             (ZD5 b_0 g b a (IntKind.i64.wrap (c+1))).bind fun p=>
             some (.inl (a,p,(IntKind.i64.wrap (c+1)))))
            l 0 k
          else
           some (.inr (.inl (k,c,(IntKind.i64.wrap (b+1))))))
         (f,o,j)
       else
        some (.inr (.inr f)))
      (e,0,0))
   ([],0)
 else
  some []
noncomputable def ZIN (b_0:Zu):Option (List Bool):=
 (ZD6 b_0).bind fun b=>
 Zn (σ:=(List Bool))
  (fun (i6:Nat) (c:Int) a=>
   chk (a.length+1≤1073741824) <|
   some (.inl (a++[(decide (0≤c))])))
  (fun a=>
   some a)
  b 0 []
noncomputable def ZI0 (l_0:(List Zd)) (b_1:Zu):Option (List Zd):=
 (ZIN b_1).bind fun b=>
 Zn (σ:=(List Zd))
  (fun (i10:Nat) (c:Zd) a=>
   if (decide (((i10:Nat):Int)<((b.length:Nat):Int)))=true then
    chk (0≤((i10:Nat):Int)∧((i10:Nat):Int)<((b.length:Nat):Int)) <|
    (b[i10]?).bind fun d=>
    if d=true then
     (XM c).bind fun e=>
     chk (a.length+1≤1073741824) <|
     some (.inl (a++[e]))
    else
     some (.inl a)
   else
    some (.inr a))
  (fun a=>
   some a)
  l_0 0 []
noncomputable def ZIQ (rules_0:(List Zf)) (base_1:(List Zd)):Option ((List Zd) × Bool):=
 (X4 rules_0 base_1).bind fun a=>
 if a.2.2=true then
  (ZI0 a.1 a.2.1).bind fun b=>
  some (b,true)
 else
  some ([],false)
end
section
open Go.RowKit
def Zv1 (P:Program) (L:List (String × (Array Value→Prop))) (w:World):Prop:=∀x∈L,∃cs,w.var? P x.1=some cs∧x.2 cs
def ZvV (P:Program) (L:List (String × (Array Value→Prop))) (b:Nat):Prop:=∀x∈L,¬P.globalNamed x.1=some b
theorem Zvk (P:Program) (L:List (String × (Array Value→Prop))):JOk (Zv1 P L) (ZvV P L) where
 below:=fun x w w' hj hx _ _ _ hs hb y my=>by
  obtain ⟨cs,h1,h2⟩:=hj y my
  refine ⟨cs,?_,h2⟩
  unfold World.var? at h1 ⊢
  obtain ⟨g,hg,h1⟩:=AC.1 h1
  rw [hg,AM]
  have hlt:g<w.heap.size:=by
   rcases Nat.lt_or_ge g w.heap.size with h | h
   ·exact h
   ·rw [Ai h] at h1;simp at h1
  rw [hb g hlt (fun h=>hx g h y my hg)]
  exact h1
 new:=fun w b hj hb y my hg=>by
  obtain ⟨cs,h1,_⟩:=hj y my
  unfold World.var? at h1
  rw [hg,AM,Ai hb] at h1
  simp at h1
theorem ZDP {J:World→Prop} {JF:Nat→Prop} (h:JOk J JF) {w w':World} (hj:J w) (hb:Below w.heap.size w w'):J w':=
 h.below (fun _=>False) w w' hj (fun _ h=>h.elim) hb.os hb.tape hb.output hb.size fun k hk _=>hb.block k hk
theorem Zo0 {w:World} {B:Nat} {n:Nat→Prop} {ct:CT} {v:Value} (h:OC w B n (false,ct) v []):Ziy w B n [(false,[(false,ct)])] v:=
 ⟨[v],[],⟨v,[],[],[],rfl,rfl,.inr ⟨rfl,_,rfl,h⟩,rfl,rfl⟩,Own.nil _ _,by simp⟩
theorem ZpA {w:World} {B:Nat} {n:Nat→Prop} {c1 c2:CT} {v1 v2:Value} (h1:OC w B n (false,c1) v1 []) (h2:OC w B n (false,c2) v2 []):Ziy w B n [(false,[(false,c1)]),(false,[(false,c2)])] (.tuple #[v1,v2]):=
 ⟨[v1,v2],[],⟨v1,[v2],[],[],rfl,rfl,.inr ⟨rfl,_,rfl,h1⟩,v2,[],[],[],rfl,rfl,.inr ⟨rfl,_,rfl,h2⟩,rfl,rfl⟩,Own.nil _ _,by simp⟩
theorem Zrp {w:World} {z:Nat→Prop} {c:CT} {v:Value} (h:Zjv w z (false,[c]) v):∃L,RC w c v L:=by
 rcases h with ⟨h,_⟩ | ⟨_,ct,L,h,hr,_⟩
 ·simp at h
 ·simp only[AS,and_true] at h
  subst h
  exact ⟨L,hr⟩
theorem ZjO {w:World} {z:Nat→Prop} {c:CT} {vs:List Value} (h:ZH (Zjv w z) [(false,[c])] vs):∃v L,vs=[v]∧RC w c v L:=by
 cases vs with
 | nil=>exact h.elim
 | cons v r=>
  cases r with
  | nil=>obtain ⟨L,hr⟩:=Zrp h.1;exact ⟨v,L,rfl,hr⟩
  | cons _ _=>exact h.2.elim
theorem Zs7 {w:World} {z:Nat→Prop} {c d:CT} {vs:List Value} (h:ZH (Zjv w z) [(false,[c]),(false,[d])] vs):∃v u L M,vs=[v,u]∧RC w c v L∧RC w d u M:=by
 cases vs with
 | nil=>exact h.elim
 | cons v r=>
  obtain ⟨u,M,rfl,hu⟩:=ZjO h.2
  obtain ⟨L,hr⟩:=Zrp h.1
  exact ⟨v,u,L,M,rfl,hr,hu⟩
end
end Go.Proofs.YtekbmedphidcgaaGreatDoor
