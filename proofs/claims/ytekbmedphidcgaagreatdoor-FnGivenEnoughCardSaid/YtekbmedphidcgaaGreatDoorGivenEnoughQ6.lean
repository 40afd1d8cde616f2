/- Texts of this proof, joined: BSound, BFn, BTok, Laid, DT, Shelf, SortH, SortZ, LCompare, SortS, LAtoi, LItoa, Ext, Dp0, Dp1. What each holds is said at its theorems. -/
import Derived.Test.YtekbmedphidcgaaGreatDoorGivenEnoughQ5
import Derived.Test.YtekbmedphidcgaaGreatDoorGivenEnoughQ1
import Derived.Test.YtekbmedphidcgaaGreatDoorGivenEnoughQ4
import GoSem.Claims
import Derived.Test.YtekbmedphidcgaaGreatDoorGivenEnoughQ2
import Derived.Test.YtekbmedphidcgaaGreatDoorProg
import Derived.Lib.LaidTab
import Derived.Lib.ItoaNum
import Derived.Shelf.Small.Strs
import Derived.Shelf.Small.Wraps
import Derived.Shelf.Strconv.Atoi
import Derived.Shelf.Strconv.Itoa0
import Derived.Shelf.Strconv.Itoa1
import Derived.Shelf.LaysM
import Derived.Shelf.Strconv.Itoa2
import Derived.Shelf.Strconv.Itoa3
import Derived.Shelf.Strconv.AtoiErrFast
import Derived.Shelf.Strconv.ParseIntEmpty
import Derived.Shelf.Strconv.AtoiFail
import Derived.Shelf.Strconv.Clone
import Derived.Shelf.Strconv.SyntaxError
import Derived.Shelf.LaysC
import Derived.Shelf.Strconv.ToError
import Derived.Shelf.Strconv.AtoiErr
import Derived.Shelf.Strconv.ErrVar
import Derived.Shelf.Sort.Plain
import Derived.Shelf.Slices.In.SortNone
import Derived.Shelf.Slices.In.SortNone2
import Derived.Lib.AtoiErrMem
import Derived.Lib.AppendIntMem
import Derived.Lib.ItoaLen
open Array renaming replicate→A8,getD_eq_getD_getElem?→AH,getElem?_eq_some_iff→AO,getElem?_append→AW,getElem?_eq_none→AZ,getElem?_toList→Ad,getElem?_modify→Af
open Bool renaming and_eq_true→A6,not_eq_true'→AX,false_or→Ah,or_false→Aj
open Int renaming toNat_natCast→AK
open List renaming map→A0,mem_append→A9,getElem?_eq_some_iff→AB,mem_map→AD,all_eq_true→AF,nodup_append→AG,size_toArray→AJ,nodup_cons→AL,set_getElem_self→AM,mem_or_eq_of_mem_set→AN,toArray→AP,getElem_mem→AR,range_eq_range'→AS,mapM_cons→AU,eq_nil_of_length_eq_zero→Aa,getElem?_take→Ab,getElem?_drop→Ac,getElem?_map→Ae,map_map→Ag
open List.Sublist renaming append→AT
open List.cons renaming injEq→AI
open Nat renaming le_refl→A7,le_of_ble_eq_true→AA,zero_le→AQ
open Option renaming bind_eq_some_iff→AC,map_eq_some_iff→AE,bind_some→AY
open Option.some renaming inj→A3,injEq→A5
open Prod.mk renaming injEq→A4
open Go.Proofs.Tryz
set_option linter.unusedSimpArgs false
set_option linter.unusedVariables false
set_option maxRecDepth 1000000
set_option maxHeartbeats 4000000
namespace Go.Proofs.YtekbmedphidcgaaGreatDoor
section
open Go.RowKit
theorem ZqS:∀{ρ:List Nat} {k i j:Nat},Znd ρ k i=some j→i≤j∧ρ[j - i]?=some k
 | [],_,_,_,h=>by simp [Znd] at h
 | x::r,k,i,j,h=>by
  simp only[Znd] at h
  split at h
  ·rename_i e
   simp only[A5] at h
   subst h e
   exact ⟨A7 _,yG⟩
  ·obtain ⟨h1,h2⟩:=ZqS h
   refine ⟨yE,?_⟩
   rw [show j - i=(j - (i+1))+1 by omega]
   simpa using h2
theorem Zcv [NW] {ρ:List Nat} {k j:Nat} (h:Znd ρ k 0=some j):ρ[j]?=some k:=by simpa using (ZqS h).2
theorem Zmi {α:Type}:∀{l:List α},l.Nodup→∀{i j:Nat} (hi:i<l.length) (hj:j<l.length),l[i]=l[j]→i=j
 | [],_,_,_,hi,_,_=>by simp at hi
 | x::l,h,0,0,_,_,_=>rfl
 | x::l,h,0,j+1,_,hj,e=>by
  rw [AL] at h
  exact absurd (by simp at e;rw [e];exact AR _) h.1
 | x::l,h,i+1,0,hi,_,e=>by
  rw [AL] at h
  exact absurd (by simp at e;rw [←e];exact AR _) h.1
 | x::l,h,i+1,j+1,hi,hj,e=>by
  rw [AL] at h
  have:=Zmi h.2 (i:=i) (j:=j) (by simpa using hi) (by simpa using hj) (by simpa using e)
  omega
section
variable {P:Program} {J:World→Prop} {JF:Nat→Prop} {W:QK} {U:Nat→Prop} {st st':St} {w w':World} {a:Act} {tt:Nat→Option TI} {S:Ctx}
theorem ZAi [NW] {g g':Gh} {ρ:List Nat} (hv:∀j k,ρ[j]?=some k→g'.val j=g.val k) (ho:Y7 g' g) {x:AV} {v:Value} (h:AVR g w x v):AVR g' w (rAV ρ x) v:=by
 cases x with
 | c x=>obtain ⟨L,h1,h2⟩:=h;exact ⟨L,h1,fun b m o=>h2 b m (ho.own b o)⟩
 | n x=>exact NR.move h (fun _ _ _=>rfl) (ho.grow _)
 | row k=>
  simp only[rAV]
  split
  ·rename_i j hj
   exact ⟨by rw [hv j k (Zcv hj)];exact h.1,h.2⟩
  ·exact h.2
 | nil e m=>exact h
 | dead=>exact h
theorem ZH.map_left {α β γ:Type} {R:α→γ→Prop} {R':β→γ→Prop} (f:α→β) (h:∀a c,R a c→R' (f a) c):∀{l:List α} {r:List γ},ZH R l r→ZH R' (l.map f) r
 | [],[],_=>trivial
 | _::_,_::_,hh=>⟨h _ _ hh.1,hh.2.map_left f h⟩
 | [],_::_,h=>h.elim
 | _::_,[],h=>h.elim
theorem Zut [NW] (ρ:List Nat) (x:AV):avU (fun j=>j<ρ.length) (rAV ρ x):=by
 cases x with
 | row k=>
  simp only[rAV]
  split
  ·rename_i j hj
   exact (AB.1 (Zcv hj)).1
  ·trivial
 | _=>trivial
theorem ZqZ [NW] (hI:Inv W U st a w) {ρ:List Nat} (hρ:ρ.Nodup):Inv W (fun j=>j<ρ.length) (st.ren ρ) a w:=by
 obtain ⟨⟨g,hH,hS⟩,hU,hdef,hh⟩:=hI
 let g':Gh:=⟨fun j=>match ρ[j]? with | some k=>g.val k | none=>undef,fun j=>match ρ[j]? with | some k=>g.O k | none=>[],fun j=>match ρ[j]? with | some k=>g.D k | none=>[],g.Z⟩
 have gs:∀j k,ρ[j]?=some k→g'.val j=g.val k∧g'.O j=g.O k∧g'.D j=g.D k:=fun j k h=>by simp [g',h]
 have gn:∀j,ρ[j]?=none→g'.O j=[]∧g'.D j=[]:=fun j h=>by simp [g',h]
 have ho:∀b,g'.own b→g.own b:=fun b hb=>by
  rcases hb with ⟨j,mj⟩ | hz
  ·cases h:ρ[j]? with
   | none=>rw [(gn j h).1] at mj;simp at mj
   | some k=>rw [(gs j k h).2.1] at mj;exact .inl ⟨k,mj⟩
  ·exact .inr hz
 have hless:Y7 g' g:=.of ho fun j b mb=>by
  cases h:ρ[j]? with
  | none=>rw [(gn j h).2] at mb;simp at mb
  | some k=>rw [(gs j k h).2.2] at mb;exact ⟨k,mb⟩
 have hAV:∀x v,AVR g w x v→AVR g' w (rAV ρ x) v:=fun x v h=>ZAi (fun j k hjk=>(gs j k hjk).1) hless h
 have hAVs:∀xs vs,ZH (AVR g w) xs vs→ZH (AVR g' w) (xs.map (rAV ρ)) vs:=fun xs vs h=>h.map_left _ hAV
 have hPV:∀ag cs v,PVR g w ag cs v→PVR g' w ag (cs.map (rAV ρ)) v:=fun ag cs v h=>by
  cases ag with
  | true=>obtain ⟨vs,h1,h2⟩:=h;exact ⟨vs,h1,hAVs _ _ h2⟩
  | false=>obtain ⟨x,rfl,h2⟩:=h;exact ⟨_,rfl,hAV _ _ h2⟩
 refine ⟨⟨g',⟨hH.below,fun j=>?_,fun j=>?_,fun j i hji b mb=>?_,fun j b mb=>?_,hH.gz,hH.zx,hH.nw⟩,fun t=>?_⟩,⟨fun t=>?_,fun j=>?_,fun j hj=>?_⟩,hdef,hh⟩
 ·show ObR g' w j (match ρ[j]? with | some k=>rOb ρ (st.ob k) | none=>.gone)
  cases h:ρ[j]? with
  | none=>exact gn j h
  | some k=>
   obtain ⟨e1,e2,e3⟩:=gs j k h
   have hob:=hH.obs k
   show ObR g' w j (rOb ρ (st.ob k))
   cases hok:st.ob k with
   | gone=>rw [hok] at hob;exact ⟨e2.trans hob.1,e3.trans hob.2⟩
   | box t cs=>
    rw [hok] at hob
    obtain ⟨b,vs,h1,h2,h3,h4,h5⟩:=hob
    exact ⟨b,vs,e1.trans h1,e2.trans h2,e3.trans h3,h4,hAVs _ _ h5⟩
   | map kk vk kv=>
    rw [hok] at hob
    obtain ⟨b,es,c,h1,h2,h3,h4⟩:=hob
    exact ⟨b,es,c,e1.trans h1,e2.trans h2,e3.trans h3,h4⟩
   | row e m xs d=>
    rw [hok] at hob
    obtain ⟨hm,cs,L,h1,h2,h4⟩:=hob
    refine ⟨hm,cs,L,by rw [e1];exact h1,h2,?_⟩
    rw [e1,e2,e3]
    rcases h4 with h4 | ⟨hd,h3,h4,h5⟩ | ⟨hd,h3,h4,h5⟩
    ·exact .inl h4
    ·exact .inr (.inl ⟨hd,h3,h4,fun b mb o=>h5 b mb (ho b o)⟩)
    ·exact .inr (.inr ⟨hd,h3,h4,fun b mb o=>h5 b mb (ho b o)⟩)
 ·cases h:ρ[j]? with
  | none=>rw [(gn j h).1,(gn j h).2];simp
  | some k=>rw [(gs j k h).2.1,(gs j k h).2.2];exact hH.nodup k
 ·cases h:ρ[j]? with
  | none=>rw [(gn j h).1,(gn j h).2] at mb;simp at mb
  | some k=>
   rw [(gs j k h).2.1,(gs j k h).2.2] at mb
   cases h':ρ[i]? with
   | none=>rw [(gn i h').1,(gn i h').2];simp
   | some q=>
    rw [(gs i q h').2.1,(gs i q h').2.2]
    refine hH.apart k q (fun e=>hji ?_) b mb
    subst e
    obtain ⟨l1,e1⟩:=AB.1 h
    obtain ⟨l2,e2⟩:=AB.1 h'
    exact Zmi hρ l1 l2 (e1.trans e2.symm)
 ·cases h:ρ[j]? with
  | none=>rw [(gn j h).1,(gn j h).2] at mb;simp at mb
  | some k=>
   rw [(gs j k h).2.1,(gs j k h).2.2] at mb
   refine ⟨(hH.plain k b mb).1,(hH.plain k b mb).2.of ?_⟩
   show ZhR (match ρ[j]? with | some k=>rOb ρ (st.ob k) | none=>.gone)=_
   rw [h]
   show ZhR (rOb ρ (st.ob k))=_
   cases st.ob k<;>rfl
 ·have hs:=hS t
  show SVR g' w (rSV ρ (st.sl t)) _
  cases hsl:st.sl t with
  | any=>trivial
  | und=>rw [hsl] at hs;exact hs
  | p ag cs=>rw [hsl] at hs;exact hPV _ _ _ hs
  | tup xs=>
   rw [hsl] at hs
   obtain ⟨vs,h1,h2⟩:=hs
   exact ⟨vs,h1,h2.map_left (fun x:Bool × List AV=>(x.1,x.2.map (rAV ρ))) fun x v h=>hPV x.1 x.2 v h⟩
  | bp k off=>
   rw [hsl] at hs
   simp only[rSV]
   split
   ·rename_i j hj
    obtain ⟨b,h1,h2⟩:=hs
    exact ⟨b,((gs j k (Zcv hj)).1).trans h1,h2⟩
   ·trivial
  | rp k m i off=>
   rw [hsl] at hs
   simp only[rSV]
   split
   ·rename_i j hj
    obtain ⟨b,o,n,c,h1,h2⟩:=hs
    exact ⟨b,o,n,c,((gs j k (Zcv hj)).1).trans h1,h2⟩
   ·trivial
  | ep e off=>
   rw [hsl] at hs
   obtain ⟨b,lo,cs,L,h1,h2,h3,h4,h5⟩:=hs
   exact ⟨b,lo,cs,L,h1,h2,h3,fun x m o=>h4 x m (ho x o),h5⟩
  | fn f=>rw [hsl] at hs;exact hs
 ·show svU _ (rSV ρ (st.sl t))
  cases st.sl t with
  | p ag cs=>intro y my;obtain ⟨x,_,rfl⟩:=AD.1 my;exact Zut ρ x
  | tup xs=>
   intro y my
   obtain ⟨x,_,rfl⟩:=AD.1 my
   intro z mz
   obtain ⟨q,_,rfl⟩:=AD.1 mz
   exact Zut ρ q
  | bp k off=>
   simp only[rSV]
   split
   ·rename_i j hj;exact (AB.1 (Zcv hj)).1
   ·trivial
  | rp k m i off=>
   simp only[rSV]
   split
   ·rename_i j hj;exact (AB.1 (Zcv hj)).1
   ·trivial
  | _=>trivial
 ·show obU _ (match ρ[j]? with | some k=>rOb ρ (st.ob k) | none=>.gone)
  split
  ·rename_i k _
   cases st.ob k with
   | box t cs=>intro y my;obtain ⟨x,_,rfl⟩:=AD.1 my;exact Zut ρ x
   | _=>trivial
  ·trivial
 ·show (match ρ[j]? with | some k=>rOb ρ (st.ob k) | none=>.gone)=.gone
  have:ρ[j]?=none:=List.getElem?_eq_none (by omega)
  rw [this]
theorem Zu7 [NW] {g:Gh} {ob:Nat→Ob} (hI:HI W g ob w) {k e m d d':Nat} {xs:List (List CT)} (hk:ob k=.row e m xs d) (hd:d'<d):∃g1:Gh,HI W g1 (upd ob k (.row e m xs d')) w∧g1.val=g.val∧Y7 g1 g:=by
 by_cases h0:d'=0
 ·obtain ⟨g1,h1,h2,h3,_⟩:=ZhF hI k
  rw [hk] at h1
  exact ⟨g1,by rw [h0];exact h1,h2,h3⟩
 ·have ho:=hI.obs k
  rw [hk] at ho
  obtain ⟨hm,cs,L,o1,o2,o3⟩:=ho
  have h2:d=2∧g.O k=(g.val k).ownBlock.toList∧g.D k=L:=by
   rcases o3 with o3 | ⟨q,_⟩ | ⟨q,_⟩
   ·exact o3
   ·omega
   ·omega
  obtain ⟨rfl,q1,q2⟩:=h2
  obtain rfl:d'=1:=by omega
  let g1:Gh:=⟨g.val,g.O,upd g.D k [],g.Z⟩
  have hown:∀b,g1.own b↔g.own b:=fun b=>Iff.rfl
  have l:Y7 g1 g:=.of (fun b hb=>hb) fun j b mb=>by
   by_cases hj:j=k
   ·subst hj;simp [g1,upd] at mb
   ·exact ⟨j,by simpa [g1,upd,hj] using mb⟩
  have f:∀j b,b∈g1.O j++g1.D j→b∈g.O j++g.D j:=fun j b mb=>by
   by_cases hj:j=k
   ·subst hj;simp [g1,upd] at mb;simp [mb]
   ·simpa [g1,upd,hj] using mb
  refine ⟨g1,⟨hI.below,fun j=>?_,fun j=>?_,fun i j o b mb mj=>hI.apart i j o b (f i b mb) (f j b mj),fun j b mb=>⟨(hI.plain j b (f j b mb)).1,(hI.plain j b (f j b mb)).2.of (by
   by_cases hj:j=k
   ·subst hj;rw [Zy,hk];rfl
   ·rw [ZI _ _ hj])⟩,hI.gz,hI.zx,hI.nw⟩,rfl,l⟩
  ·by_cases hj:j=k
   ·subst hj
    rw [Zy]
    refine ⟨hm,cs,L,o1,o2,.inr (.inl ⟨rfl,q1,by simp [g1,upd],fun b mb hb=>?_⟩)⟩
    have mk:b∈g.D j:=by rw [q2];exact mb
    rcases hb with ⟨i,mi⟩ | hz
    ·by_cases o:i=j
     ·subst o
      have:=hI.nodup i
      rw [AG] at this
      exact this.2.2 b mi b mk rfl
     ·exact hI.apart i j o b (by simp;exact .inl mi) (by simp [mk])
    ·exact hI.nz (k:=j) (b:=b) (by simp [mk]) hz
   ·rw [ZI _ _ hj]
    have a:=hI.obs j
    cases hh:ob j with
    | gone=>rw [hh] at a;exact ⟨a.1,by simpa [g1,upd,hj] using a.2⟩
    | box t ds=>
     rw [hh] at a
     obtain ⟨b,vs,h1,h2,h3,h4,h5⟩:=a
     exact ⟨b,vs,h1,h2,by simpa [g1,upd,hj] using h3,h4,h5.mono fun x u _ hx=>AVR.less hx rfl l⟩
    | map kk vk kv=>
     rw [hh] at a
     obtain ⟨b,es,c,h1,h2,h3,h4⟩:=a
     exact ⟨b,es,c,h1,h2,by simpa [g1,upd,hj] using h3,h4⟩
    | row e' m' xs' d2=>
     rw [hh] at a
     obtain ⟨p,v,L',p1,p2,p3⟩:=a
     refine ⟨p,v,L',p1,p2,?_⟩
     have e2:g1.D j=g.D j:=by simp [g1,upd,hj]
     rw [e2]
     exact p3
  ·by_cases hj:j=k
   ·subst hj
    have:=hI.nodup j
    rw [AG] at this
    simpa [g1,upd] using this.1
   ·have:=hI.nodup j
    simpa [g1,upd,hj] using this
theorem ZuE [NW] (m:Bool × Nat × Nat) (hI:Inv W U st a w) (hk:∀k,st.n≤k→¬U k):∃U',Inv W U' (st.mat m) a w∧∀k,(st.mat m).n≤k→¬U' k:=by
 have A:∃U',Inv W U' st a w∧∀k,st.n≤k→¬U' k:=⟨U,hI,hk⟩
 have S:¬U st.n:=hk st.n (A7 _)
 have N:∀k,st.n+1≤k→¬(U k∨k=st.n):=fun k l h=>by
  rcases h with h | h
  ·exact hk k yE h
  ·omega
 have T:∀(e q:Nat),0<q→∀g,HI W g st.ob w→∃g',HI W g' (upd st.ob st.n (.row e q [] 2)) w∧(∀x u,svU U x→SVR g w x u→SVR g' w x u)∧g'.val st.n=.slice none 0 0∧(∀x u,avU U x→AVR g w x u→AVR g' w x u):=fun e q hq g hH=>by
  obtain ⟨t1,t2⟩:=hH.turn (key:=st.n) (U:=U) (w':=w) (v:=.slice none 0 0) (O:=[]) (D:=[]) (o:=.row e q [] 2) hI.wf.ob S [] yG hH.below (A7 _) (fun _ _ _=>rfl) yG yG yG yG
   (fun _=>⟨hq,[],[],by simpa [Gh.turn,upd] using ZiJ _ _ _ _,⟨rfl,rfl⟩,.inl ⟨rfl,by simp [Gh.turn,upd,Value.ownBlock],by simp [Gh.turn]⟩⟩)
  refine ⟨_,t1,t2,by simp [Gh.turn,upd],fun x u hx hu=>hu.move hx (fun k l=>ZI _ _ fun e=>S (e ▸ l)) (fun _ _ _=>rfl) (Zm7 yG yG)⟩
 have up:∀k,U k→(U k∨k=st.n):=fun _ h=>.inl h
 obtain ⟨⟨g,hH,hS⟩,hU,B,hh⟩:=hI
 have P:∀k e q xs d,st.ob k=.row e q xs d→∃g1:Gh,HI W g1 (upd st.ob k (.row e q xs 0)) w∧g1.val=g.val∧Y7 g1 g∧U k∧∀v,AVR g w (.row k) v→AVR g1 w (.c (.sl e q xs)) v:=fun k e q xs d f=>by
  obtain ⟨g1,i1,i2,i3,_⟩:=ZhF hH k
  rw [f] at i1
  obtain ⟨L,t1,t2⟩:=ZoZ i1 (Zy st.ob k (.row e q xs 0))
  exact ⟨g1,i1,i2,i3,Classical.byContradiction fun hn=>by have:=hU.gone _ hn;rw [f] at this;simp at this,fun v hv=>⟨L,by rw [hv.1,←i2];exact t1,t2⟩⟩
 have Q:∀{gg:Gh} {cs:List AV} {vs:List Value} {j:Nat} {y:AV} {v:Value},ZH (AVR gg w) cs vs→vs[j]?=some v→AVR gg w y v→ZH (AVR gg w) (cs.set j y) vs:=fun {gg cs vs j y v} h1 h2 h3=>by
  have:=h1.set (i:=j) h3
  obtain ⟨hl,he⟩:=AB.1 h2
  rw [←he,AM hl] at this
  exact this
 have R:∀{gg:Gh} {ag:Bool} {cs:List AV} {v:Value} {j:Nat} {x y:AV},PVR gg w ag cs v→cs[j]?=some x→(∀u,AVR gg w x u→AVR gg w y u)→PVR gg w ag (cs.set j y) v:=fun {gg ag cs v j x y} h1 h2 h3=>by
  cases ag with
  | true=>
   obtain ⟨vs,rfl,h4⟩:=h1
   obtain ⟨u,u1,u2⟩:=h4.at h2
   exact ⟨vs,rfl,Q h4 u1 (h3 u u2)⟩
  | false=>
   obtain ⟨z,rfl,h4⟩:=h1
   cases j with
   | zero=>simp at h2;subst h2;exact ⟨y,rfl,h3 v h4⟩
   | succ j=>simp at h2
 have K:∀{V:Nat→Prop} {cs:List AV} {j:Nat} {y:AV},X6 V cs→avU V y→X6 V (cs.set j y):=fun {V cs j y} h1 h2 z mz=>by
  rcases AN mz with mz | mz
  ·exact h1 z mz
  ·subst mz;exact h2
 unfold St.mat
 split
 ·split
  ·rename_i ag cs X
   have G:X6 U cs:=by have:=hU.sl m.2.1;rw [X] at this;exact this
   have hs:=hS m.2.1
   rw [X] at hs
   split
   ·rename_i e q H
    split
    ·rename_i hq
     obtain ⟨g',t1,t2,t3,t4⟩:=T e q hq g hH
     refine ⟨fun k=>U k∨k=st.n,⟨⟨g',t1,fun t=>?_⟩,⟨fun t=>?_,fun k=>?_,fun k l=>?_⟩,B,hh⟩,N⟩
     ·show SVR g' w (upd st.sl m.2.1 (.p ag (cs.set m.2.2 (.row st.n))) t) _
      by_cases ht:t=m.2.1
      ·subst ht
       rw [Zy]
       have h1:PVR g' w ag cs (a.tmps.getD m.2.1 undef):=t2 (.p ag cs) _ G hs
       refine R h1 H fun u hu=>?_
       have Z:u=.slice none 0 0:=hu
       rw [Z]
       exact ⟨t3.symm,rfl⟩
      ·rw [ZI _ _ ht];exact t2 _ _ (hU.sl t) (hS t)
     ·show svU _ (upd st.sl m.2.1 (.p ag (cs.set m.2.2 (.row st.n))) t)
      by_cases ht:t=m.2.1
      ·subst ht;rw [Zy];exact K (G.mono up) (.inr rfl)
      ·rw [ZI _ _ ht];exact (hU.sl t).mono up
     ·show obU _ (upd st.ob st.n _ k)
      by_cases l:k=st.n
      ·subst l;rw [Zy];trivial
      ·rw [ZI _ _ l];exact (hU.ob k).mono up
     ·show upd st.ob st.n _ k=_
      rw [ZI _ _ fun e=>l (.inr e)];exact hU.gone k fun h=>l (.inl h)
    ·exact A
   ·rename_i k H
    split
    ·rename_i e q xs d f
     obtain ⟨g1,i1,i2,i3,C,i4⟩:=P k e q xs d f
     refine ⟨U,⟨⟨g1,i1,fun t=>?_⟩,⟨fun t=>?_,fun j=>?_,fun j hj=>?_⟩,B,hh⟩,hk⟩
     ·show SVR g1 w (upd st.sl m.2.1 (.p ag (cs.set m.2.2 (.c (.sl e q xs)))) t) _
      by_cases ht:t=m.2.1
      ·subst ht
       rw [Zy]
       have h1:PVR g1 w ag cs (a.tmps.getD m.2.1 undef):=(show SVR g w (.p ag cs) _ from hs).less i2 i3
       exact R h1 H fun u hu=>i4 u ⟨hu.1.trans (by rw [i2]),hu.2⟩
      ·rw [ZI _ _ ht];exact (hS t).less i2 i3
     ·show svU _ (upd st.sl m.2.1 (.p ag (cs.set m.2.2 (.c (.sl e q xs)))) t)
      by_cases ht:t=m.2.1
      ·subst ht;rw [Zy];exact K G trivial
      ·rw [ZI _ _ ht];exact hU.sl t
     ·show obU U (upd st.ob k (.row e q xs 0) j)
      by_cases h1:j=k
      ·subst h1;rw [Zy];trivial
      ·rw [ZI _ _ h1];exact hU.ob j
     ·show upd st.ob k (.row e q xs 0) j=_
      rw [ZI _ _ (show j≠k from fun e'=>hj (e' ▸ C))];exact hU.gone j hj
    ·exact A
   ·exact A
  ·exact A
 ·split
  ·rename_i ty cs f
   split
   ·rename_i e q H
    split
    ·rename_i hq
     obtain ⟨g',t1,t2,t3,t4⟩:=T e q hq g hH
     have C:U m.2.1:=Classical.byContradiction fun hn=>by have:=hU.gone _ hn;rw [f] at this;simp at this
     have E:m.2.1≠st.n:=fun e=>S (e ▸ C)
     have G:X6 U cs:=by have:=hU.ob m.2.1;rw [f] at this;exact this
     have F:=t1.obs m.2.1
     rw [ZI _ _ E,f] at F
     obtain ⟨b,vs,b1,b2,b3,b4,b5⟩:=F
     obtain ⟨u,u1,u2⟩:=b5.at H
     have Y:u=.slice none 0 0:=u2
     have aa:vs.set m.2.2 u=vs:=by
      obtain ⟨hl,he⟩:=AB.1 u1
      rw [←he];exact AM hl
     have I:ObR g' w m.2.1 (.box ty (cs.set m.2.2 (.row st.n))):=by
      refine ⟨b,vs,b1,b2,b3,b4,?_⟩
      have:=b5.set (i:=m.2.2) (a:=AV.row st.n) (b:=u) ⟨by rw [Y,t3],by rw [Y];rfl⟩
      rw [aa] at this
      exact this
     have J:∀k,(upd (upd st.ob m.2.1 (.box ty (cs.set m.2.2 (.row st.n)))) st.n (.row e q [] 2)) k=if k=m.2.1 then .box ty (cs.set m.2.2 (.row st.n)) else (upd st.ob st.n (.row e q [] 2)) k:=fun k=>by
      by_cases h1:k=st.n
      ·have h2:¬k=m.2.1:=fun e'=>E (e'.symm.trans h1)
       have h3:¬st.n=m.2.1:=fun e'=>E e'.symm
       simp [upd,h1,h3]
      ·by_cases h2:k=m.2.1
       ·simp [upd,h2,E]
       ·simp [upd,h1,h2]
     refine ⟨fun k=>U k∨k=st.n,⟨⟨g',⟨t1.below,fun k=>?_,t1.nodup,t1.apart,fun k b mb=>⟨(t1.plain k b mb).1,(t1.plain k b mb).2.of (by
       show ZhR ((upd (upd st.ob m.2.1 (.box ty (cs.set m.2.2 (.row st.n)))) st.n (.row e q [] 2)) k)=_
       rw [J k]
       split
       ·rename_i h1;subst h1;rw [ZI _ _ E,f];rfl
       ·rfl)⟩,t1.gz,t1.zx,t1.nw⟩,fun t=>t2 _ _ (hU.sl t) (hS t)⟩,⟨fun t=>(hU.sl t).mono up,fun k=>?_,fun k l=>?_⟩,B,hh⟩,N⟩
     ·show ObR g' w k ((upd (upd st.ob m.2.1 (.box ty (cs.set m.2.2 (.row st.n)))) st.n (.row e q [] 2)) k)
      rw [J k]
      split
      ·rename_i h1;subst h1;exact I
      ·exact t1.obs k
     ·show obU _ ((upd (upd st.ob m.2.1 (.box ty (cs.set m.2.2 (.row st.n)))) st.n (.row e q [] 2)) k)
      rw [J k]
      split
      ·intro y my
       rcases AN my with my | my
       ·exact (G y my).mono up
       ·subst my;exact .inr rfl
      ·by_cases h1:k=st.n
       ·subst h1;rw [Zy];trivial
       ·rw [ZI _ _ h1];exact (hU.ob k).mono up
     ·show (upd (upd st.ob m.2.1 (.box ty (cs.set m.2.2 (.row st.n)))) st.n (.row e q [] 2)) k=_
      rw [J k,if_neg (show ¬k=m.2.1 from fun e'=>l (.inl (e' ▸ C))),ZI _ _ (show k≠st.n from fun e'=>l (.inr e'))]
      exact hU.gone k fun h=>l (.inl h)
    ·exact A
   ·rename_i k H
    split
    ·rename_i e q xs d M
     obtain ⟨g1,i1,i2,i3,C,i4⟩:=P k e q xs d M
     have ab:U m.2.1:=Classical.byContradiction fun hn=>by have:=hU.gone _ hn;rw [f] at this;simp at this
     have E:k≠m.2.1:=fun e'=>by rw [e',f] at M;simp at M
     have G:X6 U cs:=by have:=hU.ob m.2.1;rw [f] at this;exact this
     have F:=i1.obs m.2.1
     rw [ZI _ _ (fun e'=>E e'.symm),f] at F
     obtain ⟨b,vs,b1,b2,b3,b4,b5⟩:=F
     obtain ⟨u,u1,u2⟩:=b5.at H
     have I:ObR g1 w m.2.1 (.box ty (cs.set m.2.2 (.c (.sl e q xs)))):=⟨b,vs,b1,b2,b3,b4,Q b5 u1 (i4 u ⟨u2.1.trans (by rw [i2]),u2.2⟩)⟩
     refine ⟨U,⟨⟨g1,⟨i1.below,fun j=>?_,i1.nodup,i1.apart,fun j b mb=>⟨(i1.plain j b mb).1,(i1.plain j b mb).2.of (by
       show ZhR (upd (upd st.ob k (.row e q xs 0)) m.2.1 (.box ty (cs.set m.2.2 (.c (.sl e q xs)))) j)=_
       by_cases h1:j=m.2.1
       ·subst h1;rw [Zy,ZI _ _ (fun e'=>E e'.symm),f];rfl
       ·rw [ZI _ _ h1])⟩,i1.gz,i1.zx,i1.nw⟩,fun t=>(hS t).less i2 i3⟩,⟨hU.sl,fun j=>?_,fun j hj=>?_⟩,B,hh⟩,hk⟩
     ·show ObR g1 w j (upd (upd st.ob k (.row e q xs 0)) m.2.1 (.box ty (cs.set m.2.2 (.c (.sl e q xs)))) j)
      by_cases h1:j=m.2.1
      ·subst h1;rw [Zy];exact I
      ·rw [ZI _ _ h1];exact i1.obs j
     ·show obU U (upd (upd st.ob k (.row e q xs 0)) m.2.1 (.box ty (cs.set m.2.2 (.c (.sl e q xs)))) j)
      by_cases h1:j=m.2.1
      ·subst h1;rw [Zy];exact K G trivial
      ·rw [ZI _ _ h1]
       by_cases h2:j=k
       ·subst h2;rw [Zy];trivial
       ·rw [ZI _ _ h2];exact hU.ob j
     ·show upd (upd st.ob k (.row e q xs 0)) m.2.1 (.box ty (cs.set m.2.2 (.c (.sl e q xs)))) j=_
      rw [ZI _ _ (show j≠m.2.1 from fun e'=>hj (e' ▸ ab)),ZI _ _ (show j≠k from fun e'=>hj (e' ▸ C))];exact hU.gone j hj
    ·exact A
   ·exact A
  ·rename_i e q xs d f
   split
   ·rename_i ac
    have C:U m.2.1:=Classical.byContradiction fun hn=>by have:=hU.gone _ hn;rw [f] at this;simp at this
    obtain ⟨g1,t1,t2,t3⟩:=Zu7 hH f ac
    refine ⟨U,⟨⟨g1,t1,fun t=>(hS t).less t2 t3⟩,⟨hU.sl,fun k=>?_,fun k l=>?_⟩,B,hh⟩,hk⟩
    ·show obU U (upd st.ob m.2.1 (.row e q xs m.2.2) k)
     by_cases h1:k=m.2.1
     ·subst h1;rw [Zy];trivial
     ·rw [ZI _ _ h1];exact hU.ob k
    ·show upd st.ob m.2.1 (.row e q xs m.2.2) k=_
     rw [ZI _ _ (show k≠m.2.1 from fun e'=>l (e' ▸ C))];exact hU.gone k l
   ·exact A
  ·exact A
theorem Ztb [NW] (m:Bool × Nat × Nat) (hI:Inv W U st a w) (hk:∀k,st.n≤k→¬U k):∃U',Inv W U' (st.matN m) a w∧∀k,(st.matN m).n≤k→¬U' k:=by
 have c:∃U',Inv W U' st a w∧∀k,st.n≤k→¬U' k:=⟨U,hI,hk⟩
 obtain ⟨⟨g,hH,hS⟩,hU,o,hh⟩:=hI
 unfold St.matN
 split
 ·rename_i ag cs x
  have A:X6 U cs:=by have:=hU.sl m.2.1;rw [x] at this;exact this
  have hs:=hS m.2.1
  rw [x] at hs
  split
  ·rename_i k f
   split
   ·rename_i e q xs d l
    split
    ·rename_i hd
     subst hd
     obtain ⟨g1,i1,i2,i3,i5⟩:=ZhF hH k
     rw [l] at i1
     obtain ⟨hm,B,L,o1,o2,o3,o5⟩:=hH.deep l
     have i4:∀v,AVR g w (.row k) v→AVR g1 w (.n (.sl e q xs)) v:=fun v hv=>by
      rcases o5 with ⟨_,q1,q2⟩ | ⟨q1,_⟩ | ⟨q1,_⟩
      ·have hN:=hH.nodup k
       have hP:=hH.plain k
       have hF:=i5 ⟨_,_,_,_,l⟩
       rw [q1,q2] at hN hP hF
       rw [l] at hP
       refine ⟨e,q,xs,B,L,rfl,hm,by rw [hv.1];exact o1,o2,by rw [hv.1];exact hN,fun b mb=>?_⟩
       rw [hv.1] at mb
       exact ⟨hF b mb,hH.nw b (hP b mb).1,(hP b mb).2⟩
      ·omega
      ·omega
     have C:U k:=Classical.byContradiction fun hn=>by have:=hU.gone _ hn;rw [l] at this;simp at this
     refine ⟨U,⟨⟨g1,i1,fun t=>?_⟩,⟨fun t=>?_,fun j=>?_,fun j hj=>?_⟩,o,hh⟩,hk⟩
     ·show SVR g1 w (upd st.sl m.2.1 (.p ag (cs.set (m.2.2 - 4096) (.n (.sl e q xs)))) t) _
      by_cases ht:t=m.2.1
      ·subst ht
       rw [Zy]
       have h0:PVR g w ag cs (a.tmps.getD m.2.1 undef):=hs
       have h1:PVR g1 w ag cs (a.tmps.getD m.2.1 undef):=(show SVR g w (.p ag cs) _ from hs).less i2 i3
       cases ag with
       | true=>
        obtain ⟨vs,e1,h4⟩:=h0
        obtain ⟨D,y,E⟩:=h1
        have ev:vs=D:=by rw [e1] at y;simpa using y
        subst ev
        obtain ⟨u,u1,u2⟩:=h4.at f
        refine ⟨vs,e1,?_⟩
        have:=E.set (i:=m.2.2 - 4096) (i4 u u2)
        obtain ⟨hl,he⟩:=AB.1 u1
        rw [←he,AM hl] at this
        exact this
       | false=>
        obtain ⟨z,rfl,h4⟩:=h0
        cases hj:m.2.2 - 4096 with
        | zero=>rw [hj] at f;simp at f;subst f;exact ⟨_,rfl,i4 _ h4⟩
        | succ j=>rw [hj] at f;simp at f
      ·rw [ZI _ _ ht];exact (hS t).less i2 i3
     ·show svU U (upd st.sl m.2.1 (.p ag (cs.set (m.2.2 - 4096) (.n (.sl e q xs)))) t)
      by_cases ht:t=m.2.1
      ·subst ht;rw [Zy]
       intro z mz
       rcases AN mz with mz | mz
       ·exact A z mz
       ·subst mz;trivial
      ·rw [ZI _ _ ht];exact hU.sl t
     ·show obU U (upd st.ob k (.row e q xs 0) j)
      by_cases h1:j=k
      ·subst h1;rw [Zy];trivial
      ·rw [ZI _ _ h1];exact hU.ob j
     ·show upd st.ob k (.row e q xs 0) j=_
      rw [ZI _ _ (show j≠k from fun e'=>hj (e' ▸ C))];exact hU.gone j hj
    ·exact c
   ·exact c
  ·exact c
 ·exact c
theorem Zj4 [NW]:∀(ms:List (Bool × Nat × Nat)) {U:Nat→Prop} {st:St},Inv W U st a w→(∀k,st.n≤k→¬U k)→∃U',Inv W U' (st.mats ms) a w
 | [],U,st,hI,_=>⟨U,hI⟩
 | m::r,U,st,hI,hk=>by
  simp only[St.mats]
  split
  ·obtain ⟨U',h1,h2⟩:=Ztb m hI hk
   exact Zj4 r h1 h2
  ·obtain ⟨U',h1,h2⟩:=ZuE m hI hk
   exact Zj4 r h1 h2
theorem least {p:Nat→Prop} (h:∃n,p n):∃n,p n∧∀m,m<n→¬p m:=by
 obtain ⟨n,hn⟩:=h
 induction n using Nat.strongRecOn with
 | _ n ih=>
  by_cases hm:∃m,m<n∧p m
  ·obtain ⟨m,h1,h2⟩:=hm;exact ih m h1 h2
  ·exact ⟨n,hn,fun m h1 h2=>hm ⟨m,h1,h2⟩⟩
theorem Zrw [NW] {c:Code} {Q:Exit→Act→World→Prop} (J:Nat→Act→World→Prop) (n:Nat) (h₀:J n a w) (b:∀n a w,J n a w→c.wp P (Exit.then (fun a' w'=>∃m,m<n∧J m a' w') Q) a w):(Code.loop c).wp P Q a w:=by
 classical
 let μ:Act→World→Nat:=fun a w=>if h:∃n,J n a w then Classical.choose (least h) else 0
 have hμ:∀a w (h:∃n,J n a w),J (μ a w) a w∧∀m,m<μ a w→¬J m a w:=fun a w h=>by
  simp only[μ,dif_pos h]
  exact Classical.choose_spec (least h)
 refine wp_loop (fun a w=>∃n,J n a w) μ ⟨n,h₀⟩ fun a w h=>?_
 refine wp_mono (b (μ a w) a w (hμ a w h).1) fun e a' w' he=>?_
 cases e with
 | normal=>
  obtain ⟨m,h1,h2⟩:=he
  refine ⟨⟨m,h2⟩,?_⟩
  have h3:=hμ a' w' ⟨m,h2⟩
  rcases Nat.lt_or_ge m (μ a' w') with h4 | h4
  ·exact absurd h2 (h3.2 m h4)
  ·omega
 | _=>exact he
mutual
theorem RC.deep {w:World}:∀{x:CT} {v:Value} {L:List Nat},RC w x v L→ctD x
 | .int _ _,_,_,_=>trivial
 | .bool _,_,_,_=>trivial
 | .str _,_,_,h=>h.2.2
 | .sl _ _ _,_,_,⟨A,cap,cs,L0,L1,h1,h2,h3,h4,h5,h6,h7⟩=>⟨by unfold maxLen at h3;omega,h7.deep⟩
 | .pt _,_,_,⟨_,_,_,_,_,_,_,h⟩=>h.deep
 | .fn _ _,_,_,⟨_,_,h⟩=>h.deep
 | .mp _ _ _,_,_,_=>trivial
 | .ifc _,_,_,_=>trivial
 | .any,_,_,_=>trivial
 | .nl _ _,_,_,_=>trivial
theorem RCs.deep {w:World}:∀{x:List CT} {v:List Value} {L:List Nat},RCs w x v L→ctsD x
 | [],_,_,_=>trivial
 | _::_,_,_,⟨v,cs,L1,L2,h1,h2,h3,h4⟩=>⟨h3.deep,h4.deep⟩
theorem REs.deep {w:World} {m:Nat}:∀{x:List (List CT)} {v:List Value} {L:List Nat},REs w m x v L→essD x
 | [],_,_,_=>trivial
 | _::_,_,_,⟨c1,c2,L1,L2,h1,h2,h3,h4⟩=>⟨h3.1.deep,h4.deep⟩
end
theorem AVR.deep [NW] {g:Gh} {w:World}:∀{x:AV} {v:Value},AVR g w x v→avD x
 | .c _,_,⟨_,h,_⟩=>h.deep
 | .n _,_,h=>by obtain ⟨_,h1,_⟩:=NR.toC h;exact h1.deep
 | .row _,_,_=>trivial
 | .nil _ _,_,_=>trivial
 | .dead,_,_=>trivial
theorem AVRs.deep [NW] {g:Gh} {w:World}:∀{x:List AV} {v:List Value},ZH (AVR g w) x v→Zti x
 | [],[],_=>trivial
 | _::_,_::_,h=>⟨h.1.deep,AVRs.deep h.2⟩
 | [],_::_,h=>h.elim
 | _::_,[],h=>h.elim
theorem Inv.deep [NW] (hI:Inv W U st a w):WF st:=by
 obtain ⟨⟨g,hH,hS⟩,hU,hdef,hh⟩:=hI
 refine ⟨fun t b cs ht=>?_,fun k t cs hk=>?_,fun k e m xs d hk=>?_⟩
 ·have h:=hS t
  rw [ht] at h
  cases b with
  | true=>obtain ⟨vs,_,h2⟩:=h;exact AVRs.deep h2
  | false=>obtain ⟨x,rfl,h2⟩:=h;exact ⟨h2.deep,trivial⟩
 ·have h:=hH.obs k
  rw [hk] at h
  obtain ⟨b,vs,_,_,_,_,h2⟩:=h
  exact AVRs.deep h2
 ·have h:=hH.obs k
  rw [hk] at h
  obtain ⟨_,cs,L,h1,h2,_⟩:=h
  refine ⟨?_,h2.deep⟩
  rcases h1.2 with ⟨_,h3⟩ | ⟨_,_,cap,_,_,_,_,h3,h4,_⟩
  ·omega
  ·unfold maxLen at h4;omega
def Zzt:Ex→Exit
 | .normal=>.normal
 | .exit id=>.exit id
 | .ret=>.ret
def Y4 (od:OD) (tt:Nat→Option TI) (hs:FuncId→Nat) (k0:Bool) (N:Nat):Code→Bool
 | .skip=>true
 | .region id ops d=>(ops.toList.all fun o=>match o.dst with | some t=>Nat.blt t N&&(!k0||Nat.blt 0 t) | none=>true)&&(match od id with | none=>!d||Zql tt hs ops | some l=>d&&Zru tt hs l.2 ops l.1)
 | .seq x y=>Y4 od tt hs k0 N x&&Y4 od tt hs k0 N y
 | .cond _ x y=>Y4 od tt hs k0 N x&&Y4 od tt hs k0 N y
 | .block _ x=>Y4 od tt hs k0 N x
 | .loop x=>Y4 od tt hs k0 N x
 | .exit _=>true
 | .ret=>true
 | _=>false
theorem X8 [NW] {od:OD} (htt:MOk P J JF W tt) (hmix:P.follows .mixedOrders=true) {hds:FuncId→Nat} {k0:Bool} (hk0:W.hv=none∨k0=true) {N:Nat}:∀(c:Code),Y4 od tt hds k0 N c=true→∀(Qs:Ex→St→Prop) (Q:Exit→Act→World→Prop),
  (∀ex U' st' a' w',Inv W U' st' a' w'→(∀k,st'.n≤k→¬U' k)→a'.tmps.size=N→Qs ex st'→Q (Zzt ex) a' w')→
  ∀U st a w,Inv W U st a w→(∀k,st.n≤k→¬U k)→a.tmps.size=N→swp tt (SC P J JF hds) od c Qs st→c.wp P Q a w
 | .skip,_,Qs,Q,hQ,U,st,a,w,hI,hk,hs,h=>wp_skip (hQ .normal U st a w hI hk hs h)
 | .exit id,_,Qs,Q,hQ,U,st,a,w,hI,hk,hs,h=>wp_exit (hQ (.exit id) U st a w hI hk hs h)
 | .ret,_,Qs,Q,hQ,U,st,a,w,hI,hk,hs,h=>wp_ret (hQ .ret U st a w hI hk hs h)
 | .region id ops d,hok,Qs,Q,hQ,U,st,a,w,hI,hk,hs,h=>by
  simp only[Y4,A6,AF] at hok
  have hN:∀o∈ops.toList,∀t,o.dst=some t→t<N∧(W.hv=none∨t≠0):=fun o mo t ht=>by
   have:=hok.1 o mo
   rw [ht] at this
   simp only[A6,Bool.or_eq_true] at this
   refine ⟨AA this.1,hk0.imp (fun h=>h) fun h=>?_⟩
   rcases this.2 with h2 | h2
   ·rw [h] at h2;simp at h2
   ·have h3:0<t:=AA h2
    exact Nat.ne_of_gt h3
  have hend:∀U' st' a' w',Inv W U' st' a' w'→(∀k,st.n+16 * ops.toList.length≤k→¬U' k)→a'.tmps.size=N→Zn5 (st.n+16 * ops.toList.length) (Qs .normal) st'→Q .normal a' w':=fun U' st' a' w' h1 h2 h3 h4=>
   hQ .normal U' { st' with n:=st.n+16 * ops.toList.length } a' w' ⟨h1.ex,⟨h1.wf.sl,h1.wf.ob,h1.wf.gone⟩,h1.defers,h1.hand⟩ h2 h3 h4
  have hdraw:Inv W U st a { w with drawn:=w.drawn+1 }:=by
   obtain ⟨⟨g,hH,hS⟩,hU,hdef,hh⟩:=hI
   have hw:∀b,b<w.heap.size→¬g.own b→({ w with drawn:=w.drawn+1 }:World).heap[b]?=w.heap[b]?:=fun _ _ _=>rfl
   refine ⟨⟨g,hH.step (U:=U) (fun _=>False) ⟨hH.below.os,hH.below.tape,hH.below.output,hH.below.size,hH.below.block⟩ rfl (fun _ _ _=>rfl) (fun _ _=>⟨rfl,rfl,rfl,rfl⟩) hU.ob (fun _ _=>rfl) (X7.refl _ _) (fun _ h=>h.elim),fun t=>?_⟩,hU,hdef,hh⟩
   exact (hS t).move (hU.sl t) (fun _ _=>rfl) hw (X7.refl _ _) (A7 _)
  have open_:∀(b:Bool) (R:List Nat),Zix tt hds b ops R=true→(∀j,elB ops j=true)→R.length≤ops.size→(∀i,i∈R↔i<ops.size)→ZeD tt (SC P J JF hds) b ops.toList st.n R (Zn5 (st.n+16 * ops.toList.length) (Qs .normal)) st→(Code.region id ops true).wp P Q a w:=fun b R h1 h2 h3 h4 h5=>by
   refine wp_region_any hmix ?_
   refine ZrL (base:=st.n) htt hN h2 (fun U' st' a' w' h1 h2 h3 h4=>hend U' st' a' w' h1 (by simpa using h2) h3 h4) ops.size R (A8 ops.size false) U st a _ h3 (ZmE h1) (by simp) (fun i=>?_) (fun i o ho hl=>?_) h5 hdraw (fun j _ k hk' _=>hk k (by omega)) (fun k hk'=>hk k (by omega)) hs
   ·rw [h4]
    constructor
    ·intro hi;exact ⟨hi,by simp [AH,hi]⟩
    ·exact fun hi=>hi.1
   ·exfalso
    have hi:i<ops.size:=(AO.1 ho).1
    simp [AH,hi] at hl
  cases ho:od id with
  | none=>
   have hok2:=hok.2
   simp only[ho] at hok2
   simp only[swp,ho,ZrA] at h
   have h':ZY tt (SC P J JF hds) ops.toList st.n ops.toList (Zn5 (st.n+16 * ops.toList.length) (Qs .normal)) st:=h
   cases d with
   | false=>
    refine wp_region ?_
    have:=Zl8 (Q:=Q) htt hN ops.toList 0 st.n U st a w (by simp) h' hI hk hs hend
    rw [AS]
    simpa using this
   | true=>
    have hdr:Zql tt hds ops=true:=by simpa using hok2
    simp only[Zql,A6] at hdr
    have h2:=ZqY (tt:=tt) (S:=SC P J JF hds) (all:=ops.toList) (base:=st.n) (K:=Zn5 (st.n+16 * ops.toList.length) (Qs .normal)) ops.toList 0 st (by simp) (by simpa using h')
    rw [←AS] at h2
    exact open_ false (List.range ops.size) hdr.1 (ZpI hdr.2) (by simp) (by simp) (by simpa using h2)
  | some l=>
   have hok2:=hok.2
   simp only[ho,A6] at hok2
   simp only[swp,ho,ZrA] at h
   obtain ⟨rfl,hdr⟩:=hok2
   simp only[Zru,A6] at hdr
   exact open_ l.2 l.1 hdr.1.1.1.1 (ZpI hdr.1.1.1.2) (AA hdr.1.1.2) (fun i=>⟨fun mi=>AA (AF.1 hdr.1.2 i mi),fun hi=>by simpa using AF.1 hdr.2 i (by simpa using hi)⟩) h
 | .seq x y,hok,Qs,Q,hQ,U,st,a,w,hI,hk,hs,h=>by
  simp only[Y4,A6] at hok
  refine wp_seq (X8 htt hmix hk0 x hok.1 (Zfv (swp tt (SC P J JF hds) od y Qs) Qs) _ ?_ U st a w hI hk hs h)
  intro ex U' st' a' w' h1 h2 h3 h4
  cases ex with
  | normal=>exact X8 htt hmix hk0 y hok.2 Qs Q hQ U' st' a' w' h1 h2 h3 h4
  | exit id=>exact hQ (.exit id) U' st' a' w' h1 h2 h3 h4
  | ret=>exact hQ .ret U' st' a' w' h1 h2 h3 h4
 | .cond c x y,hok,Qs,Q,hQ,U,st,a,w,hI,hk,hs,h=>by
  simp only[Y4,A6] at hok
  simp only[swp,Zmp] at h
  split at h
  ·rename_i hb
   obtain ⟨b,hb'⟩:∃b,st.ev tt 0 c=.p false [.c (.bool b)]:=by
    unfold QJ at hb
    split at hb
    ·rename_i b he;exact ⟨b,he⟩
    ·simp at hb
   obtain ⟨g,hH,hS⟩:=hI.ex
   have hv:=(Zi6 (P:=P) htt.tt hS hI.wf 0 c).1
   rw [hb'] at hv
   have hv':=ZeW hv
   refine wp_cond hv' ?_
   cases b with
   | true=>rw [if_pos (by rw [hb'];rfl)] at h;exact X8 htt hmix hk0 x hok.1 Qs Q hQ U st a w hI hk hs h
   | false=>rw [if_neg (by rw [hb'];simp [XB])] at h;exact X8 htt hmix hk0 y hok.2 Qs Q hQ U st a w hI hk hs h
  ·exact h.elim
 | .block id x,hok,Qs,Q,hQ,U,st,a,w,hI,hk,hs,h=>by
  refine wp_block (X8 htt hmix hk0 x hok (Zf6 id Qs) _ ?_ U st a w hI hk hs h)
  intro ex U' st' a' w' h1 h2 h3 h4
  cases ex with
  | normal=>exact hQ .normal U' st' a' w' h1 h2 h3 h4
  | exit j=>
   show Exit.inBlock id Q (.exit j) a' w'
   simp only[Zf6] at h4
   simp only[Exit.inBlock]
   split
   ·rename_i e;rw [if_pos e] at h4;exact hQ .normal U' st' a' w' h1 h2 h3 h4
   ·rename_i e;rw [if_neg e] at h4;exact hQ (.exit j) U' st' a' w' h1 h2 h3 h4
  | ret=>exact hQ .ret U' st' a' w' h1 h2 h3 h4
 | .loop x,hok,Qs,Q,hQ,U,st,a,w,hI,hk,hs,h=>by
  obtain ⟨n,hn⟩:=h
  refine Zrw (fun n a w=>∃U st,Inv W U st a w∧(∀k,st.n≤k→¬U k)∧a.tmps.size=N∧Zi1 (swp tt (SC P J JF hds) od x) Qs n st) n ⟨U,st,hI,hk,hs,hn⟩ ?_
  rintro n a w ⟨U,st,hI,hk,hs,hn⟩
  cases n with
  | zero=>exact hn.elim
  | succ n=>
   obtain ⟨ms,ρ,hρ,hb⟩:=hn
   obtain ⟨U2,hI2⟩:=Zj4 ms hI hk
   refine X8 htt hmix hk0 x hok (Zfv (Zi1 (swp tt (SC P J JF hds) od x) Qs n) Qs) _ ?_ _ ((st.mats ms).ren ρ) a w (ZqZ hI2 hρ) (fun k hk' hU=>by simp only[St.ren] at hk';omega) hs (hb (ZqZ hI2 hρ).deep)
   intro ex U' st' a' w' h1 h2 h3 h4
   cases ex with
   | normal=>exact ⟨n,by omega,U',st',h1,h2,h3,h4⟩
   | exit id=>exact hQ (.exit id) U' st' a' w' h1 h2 h3 h4
   | ret=>exact hQ .ret U' st' a' w' h1 h2 h3 h4
 | .rangeFunc _ _ _ _,hok,_,_,_,_,_,_,_,_,_,_,_=>by simp [Y4] at hok
 | .scope _,hok,_,_,_,_,_,_,_,_,_,_,_=>by simp [Y4] at hok
 | .label _,hok,_,_,_,_,_,_,_,_,_,_,_=>by simp [Y4] at hok
 | .goto _,hok,_,_,_,_,_,_,_,_,_,_,_=>by simp [Y4] at hok
 | .refuse _,hok,_,_,_,_,_,_,_,_,_,_,_=>by simp [Y4] at hok
end
end
section
open Go.RowKit
section
variable {P:Program} {J:World→Prop} {JF:Nat→Prop} {W:QK} {U:Nat→Prop} {st:St} {w w':World} {a:Act} {tt:Nat→Option TI} {g:Gh}
def nK (g:Gh) (K:Nat→Prop) (b:Nat):Prop:=g.Z b∨∃k,K k∧b∈g.O k
theorem ZtB {k e m n B:Nat} {cs:List Value} (h:w.ownsV 0 e m (g.val k) n cs) (hB:∀b∈(g.val k).ownBlock.toList,B≤b):w.ownsV B e m (g.val k) n cs:=by
 refine ⟨h.1,?_⟩
 rcases h.2 with h0 | ⟨q,o,cap,a,hv,hg,r⟩
 ·exact .inl h0
 ·exact .inr ⟨q,o,cap,a,hv,hB q (by simp [hv,Value.ownBlock]),r⟩
variable {K:Nat→Prop}
theorem Zok [NW] (hI:HI W g st.ob w) (hK:∀k,K k→ZhR (st.ob k)=false∧∀e m xs d,st.ob k=.row e m xs d→d=2) {x:AV} {ct:Bool × CT} {ks:List Nat} {v:Value} (h:ZdV st x=some (ct,ks)) (l:∀k∈ks,K k∧∀b∈g.O k++g.D k,W.heap.size≤b) (hx:AVR g w x v):OC w W.heap.size (nK g K) ct v (g.F ks):=by
 have a:∀b,nK g K b→g.own b:=fun b hb=>by
  rcases hb with hz | ⟨k,_,mk⟩
  ·exact .inr hz
  ·exact .inl ⟨k,mk⟩
 cases x with
 | c y=>
  obtain ⟨L,h1,h2⟩:=hx
  cases y<;>simp only[ZdV,A5,A4] at h<;>obtain ⟨rfl,rfl⟩:=h
  ·exact ⟨⟨h1.1,rfl⟩,by simp [Gh.F]⟩
  ·exact ⟨⟨h1.1,rfl⟩,by simp [Gh.F]⟩
  ·exact ⟨⟨h1.1,rfl,h1.2.2⟩,by simp [Gh.F]⟩
  ·exact ⟨by simp [Gh.F],L,h1,fun b mb hb=>h2 b mb (a b hb)⟩
  ·exact ⟨by simp [Gh.F],L,h1,fun b mb hb=>h2 b mb (a b hb)⟩
  ·exact ⟨by simp [Gh.F],L,h1,fun b mb hb=>h2 b mb (a b hb)⟩
  ·exact ⟨by simp [Gh.F],L,h1,fun b mb hb=>h2 b mb (a b hb)⟩
  ·exact ⟨⟨rfl,h1.2⟩,by simp [Gh.F]⟩
  ·exact ⟨by simp [Gh.F],L,h1,fun b mb hb=>h2 b mb (a b hb)⟩
  ·exact ⟨by simp [Gh.F],L,h1,fun b mb hb=>h2 b mb (a b hb)⟩
 | row k=>
  simp only[ZdV] at h
  split at h
  ·rename_i e m xs d hk
   obtain ⟨hm,cs,L,o1,o2,o3,o5⟩:=hI.deep hk
   split at h
   ·rename_i hd
    simp only[A5,A4] at h
    obtain ⟨rfl,rfl⟩:=h
    have i:=l k yG
    rcases o5 with ⟨_,q1,q2⟩ | ⟨q,_⟩ | ⟨q,_⟩
    ·refine ⟨hm,cs,L,by rw [hx.1];exact ZtB o1 fun b mb=>i.2 b (by simp [q1,mb]),o2,by simp [Gh.F,q1,q2,hx.1],fun b mb=>.inr ⟨k,i.1,by rw [q1];rw [hx.1] at mb;exact mb⟩⟩
    ·omega
    ·omega
   ·rename_i hd
    simp only[A5,A4] at h
    obtain ⟨rfl,rfl⟩:=h
    have f:¬K k:=fun h=>hd ((hK k h).2 e m xs d hk)
    obtain ⟨A,cap,L0,s1,s2,s3,s4,s5⟩:=Sl.row o1
    refine ⟨by simp [Gh.F],L0++L,⟨A,cap,cs,L0,L,by rw [hx.1,s1],s2,s3,rfl,hm,s4,o2⟩,fun b mb hb=>?_⟩
    rcases A9.1 mb with m1 | m1
    ·have m2:=s5.subset m1
     rcases o5 with ⟨q,_⟩ | ⟨_,q1,q2⟩ | ⟨_,_,_,q⟩
     ·exact hd q
     ·have mk:b∈g.O k++g.D k:=by simp [q1,m2]
      rcases hb with hz | ⟨j,hj,mj⟩
      ·exact hI.nz mk hz
      ·exact hI.apart k j (fun e=>f (e ▸ hj)) b mk (by simp [mj])
     ·exact q b m2 (a b hb)
    ·exact o3 b m1 (a b hb)
  ·rename_i kk vk kv hk
   simp only[A5,A4] at h
   obtain ⟨rfl,rfl⟩:=h
   have ho:=hI.obs k
   rw [hk] at ho
   obtain ⟨b,es,c,q1,q2,q3,q4,q5,q6⟩:=ho
   have f:¬K k:=fun h=>by have:=(hK k h).1;rw [hk] at this;simp [ZhR] at this
   refine ⟨by simp [Gh.F],[b],⟨b,es,c,by rw [hx.1,q1],q4,q5,q6,rfl⟩,fun x mx hb=>?_⟩
   simp at mx;subst mx
   have mk:x∈g.O k++g.D k:=by simp [q2]
   rcases hb with hz | ⟨j,hj,mj⟩
   ·exact hI.nz mk hz
   ·exact hI.apart k j (fun e=>f (e ▸ hj)) x mk (by simp [mj])
  ·simp at h
 | nil e m=>
  simp only[ZdV] at h
  split at h
  ·rename_i hm
   simp only[A5,A4] at h
   obtain ⟨rfl,rfl⟩:=h
   have o:v=.slice none 0 0:=hx
   subst o
   exact ⟨hm,[],[],ZiJ _ _ _ _,⟨rfl,rfl⟩,by simp [Gh.F,Value.ownBlock],by simp [Value.ownBlock]⟩
  ·simp at h
 | n y=>
  obtain ⟨L,h1,h2⟩:=NR.toC hx
  simp only[ZdV,A5,A4] at h
  obtain ⟨rfl,rfl⟩:=h
  exact ⟨by simp [Gh.F],L,h1,fun b mb hb=>h2 b mb (a b hb)⟩
 | dead=>
  simp only[ZdV,A5,A4] at h
  obtain ⟨rfl,rfl⟩:=h
  exact ⟨by simp [Gh.F],[],⟨rfl,hx⟩,yG⟩
theorem Znb [NW] (hI:HI W g st.ob w) (hK:∀k,K k→ZhR (st.ob k)=false∧∀e m xs d,st.ob k=.row e m xs d→d=2):∀{xs:List AV} {cts:List (Bool × CT)} {ks:List Nat} {vs:List Value},Zcb st xs=some (cts,ks)→(∀k∈ks,K k∧∀b∈g.O k++g.D k,W.heap.size≤b)→ZH (AVR g w) xs vs→OCs w W.heap.size (nK g K) cts vs (g.F ks)
 | [],_,_,[],h,_,_=>by
  simp only[Zcb,A5,A4] at h
  obtain ⟨rfl,rfl⟩:=h
  exact ⟨rfl,by simp [Gh.F]⟩
 | [],_,_,_::_,_,_,h=>h.elim
 | _::_,_,_,[],_,_,h=>h.elim
 | x::r,cts,ks,v::vs,h,hks,hr=>by
  simp only[Zcb] at h
  obtain ⟨⟨c1,k1⟩,h1,h⟩:=AC.1 h
  obtain ⟨⟨c2,k2⟩,h2,h⟩:=AE.1 h
  simp only[A4] at h
  obtain ⟨rfl,rfl⟩:=h
  exact ⟨v,vs,g.F k1,g.F k2,rfl,by simp [Gh.F],Zok hI hK h1 (fun k mk=>hks k (by simp [mk])) hr.1,Znb hI hK h2 (fun k mk=>hks k (by simp [mk])) hr.2⟩
theorem ZpF [NW] (hI:HI W g st.ob w) (hK:∀k,K k→ZhR (st.ob k)=false∧∀e m xs d,st.ob k=.row e m xs d→d=2) {ag:Bool} {cs:List AV} {cts:List (Bool × CT)} {ks:List Nat} {v:Value} (h:Zcb st cs=some (cts,ks)) (a:∀k∈ks,K k∧∀b∈g.O k++g.D k,W.heap.size≤b) (hx:PVR g w ag cs v):OP w W.heap.size (nK g K) (ag,cts) v (g.F ks):=by
 cases ag with
 | true=>obtain ⟨vs,rfl,h2⟩:=hx;exact .inl ⟨rfl,vs,rfl,Znb hI hK h a h2⟩
 | false=>
  obtain ⟨x,rfl,h2⟩:=hx
  simp only[Zcb] at h
  obtain ⟨⟨c1,k1⟩,h1,h⟩:=AC.1 h
  simp at h
  obtain ⟨rfl,rfl⟩:=h
  exact .inr ⟨rfl,c1,rfl,Zok hI hK h1 a h2⟩
theorem OC.one {B:Nat} {n:Nat→Prop} {x:Bool × CT} {v:Value} {F:List Nat} (h:OC w B n x v F):v.oneCell'=true:=by
 obtain ⟨b,x⟩:=x
 cases b with
 | true=>obtain ⟨_,L,h1,_⟩:=h;exact h1.one
 | false=>
  cases x with
  | sl e q xs=>
   obtain ⟨_,cs,L,o1,_⟩:=h
   obtain ⟨A,cap,hv⟩:=Q8 o1
   rw [hv];rfl
  | int k i=>exact h.1.one
  | bool b=>exact h.1.one
  | str s=>exact h.1.one
  | ifc s=>exact h.1.one
  | any=>exact h.1.one
  | _=>exact h.elim
/- what is given is said to be lent -/
theorem Zn4 [NW] {B:Nat} {n:Nat→Prop}:∀{r res:List (Bool × CT)} {vs:List Value} {F:List Nat},OCs w B n r vs F→wkC r res→F.Nodup→∃F',F'.Sublist F∧∀m:Nat→Prop,(∀b∈F',n b→m b)→(∀b,m b→n b)→(∀b∈F,m b→b∈F')→OCs w B m res vs F'
 | [],[],vs,F,h,_,_=>⟨[],by simp,fun m _ _ _=>⟨h.1,rfl⟩⟩
 | [],_::_,_,_,_,h,_=>h.elim
 | _::_,[],_,_,_,h,_=>h.elim
 | x::r,y::res,_,_,⟨v,vs,F1,F2,rfl,rfl,h1,h2⟩,hw0,hnd=>by
  rw [AG] at hnd
  have hw0:wk1 x y (wkC r res):=hw0
  unfold wk1 at hw0
  by_cases hany:ZqX y.2=true
  ·rw [if_pos hany] at hw0
   obtain ⟨F2',s2,h2'⟩:=Zn4 h2 hw0 hnd.2.1
   refine ⟨F2',s2.trans (List.sublist_append_right _ _),fun m m1 m2 m3=>⟨v,vs,[],F2',rfl,rfl,?_,h2' m m1 m2 fun b mb hb=>m3 b (by simp [mb]) hb⟩⟩
   have h1':=h1.one
   obtain ⟨b2,y⟩:=y
   cases y<;>simp [ZqX] at hany
   cases b2 with
   | true=>exact ⟨rfl,[],⟨rfl,h1'⟩,by simp⟩
   | false=>exact ⟨⟨rfl,h1'⟩,rfl⟩
  rw [if_neg hany] at hw0
  obtain ⟨e1,e2,hw⟩:=hw0
  obtain ⟨F2',s2,h2'⟩:=Zn4 h2 hw hnd.2.1
  have key:∃F1',F1'.Sublist F1∧∀m:Nat→Prop,(∀b∈F1',n b→m b)→(∀b,m b→n b)→(∀b∈F1,m b→b∈F1')→OC w B m y v F1':=by
   obtain ⟨b1,x⟩:=x
   obtain ⟨b2,y⟩:=y
   simp only at e1 e2
   subst e1
   cases b1 with
   | true=>
    have:b2=true:=by rcases e2 with e | e<;>simp_all
    subst this
    obtain ⟨rfl,L,q1,q2⟩:=h1
    exact ⟨[],by simp,fun m _ m2 _=>⟨rfl,L,q1,fun b mb hb=>q2 b mb (m2 b hb)⟩⟩
   | false=>
    cases b2 with
    | false=>
     refine ⟨F1,List.Sublist.refl _,fun m m1 _ _=>?_⟩
     cases x with
     | sl e q xs=>
      obtain ⟨hm,cs,L,o1,o2,o3,o4⟩:=h1
      exact ⟨hm,cs,L,o1,o2,o3,fun b mb=>m1 b (by simp [o3,mb]) (o4 b mb)⟩
     | int k i=>exact h1
     | bool b=>exact h1
     | str s=>exact h1
     | ifc s=>exact h1
     | any=>exact h1
     | _=>exact h1.elim
    | true=>
     refine ⟨[],by simp,fun m _ _ m3=>⟨rfl,?_⟩⟩
     cases x with
     | sl e q xs=>
      obtain ⟨hm,cs,L,o1,o2,o3,o4⟩:=h1
      obtain ⟨A,cap,L0,s1,s2,s3,s4,s5⟩:=Sl.row o1
      refine ⟨L0++L,⟨A,cap,cs,L0,L,s1,s2,s3,rfl,hm,s4,o2⟩,fun b mb hb=>?_⟩
      have:b∈F1:=by
       rw [o3]
       rcases A9.1 mb with m1 | m1
       ·exact A9.2 (.inl (s5.subset m1))
       ·exact A9.2 (.inr m1)
      have:=m3 b this hb
      simp at this
     | int k i=>exact ⟨[],h1.1,by simp⟩
     | bool b=>exact ⟨[],h1.1,by simp⟩
     | str s=>exact ⟨[],h1.1,by simp⟩
     | ifc s=>exact ⟨[],h1.1,by simp⟩
     | any=>exact ⟨[],h1.1,by simp⟩
     | _=>exact h1.elim
  obtain ⟨F1',s1,h1'⟩:=key
  refine ⟨F1'++F2',AT s1 s2,fun m m1 m2 m3=>⟨v,vs,F1',F2',rfl,rfl,h1' m (fun b mb=>m1 b (by simp [mb])) m2 (fun b mb hb=>?_),h2' m (fun b mb=>m1 b (by simp [mb])) m2 (fun b mb hb=>?_)⟩⟩
  ·rcases A9.1 (m3 b (by simp [mb]) hb) with h | h
   ·exact h
   ·exact absurd rfl (hnd.2.2 b mb b (s2.subset h))
  ·rcases A9.1 (m3 b (by simp [mb]) hb) with h | h
   ·exact absurd rfl (hnd.2.2 b (s1.subset h) b mb)
   ·exact h
theorem ZyJ [NW] {B:Nat} {n:Nat→Prop} {x y:RT} {v:Value} {F:List Nat} (h:OP w B n x v F) (e1:x.1=y.1) (hw:wkC x.2 y.2) (hnd:F.Nodup):∃F',F'.Sublist F∧∀m:Nat→Prop,(∀b∈F',n b→m b)→(∀b,m b→n b)→(∀b∈F,m b→b∈F')→OP w B m y v F':=by
 rcases h with ⟨h1,vs,rfl,h2⟩ | ⟨h1,ct,h2,h3⟩
 ·obtain ⟨F',s,h⟩:=Zn4 h2 hw hnd
  exact ⟨F',s,fun m a b c=>.inl ⟨e1 ▸ h1,vs,rfl,h m a b c⟩⟩
 ·obtain ⟨F',s,h⟩:=Zn4 (r:=x.2) (vs:=[v]) (F:=F) (by rw [h2];exact ⟨v,[],F,[],rfl,by simp,h3,rfl,rfl⟩) hw hnd
  refine ⟨F',s,fun m p1 p2 p3=>.inr ⟨e1 ▸ h1,?_⟩⟩
  have h4:=h m p1 p2 p3
  generalize y.2=l at h4 hw
  cases l with
  | nil=>rw [h2] at hw;exact hw.elim
  | cons c l=>
   cases l with
   | nil=>
    obtain ⟨v',vs',F1,F2,q1,rfl,q3,q4⟩:=h4
    simp only[AI] at q1
    obtain ⟨rfl,rfl⟩:=q1
    obtain ⟨_,rfl⟩:=q4
    exact ⟨c,rfl,by simpa using q3⟩
   | cons _ _=>
    rw [h2] at hw
    have hw:wk1 _ _ False:=hw
    unfold wk1 at hw
    split at hw
    ·exact hw.elim
    ·exact hw.2.2.elim
theorem ZsM [NW] {B:Nat} {n:Nat→Prop}:∀{r a:List RT} {vs:List Value} {F:List Nat},OPs w B n r vs F→wkR r a→F.Nodup→∃F',F'.Sublist F∧∀m:Nat→Prop,(∀b∈F',n b→m b)→(∀b,m b→n b)→(∀b∈F,m b→b∈F')→OPs w B m a vs F'
 | [],[],vs,F,h,_,_=>⟨[],yG,fun m _ _ _=>⟨h.1,rfl⟩⟩
 | [],_::_,_,_,_,h,_=>h.elim
 | _::_,[],_,_,_,h,_=>h.elim
 | x::r,y::a,_,_,⟨v,vs,F1,F2,rfl,rfl,h1,h2⟩,⟨e1,e2,hw⟩,hnd=>by
  rw [AG] at hnd
  obtain ⟨F2',s2,c⟩:=ZsM h2 hw hnd.2.1
  obtain ⟨F1',s1,d⟩:=ZyJ h1 e1 e2 hnd.1
  refine ⟨F1'++F2',AT s1 s2,fun m m1 m2 m3=>⟨v,vs,F1',F2',rfl,rfl,d m (fun b mb=>m1 b (by simp [mb])) m2 (fun b mb hb=>?_),c m (fun b mb=>m1 b (by simp [mb])) m2 (fun b mb hb=>?_)⟩⟩
  ·rcases A9.1 (m3 b (by simp [mb]) hb) with h | h
   ·exact h
   ·exact absurd rfl (hnd.2.2 b mb b (s2.subset h))
  ·rcases A9.1 (m3 b (by simp [mb]) hb) with h | h
   ·exact absurd rfl (hnd.2.2 b (s1.subset h) b mb)
   ·exact h
def Zes (tmps:Array Value):ResultVar→Sem Value
 | .tmp t=>pure (tmps.getD t undef)
 | .cell b t=>do loadVar t (←asAddr (tmps.getD b undef))
theorem Zg4 (fn:Func) (a:Array Value):results fn a=(do let vs ←fn.results.mapM (Zes a);pure (if h:vs.size=1 then vs[0] else .tuple vs)):=by
 unfold results
 congr 1
theorem Zk7 [NW] (htt:∀t i,tt t=some i→TOk P t i) (hI:HI W g st.ob w) (hS:∀t,SVR g w (st.sl t) (a.tmps.getD t undef)) (hU:StU U st) (hK:∀k,K k→ZhR (st.ob k)=false∧∀e m xs d,st.ob k=.row e m xs d→d=2):∀{rs:List ResultVar} {res:List RT} {ks:List Nat},Zbb tt st rs=some (res,ks)→(∀k∈ks,K k∧∀b∈g.O k++g.D k,W.heap.size≤b)→
  ∃vs:List Value,(rs.mapM (Zes a.tmps)).run P w=.ok vs w∧OPs w W.heap.size (nK g K) res vs (g.F ks)
 | [],res,ks,h,_=>by
  simp only[Zbb,A5,A4] at h
  obtain ⟨rfl,rfl⟩:=h
  exact ⟨[],by simp,rfl,by simp [Gh.F]⟩
 | .tmp t::r,res,ks,h,hks=>by
  simp only[Zbb] at h
  split at h
  ·rename_i ag cs hsl
   obtain ⟨⟨c1,k1⟩,h1,h⟩:=AC.1 h
   obtain ⟨⟨c2,k2⟩,h2,h⟩:=AE.1 h
   simp only[A4] at h
   obtain ⟨rfl,rfl⟩:=h
   obtain ⟨vs,i1,i2⟩:=Zk7 htt hI hS hU hK h2 (fun k mk=>hks k (by simp [mk]))
   have hs:=hS t
   rw [hsl] at hs
   refine ⟨a.tmps.getD t undef::vs,?_,_,vs,g.F k1,g.F k2,rfl,by simp [Gh.F],ZpF hI hK h1 (fun k mk=>hks k (by simp [mk])) hs,i2⟩
   simp only[AU,Zes,Sem.run_bind,Sem.run_pure,Result.andThen_ok,i1]
  ·simp at h
 | .cell t ty::r,res,ks,h,hks=>by
  simp only[Zbb] at h
  split at h
  ·rename_i ag cs hsl
   obtain ⟨⟨c1,k1⟩,h1,h⟩:=AC.1 h
   obtain ⟨⟨c2,k2⟩,h2,h⟩:=AE.1 h
   simp only[A4] at h
   obtain ⟨rfl,rfl⟩:=h
   obtain ⟨vs,i1,i2⟩:=Zk7 htt hI hS hU hK h2 (fun k mk=>hks k (by simp [mk]))
   obtain ⟨cv,l1,l2,_⟩:=Zq2 (P:=P) (U:=U) htt hI hU hsl (hS t)
   have hl:(do loadVar ty (←asAddr (a.tmps.getD t undef)):Sem Value).run P w=.ok cv w:=by
    have:∃b,a.tmps.getD t undef=.pointer (some b):=by
     have hs:=hS t
     cases hsl':st.sl t with
     | bp k off=>rw [hsl'] at hs;obtain ⟨b,_,hv⟩:=hs;exact ⟨_,hv⟩
     | rp k m i off=>rw [hsl'] at hs;obtain ⟨b,_,_,_,_,hv⟩:=hs;exact ⟨_,hv⟩
     | ep e off=>rw [hsl'] at hs;obtain ⟨b,_,_,_,hv,_⟩:=hs;exact ⟨_,hv⟩
     | p ag2 cs2=>
      rw [hsl'] at hs hsl
      cases ag2 with
      | true=>simp [Qa] at hsl
      | false=>
       cases cs2 with
       | nil=>simp [Qa] at hsl
       | cons y q=>
        cases q with
        | cons _ _=>cases y<;>first | (simp [Qa] at hsl;done) | (rename_i z;cases z<;>simp [Qa] at hsl)
        | nil=>cases y with
         | c z=>cases z with
          | pt e=>obtain ⟨b,_,_,hv,_⟩:=ZqT hs;exact ⟨_,hv⟩
          | _=>simp [Qa] at hsl
         | _=>simp [Qa] at hsl
     | _=>rw [hsl'] at hsl;simp [Qa] at hsl
    obtain ⟨b,hb⟩:=this
    rw [hb] at l1 ⊢
    simpa [Instr.loadAt,Instr.sureAddr,asAddr] using l1
   refine ⟨cv::vs,?_,_,vs,g.F k1,g.F k2,rfl,by simp [Gh.F],ZpF hI hK h1 (fun k mk=>hks k (by simp [mk])) l2,i2⟩
   have hl':(Zes a.tmps (.cell t ty)).run P w=.ok cv w:=hl
   simp only[AU,Sem.run_bind,hl',i1,Sem.run_pure,Result.andThen_ok]
  ·simp at h
theorem ZqF:∀{xs:List AV} {cts:List (Bool × CT)} {ks:List Nat},Zcb st xs=some (cts,ks)→∀k∈ks,∃e m xs,st.ob k=.row e m xs 2
 | [],_,_,h,k,mk=>by
  simp only[Zcb,A5,A4] at h
  rw [←h.2] at mk;simp at mk
 | x::r,cts,ks,h,k,mk=>by
  simp only[Zcb] at h
  obtain ⟨⟨c1,k1⟩,h1,h⟩:=AC.1 h
  obtain ⟨⟨c2,k2⟩,h2,h⟩:=AE.1 h
  simp only[A4] at h
  obtain ⟨rfl,rfl⟩:=h
  rcases A9.1 mk with mk | mk
  ·cases x with
   | c y=>cases y<;>simp only[ZdV,A5,A4] at h1<;>(rw [←h1.2] at mk;simp at mk)
   | row j=>
    simp only[ZdV] at h1
    split at h1
    ·rename_i e m xs d hk
     split at h1
     ·rename_i hd
      simp only[A5,A4] at h1
      rw [←h1.2] at mk
      simp at mk
      subst mk
      exact ⟨e,m,xs,by rw [hk,hd]⟩
     ·simp only[A5,A4] at h1
      rw [←h1.2] at mk;simp at mk
    ·simp only[A5,A4] at h1
     rw [←h1.2] at mk;simp at mk
    ·simp at h1
   | nil e m=>
    simp only[ZdV] at h1
    split at h1
    ·simp only[A5,A4] at h1
     rw [←h1.2] at mk;simp at mk
    ·simp at h1
   | n y=>
    simp only[ZdV,A5,A4] at h1
    rw [←h1.2] at mk;simp at mk
   | dead=>
    simp only[ZdV,A5,A4] at h1
    rw [←h1.2] at mk;simp at mk
  ·exact ZqF h2 k mk
theorem ZhP [NW]:∀{rs:List ResultVar} {a:List RT} {ks:List Nat},Zbb tt st rs=some (a,ks)→∀k∈ks,∃e m xs,st.ob k=.row e m xs 2
 | [],_,_,h,k,mk=>by
  simp only[Zbb,A5,A4] at h
  rw [←h.2] at mk;simp at mk
 | .tmp t::r,a,ks,h,k,mk=>by
  simp only[Zbb] at h
  split at h
  ·obtain ⟨⟨c1,k1⟩,h1,h⟩:=AC.1 h
   obtain ⟨⟨c2,k2⟩,h2,h⟩:=AE.1 h
   simp only[A4] at h
   obtain ⟨rfl,rfl⟩:=h
   rcases A9.1 mk with mk | mk
   ·exact ZqF h1 k mk
   ·exact ZhP h2 k mk
  ·simp at h
 | .cell t ty::r,a,ks,h,k,mk=>by
  simp only[Zbb] at h
  split at h
  ·obtain ⟨⟨c1,k1⟩,h1,h⟩:=AC.1 h
   obtain ⟨⟨c2,k2⟩,h2,h⟩:=AE.1 h
   simp only[A4] at h
   obtain ⟨rfl,rfl⟩:=h
   rcases A9.1 mk with mk | mk
   ·exact ZqF h1 k mk
   ·exact ZhP h2 k mk
  ·simp at h
theorem Zvo [NW] {z:Nat→Prop} {x:Bool × List CT} {v:Value} (hg:∀b,g.own b→z b) (h:Zjv w z x v):SVR g w (.p x.1 (x.2.map .c)) v:=by
 rcases h with ⟨h1,vs,L,rfl,h2,h4⟩ | ⟨h1,ct,L,h2,h3,h4⟩
 ·rw [h1];exact ⟨vs,rfl,h2.avr fun b mb hb=>h4 b mb (hg b hb)⟩
 ·rw [h1,h2];exact ⟨_,rfl,L,h3,fun b mb hb=>h4 b mb (hg b hb)⟩
theorem Zrv [NW] {x:CT} {v:Value} {L:List Nat} (h:RC w x v L) (hL:∀b∈L,¬g.own b):AVR g w (Zhh x) v:=by
 cases x with
 | nl e m=>exact h.1
 | _=>exact ⟨L,h,hL⟩
theorem ZoT [NW]:∀{e:List CT} {cs:List Value} {L:List Nat},RCs w e cs L→(∀b∈L,¬g.own b)→ZH (AVR g w) (e.map Zhh) cs
 | [],_,_,⟨h1,h2⟩,_=>by subst h1;trivial
 | x::r,_,_,⟨v,cs,L1,L2,h1,h2,h3,h4⟩,hL=>by
  subst h1 h2
  exact ⟨Zrv h3 fun b m=>hL b (by simp [m]),ZoT h4 fun b m=>hL b (by simp [m])⟩
theorem Zlc [NW] {z:Nat→Prop} {x:Bool × List CT} {v:Value} (hg:∀b,g.own b→z b) (h:Zjv w z x v):SVR g w (.p x.1 (x.2.map Zhh)) v:=by
 rcases h with ⟨h1,vs,L,rfl,h2,h4⟩ | ⟨h1,ct,L,h2,h3,h4⟩
 ·rw [h1];exact ⟨vs,rfl,ZoT h2 fun b mb hb=>h4 b mb (hg b hb)⟩
 ·rw [h1,h2];exact ⟨_,rfl,Zrv h3 fun b mb hb=>h4 b mb (hg b hb)⟩
theorem ZjT (e:List CT):X6 U (e.map Zhh):=fun y m=>by
 obtain ⟨x,_,rfl⟩:=AD.1 m
 cases x<;>trivial
theorem Zp0 [NW] (htt:∀t i,tt t=some i→TOk P t i) {fn:Func} {f:List RT} (hI:Inv W U st a w) (hH:HI W g st.ob w) (hS:∀t,SVR g w (st.sl t) (a.tmps.getD t undef)) {r:List RT} {ks:List Nat} (hx:Zbb tt st fn.results.toList=some (r,ks)) (j:ks.Nodup) (hw:wkR r f)
  (hB:∀k∈ks,∀b∈g.O k++g.D k,W.heap.size≤b) (K0:Nat→Prop) (l:∀k,K0 k→ZhR (st.ob k)=false∧∀e m xs d,st.ob k=.row e m xs d→d=2):
  ∃v m,(results fn a.tmps).run P w=.ok v w∧Ziy w W.heap.size m f v∧(∀b,m b→g.own b)∧(∀b,m b→g.Z b∨(∃k,(k∈ks∨K0 k)∧b∈g.O k))∧∀b,b∉g.F ks→(g.Z b∨∃k,K0 k∧b∈g.O k)→m b:=by
 obtain ⟨us,r1,r2⟩:=Zk7 (K:=fun k=>k∈ks∨K0 k) htt hH hS hI.wf (fun k hk=>by
  rcases hk with hk | hk
  ·obtain ⟨e',m',o,h'⟩:=ZhP hx k hk
   refine ⟨by rw [h'];rfl,fun e m xs d he=>?_⟩
   rw [he] at h'
   simp only[Ob.row.injEq] at h'
   exact h'.2.2.2
  ·exact l k hk) hx (fun k mk=>⟨.inl mk,hB k mk⟩)
 have c:=hH.nodupF j
 obtain ⟨F',s,hF⟩:=ZsM r2 hw c
 have p:∀b∈g.F ks,W.heap.size≤b:=fun b mb=>by
  obtain ⟨k,hk,mk⟩:=Zie mb
  exact hB k hk b mk
 refine ⟨(if h:us.toArray.size=1 then us.toArray[0] else .tuple us.toArray),fun b=>nK g (fun k=>k∈ks∨K0 k) b∧(b∈g.F ks→b∈F'),?_,⟨us,F',hF _ (fun b mb hb=>⟨hb,fun _=>mb⟩) (fun b hb=>hb.1) (fun b mb hb=>hb.2 mb),⟨c.sublist s,fun b mb=>p b (s.subset mb),fun b mb=>?_⟩,rfl⟩,fun b hb=>?_,fun b hb=>hb.1,fun b hb hn=>⟨?_,fun mb=>absurd mb hb⟩⟩
 ·rw [Zg4]
  have e:fn.results.mapM (Zes a.tmps)=AP <$> fn.results.toList.mapM (Zes a.tmps):=by
   rw [←List.mapM_toArray]
  have e2:(AP <$> fn.results.toList.mapM (Zes a.tmps)).run P w=.ok us.toArray w:=by
   rw [map_eq_pure_bind]
   simp only[Sem.run_bind,r1,Result.andThen_ok,Sem.run_pure]
  rw [e]
  simp only[Sem.run_bind,e2,Result.andThen_ok,Sem.run_pure]
 ·obtain ⟨k,hk,mk⟩:=Zie (s.subset mb)
  obtain ⟨e',m',o,h'⟩:=ZhP hx k hk
  have:=(hH.plain k b mk).2
  rw [h'] at this
  exact this
 ·rcases hb.1 with hz | ⟨k,_,mk⟩
  ·exact .inr hz
  ·exact .inl ⟨k,mk⟩
 ·rcases hn with hz | ⟨k,hk,mk⟩
  ·exact .inl hz
  ·exact .inr ⟨k,.inr hk,mk⟩
theorem ZpK [NW] {g':Gh} (hv:∀k e m xs,st.ob k=.row e m xs 2→g'.val k=g.val k∧U k) {x:AV} {v:Value} (h:AVR g w x v):AVR g' w (Zid st x) v∧avU U (Zid st x):=by
 have a:=h.one
 unfold Zid
 split
 ·obtain ⟨L,⟨h1,_⟩,_⟩:=h
  exact ⟨⟨[],⟨h1,rfl⟩,yG⟩,trivial⟩
 ·obtain ⟨L,⟨h1,_⟩,_⟩:=h
  exact ⟨⟨[],⟨h1,rfl⟩,yG⟩,trivial⟩
 ·obtain ⟨L,⟨h1,_,h3⟩,_⟩:=h
  exact ⟨⟨[],⟨h1,rfl,h3⟩,yG⟩,trivial⟩
 ·rename_i k
  cases hk:st.ob k with
  | row e m xs d=>
   simp only[Zrh]
   split
   ·rename_i hd
    subst hd
    obtain ⟨e1,e2⟩:=hv k e m xs hk
    exact ⟨⟨h.1.trans e1.symm,a⟩,e2⟩
   ·exact ⟨a,trivial⟩
  | gone=>exact ⟨a,trivial⟩
  | box _ _=>exact ⟨a,trivial⟩
  | map _ _ _=>exact ⟨a,trivial⟩
 ·exact ⟨a,trivial⟩
theorem ZiE [NW] {g':Gh} (hv:∀k e m xs,st.ob k=.row e m xs 2→g'.val k=g.val k∧U k):∀{cs:List AV} {vs:List Value},ZH (AVR g w) cs vs→ZH (AVR g' w) (cs.map (Zid st)) vs
 | [],[],_=>trivial
 | _::_,_::_,h=>⟨(ZpK hv h.1).1,ZiE hv h.2⟩
 | [],_::_,h=>h.elim
 | _::_,[],h=>h.elim
theorem Zt5 [NW] {x:SV} {v:Value} {g':Gh} (hv:∀k e m xs,st.ob k=.row e m xs 2→g'.val k=g.val k∧U k) (hu:svU U x) (a:∀k,U k→g'.val k=g.val k) (h:SVR g w x v):SVR g' w (Zmy st x) v:=by
 cases x with
 | p ag cs=>
  cases ag with
  | true=>obtain ⟨vs,e,h⟩:=h;exact ⟨vs,e,ZiE hv h⟩
  | false=>obtain ⟨y,rfl,h⟩:=h;exact ⟨_,rfl,(ZpK hv h).1⟩
 | bp k off=>obtain ⟨b,h1,h2⟩:=h;exact ⟨b,(a k hu).trans h1,h2⟩
 | _=>trivial
theorem ZqW (hv:∀k e m xs,st.ob k=.row e m xs 2→U k) (x:AV):avU U (Zid st x):=by
 unfold Zid
 split
 ·trivial
 ·trivial
 ·trivial
 ·rename_i k
  cases hk:st.ob k with
  | row e m xs d=>
   simp only[Zrh]
   split
   ·rename_i hd
    subst hd
    exact hv k e m xs hk
   ·trivial
  | gone=>trivial
  | box _ _=>trivial
  | map _ _ _=>trivial
 ·trivial
theorem Zvg (hv:∀k e m xs,st.ob k=.row e m xs 2→U k) (x:SV) (hu:svU U x):svU U (Zmy st x):=by
 cases x with
 | p ag cs=>
  intro y my
  obtain ⟨x,mx,rfl⟩:=AD.1 my
  exact ZqW hv x
 | bp k off=>exact hu
 | _=>trivial
theorem ZkY {o:Ob} (h:QW st o≠.gone):(∃e m xs,o=.row e m xs 2)∨∃t cs,o=.box t cs:=by
 cases o with
 | row e m xs d=>
  simp only[QW] at h
  split at h
  ·rename_i hd
   subst hd
   exact .inl ⟨e,m,xs,rfl⟩
  ·exact absurd rfl h
 | gone=>exact absurd rfl h
 | box t cs=>exact .inr ⟨t,cs,rfl⟩
 | map _ _ _=>exact absurd rfl h
theorem ZtS [NW] (hB:W.heap.size≤NW.B0) (t:Nat) (hI:Inv W U st a w) (B:∀k,st.n≤k→¬U k):∃U',Inv W U' (st.thaw t) a w:=by
 obtain ⟨⟨g,hH,hS⟩,hU,d,hh⟩:=hI
 unfold St.thaw
 cases hv:st.sl t with
 | p ag cs=>
  by_cases hc:∃e m xs,ag=false∧cs=[.n (.sl e m xs)]
  ·obtain ⟨e,m,xs,rfl,rfl⟩:=hc
   have hs:=hS t
   rw [hv] at hs
   obtain ⟨_,_,_,cs,L,h1,h2,h3,h4,h5,h6⟩:=ZBN hs
   simp only[CT.sl.injEq] at h1
   obtain ⟨rfl,rfl,rfl⟩:=h1
   let v:=a.tmps.getD t undef
   have hn:st.ob st.n=.gone:=hU.gone _ (B _ (A7 _))
   have c:∀k e m xs,st.ob k=.row e m xs 2→k≠st.n∧U k:=fun k e m xs hk=>⟨fun e=>by rw [e,hn] at hk;simp at hk,Classical.byContradiction fun h=>by rw [hU.gone k h] at hk;simp at hk⟩
   let g':Gh:=⟨fun k=>if k=st.n then v else g.val k,fun k=>if k=st.n then v.ownBlock.toList else (match QW st (st.ob k) with | .gone=>[] | _=>g.O k),fun k=>if k=st.n then L else (match QW st (st.ob k) with | .gone=>[] | _=>g.D k),g.Z⟩
   have gn:g'.val st.n=v∧g'.O st.n=v.ownBlock.toList∧g'.D st.n=L:=⟨if_pos rfl,if_pos rfl,if_pos rfl⟩
   have gk:∀k,k≠st.n→QW st (st.ob k)≠.gone→g'.O k=g.O k∧g'.D k=g.D k:=fun k hk ho=>by
    rcases ZkY ho with ⟨e',m',f,e1⟩ | ⟨t',i,e1⟩
    ·simp [g',if_neg hk,e1,QW]
    ·simp [g',if_neg hk,e1,QW]
   have gg:∀k,k≠st.n→QW st (st.ob k)=.gone→g'.O k=[]∧g'.D k=[]:=fun k hk ho=>by
    simp only[g',if_neg hk,ho]
    exact ⟨trivial,trivial⟩
   have o:∀k b,b∈g'.O k++g'.D k→(k=st.n∧b∈v.ownBlock.toList++L)∨(k≠st.n∧QW st (st.ob k)≠.gone∧b∈g.O k++g.D k):=fun k b mb=>by
    by_cases hk:k=st.n
    ·subst hk;rw [gn.2.1,gn.2.2] at mb;exact .inl ⟨rfl,mb⟩
    ·by_cases ho:QW st (st.ob k)=.gone
     ·rw [(gg k hk ho).1,(gg k hk ho).2] at mb;simp at mb
     ·rw [(gk k hk ho).1,(gk k hk ho).2] at mb;exact .inr ⟨hk,ho,mb⟩
   have z:∀k b,b∈g.O k++g.D k→g.low b:=fun k b mb=>by
    rcases A9.1 mb with m1 | m1
    ·exact .inl (.inl ⟨k,m1⟩)
    ·exact .inr ⟨k,m1⟩
   refine ⟨fun k=>U k∨k=st.n,⟨g',⟨hH.below,fun k=>?_,fun k=>?_,fun k j C b mb mj=>?_,fun k b mb=>?_,hH.gz,hH.zx,hH.nw⟩,fun s=>?_⟩,⟨fun s=>?_,fun k=>?_,fun k hk=>?_⟩,d,hh⟩
   ·show ObR g' w k (if k=st.n then .row e m xs 2 else QW st (st.ob k))
    by_cases hk:k=st.n
    ·subst hk
     rw [if_pos rfl]
     exact ⟨h2,cs,L,by rw [gn.1];exact h3,h4,.inl ⟨rfl,by rw [gn.2.1,gn.1],gn.2.2⟩⟩
    ·rw [if_neg hk]
     by_cases ho:QW st (st.ob k)=.gone
     ·rw [ho];exact gg k hk ho
     ·have u:=hH.obs k
      have ev:g'.val k=g.val k:=if_neg hk
      obtain ⟨eO,eD⟩:=gk k hk ho
      rcases ZkY ho with ⟨e',m',f,e1⟩ | ⟨t',i,e1⟩
      ·rw [e1] at u ⊢
       obtain ⟨p1,i,L',p2,p3,p4⟩:=u
       rw [show QW st (.row e' m' f 2)=.row e' m' f 2 from by simp [QW]]
       refine ⟨p1,i,L',by rw [ev];exact p2,p3,?_⟩
       rw [ev,eO,eD]
       rcases p4 with p4 | ⟨q,_⟩ | ⟨q,_⟩
       ·exact .inl p4
       ·omega
       ·omega
      ·rw [e1] at u ⊢
       obtain ⟨b,vs,p1,p2,p3,p4,p5⟩:=u
       exact ⟨b,vs,ev.trans p1,eO.trans p2,eD.trans p3,p4,ZiE (U:=U) (fun k e m xs hk=>⟨if_neg (c k e m xs hk).1,(c k e m xs hk).2⟩) p5⟩
   ·by_cases hk:k=st.n
    ·subst hk;rw [gn.2.1,gn.2.2];exact h5
    ·by_cases ho:QW st (st.ob k)=.gone
     ·rw [(gg k hk ho).1,(gg k hk ho).2];simp
     ·rw [(gk k hk ho).1,(gk k hk ho).2];exact hH.nodup k
   ·rcases o k b mb with ⟨rfl,m1⟩ | ⟨k1,k2,m1⟩
    ·rcases o j b mj with ⟨rfl,m2⟩ | ⟨j1,j2,m2⟩
     ·exact C rfl
     ·exact (h6 b m1).1 (z j b m2)
    ·rcases o j b mj with ⟨rfl,m2⟩ | ⟨j1,j2,m2⟩
     ·exact (h6 b m2).1 (z k b m1)
     ·exact hH.apart k j C b m1 m2
   ·show _∧Xk w (if k=st.n then .row e m xs 2 else QW st (st.ob k)) b
    rcases o k b mb with ⟨rfl,m1⟩ | ⟨k1,k2,m1⟩
    ·rw [if_pos rfl]
     exact ⟨.inl (Nat.le_trans hB (h6 b m1).2.1),(h6 b m1).2.2⟩
    ·obtain ⟨q1,q2⟩:=hH.plain k b m1
     rw [if_neg k1]
     refine ⟨q1,q2.of ?_⟩
     rcases ZkY k2 with ⟨e',m',f,e1⟩ | ⟨t',i,e1⟩
     ·rw [e1];rfl
     ·rw [e1];rfl
   ·show SVR g' w (if s=t then .p false [.row st.n] else Zmy st (st.sl s)) _
    by_cases l:s=t
    ·subst l
     rw [if_pos rfl]
     obtain ⟨A,cap,E⟩:=Q8 h3
     exact ⟨_,rfl,gn.1.symm,by rw [E];rfl⟩
    ·rw [if_neg l]
     exact Zt5 (U:=U) (fun k e m xs hk=>⟨if_neg (c k e m xs hk).1,(c k e m xs hk).2⟩) (hU.sl s) (fun k hk=>if_neg fun e=>B k yE hk) (hS s)
   ·show svU _ (if s=t then .p false [.row st.n] else Zmy st (st.sl s))
    by_cases l:s=t
    ·rw [if_pos l];intro y my;simp at my;subst my;exact .inr rfl
    ·rw [if_neg l];exact Zvg (fun k e m xs hk=>.inl (c k e m xs hk).2) _ ((hU.sl s).mono fun _=>.inl)
   ·show obU _ (if k=st.n then .row e m xs 2 else QW st (st.ob k))
    split
    ·trivial
    ·cases hk:st.ob k with
     | row e' m' f d'=>simp only[QW];split<;>trivial
     | box t' i=>
      intro y my
      obtain ⟨x,mx,rfl⟩:=AD.1 my
      exact ZqW (fun k e m xs hk=>.inl (c k e m xs hk).2) x
     | _=>trivial
   ·show (if k=st.n then .row e m xs 2 else QW st (st.ob k))=.gone
    rw [if_neg fun e=>hk (.inr e),hU.gone k fun h=>hk (.inl h)]
    rfl
  ·have e:Zop st t (.p ag cs)=st:=by
    unfold Zop
    split
    ·rename_i h
     simp only[SV.p.injEq] at h
     exact absurd ⟨_,_,_,h.1,h.2⟩ hc
    ·rfl
   rw [e]
   exact ⟨U,⟨g,hH,hS⟩,hU,d,hh⟩
 | _=>exact ⟨U,⟨g,hH,hS⟩,hU,d,hh⟩
end
abbrev nw0:NW:=⟨0⟩
section
variable {P:Program} {J:World→Prop} {JF:Nat→Prop} {W:QK} {U:Nat→Prop} {st:St} {w w':World} {a:Act} {tt:Nat→Option TI} {od:OD} {g:Gh}
structure JOk (J:World→Prop) (JF:Nat→Prop):Prop where
 below:∀(x:Nat→Prop) (w w':World),J w→(∀b,x b→JF b)→w'.os=w.os→w'.tape=w.tape→w'.output=w.output→w.heap.size≤w'.heap.size→(∀k,k<w.heap.size→¬x k→w'.heap[k]?=w.heap[k]?)→J w'
 new:∀(w:World) b,J w→w.heap.size≤b→JF b
theorem Zea {args:List (Bool × List CT)} {vs:List Value} {N t o:Nat} (h:vs.length≤N) (v:Value) (hv:vs[t]?=some v):(vs.toArray++A8 (N - vs.toArray.size) undef).getD t undef=v:=by
 have hl:t<vs.length:=(AB.1 hv).1
 simp only[AH,AW,AJ,hl,if_true,List.getElem?_toArray,hv,Option.getD_some]
theorem Zh0 {vs:List Value} {N t:Nat} (ht:vs.length≤t):(vs.toArray++A8 (N - vs.toArray.size) undef).getD t undef=undef:=by
 simp only[AH,AW,AJ,show ¬t<vs.length by omega,if_false,Array.getElem?_replicate]
 split<;>rfl
theorem Zt7 (htt : ∀ t i, tt t = some i → TOk P t i) (hJ : JOk J JF) (hmix : P.follows .mixedOrders = true) {hds : FuncId → Nat} {f : FuncId} {fn : Func} {c : Code} {args : List (Bool × List CT)} {res : List RT} (hf : P.funcs[f]? = some fn) (hname : (fn.name == "runtime.NumGoroutine") = false) (hb : fn.body = some c)
  (hok:Y4 od tt hds false fn.ntmps c=true) (hlen:Nat.ble args.length fn.ntmps=true) (h:fnS od tt (SC P J JF hds) fn.results.toList c args res):Zl P J f args res:=by
 letI:NW:=nw0
 refine ⟨⟨fn,hf,hname,by rw [hb];rfl⟩,fun w z vs hj hz hargs=>?_⟩
 have hlen':args.length≤fn.ntmps:=AA hlen
 have hvl:=hargs.len
 refine calls_of_wp hf hb ?_
 let W:QK:={ w with z:=z,x:=fun _=>False,hv:=none }
 let g0:Gh:=⟨fun _=>undef,fun _=>[],fun _=>[],z⟩
 have hg0:∀b,g0.own b→z b:=fun b hb=>by
  rcases hb with ⟨k,m⟩ | h
  ·simp [g0] at m
  ·exact h
 have hI0:Inv W (fun _=>False) (Zm args) { tmps:=vs.toArray++A8 (fn.ntmps - vs.toArray.size) undef,defers:=[] } w:=by
  refine ⟨⟨g0,⟨⟨rfl,rfl,rfl,A7 _,fun _ _ _=>rfl⟩,fun k=>⟨rfl,rfl⟩,fun k=>by simp [g0],fun k j _ b m=>by simp [g0] at m,fun k b m=>by simp [g0] at m,rfl,fun b hb=>⟨hz b hb,fun h=>h⟩,fun _ _=>AQ _⟩,fun t=>?_⟩,⟨fun t=>?_,fun k=>trivial,fun k _=>rfl⟩,rfl,fun v hv=>by simp [W] at hv⟩
  ·show SVR g0 w (match args[t]? with | some x=>.p x.1 (x.2.map Zhh) | none=>.und) _
   cases ht:args[t]? with
   | none=>exact Zh0 (by have:args.length≤t:=(by simpa using ht);omega)
   | some x=>
    obtain ⟨v,hv,hr⟩:=hargs.at ht
    show SVR g0 w (.p x.1 (x.2.map Zhh)) ((vs.toArray++A8 (fn.ntmps - vs.toArray.size) undef).getD t undef)
    rw [Zea (args:=args) (o:=0) yE v hv]
    exact Zlc hg0 hr
  ·show svU _ (match args[t]? with | some x=>.p x.1 (x.2.map Zhh) | none=>.und)
   split
   ·exact ZjT _
   ·trivial
 have hM:MOk P J JF W tt:=⟨htt,fun w' hb=>hJ.below (fun _=>False) w w' hj (fun _ h=>h.elim) hb.os hb.tape hb.output hb.size (fun k hk hx=>hb.block k hk hx),fun b hb=>hJ.new w b hj hb,fun b h=>h.elim⟩
 refine X8 (W:=W) hM hmix (.inl rfl) c hok (ZoL tt fn.results.toList fun _ r _=>wkR r res) _ ?_ _ (Zm args) _ w hI0 (fun _ _ h=>h) (by simp;omega) h
 intro ex U' st' a' w' hI' _ _ hK
 have fin:(match Zbb tt st' fn.results.toList with | some x=>x.2.Nodup∧wkR x.1 res | none=>False)→a'.defers=[]∧∃v,(results fn a'.tmps).run P w'=.ok v w'∧∃u n,Ending.returned v=.returned u∧Ziy w' w.heap.size n res u∧(∀b,z b→n b)∧Below w.heap.size w w':=fun hK=>by
  split at hK
  ·rename_i x hx
   obtain ⟨r,ks⟩:=x
   obtain ⟨hnd,hw⟩:=hK
   obtain ⟨g,hH,hS⟩:=hI'.ex
   have hBg:∀k∈ks,∀b∈g.O k++g.D k,W.heap.size≤b:=fun k _ b mb=>(hH.plain k b mb).1.resolve_right fun h=>h
   obtain ⟨v,m,e1,e2,_,_,e4⟩:=Zp0 htt hI' hH hS hx hnd hw hBg (fun _=>False) (fun _ h=>h.elim)
   have hbel:=hH.below
   exact ⟨hI'.defers,v,e1,v,m,rfl,e2,fun b hb=>e4 b (fun mb=>by obtain ⟨k,hk,mk⟩:=Zie mb;have:=hBg k hk b mk;have:=hz b hb;have e:W.heap.size=w.heap.size:=rfl;omega) (.inl (by rw [hH.gz];exact hb)),hbel.os,hbel.tape,hbel.output,hbel.size,fun k hk=>hbel.block k hk fun h=>h⟩
  ·exact hK.elim
 cases ex with
 | normal=>exact fin hK
 | exit id=>exact hK.elim
 | ret=>exact fin hK
theorem ZrX (htt : ∀ t i, tt t = some i → TOk P t i) (hJ : JOk J JF) (hmix : P.follows .mixedOrders = true) {hds : FuncId → Nat} {f : FuncId} {fn : Func} {c : Code} {args : List (Bool × List CT)} {res : List RT} (hf : P.funcs[f]? = some fn) (hname : (fn.name == "runtime.NumGoroutine") = false) (hb : fn.body = some c)
  (hok:Y4 od tt hds false fn.ntmps c=true) (hlen:Nat.ble args.length fn.ntmps=true) (t0:Nat) (h:fnN od tt (SC P J JF hds) fn.results.toList t0 c args res):Zl P J f args res:=by
 refine ⟨⟨fn,hf,hname,by rw [hb];rfl⟩,fun w z vs hj hz hargs=>?_⟩
 letI:NW:=⟨w.heap.size⟩
 have hlen':args.length≤fn.ntmps:=AA hlen
 have hvl:=hargs.len
 refine calls_of_wp hf hb ?_
 let W:QK:={ w with z:=z,x:=fun _=>False,hv:=none }
 let g0:Gh:=⟨fun _=>undef,fun _=>[],fun _=>[],z⟩
 have hg0:∀b,g0.own b→z b:=fun b hb=>by
  rcases hb with ⟨k,m⟩ | h
  ·simp [g0] at m
  ·exact h
 have hI0:Inv W (fun _=>False) (Zm args) { tmps:=vs.toArray++A8 (fn.ntmps - vs.toArray.size) undef,defers:=[] } w:=by
  refine ⟨⟨g0,⟨⟨rfl,rfl,rfl,A7 _,fun _ _ _=>rfl⟩,fun k=>⟨rfl,rfl⟩,fun k=>by simp [g0],fun k j _ b m=>by simp [g0] at m,fun k b m=>by simp [g0] at m,rfl,fun b hb=>⟨hz b hb,fun h=>h⟩,fun b hb=>hb.elim (fun h=>h) fun h=>h.elim⟩,fun t=>?_⟩,⟨fun t=>?_,fun k=>trivial,fun k _=>rfl⟩,rfl,fun v hv=>by simp [W] at hv⟩
  ·show SVR g0 w (match args[t]? with | some x=>.p x.1 (x.2.map Zhh) | none=>.und) _
   cases ht:args[t]? with
   | none=>exact Zh0 (by have:args.length≤t:=(by simpa using ht);omega)
   | some x=>
    obtain ⟨v,hv,hr⟩:=hargs.at ht
    show SVR g0 w (.p x.1 (x.2.map Zhh)) ((vs.toArray++A8 (fn.ntmps - vs.toArray.size) undef).getD t undef)
    rw [Zea (args:=args) (o:=0) yE v hv]
    exact Zlc hg0 hr
  ·show svU _ (match args[t]? with | some x=>.p x.1 (x.2.map Zhh) | none=>.und)
   split
   ·exact ZjT _
   ·trivial
 have hM:MOk P J JF W tt:=⟨htt,fun w' hb=>hJ.below (fun _=>False) w w' hj (fun _ h=>h.elim) hb.os hb.tape hb.output hb.size (fun k hk hx=>hb.block k hk hx),fun b hb=>hJ.new w b hj hb,fun b h=>h.elim⟩
 refine X8 (W:=W) hM hmix (.inl rfl) c hok (Zu5 t0 (ZoL tt fn.results.toList fun _ r _=>wkR r res)) _ ?_ _ (Zm args) _ w hI0 (fun _ _ h=>h) (by simp;omega) h
 intro ex U1 st1 a' w' hI1 hn1 _ hK
 obtain ⟨U',hI'⟩:=ZtS (A7 _) t0 hI1 hn1
 generalize hst:st1.thaw t0=st' at hI'
 simp only[Zu5,hst] at hK
 have fin:(match Zbb tt st' fn.results.toList with | some x=>x.2.Nodup∧wkR x.1 res | none=>False)→a'.defers=[]∧∃v,(results fn a'.tmps).run P w'=.ok v w'∧∃u n,Ending.returned v=.returned u∧Ziy w' w.heap.size n res u∧(∀b,z b→n b)∧Below w.heap.size w w':=fun hK=>by
  split at hK
  ·rename_i x hx
   obtain ⟨r,ks⟩:=x
   obtain ⟨hnd,hw⟩:=hK
   obtain ⟨g,hH,hS⟩:=hI'.ex
   have hBg:∀k∈ks,∀b∈g.O k++g.D k,W.heap.size≤b:=fun k _ b mb=>(hH.plain k b mb).1.resolve_right fun h=>h
   obtain ⟨v,m,e1,e2,_,_,e4⟩:=Zp0 htt hI' hH hS hx hnd hw hBg (fun _=>False) (fun _ h=>h.elim)
   have hbel:=hH.below
   exact ⟨hI'.defers,v,e1,v,m,rfl,e2,fun b hb=>e4 b (fun mb=>by obtain ⟨k,hk,mk⟩:=Zie mb;have:=hBg k hk b mk;have:=hz b hb;have e:W.heap.size=w.heap.size:=rfl;omega) (.inl (by rw [hH.gz];exact hb)),hbel.os,hbel.tape,hbel.output,hbel.size,fun k hk=>hbel.block k hk fun h=>h⟩
  ·exact hK.elim
 cases ex with
 | normal=>exact fin hK
 | exit id=>exact hK.elim
 | ret=>exact fin hK
theorem ZsF (htt : ∀ t i, tt t = some i → TOk P t i) (hJ : JOk J JF) (hmix : P.follows .mixedOrders = true) {hds : FuncId → Nat} {f : FuncId} {fn : Func} {c : Code} {args : List (Bool × List CT)} {nb : NB} (hf : P.funcs[f]? = some fn) (hname : (fn.name == "runtime.NumGoroutine") = false) (hb : fn.body = some c)
  (hok:Y4 od tt hds false fn.ntmps c=true) (hlen:Nat.ble args.length fn.ntmps=true) (h:fnB od tt (SC P J JF hds) fn.results.toList c args nb):Zj3 P J f args nb:=by
 letI:NW:=nw0
 refine ⟨⟨fn,hf,hname,by rw [hb];rfl⟩,fun w z vs hj hz hargs=>?_⟩
 have hlen':args.length≤fn.ntmps:=AA hlen
 have hvl:=hargs.len
 refine calls_of_wp hf hb ?_
 let W:QK:={ w with z:=z,x:=fun _=>False,hv:=none }
 let g0:Gh:=⟨fun _=>undef,fun _=>[],fun _=>[],z⟩
 have hg0:∀b,g0.own b→z b:=fun b hb=>by
  rcases hb with ⟨k,m⟩ | h
  ·simp [g0] at m
  ·exact h
 have hI0:Inv W (fun _=>False) (Zm args) { tmps:=vs.toArray++A8 (fn.ntmps - vs.toArray.size) undef,defers:=[] } w:=by
  refine ⟨⟨g0,⟨⟨rfl,rfl,rfl,A7 _,fun _ _ _=>rfl⟩,fun k=>⟨rfl,rfl⟩,fun k=>by simp [g0],fun k j _ b m=>by simp [g0] at m,fun k b m=>by simp [g0] at m,rfl,fun b hb=>⟨hz b hb,fun h=>h⟩,fun _ _=>AQ _⟩,fun t=>?_⟩,⟨fun t=>?_,fun k=>trivial,fun k _=>rfl⟩,rfl,fun v hv=>by simp [W] at hv⟩
  ·show SVR g0 w (match args[t]? with | some x=>.p x.1 (x.2.map Zhh) | none=>.und) _
   cases ht:args[t]? with
   | none=>exact Zh0 (by have:args.length≤t:=(by simpa using ht);omega)
   | some x=>
    obtain ⟨v,hv,hr⟩:=hargs.at ht
    show SVR g0 w (.p x.1 (x.2.map Zhh)) ((vs.toArray++A8 (fn.ntmps - vs.toArray.size) undef).getD t undef)
    rw [Zea (args:=args) (o:=0) yE v hv]
    exact Zlc hg0 hr
  ·show svU _ (match args[t]? with | some x=>.p x.1 (x.2.map Zhh) | none=>.und)
   split
   ·exact ZjT _
   ·trivial
 have hM:MOk P J JF W tt:=⟨htt,fun w' hb=>hJ.below (fun _=>False) w w' hj (fun _ h=>h.elim) hb.os hb.tape hb.output hb.size (fun k hk hx=>hb.block k hk hx),fun b hb=>hJ.new w b hj hb,fun b h=>h.elim⟩
 refine X8 (W:=W) hM hmix (.inl rfl) c hok (ZuB fn.results.toList nb) _ ?_ _ (Zm args) _ w hI0 (fun _ _ h=>h) (by simp;omega) h
 intro ex U' st' a' w' hI' _ _ hK
 have fin:ZeR st' fn.results.toList nb→a'.defers=[]∧∃v,(results fn a'.tmps).run P w'=.ok v w'∧∃(b:Nat) (n:Nat→Prop),Ending.returned v=.returned (Zmc b nb)∧w.heap.size≤b∧nbR w' n b nb∧n b∧(∀x,z x→n x)∧Below w.heap.size w w':=fun hK=>by
  unfold ZeR at hK
  split at hK
  ·rename_i s hrs
   have er:fn.results=#[.tmp s]:=by
    have:=congrArg AP hrs
    simpa using this
   obtain ⟨g,hH,hS⟩:=hI'.ex
   have hs:=hS s
   have hbel:=hH.below
   cases nb with
   | box t cs=>
    obtain ⟨k,ds,k1,k2,k3,k4⟩:=hK
    rw [k1] at hs
    obtain ⟨b,b1,b2⟩:=hs
    have hob:=hH.obs k
    rw [k2] at hob
    obtain ⟨b',us,o1,o2,o3,o4,o5⟩:=hob
    have hbb:b'=b:=by rw [b1] at o1;simpa using o1.symm
    subst hbb
    obtain ⟨L,hL,hL2⟩:=Zei hH k4 o5
    have hno:=hL2 fun y my=>by
     have:=AF.1 k3 y my
     cases y<;>simp [Zaa] at this<;>trivial
    refine ⟨hI'.defers,_,?_,b',fun x=>g.own x,rfl,(hH.plain k b' (by simp [o2])).1.resolve_right fun h=>h,⟨us,L,o4,hL,hno⟩,.inl ⟨k,by simp [o2]⟩,fun x hx=>.inr (by rw [hH.gz];exact hx),hbel.os,hbel.tape,hbel.output,hbel.size,fun k hk=>hbel.block k hk fun h=>h⟩
    rw [Zg4,er]
    simp [Zes,b2,Zmc]
   | map kk vk kv=>
    obtain ⟨k,k1,k2⟩:=hK
    rw [k1] at hs
    obtain ⟨x,hx,hx3⟩:=hs
    simp only[AI,and_true] at hx
    subst hx
    obtain ⟨hx2,_⟩:=hx3
    have hob:=hH.obs k
    rw [k2] at hob
    obtain ⟨b,es,c,o1,o2,o3,o4,o5⟩:=hob
    refine ⟨hI'.defers,_,?_,b,fun x=>g.own x,rfl,(hH.plain k b (by simp [o2])).1.resolve_right fun h=>h,⟨es,c,o4,o5⟩,.inl ⟨k,by simp [o2]⟩,fun x hx=>.inr (by rw [hH.gz];exact hx),hbel.os,hbel.tape,hbel.output,hbel.size,fun k hk=>hbel.block k hk fun h=>h⟩
    rw [Zg4,er]
    simp [Zes,hx2,o1,Zmc]
  ·exact hK.elim
 cases ex with
 | normal=>exact fin hK
 | exit id=>exact hK.elim
 | ret=>exact fin hK
theorem ZrJ (htt : ∀ t i, tt t = some i → TOk P t i) (hJ : JOk J JF) (hmix : P.follows .mixedOrders = true) {hds : FuncId → Nat} {f : FuncId} {fn : Func} {c : Code} {h h' : Zf7} {args : List (Bool × List CT)} {res : List RT} (hf : P.funcs[f]? = some fn) (hname : (fn.name == "runtime.NumGoroutine") = false) (hb : fn.body = some c)
  (hok:Y4 od tt hds true fn.ntmps c=true) (hlen:Nat.blt args.length fn.ntmps=true) (hh:fnH od tt (SC P J JF hds) fn.results.toList c h args res h'):ZaU P J JF f h args res h':=by
 letI:NW:=nw0
 refine ⟨⟨fn,hf,hname,by rw [hb];rfl⟩,fun w z q v0 vs hj hqf hz hhand hargs=>?_⟩
 have hlen':args.length<fn.ntmps:=AA hlen
 have hvl:=hargs.len
 refine calls_of_wp hf hb ?_
 let W:QK:={ w with z:=z,x:=fun b=>q=some b,hv:=some v0 }
 let g0:Gh:=⟨fun k=>if k=0 then v0 else undef,fun k=>if k=0 then q.toList else [],fun _=>[],z⟩
 have hg0:∀b,g0.own b→inQ z q b:=fun b hb=>by
  rcases hb with ⟨k,m⟩ | h
  ·simp only[g0] at m
   split at m
   ·exact .inr (by simpa using m)
   ·simp at m
  ·exact .inl h
 have hqlt:∀b,q=some b→∃cur e,w.heap[b]?=some (.cells cur e (0,0)):=fun b hb=>by
  cases h with
  | row e m xs=>
   obtain ⟨_,_,h3,cs,h4,_⟩:=hhand
   rcases h4.2 with ⟨h0,_⟩ | ⟨gg,o,cap,cur,hv,_,hcc,_⟩
   ·rw [h0] at h3;simp [Value.ownBlock] at h3;rw [←h3] at hb;simp at hb
   ·rw [hv] at h3;simp only[Value.ownBlock] at h3;rw [hb] at h3;simp at h3;subst h3;exact ⟨_,_,hcc⟩
  | box t cs=>
   obtain ⟨b',vs,L,h1,h2,h3,_⟩:=hhand
   rw [hb] at h1;simp at h1;subst h1
   exact ⟨_,_,h3⟩
 have hob0:ObR g0 w 0 (Y9 h):=by
  cases h with
  | row e m xs=>
   obtain ⟨h1,h2,h3,cs,h4,h5⟩:=hhand
   exact ⟨h2,cs,[],by simpa [g0] using h4,h5,.inl ⟨rfl,by simp [g0,h3],by simp [g0]⟩⟩
  | box t cs=>
   obtain ⟨b,vs,L,h1,h2,h3,h4,h5⟩:=hhand
   exact ⟨b,vs,by simpa [g0] using h2,by simp [g0,h1],by simp [g0],h3,h4.avr fun x mx hx=>h5 x mx (hg0 x hx)⟩
 have hsv0:SVR g0 w (ZcW h) v0:=by
  cases h with
  | row e m xs=>
   obtain ⟨h1,h2,h3,cs,h4,h5⟩:=hhand
   obtain ⟨A,cap,hv⟩:=Q8 h4
   exact ⟨_,rfl,by simp [g0],by simp [hv,Value.oneCell']⟩
  | box t cs=>
   obtain ⟨b,vs,L,h1,h2,h3,h4,h5⟩:=hhand
   exact ⟨b,by simpa [g0] using h2,h2⟩
 have hI0:Inv W (fun k=>k=0) (ZcO h args) { tmps:=(v0::vs).toArray++A8 (fn.ntmps - (v0::vs).toArray.size) undef,defers:=[] } w:=by
  refine ⟨⟨g0,⟨⟨rfl,rfl,rfl,A7 _,fun _ _ _=>rfl⟩,fun k=>?_,fun k=>?_,fun k j hkj b m=>?_,fun k b m=>?_,rfl,fun b hb=>⟨(hz b hb).1,(hz b hb).2⟩,fun _ _=>AQ _⟩,fun t=>?_⟩,⟨fun t=>?_,fun k=>?_,fun k hk=>by simp [ZcO,hk]⟩,rfl,fun v hv=>?_⟩
  ·show ObR g0 w k (if k=0 then Y9 h else .gone)
   by_cases hk:k=0
   ·subst hk;exact hob0
   ·rw [if_neg hk];exact ⟨by simp [g0,hk],rfl⟩
  ·by_cases hk:k=0
   ·subst hk;cases q<;>simp [g0]
   ·simp [g0,hk]
  ·by_cases hk:k=0
   ·have:¬j=0:=fun e=>hkj yE
    simp [g0,this]
   ·simp [g0,hk] at m
  ·by_cases hk:k=0
   ·subst hk
    have hb:q=some b:=by simpa [g0] using m
    refine ⟨.inr hb,?_⟩
    have hp:∃cur e,w.heap[b]?=some (.cells cur e (0,0)):=hqlt b hb
    show Xk w (if 0=0 then Y9 h else .gone) b
    rw [if_pos rfl]
    cases h<;>exact hp
   ·simp [g0,hk] at m
  ·show SVR g0 w (match t with | 0=>ZcW h | t+1=>(match args[t]? with | some x=>.p x.1 (x.2.map .c) | none=>.und)) _
   cases t with
   | zero=>
    show SVR g0 w (ZcW h) (((v0::vs).toArray++A8 (fn.ntmps - (v0::vs).toArray.size) undef).getD 0 undef)
    rw [Zea (args:=args) (o:=0) (by simp;omega) v0 rfl]
    exact hsv0
   | succ t=>
    show SVR g0 w (match args[t]? with | some x=>.p x.1 (x.2.map .c) | none=>.und) _
    cases ht:args[t]? with
    | none=>exact Zh0 (by have:args.length≤t:=(by simpa using ht);simp;omega)
    | some x=>
     obtain ⟨v,hv,hr⟩:=hargs.at ht
     show SVR g0 w (.p x.1 (x.2.map .c)) (((v0::vs).toArray++A8 (fn.ntmps - (v0::vs).toArray.size) undef).getD (t+1) undef)
     rw [Zea (args:=args) (o:=0) (by simp;omega) v (by simpa using hv)]
     exact Zvo hg0 hr
  ·show svU _ (match t with | 0=>ZcW h | t+1=>(match args[t]? with | some x=>.p x.1 (x.2.map .c) | none=>.und))
   cases t with
   | zero=>cases h with
    | row e m xs=>intro y my;simp at my;subst my;rfl
    | box t cs=>rfl
   | succ t=>
    show svU _ (match args[t]? with | some x=>.p x.1 (x.2.map .c) | none=>.und)
    split
    ·exact Zkx true _
    ·trivial
  ·show obU _ (if k=0 then Y9 h else .gone)
   by_cases hk:k=0
   ·rw [if_pos hk]
    cases h with
    | row e m xs=>trivial
    | box t cs=>exact Zkx true _
   ·rw [if_neg hk];trivial
  ·have:v0=v:=by simpa [W] using hv
   subst this
   exact Zea (args:=args) (o:=0) (by simp;omega) v0 rfl
 have hM:MOk P J JF W tt:=⟨htt,fun w' hb=>hJ.below (fun b=>q=some b) w w' hj hqf hb.os hb.tape hb.output hb.size (fun k hk hx=>hb.block k hk hx),fun b hb=>hJ.new w b hj hb,hqf⟩
 refine X8 (W:=W) hM hmix (.inr rfl) c hok (ZoL tt fn.results.toList fun st r ks=>wkR r res∧Zhz st ks h') _ ?_ _ (ZcO h args) _ w hI0 (fun k hk h0=>by simp [ZcO] at hk;omega) (by simp;omega) hh
 intro ex U' st' a' w' hI' _ _ hK
 have fin:(match Zbb tt st' fn.results.toList with | some x=>x.2.Nodup∧wkR x.1 res∧Zhz st' x.2 h' | none=>False)→a'.defers=[]∧∃v,(results fn a'.tmps).run P w'=.ok v w'∧∃u n,Ending.returned v=.returned u∧Ziy w' w.heap.size n res u∧(∀b,inQ z q b→n b)∧Zme w' n q h' v0∧Zyq q w w':=fun hK=>by
  split at hK
  ·rename_i x hx
   obtain ⟨r,ks⟩:=x
   obtain ⟨hnd,hw,hbk⟩:=hK
   obtain ⟨g,hH,hS⟩:=hI'.ex
   have hv0:a'.tmps.getD 0 undef=v0:=hI'.hand v0 rfl
   have hS0:=hS 0
   rw [hv0] at hS0
   have hkey:∃k,g.val k=v0∧g.O k=q.toList∧g.D k=[]∧k∉ks∧(ZhR (st'.ob k)=false∧∀e m xs d,st'.ob k=.row e m xs d→d=2)∧∀n:Nat→Prop,(∀b,n b→g.own b)→Zme w' n q h' v0:=by
    cases h' with
    | row e m xs=>
     obtain ⟨k,hk1,hk2,hk3,hk4⟩:=hbk
     rw [hk1] at hS0
     obtain ⟨x,hx1,hx2⟩:=hS0
     simp only[AI,and_true] at hx1
     subst hx1
     have hob:=hH.obs k
     rw [hk2] at hob
     obtain ⟨hm,cs,L,o1,o2,o3⟩:=hob
     obtain rfl:=ZfO o2 hk3
     rcases o3 with ⟨_,q1,q2⟩ | ⟨q1,_⟩ | ⟨q1,_⟩
     ·have hq:v0.ownBlock=q:=by
       cases h with
       | row e1 m1 xs1=>exact hhand.2.2.1
       | box t1 cs1=>
        obtain ⟨b,vs,L,h1,h2,_⟩:=hhand
        obtain ⟨A,cap,hv⟩:=Q8 o1
        rw [←hx2.1,h2] at hv
        simp at hv
      exact ⟨k,hx2.1.symm,by rw [q1,←hx2.1,hq],q2,hk4,⟨by rw [hk2];rfl,fun e' m' xs' d' h=>by rw [hk2] at h;simp only[Ob.row.injEq] at h;exact h.2.2.2.symm⟩,fun n _=>⟨hk3,hm,hq,cs,by rw [hx2.1];exact o1,o2⟩⟩
     ·omega
     ·omega
    | box t cs=>
     obtain ⟨k,ds,hk1,hk2,hk3,hk4⟩:=hbk
     rw [hk1] at hS0
     obtain ⟨b,hb1,hb2⟩:=hS0
     have hob:=hH.obs k
     rw [hk2] at hob
     obtain ⟨b',vs',o1,o2,o3,o4,o5⟩:=hob
     have hbb:b'=b:=by rw [hb1] at o1;simpa using o1.symm
     subst hbb
     have hq:q=some b':=by
      cases h with
      | row e1 m1 xs1=>
       obtain ⟨_,_,_,cs1,h4,_⟩:=hhand
       obtain ⟨A,cap,hv⟩:=Q8 h4
       rw [hv] at hb2
       simp at hb2
      | box t1 cs1=>
       obtain ⟨b2,vs2,L2,h1,h2,_⟩:=hhand
       rw [h2] at hb2
       simp at hb2
       rw [h1,hb2]
     obtain ⟨L,hL,hL2⟩:=Zei hH hk4 o5
     refine ⟨k,by rw [o1,hb2],by rw [o2,hq];rfl,o3,fun mk=>?_,⟨by rw [hk2];rfl,fun e' m' xs' d' h=>by rw [hk2] at h;simp at h⟩,fun n hn=>⟨b',vs',L,hq,hb2,o4,hL,fun x mx hx=>hL2 (fun y my=>?_) x mx (hn x hx)⟩⟩
     ·obtain ⟨e',m',xs',h'⟩:=ZhP hx k mk
      rw [hk2] at h'
      simp at h'
     ·have:=AF.1 hk3 y my
      cases y<;>simp [Zaa] at this<;>trivial
   obtain ⟨k0,c1,c2,c3,c4,c5,c6⟩:=hkey
   have hBg:∀k∈ks,∀b∈g.O k++g.D k,W.heap.size≤b:=fun k hk b mb=>(hH.plain k b mb).1.resolve_right fun h=>hH.apart k k0 (fun e=>c4 (e ▸ hk)) b mb (by rw [c2];simp;exact .inl h)
   obtain ⟨v,m,e1,e2,e3,_,e4⟩:=Zp0 htt hI' hH hS hx hnd hw hBg (fun k=>k=k0) (fun k hk=>hk ▸ c5)
   have hbel:=hH.below
   refine ⟨hI'.defers,v,e1,v,m,rfl,e2,fun b hb=>?_,c6 m e3,hbel.os,hbel.tape,hbel.output,hbel.size,fun k hk hq=>hbel.block k hk hq⟩
   refine e4 b (fun mb=>?_) ?_
   ·obtain ⟨k,hk,mk⟩:=Zie mb
    have hge:=hBg k hk b mk
    have e:W.heap.size=w.heap.size:=rfl
    rcases hb with hb | hb
    ·have:=(hz b hb).1;omega
    ·obtain ⟨cur,e',hc⟩:=hqlt b hb
     have:=(AO.1 hc).1
     omega
   ·rcases hb with hb | hb
    ·exact .inl (by rw [hH.gz];exact hb)
    ·exact .inr ⟨k0,rfl,by rw [c2,hb];simp⟩
  ·exact hK.elim
 cases ex with
 | normal=>exact fin hK
 | exit id=>exact hK.elim
 | ret=>exact fin hK
end
instance nwD:NW:=nw0
end
section
open Go.RowKit
def Zi0 {α β:Type} (f:α→β→Bool):List α→List β→Bool
 | [],[]=>true
 | a::l,b::r=>f a b&&Zi0 f l r
 | _,_=>false
theorem ZhV {α β:Type} {f:α→β→Bool} {R:α→β→Prop} (h:∀a b,f a b=true→R a b):∀{l:List α} {r:List β},Zi0 f l r=true→ZH R l r
 | [],[],_=>trivial
 | a::l,b::r,hh=>by
  simp only[Zi0,A6] at hh
  exact ⟨h a b hh.1,ZhV h hh.2⟩
 | [],_::_,hh=>by simp [Zi0] at hh
 | _::_,[],hh=>by simp [Zi0] at hh
def Zs9 (P:Program) (fi:FI) (f:Field):Bool:=
 f.offset==fi.off&&!(fi.size==0)&&match P.info? f.type,P.underlying f.type with
  | some j,some d=>j.size==fi.size&&(Zpk d==fi.agg)
  | _,_=>false
def ZyM:Value→Bool
 | .slice none 0 0=>true
 | _=>false
def Zsx (P:Program):List PK→List Field→Nat→Bool
 | [],[],_=>true
 | k :: ks, f :: fs, n => (f.name != "_") && (f.offset == n) && (match P.underlying f.type with | some d => Zc4 k d | none => false) && Zsx P ks fs (n + 1)
 | _,_,_=>false
theorem Zq8 {P:Program}:∀{ks:List PK} {fs:List Field} {n:Nat},Zsx P ks fs n=true→EqF P ks fs n
 | [],[],_,_=>trivial
 | k::ks,f::fs,n,h=>by
  simp only[Zsx,A6,bne_iff_ne,beq_iff_eq] at h
  obtain ⟨⟨⟨h1,h2⟩,h3⟩,h4⟩:=h
  split at h3
  ·rename_i d hd;exact ⟨h1,h2,⟨d,hd,h3⟩,Zq8 h4⟩
  ·simp at h3
 | [],_::_,_,h=>by simp [Zsx] at h
 | _::_,[],_,h=>by simp [Zsx] at h
def Zmn:Option TypeDesc→Bool
 | some (.struct _)=>true
 | _=>false
def ZzP (P:Program) (t:TypeId) (ks:List PK):Bool:=
 Nat.ble 4000 t&&Zmn (P.underlying (t - 4000))&&!(P.stoodInHeld (t - 4000))&&!(P.eqGuardType P.depth (t - 4000))&&Zsx P ks (P.fieldsOf (t - 4000)).toList 0
theorem Zvr {P:Program} {t:TypeId} {ks:List PK} (h:ZzP P t ks=true):TOk P t (.eqs ks):=by
 simp only[ZzP,A6,AX] at h
 obtain ⟨⟨⟨⟨h1,h2⟩,h3⟩,h4⟩,h5⟩:=h
 refine ⟨t - 4000,?_,?_,h3,h4,Zq8 h5⟩
 ·have:4000≤t:=AA h1
  exact (Nat.sub_add_cancel this).symm
 ·unfold Zmn at h2
  split at h2
  ·rename_i fs e
   unfold Program.fieldsOf
   rw [e]
  ·simp at h2
def tOk (P:Program) (t:TypeId) (ti:TI):Bool:=
 match ti with
 | .eqs ks=>ZzP P t ks
 | _=>
 match P.underlying t,P.info? t with
 | some d,some i=>match ti with
  | .atom z=>ZgW d z&&i.size==1&&match i.zero with | some zv=>QV z zv | none=>false
  | .strct fs n z=>match d with
   | .struct fields=>i.size==n&&(match i.zero with | some (.agg zvs)=>Zi0 QV z zvs.toList | _=>false)&&Zi0 (Zs9 P) fs fields.toList
   | _=>false
  | .slice e m bytes z=>match d with
   | .slice e'=>e==e'&&Nat.blt 0 m&&Nat.ble bytes 131072&&(match P.info? e with
     | some ie=>ie.size==m&&ie.bytes==bytes&&(match ie.zero with | some zv=>Zi0 QV z zv.cells.toList | none=>false)
     | none=>false)&&z.length==m&&i.size==1&&(match i.zero with | some zv=>ZyM zv | none=>false)
   | _=>false
  | .map kk vk=>match d with
   | .map kt et=>(match P.underlying kt with | some dk=>Zc4 kk dk | none=>false)&&(match P.underlying et with | some dv=>Zc4 vk dv | none=>false)&&(match P.info? et with | some ie=>(match ie.zero with | some zv=>QV (ZdG vk) zv | none=>false) | none=>false)
   | _=>false
  | .ifc=>match d with
   | .interface _=>true
   | _=>false
  | .eqs _=>false
 | _,_=>false
theorem Zvb {v:Value} (h:ZyM v=true):v=.slice none 0 0:=by
 unfold ZyM at h
 split at h
 ·rfl
 ·simp at h
theorem Zwq {P:Program} {t:TypeId} {ti:TI} (h:tOk P t ti=true):TOk P t ti:=by
 unfold tOk at h
 split at h
 ·exact Zvr h
 split at h
 ·rename_i d i hd hi
  cases ti with
  | eqs ks=>simp at h
  | ifc=>
   simp only at h
   split at h
   ·exact ⟨_,hd⟩
   ·simp at h
  | map kk vk=>
   simp only at h
   split at h
   ·rename_i kt et
    simp only[A6] at h
    obtain ⟨⟨h1,h2⟩,h3⟩:=h
    split at h1
    ·rename_i dk c
     split at h2
     ·rename_i dv g
      split at h3
      ·rename_i ie b
       split at h3
       ·rename_i zv hz
        exact ⟨kt,et,dk,dv,ie,zv,hd,c,h1,g,h2,b,hz,h3⟩
       ·simp at h3
      ·simp at h3
     ·simp at h2
    ·simp at h1
   ·simp at h
  | atom z=>
   simp only[A6,beq_iff_eq] at h
   obtain ⟨⟨h1,h2⟩,h3⟩:=h
   split at h3
   ·rename_i zv hz;exact ⟨d,zv,i,hd,h1,hi,hz,h2,h3⟩
   ·simp at h3
  | strct fs n z=>
   simp only at h
   split at h
   ·rename_i a
    simp only[A6,beq_iff_eq] at h
    obtain ⟨⟨h1,h2⟩,h3⟩:=h
    split at h2
    ·rename_i zvs hz
     refine ⟨a,i,zvs,hd,hi,h1,hz,ZhV (fun _ _ h=>h) h2,ZhV (fun fi f hf=>?_) h3⟩
     unfold Zs9 at hf
     simp only[A6,beq_iff_eq,AX,beq_eq_false_iff_ne] at hf
     obtain ⟨⟨f1,f2⟩,f3⟩:=hf
     split at f3
     ·rename_i j d' hj k
      simp only[A6,beq_iff_eq] at f3
      exact ⟨f1,f2,j,d',hj,f3.1,k,f3.2⟩
     ·simp at f3
    ·simp at h2
   ·simp at h
  | slice e m bytes z=>
   simp only at h
   split at h
   ·rename_i e'
    simp only[A6,beq_iff_eq] at h
    obtain ⟨⟨⟨⟨⟨⟨h1,h2⟩,h3⟩,h4⟩,h5⟩,h6⟩,h7⟩:=h
    subst h1
    split at h4
    ·rename_i ie b
     simp only[A6,beq_iff_eq] at h4
     obtain ⟨⟨k1,k2⟩,k3⟩:=h4
     split at k3
     ·rename_i zv hz
      split at h7
      ·rename_i zv' l
       exact ⟨hd,AA h2,AA h3,⟨ie,zv,b,k1,k2,hz,ZhV (fun _ _ h=>h) k3,h5⟩,i,hi,h6,by rw [l,Zvb h7]⟩
      ·simp at h7
     ·simp at k3
    ·simp at h4
   ·simp at h
 ·simp at h
def ZtC:List (Nat × TI)→Nat→Option TI
 | [],_=>none
 | p::r,t=>if p.1=t then some p.2 else ZtC r t
theorem Zs8 {P:Program}:∀(l:List (Nat × TI)),(l.all fun p=>tOk P p.1 p.2)=true→∀t i,ZtC l t=some i→TOk P t i
 | [],_,t,i,h=>by simp [ZtC] at h
 | p::r,ha,t,i,h=>by
  simp only[List.all_cons,A6] at ha
  simp only[ZtC] at h
  split at h
  ·rename_i e
   simp only[A5] at h
   subst h e
   exact Zwq ha.1
  ·exact Zs8 r ha.2 t i h
end
section
open Go.RowKit
def Zv1 (P:Program) (L:List (String × (Array Value→Prop))) (w:World):Prop:=∀x∈L,∃cs,w.var? P x.1=some cs∧x.2 cs
def ZvV (P:Program) (L:List (String × (Array Value→Prop))) (b:Nat):Prop:=∀x∈L,¬P.globalNamed x.1=some b
theorem Zvk (P:Program) (L:List (String × (Array Value→Prop))):JOk (Zv1 P L) (ZvV P L) where
 below:=fun x w w' hj hx _ _ _ hs hb y my=>by
  obtain ⟨cs,h1,h2⟩:=hj y my
  refine ⟨cs,?_,h2⟩
  unfold World.var? at h1 ⊢
  obtain ⟨g,hg,h1⟩:=AC.1 h1
  rw [hg,AY]
  have a:g<w.heap.size:=by
   rcases Nat.lt_or_ge g w.heap.size with h | h
   ·exact h
   ·rw [AZ h] at h1;simp at h1
  rw [hb g a (fun h=>hx g h y my hg)]
  exact h1
 new:=fun w b hj hb y my hg=>by
  obtain ⟨cs,h1,_⟩:=hj y my
  unfold World.var? at h1
  rw [hg,AY,AZ hb] at h1
  simp at h1
theorem ZDP {J:World→Prop} {JF:Nat→Prop} (h:JOk J JF) {w w':World} (hj:J w) (hb:Below w.heap.size w w'):J w':=
 h.below (fun _=>False) w w' hj (fun _ h=>h.elim) hb.os hb.tape hb.output hb.size fun k hk _=>hb.block k hk
theorem Zo0 {w:World} {B:Nat} {n:Nat→Prop} {ct:CT} {v:Value} (h:OC w B n (false,ct) v []):Ziy w B n [(false,[(false,ct)])] v:=
 ⟨[v],[],⟨v,[],[],[],rfl,rfl,.inr ⟨rfl,_,rfl,h⟩,rfl,rfl⟩,Own.nil _ _,yG⟩
theorem ZpA {w:World} {B:Nat} {n:Nat→Prop} {c1 c2:CT} {v1 v2:Value} (h1:OC w B n (false,c1) v1 []) (h2:OC w B n (false,c2) v2 []):Ziy w B n [(false,[(false,c1)]),(false,[(false,c2)])] (.tuple #[v1,v2]):=
 ⟨[v1,v2],[],⟨v1,[v2],[],[],rfl,rfl,.inr ⟨rfl,_,rfl,h1⟩,v2,[],[],[],rfl,rfl,.inr ⟨rfl,_,rfl,h2⟩,rfl,rfl⟩,Own.nil _ _,yG⟩
theorem Zrp {w:World} {z:Nat→Prop} {c:CT} {v:Value} (h:Zjv w z (false,[c]) v):∃L,RC w c v L:=by
 rcases h with ⟨h,_⟩ | ⟨_,ct,L,h,hr,_⟩
 ·simp at h
 ·simp only[AI,and_true] at h
  subst h
  exact ⟨L,hr⟩
theorem ZjO {w:World} {z:Nat→Prop} {c:CT} {vs:List Value} (h:ZH (Zjv w z) [(false,[c])] vs):∃v L,vs=[v]∧RC w c v L:=by
 cases vs with
 | nil=>exact h.elim
 | cons v r=>
  cases r with
  | nil=>obtain ⟨L,hr⟩:=Zrp h.1;exact ⟨v,L,rfl,hr⟩
  | cons _ _=>exact h.2.elim
theorem Zs7 {w:World} {z:Nat→Prop} {c d:CT} {vs:List Value} (h:ZH (Zjv w z) [(false,[c]),(false,[d])] vs):∃v u L M,vs=[v,u]∧RC w c v L∧RC w d u M:=by
 cases vs with
 | nil=>exact h.elim
 | cons v r=>
  obtain ⟨u,M,rfl,hu⟩:=ZjO h.2
  obtain ⟨L,hr⟩:=Zrp h.1
  exact ⟨v,u,L,M,rfl,hr,hu⟩
end
section
open Go.RowKit
def ttL:List (Nat × TI):=[
 (2,.atom (.c (.int .i64 0))),
 (3,.atom (.c (.int .i64 0))),
 (4,.atom (.c (.bool false))),
 (5,.atom (.c (.int .u8 0))),
 (9,.atom (.c (.str ⟨#[]⟩))),
 (12,.atom (.c (.int .u64 0))),
 (14,.strct [⟨0,1,false⟩,⟨1,1,false⟩] 2 [.c (.str ⟨#[]⟩),.c (.int .u64 0)]),
 (20,.ifc),
 (21,.atom (.c (.int .i32 0))),
 (22,.slice 100 4 72 [.c (.str ⟨#[]⟩),.c (.int .i64 0),.nil 113 5,.nil 221 3]),
 (23,.slice 66 2 40 [.c (.str ⟨#[]⟩),.nil 9 1]),
 (26,.slice 71 2 40 [.c (.str ⟨#[]⟩),.nil 9 1]),
 (28,.slice 104 4 72 [.c (.str ⟨#[]⟩),.c (.int .i64 0),.nil 60 5,.nil 166 3]),
 (36,.slice 113 5 80 [.c (.int .i64 0),.c (.str ⟨#[]⟩),.nil 9 1,.c (.str ⟨#[]⟩),.c (.str ⟨#[]⟩)]),
 (38,.slice 61 1 24 [.nil 135 2]),
 (41,.slice 60 5 80 [.c (.int .i64 0),.c (.str ⟨#[]⟩),.nil 9 1,.c (.str ⟨#[]⟩),.c (.str ⟨#[]⟩)]),
 (48,.slice 5 1 1 [.c (.int .u8 0)]),
 (56,.slice 9 1 16 [.c (.str ⟨#[]⟩)]),
 (58,.strct [⟨0,1,false⟩,⟨1,1,false⟩] 2 [.c (.str ⟨#[]⟩),.nil 9 1]),
 (60,.strct [⟨0,1,false⟩,⟨1,2,true⟩,⟨3,1,false⟩,⟨4,1,false⟩] 5 [.c (.int .i64 0),.c (.str ⟨#[]⟩),.nil 9 1,.c (.str ⟨#[]⟩),.c (.str ⟨#[]⟩)]),
 (61,.slice 135 2 32 [.c (.str ⟨#[]⟩),.c (.str ⟨#[]⟩)]),
 (66,.strct [⟨0,1,false⟩,⟨1,1,false⟩] 2 [.c (.str ⟨#[]⟩),.nil 9 1]),
 (68,.slice 86 4 80 [.c (.str ⟨#[]⟩),.nil 9 1,.c (.str ⟨#[]⟩),.nil 3 1]),
 (71,.strct [⟨0,1,false⟩,⟨1,1,false⟩] 2 [.c (.str ⟨#[]⟩),.nil 9 1]),
 (84,.slice 3 1 8 [.c (.int .i64 0)]),
 (86,.strct [⟨0,2,true⟩,⟨2,1,false⟩,⟨3,1,false⟩] 4 [.c (.str ⟨#[]⟩),.nil 9 1,.c (.str ⟨#[]⟩),.nil 3 1]),
 (89,.slice 144 3 56 [.c (.int .i64 0),.nil 3 1,.nil 3 1]),
 (91,.strct [⟨0,1,false⟩,⟨1,1,false⟩] 2 [.c (.int .i64 0),.nil 144 3]),
 (94,.slice 4 1 1 [.c (.bool false)]),
 (98,.slice 221 3 48 [.c (.int .i64 0),.c (.str ⟨#[]⟩),.nil 9 1]),
 (100,.strct [⟨0,1,false⟩,⟨1,1,false⟩,⟨2,1,false⟩,⟨3,1,false⟩] 4 [.c (.str ⟨#[]⟩),.c (.int .i64 0),.nil 113 5,.nil 221 3]),
 (102,.slice 166 3 48 [.c (.int .i64 0),.c (.str ⟨#[]⟩),.nil 9 1]),
 (104,.strct [⟨0,1,false⟩,⟨1,1,false⟩,⟨2,1,false⟩,⟨3,1,false⟩] 4 [.c (.str ⟨#[]⟩),.c (.int .i64 0),.nil 60 5,.nil 166 3]),
 (111,.strct [⟨0,1,false⟩,⟨1,1,false⟩] 2 [.c (.str ⟨#[]⟩),.nil 9 1]),
 (113,.strct [⟨0,1,false⟩,⟨1,2,true⟩,⟨3,1,false⟩,⟨4,1,false⟩] 5 [.c (.int .i64 0),.c (.str ⟨#[]⟩),.nil 9 1,.c (.str ⟨#[]⟩),.c (.str ⟨#[]⟩)]),
 (114,.slice 118 2 48 [.nil 71 2,.nil 135 2]),
 (118,.strct [⟨0,1,false⟩,⟨1,1,false⟩] 2 [.nil 71 2,.nil 135 2]),
 (135,.strct [⟨0,1,false⟩,⟨1,1,false⟩] 2 [.c (.str ⟨#[]⟩),.c (.str ⟨#[]⟩)]),
 (138,.slice 146 3 64 [.c (.str ⟨#[]⟩),.nil 71 2,.nil 135 2]),
 (144,.strct [⟨0,1,false⟩,⟨1,1,false⟩,⟨2,1,false⟩] 3 [.c (.int .i64 0),.nil 3 1,.nil 3 1]),
 (146,.strct [⟨0,1,false⟩,⟨1,2,true⟩] 3 [.c (.str ⟨#[]⟩),.nil 71 2,.nil 135 2]),
 (149,.slice 153 2 40 [.c (.str ⟨#[]⟩),.nil 71 2]),
 (153,.strct [⟨0,1,false⟩,⟨1,1,false⟩] 2 [.c (.str ⟨#[]⟩),.nil 71 2]),
 (166,.strct [⟨0,1,false⟩,⟨1,2,true⟩] 3 [.c (.int .i64 0),.c (.str ⟨#[]⟩),.nil 9 1]),
 (170,.slice 94 1 24 [.nil 4 1]),
 (184,.strct [⟨0,1,false⟩,⟨1,1,false⟩,⟨2,1,false⟩] 3 [.nil 5 1,.c (.int .i64 0),.c (.int .i64 0)]),
 (221,.strct [⟨0,1,false⟩,⟨1,2,true⟩] 3 [.c (.int .i64 0),.c (.str ⟨#[]⟩),.nil 9 1]),
 (250,.atom (.c (.int .u64 0))),
 (260,.map .str .bool),
 (263,.ifc),
 (264,.ifc),
 (288,.atom (.c (.int .u32 0))),
 (290,.atom (.c (.int .u64 0))),
 (327,.strct [⟨0,1,false⟩] 1 [.c (.str ⟨#[]⟩)]),
 (4135,.eqs [.str,.str])]
def tt (t:Nat):Option TI:=ZtC ttL t
theorem htt:∀t i,tt t=some i→TOk prog t i:=Zs8 ttL (by kernel_rfl)
theorem hmix:prog.follows .mixedOrders=true:=by kernel_rfl
def ZuR : List (String × (Array Value → Prop)) := [("internal/strconv.uint64pow10", fun cs => cs = (Lib.pow10Tab.map fun z => Value.int .u64 z).toArray), ("strconv.ErrSyntax", fun cs => ∃ tp p, cs = #[.iface tp p])]
def J0:World→Prop:=Zv1 prog ZuR
def JF0:Nat→Prop:=ZvV prog ZuR
theorem hJ0:JOk J0 JF0:=Zvk _ _
theorem ZyT (w : World) (h : J0 w) : Lib.TabIs prog w "internal/strconv.uint64pow10" .u64 Lib.pow10Tab := by
 obtain ⟨cs,h1,h2⟩:=h _ (List.mem_cons_self ..)
 rw [h2] at h1
 exact h1
theorem Zyl (w : World) (h : J0 w) : ∃ tp p, w.var? prog "strconv.ErrSyntax" = some #[.iface tp p] := by
 obtain ⟨cs, h1, tp, p, h2⟩ := h ("strconv.ErrSyntax", fun cs => ∃ tp p, cs = #[.iface tp p]) (by simp [ZuR])
 rw [h2] at h1
 exact ⟨tp,p,h1⟩
def hdL:List (Nat × Nat):=[(12,2),(15,2),(24,2),(31,2),(36,2),(77,2),(83,3),(84,1),(85,1),(92,1),(109,1),(110,1),(115,2),(125,2),(136,2),(142,1),(143,1),(144,1),(145,1),(146,1),(164,1),(165,1),(173,2),(181,1),(183,1),(191,2),(215,1),(216,1),(217,1),(218,1),(219,1),(220,1),(221,1),(223,1),(227,1),(228,1),(238,1),(248,2),(257,1),(260,1),(261,1),(264,1),(269,1),(270,1),(276,3),(280,4),(286,1)]
def Ztw:List (Nat × Nat)→Nat→Nat
 | [],_=>0
 | p::r,f=>match Nat.beq p.1 f with | true=>p.2 | false=>Ztw r f
def hds (f:FuncId):Nat:=Ztw hdL f
theorem ZCu:(SC prog J0 JF0 hds).hd 5=0:=yi (by kernel_rfl)
theorem ZCC:(SC prog J0 JF0 hds).hd 7=0:=yi (by kernel_rfl)
theorem ZCx:(SC prog J0 JF0 hds).hd 8=0:=yi (by kernel_rfl)
theorem ZCe:(SC prog J0 JF0 hds).hd 9=0:=yi (by kernel_rfl)
theorem ZBa:(SC prog J0 JF0 hds).hd 12=2:=yi (by kernel_rfl)
theorem ZAB:(SC prog J0 JF0 hds).hd 15=2:=yi (by kernel_rfl)
theorem ZBi:(SC prog J0 JF0 hds).hd 22=0:=yi (by kernel_rfl)
theorem ZBy:(SC prog J0 JF0 hds).hd 24=2:=yi (by kernel_rfl)
theorem ZBY:(SC prog J0 JF0 hds).hd 30=0:=yi (by kernel_rfl)
theorem ZBM:(SC prog J0 JF0 hds).hd 31=2:=yi (by kernel_rfl)
theorem ZBg:(SC prog J0 JF0 hds).hd 32=0:=yi (by kernel_rfl)
theorem ZBw:(SC prog J0 JF0 hds).hd 33=0:=yi (by kernel_rfl)
theorem ZAZ:(SC prog J0 JF0 hds).hd 34=0:=yi (by kernel_rfl)
theorem ZA9:(SC prog J0 JF0 hds).hd 35=0:=yi (by kernel_rfl)
theorem ZA4:(SC prog J0 JF0 hds).hd 36=2:=yi (by kernel_rfl)
theorem ZAs:(SC prog J0 JF0 hds).hd 37=0:=yi (by kernel_rfl)
theorem ZAX:(SC prog J0 JF0 hds).hd 39=0:=yi (by kernel_rfl)
theorem ZA3:(SC prog J0 JF0 hds).hd 41=0:=yi (by kernel_rfl)
theorem ZBV:(SC prog J0 JF0 hds).hd 47=0:=yi (by kernel_rfl)
theorem ZAN:(SC prog J0 JF0 hds).hd 48=0:=yi (by kernel_rfl)
theorem ZBF:(SC prog J0 JF0 hds).hd 49=0:=yi (by kernel_rfl)
theorem ZBe:(SC prog J0 JF0 hds).hd 50=0:=yi (by kernel_rfl)
theorem ZAH:(SC prog J0 JF0 hds).hd 51=0:=yi (by kernel_rfl)
theorem ZAr:(SC prog J0 JF0 hds).hd 52=0:=yi (by kernel_rfl)
theorem ZB0:(SC prog J0 JF0 hds).hd 53=0:=yi (by kernel_rfl)
theorem ZB4:(SC prog J0 JF0 hds).hd 54=0:=yi (by kernel_rfl)
theorem ZAp:(SC prog J0 JF0 hds).hd 55=0:=yi (by kernel_rfl)
theorem ZAA:(SC prog J0 JF0 hds).hd 56=0:=yi (by kernel_rfl)
theorem ZBO:(SC prog J0 JF0 hds).hd 57=0:=yi (by kernel_rfl)
theorem ZA2:(SC prog J0 JF0 hds).hd 58=0:=yi (by kernel_rfl)
theorem ZBE:(SC prog J0 JF0 hds).hd 59=0:=yi (by kernel_rfl)
theorem ZAJ:(SC prog J0 JF0 hds).hd 60=0:=yi (by kernel_rfl)
theorem ZAI:(SC prog J0 JF0 hds).hd 62=0:=yi (by kernel_rfl)
theorem ZAU:(SC prog J0 JF0 hds).hd 64=0:=yi (by kernel_rfl)
theorem ZAv:(SC prog J0 JF0 hds).hd 71=0:=yi (by kernel_rfl)
theorem ZB5:(SC prog J0 JF0 hds).hd 72=0:=yi (by kernel_rfl)
theorem ZAy:(SC prog J0 JF0 hds).hd 73=0:=yi (by kernel_rfl)
theorem ZBT:(SC prog J0 JF0 hds).hd 74=0:=yi (by kernel_rfl)
theorem ZBB:(SC prog J0 JF0 hds).hd 76=0:=yi (by kernel_rfl)
theorem ZAP:(SC prog J0 JF0 hds).hd 77=2:=yi (by kernel_rfl)
theorem ZB7:(SC prog J0 JF0 hds).hd 78=0:=yi (by kernel_rfl)
theorem ZB6:(SC prog J0 JF0 hds).hd 83=3:=yi (by kernel_rfl)
theorem ZBZ:(SC prog J0 JF0 hds).hd 84=1:=yi (by kernel_rfl)
theorem ZBx:(SC prog J0 JF0 hds).hd 85=1:=yi (by kernel_rfl)
theorem ZBb:(SC prog J0 JF0 hds).hd 86=0:=yi (by kernel_rfl)
theorem ZBQ:(SC prog J0 JF0 hds).hd 87=0:=yi (by kernel_rfl)
theorem ZBW:(SC prog J0 JF0 hds).hd 88=0:=yi (by kernel_rfl)
theorem ZBA:(SC prog J0 JF0 hds).hd 89=0:=yi (by kernel_rfl)
theorem ZBH:(SC prog J0 JF0 hds).hd 90=0:=yi (by kernel_rfl)
theorem ZBk:(SC prog J0 JF0 hds).hd 91=0:=yi (by kernel_rfl)
theorem ZBK:(SC prog J0 JF0 hds).hd 92=1:=yi (by kernel_rfl)
theorem ZAV:(SC prog J0 JF0 hds).hd 93=0:=yi (by kernel_rfl)
theorem ZBo:(SC prog J0 JF0 hds).hd 94=0:=yi (by kernel_rfl)
theorem ZBr:(SC prog J0 JF0 hds).hd 96=0:=yi (by kernel_rfl)
theorem ZBf:(SC prog J0 JF0 hds).hd 97=0:=yi (by kernel_rfl)
theorem ZBU:(SC prog J0 JF0 hds).hd 98=0:=yi (by kernel_rfl)
theorem ZBC:(SC prog J0 JF0 hds).hd 99=0:=yi (by kernel_rfl)
theorem Zzx:(SC prog J0 JF0 hds).hd 101=0:=yi (by kernel_rfl)
theorem Zwz:(SC prog J0 JF0 hds).hd 102=0:=yi (by kernel_rfl)
theorem ZyF:(SC prog J0 JF0 hds).hd 103=0:=yi (by kernel_rfl)
theorem Zwe:(SC prog J0 JF0 hds).hd 104=0:=yi (by kernel_rfl)
theorem ZyA:(SC prog J0 JF0 hds).hd 109=1:=yi (by kernel_rfl)
theorem Zxn:(SC prog J0 JF0 hds).hd 110=1:=yi (by kernel_rfl)
theorem Zxd:(SC prog J0 JF0 hds).hd 111=0:=yi (by kernel_rfl)
theorem ZxC:(SC prog J0 JF0 hds).hd 112=0:=yi (by kernel_rfl)
theorem ZwW:(SC prog J0 JF0 hds).hd 113=0:=yi (by kernel_rfl)
theorem Zwi:(SC prog J0 JF0 hds).hd 114=0:=yi (by kernel_rfl)
theorem ZyH:(SC prog J0 JF0 hds).hd 115=2:=yi (by kernel_rfl)
theorem ZxV:(SC prog J0 JF0 hds).hd 116=0:=yi (by kernel_rfl)
theorem Zzk:(SC prog J0 JF0 hds).hd 117=0:=yi (by kernel_rfl)
theorem ZxW:(SC prog J0 JF0 hds).hd 118=0:=yi (by kernel_rfl)
theorem ZwZ:(SC prog J0 JF0 hds).hd 119=0:=yi (by kernel_rfl)
theorem ZyB:(SC prog J0 JF0 hds).hd 120=0:=yi (by kernel_rfl)
theorem ZwJ:(SC prog J0 JF0 hds).hd 121=0:=yi (by kernel_rfl)
theorem Zv9:(SC prog J0 JF0 hds).hd 122=0:=yi (by kernel_rfl)
theorem Zxv:(SC prog J0 JF0 hds).hd 123=0:=yi (by kernel_rfl)
theorem Zyp:(SC prog J0 JF0 hds).hd 124=0:=yi (by kernel_rfl)
theorem Zyc:(SC prog J0 JF0 hds).hd 125=2:=yi (by kernel_rfl)
theorem Zwt:(SC prog J0 JF0 hds).hd 127=0:=yi (by kernel_rfl)
theorem Zv2:(SC prog J0 JF0 hds).hd 129=0:=yi (by kernel_rfl)
theorem Zwp:(SC prog J0 JF0 hds).hd 132=0:=yi (by kernel_rfl)
theorem Zx4:(SC prog J0 JF0 hds).hd 133=0:=yi (by kernel_rfl)
theorem Zzf:(SC prog J0 JF0 hds).hd 135=0:=yi (by kernel_rfl)
theorem ZxF:(SC prog J0 JF0 hds).hd 136=2:=yi (by kernel_rfl)
theorem Zwk:(SC prog J0 JF0 hds).hd 137=0:=yi (by kernel_rfl)
theorem Zzv:(SC prog J0 JF0 hds).hd 138=0:=yi (by kernel_rfl)
theorem Zzh:(SC prog J0 JF0 hds).hd 139=0:=yi (by kernel_rfl)
theorem ZxG:(SC prog J0 JF0 hds).hd 142=1:=yi (by kernel_rfl)
theorem Zza:(SC prog J0 JF0 hds).hd 143=1:=yi (by kernel_rfl)
theorem Zy4:(SC prog J0 JF0 hds).hd 144=1:=yi (by kernel_rfl)
theorem ZAn:(SC prog J0 JF0 hds).hd 145=1:=yi (by kernel_rfl)
theorem ZyL:(SC prog J0 JF0 hds).hd 146=1:=yi (by kernel_rfl)
theorem Zx8:(SC prog J0 JF0 hds).hd 147=0:=yi (by kernel_rfl)
theorem Zv6:(SC prog J0 JF0 hds).hd 148=0:=yi (by kernel_rfl)
theorem Zy7:(SC prog J0 JF0 hds).hd 149=0:=yi (by kernel_rfl)
theorem Zym:(SC prog J0 JF0 hds).hd 150=0:=yi (by kernel_rfl)
theorem Zw1:(SC prog J0 JF0 hds).hd 151=0:=yi (by kernel_rfl)
theorem ZwP:(SC prog J0 JF0 hds).hd 152=0:=yi (by kernel_rfl)
theorem Zxq:(SC prog J0 JF0 hds).hd 153=0:=yi (by kernel_rfl)
theorem Zyu:(SC prog J0 JF0 hds).hd 154=0:=yi (by kernel_rfl)
theorem Zxm:(SC prog J0 JF0 hds).hd 155=0:=yi (by kernel_rfl)
theorem ZyW:(SC prog J0 JF0 hds).hd 156=0:=yi (by kernel_rfl)
theorem Zz8:(SC prog J0 JF0 hds).hd 157=0:=yi (by kernel_rfl)
theorem Zxi:(SC prog J0 JF0 hds).hd 158=0:=yi (by kernel_rfl)
theorem ZzY:(SC prog J0 JF0 hds).hd 159=0:=yi (by kernel_rfl)
theorem ZzX:(SC prog J0 JF0 hds).hd 160=0:=yi (by kernel_rfl)
theorem Zyz:(SC prog J0 JF0 hds).hd 161=0:=yi (by kernel_rfl)
theorem ZAd:(SC prog J0 JF0 hds).hd 162=0:=yi (by kernel_rfl)
theorem Zz0:(SC prog J0 JF0 hds).hd 163=0:=yi (by kernel_rfl)
theorem ZzT:(SC prog J0 JF0 hds).hd 164=1:=yi (by kernel_rfl)
theorem ZxA:(SC prog J0 JF0 hds).hd 165=1:=yi (by kernel_rfl)
theorem Zwm:(SC prog J0 JF0 hds).hd 166=0:=yi (by kernel_rfl)
theorem ZwU:(SC prog J0 JF0 hds).hd 167=0:=yi (by kernel_rfl)
theorem ZyK:(SC prog J0 JF0 hds).hd 168=0:=yi (by kernel_rfl)
theorem Zwo:(SC prog J0 JF0 hds).hd 169=0:=yi (by kernel_rfl)
theorem Zw5:(SC prog J0 JF0 hds).hd 171=0:=yi (by kernel_rfl)
theorem ZwR:(SC prog J0 JF0 hds).hd 172=0:=yi (by kernel_rfl)
theorem ZxR:(SC prog J0 JF0 hds).hd 173=2:=yi (by kernel_rfl)
theorem ZAh:(SC prog J0 JF0 hds).hd 174=0:=yi (by kernel_rfl)
theorem Zzr:(SC prog J0 JF0 hds).hd 175=0:=yi (by kernel_rfl)
theorem Zyj:(SC prog J0 JF0 hds).hd 176=0:=yi (by kernel_rfl)
theorem ZxY:(SC prog J0 JF0 hds).hd 178=0:=yi (by kernel_rfl)
theorem Zwr:(SC prog J0 JF0 hds).hd 179=0:=yi (by kernel_rfl)
theorem ZzQ:(SC prog J0 JF0 hds).hd 181=1:=yi (by kernel_rfl)
theorem ZxD:(SC prog J0 JF0 hds).hd 182=0:=yi (by kernel_rfl)
theorem ZwE:(SC prog J0 JF0 hds).hd 183=1:=yi (by kernel_rfl)
theorem Zzg:(SC prog J0 JF0 hds).hd 184=0:=yi (by kernel_rfl)
theorem Zz1:(SC prog J0 JF0 hds).hd 185=0:=yi (by kernel_rfl)
theorem Zz5:(SC prog J0 JF0 hds).hd 186=0:=yi (by kernel_rfl)
theorem Zy9:(SC prog J0 JF0 hds).hd 187=0:=yi (by kernel_rfl)
theorem ZzL:(SC prog J0 JF0 hds).hd 188=0:=yi (by kernel_rfl)
theorem ZxE:(SC prog J0 JF0 hds).hd 189=0:=yi (by kernel_rfl)
theorem Zyi:(SC prog J0 JF0 hds).hd 190=0:=yi (by kernel_rfl)
theorem Zzp:(SC prog J0 JF0 hds).hd 191=2:=yi (by kernel_rfl)
theorem Zys:(SC prog J0 JF0 hds).hd 192=0:=yi (by kernel_rfl)
theorem ZzS:(SC prog J0 JF0 hds).hd 193=0:=yi (by kernel_rfl)
theorem Zw9:(SC prog J0 JF0 hds).hd 194=0:=yi (by kernel_rfl)
theorem Zyn:(SC prog J0 JF0 hds).hd 196=0:=yi (by kernel_rfl)
theorem Zv5:(SC prog J0 JF0 hds).hd 198=0:=yi (by kernel_rfl)
theorem Zyk:(SC prog J0 JF0 hds).hd 200=0:=yi (by kernel_rfl)
theorem ZwY:(SC prog J0 JF0 hds).hd 201=0:=yi (by kernel_rfl)
theorem ZzC:(SC prog J0 JF0 hds).hd 202=0:=yi (by kernel_rfl)
theorem ZzW:(SC prog J0 JF0 hds).hd 203=0:=yi (by kernel_rfl)
theorem Zx0:(SC prog J0 JF0 hds).hd 204=0:=yi (by kernel_rfl)
theorem Zx3:(SC prog J0 JF0 hds).hd 205=0:=yi (by kernel_rfl)
theorem ZAa:(SC prog J0 JF0 hds).hd 206=0:=yi (by kernel_rfl)
theorem Zxu:(SC prog J0 JF0 hds).hd 207=0:=yi (by kernel_rfl)
theorem Zxe:(SC prog J0 JF0 hds).hd 208=0:=yi (by kernel_rfl)
theorem ZxZ:(SC prog J0 JF0 hds).hd 209=0:=yi (by kernel_rfl)
theorem Zxr:(SC prog J0 JF0 hds).hd 210=0:=yi (by kernel_rfl)
theorem Zy3:(SC prog J0 JF0 hds).hd 211=0:=yi (by kernel_rfl)
theorem ZyU:(SC prog J0 JF0 hds).hd 212=0:=yi (by kernel_rfl)
theorem ZwK:(SC prog J0 JF0 hds).hd 213=0:=yi (by kernel_rfl)
theorem Zyx:(SC prog J0 JF0 hds).hd 214=0:=yi (by kernel_rfl)
theorem Zz6:(SC prog J0 JF0 hds).hd 215=1:=yi (by kernel_rfl)
theorem Zyr:(SC prog J0 JF0 hds).hd 216=1:=yi (by kernel_rfl)
theorem ZxK:(SC prog J0 JF0 hds).hd 217=1:=yi (by kernel_rfl)
theorem Zyd:(SC prog J0 JF0 hds).hd 218=1:=yi (by kernel_rfl)
theorem ZzF:(SC prog J0 JF0 hds).hd 219=1:=yi (by kernel_rfl)
theorem Zwl:(SC prog J0 JF0 hds).hd 220=1:=yi (by kernel_rfl)
theorem ZxQ:(SC prog J0 JF0 hds).hd 221=1:=yi (by kernel_rfl)
theorem Zzi:(SC prog J0 JF0 hds).hd 222=0:=yi (by kernel_rfl)
theorem ZzE:(SC prog J0 JF0 hds).hd 223=1:=yi (by kernel_rfl)
theorem ZxM:(SC prog J0 JF0 hds).hd 224=0:=yi (by kernel_rfl)
theorem Zz4:(SC prog J0 JF0 hds).hd 225=0:=yi (by kernel_rfl)
theorem Zz7:(SC prog J0 JF0 hds).hd 226=0:=yi (by kernel_rfl)
theorem ZxL:(SC prog J0 JF0 hds).hd 227=1:=yi (by kernel_rfl)
theorem ZxH:(SC prog J0 JF0 hds).hd 228=1:=yi (by kernel_rfl)
theorem ZwV:(SC prog J0 JF0 hds).hd 229=0:=yi (by kernel_rfl)
theorem Zyf:(SC prog J0 JF0 hds).hd 230=0:=yi (by kernel_rfl)
theorem ZAm:(SC prog J0 JF0 hds).hd 231=0:=yi (by kernel_rfl)
theorem ZAl:(SC prog J0 JF0 hds).hd 232=0:=yi (by kernel_rfl)
theorem Zwj:(SC prog J0 JF0 hds).hd 233=0:=yi (by kernel_rfl)
theorem Zze:(SC prog J0 JF0 hds).hd 234=0:=yi (by kernel_rfl)
theorem ZxB:(SC prog J0 JF0 hds).hd 235=0:=yi (by kernel_rfl)
theorem Zxf:(SC prog J0 JF0 hds).hd 236=0:=yi (by kernel_rfl)
theorem Zw4:(SC prog J0 JF0 hds).hd 237=0:=yi (by kernel_rfl)
theorem ZzK:(SC prog J0 JF0 hds).hd 238=1:=yi (by kernel_rfl)
theorem Zy6:(SC prog J0 JF0 hds).hd 239=0:=yi (by kernel_rfl)
theorem ZAj:(SC prog J0 JF0 hds).hd 240=0:=yi (by kernel_rfl)
theorem ZxS:(SC prog J0 JF0 hds).hd 241=0:=yi (by kernel_rfl)
theorem Zv8:(SC prog J0 JF0 hds).hd 242=0:=yi (by kernel_rfl)
theorem ZyS:(SC prog J0 JF0 hds).hd 243=0:=yi (by kernel_rfl)
theorem Zxy:(SC prog J0 JF0 hds).hd 244=0:=yi (by kernel_rfl)
theorem Zzw:(SC prog J0 JF0 hds).hd 245=0:=yi (by kernel_rfl)
theorem Zy1:(SC prog J0 JF0 hds).hd 246=0:=yi (by kernel_rfl)
theorem ZAk:(SC prog J0 JF0 hds).hd 247=0:=yi (by kernel_rfl)
theorem Zxs:(SC prog J0 JF0 hds).hd 248=2:=yi (by kernel_rfl)
theorem ZwS:(SC prog J0 JF0 hds).hd 249=0:=yi (by kernel_rfl)
theorem Zzn:(SC prog J0 JF0 hds).hd 250=0:=yi (by kernel_rfl)
theorem Zxl:(SC prog J0 JF0 hds).hd 251=0:=yi (by kernel_rfl)
theorem ZxT:(SC prog J0 JF0 hds).hd 252=0:=yi (by kernel_rfl)
theorem ZzR:(SC prog J0 JF0 hds).hd 253=0:=yi (by kernel_rfl)
theorem Zxb:(SC prog J0 JF0 hds).hd 254=0:=yi (by kernel_rfl)
theorem ZwN:(SC prog J0 JF0 hds).hd 255=0:=yi (by kernel_rfl)
theorem Zxz:(SC prog J0 JF0 hds).hd 256=0:=yi (by kernel_rfl)
theorem Zx6:(SC prog J0 JF0 hds).hd 257=1:=yi (by kernel_rfl)
theorem Zwd:(SC prog J0 JF0 hds).hd 258=0:=yi (by kernel_rfl)
theorem ZwO:(SC prog J0 JF0 hds).hd 259=0:=yi (by kernel_rfl)
theorem ZwC:(SC prog J0 JF0 hds).hd 260=1:=yi (by kernel_rfl)
theorem Zxo:(SC prog J0 JF0 hds).hd 261=1:=yi (by kernel_rfl)
theorem ZyZ:(SC prog J0 JF0 hds).hd 262=0:=yi (by kernel_rfl)
theorem Zv4:(SC prog J0 JF0 hds).hd 263=0:=yi (by kernel_rfl)
theorem ZzD:(SC prog J0 JF0 hds).hd 264=1:=yi (by kernel_rfl)
theorem Zwx:(SC prog J0 JF0 hds).hd 265=0:=yi (by kernel_rfl)
theorem ZwA:(SC prog J0 JF0 hds).hd 266=0:=yi (by kernel_rfl)
theorem Zxt:(SC prog J0 JF0 hds).hd 267=0:=yi (by kernel_rfl)
theorem ZzH:(SC prog J0 JF0 hds).hd 268=0:=yi (by kernel_rfl)
theorem Zzb:(SC prog J0 JF0 hds).hd 269=1:=yi (by kernel_rfl)
theorem Zxa:(SC prog J0 JF0 hds).hd 270=1:=yi (by kernel_rfl)
theorem Zzu:(SC prog J0 JF0 hds).hd 271=0:=yi (by kernel_rfl)
theorem ZzZ:(SC prog J0 JF0 hds).hd 272=0:=yi (by kernel_rfl)
theorem Zzs:(SC prog J0 JF0 hds).hd 273=0:=yi (by kernel_rfl)
theorem Zwv:(SC prog J0 JF0 hds).hd 274=0:=yi (by kernel_rfl)
theorem Zz9:(SC prog J0 JF0 hds).hd 275=0:=yi (by kernel_rfl)
theorem ZyN:(SC prog J0 JF0 hds).hd 276=3:=yi (by kernel_rfl)
theorem Zzj:(SC prog J0 JF0 hds).hd 277=0:=yi (by kernel_rfl)
theorem ZwH:(SC prog J0 JF0 hds).hd 279=0:=yi (by kernel_rfl)
theorem Zxx:(SC prog J0 JF0 hds).hd 280=4:=yi (by kernel_rfl)
theorem Zye:(SC prog J0 JF0 hds).hd 282=0:=yi (by kernel_rfl)
theorem Zwn:(SC prog J0 JF0 hds).hd 284=0:=yi (by kernel_rfl)
theorem Zxp:(SC prog J0 JF0 hds).hd 285=0:=yi (by kernel_rfl)
theorem Zwu:(SC prog J0 JF0 hds).hd 286=1:=yi (by kernel_rfl)
theorem Zxh:(SC prog J0 JF0 hds).hd 287=0:=yi (by kernel_rfl)
theorem ZwB:(SC prog J0 JF0 hds).hd 288=0:=yi (by kernel_rfl)
theorem ZyV:(SC prog J0 JF0 hds).hd 289=0:=yi (by kernel_rfl)
theorem ZxP:(SC prog J0 JF0 hds).hd 290=0:=yi (by kernel_rfl)
theorem Zv3:(SC prog J0 JF0 hds).hd 291=0:=yi (by kernel_rfl)
theorem Zwh:(SC prog J0 JF0 hds).hd 292=0:=yi (by kernel_rfl)
theorem Zzc:(SC prog J0 JF0 hds).hd 295=0:=yi (by kernel_rfl)
theorem Zwc:(SC prog J0 JF0 hds).hd 300=0:=yi (by kernel_rfl)
theorem ZwI:(SC prog J0 JF0 hds).hd 301=0:=yi (by kernel_rfl)
theorem Zy8:(SC prog J0 JF0 hds).hd 302=0:=yi (by kernel_rfl)
theorem ZwG:(SC prog J0 JF0 hds).hd 303=0:=yi (by kernel_rfl)
theorem tt2:tt 2=some (.atom (.c (.int .i64 0))):=yi rfl
theorem tt3:tt 3=some (.atom (.c (.int .i64 0))):=yi rfl
theorem tt4:tt 4=some (.atom (.c (.bool false))):=yi rfl
theorem tt5:tt 5=some (.atom (.c (.int .u8 0))):=yi rfl
theorem tt9:tt 9=some (.atom (.c (.str ⟨#[]⟩))):=yi rfl
theorem ZCJ:tt 12=some (.atom (.c (.int .u64 0))):=yi rfl
theorem ZCI:tt 14=some (.strct [⟨0,1,false⟩,⟨1,1,false⟩] 2 [.c (.str ⟨#[]⟩),.c (.int .u64 0)]):=yi rfl
theorem ZCm:tt 20=some (.ifc):=yi rfl
theorem ZCS:tt 21=some (.atom (.c (.int .i32 0))):=yi rfl
theorem ZCf:tt 22=some (.slice 100 4 72 [.c (.str ⟨#[]⟩),.c (.int .i64 0),.nil 113 5,.nil 221 3]):=yi rfl
theorem ZCE:tt 23=some (.slice 66 2 40 [.c (.str ⟨#[]⟩),.nil 9 1]):=yi rfl
theorem ZCi:tt 26=some (.slice 71 2 40 [.c (.str ⟨#[]⟩),.nil 9 1]):=yi rfl
theorem ZCb:tt 28=some (.slice 104 4 72 [.c (.str ⟨#[]⟩),.c (.int .i64 0),.nil 60 5,.nil 166 3]):=yi rfl
theorem ZCp:tt 36=some (.slice 113 5 80 [.c (.int .i64 0),.c (.str ⟨#[]⟩),.nil 9 1,.c (.str ⟨#[]⟩),.c (.str ⟨#[]⟩)]):=yi rfl
theorem ZCl:tt 38=some (.slice 61 1 24 [.nil 135 2]):=yi rfl
theorem ZCT:tt 41=some (.slice 60 5 80 [.c (.int .i64 0),.c (.str ⟨#[]⟩),.nil 9 1,.c (.str ⟨#[]⟩),.c (.str ⟨#[]⟩)]):=yi rfl
theorem ZCq:tt 48=some (.slice 5 1 1 [.c (.int .u8 0)]):=yi rfl
theorem ZCU:tt 56=some (.slice 9 1 16 [.c (.str ⟨#[]⟩)]):=yi rfl
theorem ZCL:tt 58=some (.strct [⟨0,1,false⟩,⟨1,1,false⟩] 2 [.c (.str ⟨#[]⟩),.nil 9 1]):=yi rfl
theorem ZCh:tt 60=some (.strct [⟨0,1,false⟩,⟨1,2,true⟩,⟨3,1,false⟩,⟨4,1,false⟩] 5 [.c (.int .i64 0),.c (.str ⟨#[]⟩),.nil 9 1,.c (.str ⟨#[]⟩),.c (.str ⟨#[]⟩)]):=yi rfl
theorem ZCB:tt 61=some (.slice 135 2 32 [.c (.str ⟨#[]⟩),.c (.str ⟨#[]⟩)]):=yi rfl
theorem ZCN:tt 66=some (.strct [⟨0,1,false⟩,⟨1,1,false⟩] 2 [.c (.str ⟨#[]⟩),.nil 9 1]):=yi rfl
theorem ZCo:tt 68=some (.slice 86 4 80 [.c (.str ⟨#[]⟩),.nil 9 1,.c (.str ⟨#[]⟩),.nil 3 1]):=yi rfl
theorem ZCz:tt 71=some (.strct [⟨0,1,false⟩,⟨1,1,false⟩] 2 [.c (.str ⟨#[]⟩),.nil 9 1]):=yi rfl
theorem ZCw:tt 84=some (.slice 3 1 8 [.c (.int .i64 0)]):=yi rfl
theorem ZCt:tt 86=some (.strct [⟨0,2,true⟩,⟨2,1,false⟩,⟨3,1,false⟩] 4 [.c (.str ⟨#[]⟩),.nil 9 1,.c (.str ⟨#[]⟩),.nil 3 1]):=yi rfl
theorem ZCv:tt 89=some (.slice 144 3 56 [.c (.int .i64 0),.nil 3 1,.nil 3 1]):=yi rfl
theorem ZCO:tt 91=some (.strct [⟨0,1,false⟩,⟨1,1,false⟩] 2 [.c (.int .i64 0),.nil 144 3]):=yi rfl
theorem ZCc:tt 94=some (.slice 4 1 1 [.c (.bool false)]):=yi rfl
theorem ZCR:tt 98=some (.slice 221 3 48 [.c (.int .i64 0),.c (.str ⟨#[]⟩),.nil 9 1]):=yi rfl
theorem ZBd:tt 100=some (.strct [⟨0,1,false⟩,⟨1,1,false⟩,⟨2,1,false⟩,⟨3,1,false⟩] 4 [.c (.str ⟨#[]⟩),.c (.int .i64 0),.nil 113 5,.nil 221 3]):=yi rfl
theorem ZAw:tt 102=some (.slice 166 3 48 [.c (.int .i64 0),.c (.str ⟨#[]⟩),.nil 9 1]):=yi rfl
theorem ZAW:tt 104=some (.strct [⟨0,1,false⟩,⟨1,1,false⟩,⟨2,1,false⟩,⟨3,1,false⟩] 4 [.c (.str ⟨#[]⟩),.c (.int .i64 0),.nil 60 5,.nil 166 3]):=yi rfl
theorem ZAq:tt 111=some (.strct [⟨0,1,false⟩,⟨1,1,false⟩] 2 [.c (.str ⟨#[]⟩),.nil 9 1]):=yi rfl
theorem ZA8:tt 113=some (.strct [⟨0,1,false⟩,⟨1,2,true⟩,⟨3,1,false⟩,⟨4,1,false⟩] 5 [.c (.int .i64 0),.c (.str ⟨#[]⟩),.nil 9 1,.c (.str ⟨#[]⟩),.c (.str ⟨#[]⟩)]):=yi rfl
theorem ZAt:tt 114=some (.slice 118 2 48 [.nil 71 2,.nil 135 2]):=yi rfl
theorem ZBJ:tt 118=some (.strct [⟨0,1,false⟩,⟨1,1,false⟩] 2 [.nil 71 2,.nil 135 2]):=yi rfl
theorem ZA0:tt 135=some (.strct [⟨0,1,false⟩,⟨1,1,false⟩] 2 [.c (.str ⟨#[]⟩),.c (.str ⟨#[]⟩)]):=yi rfl
theorem ZBp:tt 138=some (.slice 146 3 64 [.c (.str ⟨#[]⟩),.nil 71 2,.nil 135 2]):=yi rfl
theorem ZAK:tt 144=some (.strct [⟨0,1,false⟩,⟨1,1,false⟩,⟨2,1,false⟩] 3 [.c (.int .i64 0),.nil 3 1,.nil 3 1]):=yi rfl
theorem ZB1:tt 146=some (.strct [⟨0,1,false⟩,⟨1,2,true⟩] 3 [.c (.str ⟨#[]⟩),.nil 71 2,.nil 135 2]):=yi rfl
theorem ZA1:tt 149=some (.slice 153 2 40 [.c (.str ⟨#[]⟩),.nil 71 2]):=yi rfl
theorem ZAD:tt 153=some (.strct [⟨0,1,false⟩,⟨1,1,false⟩] 2 [.c (.str ⟨#[]⟩),.nil 71 2]):=yi rfl
theorem ZAu:tt 166=some (.strct [⟨0,1,false⟩,⟨1,2,true⟩] 3 [.c (.int .i64 0),.c (.str ⟨#[]⟩),.nil 9 1]):=yi rfl
theorem ZBl:tt 170=some (.slice 94 1 24 [.nil 4 1]):=yi rfl
theorem ZB2:tt 184=some (.strct [⟨0,1,false⟩,⟨1,1,false⟩,⟨2,1,false⟩] 3 [.nil 5 1,.c (.int .i64 0),.c (.int .i64 0)]):=yi rfl
theorem ZBt:tt 221=some (.strct [⟨0,1,false⟩,⟨1,2,true⟩] 3 [.c (.int .i64 0),.c (.str ⟨#[]⟩),.nil 9 1]):=yi rfl
theorem ZAE:tt 250=some (.atom (.c (.int .u64 0))):=yi rfl
theorem ZAF:tt 260=some (.map .str .bool):=yi rfl
theorem ZBc:tt 263=some (.ifc):=yi rfl
theorem ZAY:tt 264=some (.ifc):=yi rfl
theorem ZBj:tt 288=some (.atom (.c (.int .u32 0))):=yi rfl
theorem ZBS:tt 290=some (.atom (.c (.int .u64 0))):=yi rfl
theorem ZBm:tt 327=some (.strct [⟨0,1,false⟩] 1 [.c (.str ⟨#[]⟩)]):=yi rfl
theorem Zwf:tt 4135=some (.eqs [.str,.str]):=yi rfl
theorem fnk {f : FuncId} {fn : Func} {c : Code} {args : List (Bool × List CT)} {res : List RT} (hf : prog.funcs[f]? = some fn) (hb : fn.body = some c) (h : fnS (fun _ => none) tt (SC prog J0 JF0 hds) fn.results.toList c args res) (hname : (fn.name == "runtime.NumGoroutine") = false := by kernel_rfl) (hok : Y4 (fun _ => none) tt hds false fn.ntmps c = true := by kernel_rfl) (hlen : Nat.ble args.length fn.ntmps = true := by kernel_rfl) : Zl prog J0 f args res := Zt7 htt hJ0 hmix hf hname hb hok hlen h
theorem fnh {f : FuncId} {fn : Func} {c : Code} {h h' : Zf7} {args : List (Bool × List CT)} {res : List RT} (hf : prog.funcs[f]? = some fn) (hb : fn.body = some c) (hh : fnH (fun _ => none) tt (SC prog J0 JF0 hds) fn.results.toList c h args res h') (hname : (fn.name == "runtime.NumGoroutine") = false := by kernel_rfl) (hok : Y4 (fun _ => none) tt hds true fn.ntmps c = true := by kernel_rfl) (hlen : Nat.blt args.length fn.ntmps = true := by kernel_rfl) : ZaU prog J0 JF0 f h args res h' := ZrJ htt hJ0 hmix hf hname hb hok hlen hh
theorem fnb {f : FuncId} {fn : Func} {c : Code} {args : List (Bool × List CT)} {nb : NB} (hf : prog.funcs[f]? = some fn) (hb : fn.body = some c) (h : fnB (fun _ => none) tt (SC prog J0 JF0 hds) fn.results.toList c args nb) (hname : (fn.name == "runtime.NumGoroutine") = false := by kernel_rfl) (hok : Y4 (fun _ => none) tt hds false fn.ntmps c = true := by kernel_rfl) (hlen : Nat.ble args.length fn.ntmps = true := by kernel_rfl) : Zj3 prog J0 f args nb := ZsF htt hJ0 hmix hf hname hb hok hlen h
theorem fnn (t0 : Nat) {f : FuncId} {fn : Func} {c : Code} {args : List (Bool × List CT)} {res : List RT} (hf : prog.funcs[f]? = some fn) (hb : fn.body = some c) (h : fnN (fun _ => none) tt (SC prog J0 JF0 hds) fn.results.toList t0 c args res) (hname : (fn.name == "runtime.NumGoroutine") = false := by kernel_rfl) (hok : Y4 (fun _ => none) tt hds false fn.ntmps c = true := by kernel_rfl) (hlen : Nat.ble args.length fn.ntmps = true := by kernel_rfl) : Zl prog J0 f args res := ZrX htt hJ0 hmix hf hname hb hok hlen t0 h
def ZlO (f:FuncId):Nat:=Ztw ([(96,2),(101,2)]++hdL) f
theorem Zxw:(SC prog J0 JF0 ZlO).hd 62=0:=yi (by kernel_rfl)
theorem Zzd:(SC prog J0 JF0 ZlO).hd 64=0:=yi (by kernel_rfl)
theorem ZzJ:(SC prog J0 JF0 ZlO).hd 96=2:=yi (by kernel_rfl)
theorem Zzm:(SC prog J0 JF0 ZlO).hd 97=0:=yi (by kernel_rfl)
theorem ZAf:(SC prog J0 JF0 ZlO).hd 98=0:=yi (by kernel_rfl)
theorem Zv7:(SC prog J0 JF0 ZlO).hd 99=0:=yi (by kernel_rfl)
theorem Zvm:(SC prog J0 JF0 ZlO).hd 101=2:=yi (by kernel_rfl)
theorem ZuX:(SC prog J0 JF0 ZlO).hd 102=0:=yi (by kernel_rfl)
theorem Zvi:(SC prog J0 JF0 ZlO).hd 103=0:=yi (by kernel_rfl)
theorem ZuF:(SC prog J0 JF0 ZlO).hd 104=0:=yi (by kernel_rfl)
theorem ZIH {f : FuncId} {fn : Func} {c : Code} {args : List (Bool × List CT)} {res : List RT} (hf : prog.funcs[f]? = some fn) (hb : fn.body = some c) (h : fnS (fun _ => none) tt (SC prog J0 JF0 ZlO) fn.results.toList c args res) (hname : (fn.name == "runtime.NumGoroutine") = false := by kernel_rfl) (hok : Y4 (fun _ => none) tt ZlO false fn.ntmps c = true := by kernel_rfl) (hlen : Nat.ble args.length fn.ntmps = true := by kernel_rfl) : Zl prog J0 f args res := Zt7 htt hJ0 hmix hf hname hb hok hlen h
def Qz (x:Zv):List CT:=[.str x.rel,.sl 9 1 (A0 Zw x.args)]
theorem Zol (x:Zv):Qz x=[.str x.rel,.sl 9 1 (A0 Zw x.args)]:=yi rfl
def ZK (x:Zr):List CT:=[.int .i64 x.kind,.str x.pattern.rel,.sl 9 1 (A0 Zw x.pattern.args),.str x.left,.str x.right]
theorem ZtH (x:Zr):ZK x=[.int .i64 x.kind,.str x.pattern.rel,.sl 9 1 (A0 Zw x.pattern.args),.str x.left,.str x.right]:=yi rfl
def Zq (x:Zd):List CT:=[.str x.rel,.sl 9 1 (A0 Zw x.args)]
theorem ZsO (x:Zd):Zq x=[.str x.rel,.sl 9 1 (A0 Zw x.args)]:=yi rfl
def ZAO (x:ZvY):List CT:=[.str x.fact.rel,.sl 9 1 (A0 Zw x.fact.args),.str x.rule,.sl 3 1 (A0 Z5 x.uses)]
theorem ZsW (x:ZvY):ZAO x=[.str x.fact.rel,.sl 9 1 (A0 Zw x.fact.args),.str x.rule,.sl 3 1 (A0 Z5 x.uses)]:=yi rfl
def ZL (x:Zg):List CT:=[.int .i64 x.for_,.sl 3 1 (A0 Z5 x.inn),.sl 3 1 (A0 Z5 x.outs)]
theorem ZqR (x:Zg):ZL x=[.int .i64 x.for_,.sl 3 1 (A0 Z5 x.inn),.sl 3 1 (A0 Z5 x.outs)]:=yi rfl
def Qw (x:Zu):List CT:=[.int .i64 x.nodes,.sl 144 3 (A0 ZL x.reasons)]
theorem Zog (x:Zu):Qw x=[.int .i64 x.nodes,.sl 144 3 (A0 ZL x.reasons)]:=yi rfl
def ZD (x:Zx):List CT:=[.int .i64 x.kind,.str x.pattern.rel,.sl 9 1 (A0 Zw x.pattern.args)]
theorem ZqO (x:Zx):ZD x=[.int .i64 x.kind,.str x.pattern.rel,.sl 9 1 (A0 Zw x.pattern.args)]:=yi rfl
def ZG (x:Zf):List CT:=[.str x.name,.int .i64 x.priority,.sl 60 5 (A0 ZK x.cond),.sl 166 3 (A0 ZD x.thn)]
theorem Zt0 (x:Zf):ZG x=[.str x.name,.int .i64 x.priority,.sl 60 5 (A0 ZK x.cond),.sl 166 3 (A0 ZD x.thn)]:=yi rfl
def ZZ (x:Zp):List CT:=[.str x.var,.str x.value]
theorem Ztc (x:Zp):ZZ x=[.str x.var,.str x.value]:=yi rfl
theorem Zqv (l:List Zp):Zal (l.map ZZ)=true:=Zbi (fun _=>rfl) l
def YE (x:Zt):List CT:=[.sl 71 2 (A0 Zq x.facts),.sl 135 2 (A0 ZZ x.binding)]
theorem ZrM (x:Zt):YE x=[.sl 71 2 (A0 Zq x.facts),.sl 135 2 (A0 ZZ x.binding)]:=yi rfl
def Zd3 (x:Xd):List CT:=[.str x.rule,.sl 71 2 (A0 Zq x.token.facts),.sl 135 2 (A0 ZZ x.token.binding)]
theorem ZnF (x:Xd):Zd3 x=[.str x.rule,.sl 71 2 (A0 Zq x.token.facts),.sl 135 2 (A0 ZZ x.token.binding)]:=yi rfl
def Zgg (x:Zac):List CT:=[.str x.rule,.sl 71 2 (A0 Zq x.facts)]
theorem Zqq (x:Zac):Zgg x=[.str x.rule,.sl 71 2 (A0 Zq x.facts)]:=yi rfl
def Za7 (x:ZF):List CT:=[.sl 5 1 (A0 Zek x.b),.int .i64 x.i,.int .i64 x.h]
theorem ZrB (x:ZF):Za7 x=[.sl 5 1 (A0 Zek x.b),.int .i64 x.i,.int .i64 x.h]:=yi rfl
def Zpr (x:(List Zp)):List CT:=[.sl 135 2 (A0 ZZ x)]
theorem Zkg (x:(List Zp)):Zpr x=[.sl 135 2 (A0 ZZ x)]:=yi rfl
def Zge (x:(List Bool)):List CT:=[.sl 4 1 (A0 ZgO x)]
theorem ZnV (x:(List Bool)):Zge x=[.sl 4 1 (A0 ZgO x)]:=yi rfl
attribute [go_sem] tt2 tt3 tt4 tt5 tt9 ZCJ ZCI ZCm ZCS ZCf ZCE ZCi ZCb ZCp ZCl ZCT ZCq ZCU ZCL ZCh ZCB ZCN ZCo ZCz ZCw ZCt ZCv ZCO ZCc ZCR ZBd ZAw ZAW ZAq ZA8 ZAt ZBJ ZA0 ZBp ZAK
attribute [go_sem] ZB1 ZA1 ZAD ZAu ZBl ZB2 ZBt ZAE ZAF ZBc ZAY ZBj ZBS ZBm Zwf ZCu ZCC ZCx ZCe ZBa ZAB ZBi ZBy ZBY ZBM ZBg ZBw ZAZ ZA9 ZA4 ZAs ZAX ZA3 ZBV ZAN ZBF ZBe ZAH ZAr ZB0
attribute [go_sem] ZB4 ZAp ZAA ZBO ZA2 ZBE ZAJ ZAI ZAU ZAv ZB5 ZAy ZBT ZBB ZAP ZB7 ZB6 ZBZ ZBx ZBb ZBQ ZBW ZBA ZBH ZBk ZBK ZAV ZBo ZBr ZBf ZBU ZBC Zzx Zwz ZyF Zwe ZyA Zxn Zxd ZxC
attribute [go_sem] ZwW Zwi ZyH ZxV Zzk ZxW ZwZ ZyB ZwJ Zv9 Zxv Zyp Zyc Zwt Zv2 Zwp Zx4 Zzf ZxF Zwk Zzv Zzh ZxG Zza Zy4 ZAn ZyL Zx8 Zv6 Zy7 Zym Zw1 ZwP Zxq Zyu Zxm ZyW Zz8 Zxi ZzY
attribute [go_sem] ZzX Zyz ZAd Zz0 ZzT ZxA Zwm ZwU ZyK Zwo Zw5 ZwR ZxR ZAh Zzr Zyj ZxY Zwr ZzQ ZxD ZwE Zzg Zz1 Zz5 Zy9 ZzL ZxE Zyi Zzp Zys ZzS Zw9 Zyn Zv5 Zyk ZwY ZzC ZzW Zx0 Zx3
attribute [go_sem] ZAa Zxu Zxe ZxZ Zxr Zy3 ZyU ZwK Zyx Zz6 Zyr ZxK Zyd ZzF Zwl ZxQ Zzi ZzE ZxM Zz4 Zz7 ZxL ZxH ZwV Zyf ZAm ZAl Zwj Zze ZxB Zxf Zw4 ZzK Zy6 ZAj ZxS Zv8 ZyS Zxy Zzw
attribute [go_sem] Zy1 ZAk Zxs ZwS Zzn Zxl ZxT ZzR Zxb ZwN Zxz Zx6 Zwd ZwO ZwC Zxo ZyZ Zv4 ZzD Zwx ZwA Zxt ZzH Zzb Zxa Zzu ZzZ Zzs Zwv Zz9 ZyN Zzj ZwH Zxx Zye Zwn Zxp Zwu Zxh ZwB
attribute [go_sem] ZyV ZxP Zv3 Zwh Zzc Zwc ZwI Zy8 ZwG Zxw Zzd ZzJ Zzm ZAf Zv7 Zvm ZuX Zvi ZuF Zol ZtH ZsO ZsW ZqR Zog ZqO Zt0 Zqv Ztc ZrM ZnF Zqq ZrB Zkg ZnV
end
end Go.Proofs.YtekbmedphidcgaaGreatDoor
namespace Go.Proofs
open Go.Shelf
def lays106_ren:Go.Shelf.Ren:=⟨fun | 106=>250 | 213=>281 | 265=>296 | n=>n,fun | 9=>9 | 3=>3 | n=>n,fun | n=>n⟩
theorem lays106:Go.Proofs.Lays.n106 prog lays106_ren:={
 mixed:=by kernel_rfl
 f106:=func250.trans (congrArg some (by kernel_rfl))
 f213:=func281.trans (congrArg some (by kernel_rfl))
 f265:=func296.trans (congrArg some (by kernel_rfl))
 t3:=underlying3
 a3:=isAgg3
 z3:=sizeOf3
 v3:=zeroValue3
 t9:=underlying9
 a9:=isAgg9
 z9:=sizeOf9
 v9:=zeroValue9 }
open Go.RowKit in
theorem strings_Compare (a b:ByteArray) (w:World):
  Calls prog 250 #[.string a,.string b] w fun e w'=>e=.returned (.int .i64 (Lib.compareBytes a.data.toList b.data.toList))∧w'=w:=Any.strings_Compare lays106 a b w
def lays172_ren:Go.Shelf.Ren:=⟨fun | 172=>284 | 244=>298 | 245=>299 | 247=>324 | 279=>325 | 280=>326 | 281=>327 | 282=>328 | 287=>340 | 316=>341 | 171=>300 | 205=>342 | 321=>346 | 322=>347 | 243=>329 | 246=>343 | 283=>348 | 284=>349 | 285=>350 | 286=>351 | 129=>314 | 317=>352 | 318=>353 | 319=>354 | 320=>355 | 337=>356 | 338=>357 | n=>n,fun | 9=>9 | 3=>3 | 75=>264 | 76=>265 | 4=>4 | 5=>5 | 167=>297 | 37=>48 | 0=>0 | 85=>298 | 2=>2 | 168=>300 | 53=>290 | 175=>312 | 46=>250 | 210=>316 | 127=>324 | 145=>327 | 143=>325 | 21=>21 | 171=>328 | 173=>330 | 212=>334 | 51=>288 | 20=>20 | 213=>335 | 232=>336 | 233=>337 | 80=>338 | n=>n,fun | 15=>1 | 16=>2 | 17=>3 | 18=>4 | 19=>5 | n=>n⟩
theorem lays172:Go.Proofs.Lays.n172 prog lays172_ren:={
 mixed:=by kernel_rfl
 f129:=func314.trans (congrArg some (by kernel_rfl))
 f171:=func300.trans (congrArg some (by kernel_rfl))
 f172:=func284.trans (congrArg some (by kernel_rfl))
 f205:=func342.trans (congrArg some (by kernel_rfl))
 f243:=func329.trans (congrArg some (by kernel_rfl))
 f244:=func298.trans (congrArg some (by kernel_rfl))
 f245:=func299.trans (congrArg some (by kernel_rfl))
 f246:=func343.trans (congrArg some (by kernel_rfl))
 f247:=func324.trans (congrArg some (by kernel_rfl))
 f279:=func325.trans (congrArg some (by kernel_rfl))
 f280:=func326.trans (congrArg some (by kernel_rfl))
 f281:=func327.trans (congrArg some (by kernel_rfl))
 f282:=func328.trans (congrArg some (by kernel_rfl))
 f283:=func348.trans (congrArg some (by kernel_rfl))
 f284:=func349.trans (congrArg some (by kernel_rfl))
 f285:=func350.trans (congrArg some (by kernel_rfl))
 f286:=func351.trans (congrArg some (by kernel_rfl))
 f287:=func340.trans (congrArg some (by kernel_rfl))
 f316:=func341.trans (congrArg some (by kernel_rfl))
 f317:=func352.trans (congrArg some (by kernel_rfl))
 f318:=func353.trans (congrArg some (by kernel_rfl))
 f319:=func354.trans (congrArg some (by kernel_rfl))
 f320:=func355.trans (congrArg some (by kernel_rfl))
 f321:=func346.trans (congrArg some (by kernel_rfl))
 f322:=func347.trans (congrArg some (by kernel_rfl))
 f337:=func356.trans (congrArg some (by kernel_rfl))
 f338:=func357.trans (congrArg some (by kernel_rfl))
 t0:=underlying0
 a0:=isAgg0
 z0:=sizeOf0
 v0:=zeroValue0
 t2:=underlying2
 a2:=isAgg2
 z2:=sizeOf2
 v2:=zeroValue2
 t3:=underlying3
 a3:=isAgg3
 z3:=sizeOf3
 v3:=zeroValue3
 t4:=underlying4
 a4:=isAgg4
 z4:=sizeOf4
 v4:=zeroValue4
 t5:=underlying5
 a5:=isAgg5
 z5:=sizeOf5
 v5:=zeroValue5
 t9:=underlying9
 a9:=isAgg9
 z9:=sizeOf9
 v9:=zeroValue9
 t20:=underlying20
 a20:=isAgg20
 z20:=sizeOf20
 v20:=zeroValue20
 t21:=underlying21
 a21:=isAgg21
 z21:=sizeOf21
 v21:=zeroValue21
 t37:=underlying48
 a37:=isAgg48
 z37:=sizeOf48
 v37:=zeroValue48
 t46:=underlying250
 a46:=isAgg250
 z46:=sizeOf250
 v46:=zeroValue250
 t51:=underlying288
 a51:=isAgg288
 z51:=sizeOf288
 v51:=zeroValue288
 t53:=underlying290
 a53:=isAgg290
 z53:=sizeOf290
 v53:=zeroValue290
 t75:=underlying264
 a75:=isAgg264
 z75:=sizeOf264
 v75:=zeroValue264
 t76:=underlying265
 a76:=isAgg265
 z76:=sizeOf265
 v76:=zeroValue265
 t85:=underlying298
 a85:=isAgg298
 z85:=sizeOf298
 v85:=zeroValue298
 t127:=underlying324
 a127:=isAgg324
 z127:=sizeOf324
 v127:=zeroValue324
 t143:=underlying325
 a143:=isAgg325
 z143:=sizeOf325
 v143:=zeroValue325
 t145:=underlying327
 a145:=isAgg327
 z145:=sizeOf327
 v145:=zeroValue327
 t167:=underlying297
 a167:=isAgg297
 z167:=sizeOf297
 v167:=zeroValue297
 t168:=underlying300
 a168:=isAgg300
 z168:=sizeOf300
 v168:=zeroValue300
 t171:=underlying328
 a171:=isAgg328
 z171:=sizeOf328
 v171:=zeroValue328
 t173:=underlying330
 a173:=isAgg330
 z173:=sizeOf330
 v173:=zeroValue330
 t175:=underlying312
 a175:=isAgg312
 z175:=sizeOf312
 v175:=zeroValue312
 t210:=underlying316
 a210:=isAgg316
 z210:=sizeOf316
 v210:=zeroValue316
 t212:=underlying334
 a212:=isAgg334
 z212:=sizeOf334
 v212:=zeroValue334
 t213:=underlying335
 a213:=isAgg335
 z213:=sizeOf335
 t232:=underlying336
 a232:=isAgg336
 z232:=sizeOf336
 v232:=zeroValue336
 t233:=underlying337
 a233:=isAgg337
 z233:=sizeOf337
 v233:=zeroValue337
 g15:=by kernel_rfl
 g16:=by kernel_rfl
 g17:=by kernel_rfl
 g18:=by kernel_rfl
 g19:=by kernel_rfl }
open Go.RowKit in
theorem strconv_Atoi (s:ByteArray) (n:Int) (hl:s.size≤18) (h:Lib.atoi s.data.toList=some n) (w:World):
  Calls prog 284 #[.string s] w fun e w'=>e=.returned (.tuple #[.int .i64 n,.nilIface])∧∃t,w'=Lib.bytesWorld w 5 t:=Any.strconv_Atoi lays172 s n hl h w
def laysM171_ren:Go.Shelf.Ren:=⟨fun | 171=>300 | 243=>329 | 246=>343 | 283=>348 | 284=>349 | 285=>350 | 286=>351 | 129=>314 | 317=>352 | 318=>353 | 319=>354 | 320=>355 | 337=>356 | 338=>357 | n=>n,fun | 3=>3 | 9=>9 | 2=>2 | 4=>4 | 171=>328 | 0=>0 | 53=>290 | 37=>48 | 5=>5 | 173=>330 | 212=>334 | 51=>288 | 20=>20 | 213=>335 | 46=>250 | 232=>336 | 233=>337 | n=>n,fun | 17=>3 | 18=>4 | 19=>5 | n=>n⟩
theorem laysM171:Go.Proofs.LaysM.n171 prog laysM171_ren:={
 mixed:=by kernel_rfl
 f129:=func314.trans (congrArg some (by kernel_rfl))
 f171:=func300.trans (congrArg some (by kernel_rfl))
 f243:=func329.trans (congrArg some (by kernel_rfl))
 f246:=func343.trans (congrArg some (by kernel_rfl))
 f283:=func348.trans (congrArg some (by kernel_rfl))
 f284:=func349.trans (congrArg some (by kernel_rfl))
 f285:=func350.trans (congrArg some (by kernel_rfl))
 f286:=func351.trans (congrArg some (by kernel_rfl))
 f317:=func352.trans (congrArg some (by kernel_rfl))
 f318:=func353.trans (congrArg some (by kernel_rfl))
 f319:=func354.trans (congrArg some (by kernel_rfl))
 f320:=func355.trans (congrArg some (by kernel_rfl))
 f337:=func356.trans (congrArg some (by kernel_rfl))
 f338:=func357.trans (congrArg some (by kernel_rfl))
 t0:=underlying0
 a0:=isAgg0
 z0:=sizeOf0
 v0:=zeroValue0
 t2:=underlying2
 a2:=isAgg2
 z2:=sizeOf2
 v2:=zeroValue2
 t3:=underlying3
 a3:=isAgg3
 z3:=sizeOf3
 v3:=zeroValue3
 t4:=underlying4
 a4:=isAgg4
 z4:=sizeOf4
 v4:=zeroValue4
 t5:=underlying5
 a5:=isAgg5
 z5:=sizeOf5
 v5:=zeroValue5
 t9:=underlying9
 a9:=isAgg9
 z9:=sizeOf9
 v9:=zeroValue9
 t20:=underlying20
 a20:=isAgg20
 z20:=sizeOf20
 v20:=zeroValue20
 t37:=underlying48
 a37:=isAgg48
 z37:=sizeOf48
 v37:=zeroValue48
 t46:=underlying250
 a46:=isAgg250
 z46:=sizeOf250
 v46:=zeroValue250
 t51:=underlying288
 a51:=isAgg288
 z51:=sizeOf288
 v51:=zeroValue288
 t53:=underlying290
 a53:=isAgg290
 z53:=sizeOf290
 v53:=zeroValue290
 t171:=underlying328
 a171:=isAgg328
 z171:=sizeOf328
 v171:=zeroValue328
 t173:=underlying330
 a173:=isAgg330
 z173:=sizeOf330
 v173:=zeroValue330
 t212:=underlying334
 a212:=isAgg334
 z212:=sizeOf334
 v212:=zeroValue334
 t213:=underlying335
 a213:=isAgg335
 z213:=sizeOf335
 t232:=underlying336
 a232:=isAgg336
 z232:=sizeOf336
 v232:=zeroValue336
 t233:=underlying337
 a233:=isAgg337
 z233:=sizeOf337
 v233:=zeroValue337
 g17:=by kernel_rfl
 g18:=by kernel_rfl
 g19:=by kernel_rfl
 i0:=by kernel_rfl
 i2:=by kernel_rfl
 i3:=by kernel_rfl
 i4:=by kernel_rfl
 i5:=by kernel_rfl
 i9:=by kernel_rfl
 i20:=by kernel_rfl
 i37:=by kernel_rfl
 i46:=by kernel_rfl
 i51:=by kernel_rfl
 i53:=by kernel_rfl
 i171:=by kernel_rfl
 i173:=by kernel_rfl
 i212:=by kernel_rfl
 i232:=by kernel_rfl
 i233:=by kernel_rfl
 m17:=by kernel_rfl
 m18:=by kernel_rfl
 m19:=by kernel_rfl }
open Go.RowKit Go.Sort Go.Lib in
theorem strconv_Itoa (n : Int) (h0 : -9223372036854775808 ≤ n) (h1 : n ≤ 9223372036854775807) (w : World) (htab : Lib.TabIs prog w "internal/strconv.uint64pow10" .u64 Lib.pow10Tab) :
  Calls prog 300 #[.int .i64 n] w fun e w'=>e=.returned (.string ⟨(Lib.itoa n).toArray⟩)∧∃k os,w'=grow (w.drewN k) os:=Any.strconv_Itoa laysM171 n h0 h1 w htab
def laysC172_ren:Go.Shelf.Ren:=⟨fun | 172=>284 | 244=>298 | 245=>299 | 247=>324 | 279=>325 | 280=>326 | 281=>327 | 282=>328 | 287=>340 | 316=>341 | 171=>300 | 205=>342 | 321=>346 | 322=>347 | 243=>329 | 246=>343 | 283=>348 | 284=>349 | 285=>350 | 286=>351 | 129=>314 | 317=>352 | 318=>353 | 319=>354 | 320=>355 | 337=>356 | 338=>357 | n=>n,fun | 9=>9 | 3=>3 | 75=>264 | 76=>265 | 4=>4 | 5=>5 | 167=>297 | 37=>48 | 0=>0 | 85=>298 | 2=>2 | 168=>300 | 53=>290 | 175=>312 | 46=>250 | 210=>316 | 127=>324 | 145=>327 | 143=>325 | 21=>21 | 171=>328 | 173=>330 | 212=>334 | 51=>288 | 20=>20 | 213=>335 | 232=>336 | 233=>337 | 80=>338 | n=>n,fun | 15=>1 | 16=>2 | 17=>3 | 18=>4 | 19=>5 | n=>n⟩
theorem laysC172:Go.Proofs.LaysC.n172 prog laysC172_ren:={
 mixed:=by kernel_rfl
 f129:=func314.trans (congrArg some (by kernel_rfl))
 f171:=func300.trans (congrArg some (by kernel_rfl))
 f172:=func284.trans (congrArg some (by kernel_rfl))
 f205:=func342.trans (congrArg some (by kernel_rfl))
 f243:=func329.trans (congrArg some (by kernel_rfl))
 f244:=func298.trans (congrArg some (by kernel_rfl))
 f245:=func299.trans (congrArg some (by kernel_rfl))
 f246:=func343.trans (congrArg some (by kernel_rfl))
 f247:=func324.trans (congrArg some (by kernel_rfl))
 f279:=func325.trans (congrArg some (by kernel_rfl))
 f280:=func326.trans (congrArg some (by kernel_rfl))
 f281:=func327.trans (congrArg some (by kernel_rfl))
 f282:=func328.trans (congrArg some (by kernel_rfl))
 f283:=func348.trans (congrArg some (by kernel_rfl))
 f284:=func349.trans (congrArg some (by kernel_rfl))
 f285:=func350.trans (congrArg some (by kernel_rfl))
 f286:=func351.trans (congrArg some (by kernel_rfl))
 f287:=func340.trans (congrArg some (by kernel_rfl))
 f316:=func341.trans (congrArg some (by kernel_rfl))
 f317:=func352.trans (congrArg some (by kernel_rfl))
 f318:=func353.trans (congrArg some (by kernel_rfl))
 f319:=func354.trans (congrArg some (by kernel_rfl))
 f320:=func355.trans (congrArg some (by kernel_rfl))
 f321:=func346.trans (congrArg some (by kernel_rfl))
 f322:=func347.trans (congrArg some (by kernel_rfl))
 f337:=func356.trans (congrArg some (by kernel_rfl))
 f338:=func357.trans (congrArg some (by kernel_rfl))
 t0:=underlying0
 a0:=isAgg0
 z0:=sizeOf0
 v0:=zeroValue0
 t2:=underlying2
 a2:=isAgg2
 z2:=sizeOf2
 v2:=zeroValue2
 t3:=underlying3
 a3:=isAgg3
 z3:=sizeOf3
 v3:=zeroValue3
 t4:=underlying4
 a4:=isAgg4
 z4:=sizeOf4
 v4:=zeroValue4
 t5:=underlying5
 a5:=isAgg5
 z5:=sizeOf5
 v5:=zeroValue5
 t9:=underlying9
 a9:=isAgg9
 z9:=sizeOf9
 v9:=zeroValue9
 t20:=underlying20
 a20:=isAgg20
 z20:=sizeOf20
 v20:=zeroValue20
 t21:=underlying21
 a21:=isAgg21
 z21:=sizeOf21
 v21:=zeroValue21
 t37:=underlying48
 a37:=isAgg48
 z37:=sizeOf48
 v37:=zeroValue48
 t46:=underlying250
 a46:=isAgg250
 z46:=sizeOf250
 v46:=zeroValue250
 t51:=underlying288
 a51:=isAgg288
 z51:=sizeOf288
 v51:=zeroValue288
 t53:=underlying290
 a53:=isAgg290
 z53:=sizeOf290
 v53:=zeroValue290
 t75:=underlying264
 a75:=isAgg264
 z75:=sizeOf264
 v75:=zeroValue264
 t76:=underlying265
 a76:=isAgg265
 z76:=sizeOf265
 v76:=zeroValue265
 t85:=underlying298
 a85:=isAgg298
 z85:=sizeOf298
 v85:=zeroValue298
 t127:=underlying324
 a127:=isAgg324
 z127:=sizeOf324
 v127:=zeroValue324
 t143:=underlying325
 a143:=isAgg325
 z143:=sizeOf325
 v143:=zeroValue325
 t145:=underlying327
 a145:=isAgg327
 z145:=sizeOf327
 v145:=zeroValue327
 t167:=underlying297
 a167:=isAgg297
 z167:=sizeOf297
 v167:=zeroValue297
 t168:=underlying300
 a168:=isAgg300
 z168:=sizeOf300
 v168:=zeroValue300
 t171:=underlying328
 a171:=isAgg328
 z171:=sizeOf328
 v171:=zeroValue328
 t173:=underlying330
 a173:=isAgg330
 z173:=sizeOf330
 v173:=zeroValue330
 t175:=underlying312
 a175:=isAgg312
 z175:=sizeOf312
 v175:=zeroValue312
 t210:=underlying316
 a210:=isAgg316
 z210:=sizeOf316
 v210:=zeroValue316
 t212:=underlying334
 a212:=isAgg334
 z212:=sizeOf334
 v212:=zeroValue334
 t213:=underlying335
 a213:=isAgg335
 z213:=sizeOf335
 t232:=underlying336
 a232:=isAgg336
 z232:=sizeOf336
 v232:=zeroValue336
 t233:=underlying337
 a233:=isAgg337
 z233:=sizeOf337
 v233:=zeroValue337
 g15:=by kernel_rfl
 g16:=by kernel_rfl
 g17:=by kernel_rfl
 g18:=by kernel_rfl
 g19:=by kernel_rfl
 t80:=underlying338
 a80:=isAgg338
 z80:=sizeOf338
 v80:=zeroValue338
 i0:=by kernel_rfl
 i2:=by kernel_rfl
 i3:=by kernel_rfl
 i4:=by kernel_rfl
 i5:=by kernel_rfl
 i9:=by kernel_rfl
 i20:=by kernel_rfl
 i21:=by kernel_rfl
 i37:=by kernel_rfl
 i46:=by kernel_rfl
 i51:=by kernel_rfl
 i53:=by kernel_rfl
 i75:=by kernel_rfl
 i76:=by kernel_rfl
 i80:=by kernel_rfl
 i85:=by kernel_rfl
 i127:=by kernel_rfl
 i143:=by kernel_rfl
 i145:=by kernel_rfl
 i167:=by kernel_rfl
 i168:=by kernel_rfl
 i171:=by kernel_rfl
 i173:=by kernel_rfl
 i175:=by kernel_rfl
 i210:=by kernel_rfl
 i212:=by kernel_rfl
 i232:=by kernel_rfl
 i233:=by kernel_rfl
 m15:=by kernel_rfl
 m16:=by kernel_rfl
 m17:=by kernel_rfl
 m18:=by kernel_rfl
 m19:=by kernel_rfl
 c0:=by kernel_rfl
 c2:=by kernel_rfl
 c3:=by kernel_rfl
 c4:=by kernel_rfl
 c5:=by kernel_rfl
 c9:=by kernel_rfl
 c20:=by kernel_rfl
 c21:=by kernel_rfl
 c37:=by kernel_rfl
 c46:=by kernel_rfl
 c51:=by kernel_rfl
 c53:=by kernel_rfl
 c75:=by kernel_rfl
 c76:=by kernel_rfl
 c80:=by kernel_rfl
 c85:=by kernel_rfl
 c127:=by kernel_rfl
 c143:=by kernel_rfl
 c145:=by kernel_rfl
 c167:=by kernel_rfl
 c168:=by kernel_rfl
 c171:=by kernel_rfl
 c173:=by kernel_rfl
 c175:=by kernel_rfl
 c210:=by kernel_rfl
 c212:=by kernel_rfl
 c213:=by kernel_rfl
 c232:=by kernel_rfl
 c233:=by kernel_rfl }
open Go.RowKit in
theorem strconv_Atoi_err_var (s : ByteArray) (hl : s.size ≤ 18) (h : Lib.atoi s.data.toList = none) (tp : TypeId) (p : Value) (w : World) (hvar : w.var? prog "strconv.ErrSyntax" = some #[.iface tp p]) :
  Calls prog 284 #[.string s] w fun e w'=>∃N,e=.returned (.tuple #[.int .i64 0,.iface 300 (.pointer (some ⟨N,0,none⟩))])∧w.heap.size≤N∧w'.heap[N]?=some (.cells #[.string ⟨#[65,116,111,105]⟩,.string s,.iface tp p] 316 (0,0))∧Below w.heap.size w w':=Any.strconv_Atoi_err_var laysC172 s hl h tp p w hvar
def lays191_ren:Go.Shelf.Ren:=⟨fun | 191=>238 | 189=>278 | 125=>294 | 257=>293 | 128=>313 | 129=>314 | 294=>304 | 295=>305 | 296=>306 | 297=>307 | 298=>308 | 299=>309 | 216=>310 | 300=>311 | 301=>312 | 328=>330 | 329=>331 | 330=>332 | 331=>333 | 332=>334 | 215=>335 | 343=>344 | n=>n,fun | 28=>84 | 0=>0 | 3=>3 | 46=>250 | 51=>288 | 53=>290 | 4=>4 | 183=>281 | 182=>280 | 131=>216 | 5=>5 | 9=>9 | 218=>303 | 222=>307 | 228=>319 | 229=>320 | n=>n,fun | n=>n⟩
theorem lays191:Go.Proofs.Lays.n191 prog lays191_ren:={
 mixed:=by kernel_rfl
 f125:=func294.trans (congrArg some (by kernel_rfl))
 f128:=func313.trans (congrArg some (by kernel_rfl))
 f129:=func314.trans (congrArg some (by kernel_rfl))
 f189:=func278.trans (congrArg some (by kernel_rfl))
 f191:=func238.trans (congrArg some (by kernel_rfl))
 f215:=func335.trans (congrArg some (by kernel_rfl))
 f216:=func310.trans (congrArg some (by kernel_rfl))
 f257:=func293.trans (congrArg some (by kernel_rfl))
 f294:=func304.trans (congrArg some (by kernel_rfl))
 f295:=func305.trans (congrArg some (by kernel_rfl))
 f296:=func306.trans (congrArg some (by kernel_rfl))
 f297:=func307.trans (congrArg some (by kernel_rfl))
 f298:=func308.trans (congrArg some (by kernel_rfl))
 f299:=func309.trans (congrArg some (by kernel_rfl))
 f300:=func311.trans (congrArg some (by kernel_rfl))
 f301:=func312.trans (congrArg some (by kernel_rfl))
 f328:=func330.trans (congrArg some (by kernel_rfl))
 f329:=func331.trans (congrArg some (by kernel_rfl))
 f330:=func332.trans (congrArg some (by kernel_rfl))
 f331:=func333.trans (congrArg some (by kernel_rfl))
 f332:=func334.trans (congrArg some (by kernel_rfl))
 f343:=func344.trans (congrArg some (by kernel_rfl))
 t0:=underlying0
 a0:=isAgg0
 z0:=sizeOf0
 v0:=zeroValue0
 t3:=underlying3
 a3:=isAgg3
 z3:=sizeOf3
 v3:=zeroValue3
 t4:=underlying4
 a4:=isAgg4
 z4:=sizeOf4
 v4:=zeroValue4
 t5:=underlying5
 a5:=isAgg5
 z5:=sizeOf5
 v5:=zeroValue5
 t9:=underlying9
 a9:=isAgg9
 z9:=sizeOf9
 v9:=zeroValue9
 t28:=underlying84
 a28:=isAgg84
 z28:=sizeOf84
 v28:=zeroValue84
 t46:=underlying250
 a46:=isAgg250
 z46:=sizeOf250
 v46:=zeroValue250
 t51:=underlying288
 a51:=isAgg288
 z51:=sizeOf288
 v51:=zeroValue288
 t53:=underlying290
 a53:=isAgg290
 z53:=sizeOf290
 v53:=zeroValue290
 t131:=underlying216
 a131:=isAgg216
 z131:=sizeOf216
 v131:=zeroValue216
 t182:=underlying280
 a182:=isAgg280
 z182:=sizeOf280
 v182:=zeroValue280
 t183:=underlying281
 a183:=isAgg281
 z183:=sizeOf281
 v183:=zeroValue281
 t218:=underlying303
 a218:=isAgg303
 z218:=sizeOf303
 v218:=zeroValue303
 t222:=underlying307
 a222:=isAgg307
 z222:=sizeOf307
 v222:=zeroValue307
 t228:=underlying319
 a228:=isAgg319
 z228:=sizeOf319
 v228:=zeroValue319
 t229:=underlying320
 a229:=isAgg320
 z229:=sizeOf320
 v229:=zeroValue320 }
open Go.Sort Go.RowKit in
theorem sort_Ints (a off cap:Nat) (zs:List Int) (w:World) (hH:Holds (Value.int .i64) w a off zs.toArray) (b:a<w.heap.size) (c:zs.length<4611686018427387904):
  Calls prog 238 #[.slice (some ⟨a,off,none⟩) zs.length cap] w fun e w'=>
   e=.returned (.tuple #[])∧∃n os,w'=grow (putRow (Value.int .i64) (Sort.ahead w n) a off (zs.mergeSort fun x y=>decide (x≤y)).toArray) os:=Any.sort_Ints lays191 a off cap zs w hH b c
def lays192_ren:Go.Shelf.Ren:=⟨fun | 192=>257 | 190=>283 | 125=>294 | 258=>297 | 128=>313 | 129=>314 | 302=>315 | 303=>316 | 304=>317 | 305=>318 | 306=>319 | 307=>320 | 308=>321 | 309=>322 | 310=>323 | 333=>336 | 329=>331 | 330=>332 | 334=>337 | 335=>338 | 336=>339 | 344=>345 | n=>n,fun | 31=>56 | 0=>0 | 9=>9 | 3=>3 | 46=>250 | 51=>288 | 53=>290 | 4=>4 | 183=>281 | 182=>280 | 131=>216 | 5=>5 | 218=>303 | 222=>307 | 228=>319 | 229=>320 | n=>n,fun | n=>n⟩
theorem lays192:Go.Proofs.Lays.n192 prog lays192_ren:={
 mixed:=by kernel_rfl
 f125:=func294.trans (congrArg some (by kernel_rfl))
 f128:=func313.trans (congrArg some (by kernel_rfl))
 f129:=func314.trans (congrArg some (by kernel_rfl))
 f190:=func283.trans (congrArg some (by kernel_rfl))
 f192:=func257.trans (congrArg some (by kernel_rfl))
 f258:=func297.trans (congrArg some (by kernel_rfl))
 f302:=func315.trans (congrArg some (by kernel_rfl))
 f303:=func316.trans (congrArg some (by kernel_rfl))
 f304:=func317.trans (congrArg some (by kernel_rfl))
 f305:=func318.trans (congrArg some (by kernel_rfl))
 f306:=func319.trans (congrArg some (by kernel_rfl))
 f307:=func320.trans (congrArg some (by kernel_rfl))
 f308:=func321.trans (congrArg some (by kernel_rfl))
 f309:=func322.trans (congrArg some (by kernel_rfl))
 f310:=func323.trans (congrArg some (by kernel_rfl))
 f329:=func331.trans (congrArg some (by kernel_rfl))
 f330:=func332.trans (congrArg some (by kernel_rfl))
 f333:=func336.trans (congrArg some (by kernel_rfl))
 f334:=func337.trans (congrArg some (by kernel_rfl))
 f335:=func338.trans (congrArg some (by kernel_rfl))
 f336:=func339.trans (congrArg some (by kernel_rfl))
 f344:=func345.trans (congrArg some (by kernel_rfl))
 t0:=underlying0
 a0:=isAgg0
 z0:=sizeOf0
 v0:=zeroValue0
 t3:=underlying3
 a3:=isAgg3
 z3:=sizeOf3
 v3:=zeroValue3
 t4:=underlying4
 a4:=isAgg4
 z4:=sizeOf4
 v4:=zeroValue4
 t5:=underlying5
 a5:=isAgg5
 z5:=sizeOf5
 v5:=zeroValue5
 t9:=underlying9
 a9:=isAgg9
 z9:=sizeOf9
 v9:=zeroValue9
 t31:=underlying56
 a31:=isAgg56
 z31:=sizeOf56
 v31:=zeroValue56
 t46:=underlying250
 a46:=isAgg250
 z46:=sizeOf250
 v46:=zeroValue250
 t51:=underlying288
 a51:=isAgg288
 z51:=sizeOf288
 v51:=zeroValue288
 t53:=underlying290
 a53:=isAgg290
 z53:=sizeOf290
 v53:=zeroValue290
 t131:=underlying216
 a131:=isAgg216
 z131:=sizeOf216
 v131:=zeroValue216
 t182:=underlying280
 a182:=isAgg280
 z182:=sizeOf280
 v182:=zeroValue280
 t183:=underlying281
 a183:=isAgg281
 z183:=sizeOf281
 v183:=zeroValue281
 t218:=underlying303
 a218:=isAgg303
 z218:=sizeOf303
 v218:=zeroValue303
 t222:=underlying307
 a222:=isAgg307
 z222:=sizeOf307
 v222:=zeroValue307
 t228:=underlying319
 a228:=isAgg319
 z228:=sizeOf319
 v228:=zeroValue319
 t229:=underlying320
 a229:=isAgg320
 z229:=sizeOf320
 v229:=zeroValue320 }
open Go.Sort Go.RowKit in
theorem sort_Strings (a off cap:Nat) (ss:List (List UInt8)) (w:World) (hH:Holds encStr w a off ss.toArray) (b:a<w.heap.size) (c:ss.length<4611686018427387904):
  Calls prog 257 #[.slice (some ⟨a,off,none⟩) ss.length cap] w fun e w'=>
   e=.returned (.tuple #[])∧∃n os,w'=grow (putRow encStr (Sort.ahead w n) a off (ss.mergeSort fun x y=>decide (x≤y)).toArray) os:=Any.sort_Strings lays192 a off cap ss w hH b c
open Go.RowKit Go.Sort in
theorem sort_Strings_none (p:Option Addr) (cap:Nat) (w:World):
  Calls prog 257 #[.slice p 0 cap] w fun e w'=>e=.returned (.tuple #[])∧w'=w:=Any.sort_Strings_none lays192 p cap w
open Go.RowKit Go.Sort in
theorem sort_Ints_none (p:Option Addr) (cap:Nat) (w:World):
  Calls prog 238 #[.slice p 0 cap] w fun e w'=>e=.returned (.tuple #[])∧w'=w:=Any.sort_Ints_none lays191 p cap w
end Go.Proofs
namespace Go.Proofs.YtekbmedphidcgaaGreatDoor
section
open Go.RowKit Go.Sort
theorem Zmx {α:Type} [Inhabited α] {P:Program} {J:World→Prop} {JF:Nat→Prop} (enc:α→Value) (el:α→List CT) (hel:∀(w:World) x v L,RCs w (el x) v L→v=[enc x]) (hmv:∀(w w':World) x,RCs w (el x) [enc x] []→RCs w' (el x) [enc x] []) (hflat:∀l:List α,Zal (l.map el)=true) {f:FuncId} {e:TypeId} {zs d:List α} (hc:ZcX P f) (hd:d.length=zs.length) (hsub:∀x∈d,x∈zs)
  (hN:∀p cap w,Calls P f #[.slice p 0 cap] w fun e w'=>e=.returned (.tuple #[])∧w'=w)
  (hC:∀blk off cap w,Holds enc w blk off zs.toArray→blk<w.heap.size→Calls P f #[.slice (some ⟨blk,off,none⟩) zs.length cap] w fun e w'=>e=.returned (.tuple #[])∧∃n os,w'=grow (putRow enc (Sort.ahead w n) blk off d.toArray) os):
  ZaU P J JF f (.row e 1 (zs.map el)) [] [] (.row e 1 (d.map el)):=by
 refine ⟨hc,fun w z q v0 vs hj hqf hz hh ha=>?_⟩
 cases vs with
 | cons _ _=>exact ha.elim
 | nil=>
 obtain ⟨hfl,hm,hq,cs,hown,hre⟩:=hh
 have hcs:∀(l:List α) (cs:List Value) (L:List Nat),REs w 1 (l.map el) cs L→cs=l.map enc∧(L=[]→∀x∈l,RCs w (el x) [enc x] []):=by
  intro l
  induction l with
  | nil=>intro cs L h;exact ⟨h.1,fun _ x mx=>by simp at mx⟩
  | cons x l ih=>
   rintro cs L ⟨c1,c2,L1,L2,rfl,rfl,h3,h4⟩
   obtain ⟨i1,i2⟩:=ih _ _ h4
   have e1:=hel _ _ _ _ h3.1
   refine ⟨by rw [e1,i1];rfl,fun hL y my=>?_⟩
   obtain ⟨l1,l2⟩:=List.append_eq_nil_iff.1 hL
   rcases List.mem_cons.1 my with rfl | my
   ·rw [←e1,←l1];exact h3.1
   ·exact i2 l2 y my
 obtain ⟨e1,e2⟩:=hcs zs cs [] hre
 have e2:=e2 rfl
 subst e1
 have hre':∀(w':World) (l:List α),(∀x∈l,x∈zs)→REs w' 1 (l.map el) (l.map enc) []:=by
  intro w' l
  induction l with
  | nil=>intro _;exact ⟨rfl,rfl⟩
  | cons x l ih=>intro hl;exact ⟨[enc x],l.map enc,[],[],rfl,rfl,⟨hmv w w' x (e2 x (hl x (by simp))),rfl⟩,ih fun y my=>hl y (by simp [my])⟩
 have hzl:(zs.map el).length=zs.length:=by simp
 rw [hzl] at hown
 have done:∀w':World,w'.os=w.os→w'.tape=w.tape→w'.output=w.output→w.heap.size≤w'.heap.size→(∀k,k<w.heap.size→¬q=some k→w'.heap[k]?=w.heap[k]?)→w'.ownsV 0 e 1 v0 d.length (d.map enc)→∃v n,Ending.returned (.tuple #[])=.returned v∧Ziy w' w.heap.size n [] v∧(∀b,inQ z q b→n b)∧Zme w' n q (.row e 1 (d.map el)) v0∧Zyq q w w':=
  fun w' h1 h2 h3 h4 h5 h6=>⟨_,inQ z q,rfl,⟨[],[],⟨rfl,rfl⟩,Own.nil _ _,rfl⟩,fun _ h=>h,⟨hflat d,by omega,hq,d.map enc,by simpa using h6,hre' w' d hsub⟩,⟨h1,h2,h3,h4,h5⟩⟩
 rcases Nat.eq_zero_or_pos zs.length with h0 | h0
 ·have hz0:zs=[]:=Aa h0
  have hd0:d=[]:=Aa (hd.trans h0)
  obtain ⟨A,cap,hv⟩:=Q8 hown
  rw [h0] at hv
  subst hv
  refine (hN A cap w).mono ?_
  rintro e' w' ⟨rfl,rfl⟩
  exact done w' rfl rfl rfl (A7 _) (fun _ _ _=>rfl) (by rw [hd0];rw [hz0] at hown;exact hown)
 ·rcases hown.2 with ⟨h',hl0⟩ | ⟨g,o,cap,cur,h',hb,hg,hnc,hcm,hcsz,htake⟩
  ·omega
  ·subst h'
   have hlt:g<w.heap.size:=(AO.1 hg).1
   have hcur:∀j,j<zs.length→cur[o+j]?=some (enc zs[j]!):=fun j hj=>by
    have:=congrArg (fun l=>l[j]?) htake
    simp only[Nat.mul_one,Ab,hj,if_true,Ac,Ad,Ae] at this
    rw [this]
    simp [List.getElem!_eq_getElem?_getD,hj]
   refine (hC g o cap w (fun j hj=>?_) hlt).mono ?_
   ·have hj':j<zs.length:=by simpa using hj
    refine ⟨?_,by simp [World.frozen?,hg]⟩
    simp only[World.cell?,hg,Option.isSome_none,Bool.false_eq_true,if_false]
    rw [hcur j hj']
    simp [hj']
   ·rintro e' w' ⟨rfl,n,os,rfl⟩
    have hh:(putRow enc (Sort.ahead w n) g o d.toArray).heap[g]?=some (.cells (putCells enc o d.toArray cur) e (0,0)):=by
     simp only[putRow,mapBlock,heap_ahead,Af,if_true,hg,Option.map_some,onCells]
    refine done _ rfl rfl rfl (by simp) (fun k hk hqk=>?_) ⟨by simp,.inr ⟨g,o,cap,putCells enc o d.toArray cur,by rw [hd],by omega,?_,by omega,hcm,by simpa [putCells] using hcsz,?_⟩⟩
    ·rw [heap_grow_old _ _ (by simpa using hk)]
     simp only[putRow,mapBlock,heap_ahead,Af]
     rw [if_neg (fun e=>hqk (by rw [←hq];simp [Value.ownBlock,e]))]
    ·rw [heap_grow_old _ _ (by simpa using hlt)];exact hh
    ·apply List.ext_getElem?
     intro j
     simp only[Nat.mul_one,Ab,Ac,Ae,Ad,putCells,Array.getElem?_mapIdx,AJ]
     by_cases hj:j<d.length
     ·have hjc:o+j<cur.size:=by omega
      simp [hj,hjc]
     ·simp [hj]
end
section
open Go.RowKit Go.Sort
theorem Zqj {J:World→Prop} {JF:Nat→Prop} {l r:List Int} (h:ZeC l=some r):ZaU prog J JF 238 (.row 3 1 (l.map Z5)) [] [] (.row 3 1 (r.map Z5)):=by
 obtain ⟨h1,h2⟩:=Zs h
 obtain rfl:=A3 h2
 refine Zmx (Value.int .i64) Z5 (fun w x v L h=>?_) (fun w w' x h=>h) Zmd ⟨f238,func238,by kernel_rfl,by kernel_rfl⟩ (by simp [Zjh]) (fun x hx=>by simpa [Zjh] using hx) (fun p cap w=>sort_Ints_none p cap w) (fun a off cap w hH hb=>sort_Ints a off cap l w hH hb yE)
 obtain ⟨u,vs,L1,L2,rfl,rfl,q1,rfl,rfl⟩:=h
 rw [q1.1]
end
section
open Go.RowKit
theorem Zsl {J:World→Prop} {a b:ByteArray} {r:Int} (h:Zd1 a b=some r):Zl prog J 250 [(false,[.str a]),(false,[.str b])] [(false,[(false,.int .i64 r)])]:=by
 obtain rfl:=A3 h
 refine ⟨⟨f250,func250,by kernel_rfl,by kernel_rfl⟩,fun w z vs hj hz c=>?_⟩
 obtain ⟨v,u,L,M,rfl,⟨rfl,_⟩,rfl,_⟩:=Zs7 c
 refine (strings_Compare a b w).mono ?_
 rintro e w' ⟨rfl,rfl⟩
 exact ⟨_,z,rfl,Zo0 ⟨⟨rfl,rfl⟩,rfl⟩,fun b h=>h,Below.refl _ _⟩
end
section
open Go.RowKit Go.Sort
theorem Zlz {J:World→Prop} {JF:Nat→Prop} {l r:List ByteArray} (h:ZbK l=some r):ZaU prog J JF 257 (.row 9 1 (l.map Zw)) [] [] (.row 9 1 (r.map Zw)):=by
 obtain ⟨h1,h2⟩:=Zs h
 obtain rfl:=A3 h2
 have e1:l.map Zw=(l.map toL).map fun x=>Zw (ofL x):=by rw [Ag];exact List.map_congr_left fun x _=>by simp [Zh4]
 have e2:(Zeg l).map Zw=((l.map toL).mergeSort fun x y=>decide (x≤y)).map fun x=>Zw (ofL x):=by simp [Zeg,Ag,Function.comp_def]
 rw [e1,e2]
 refine Zmx encStr (fun x=>Zw (ofL x)) (fun w x v L h=>?_) (fun w w' x h=>h) (fun l=>Zbi (fun _=>rfl) l) ⟨f257,func257,by kernel_rfl,by kernel_rfl⟩ yG (fun x hx=>by simpa using hx) (fun p cap w=>sort_Strings_none p cap w) (fun a off cap w hH hb=>sort_Strings a off cap (l.map toL) w hH hb (by simp;omega))
 obtain ⟨u,vs,L1,L2,rfl,rfl,q1,rfl,rfl⟩:=h
 rw [q1.1]
 rfl
end
section
open Go.RowKit
theorem ZzG {J : World → Prop} (hJ : ∀ w, J w → ∃ tp p, w.var? prog "strconv.ErrSyntax" = some #[.iface tp p]) {s : ByteArray} {r : Int × Bool} (h : Zkj s = some r) : Zl prog J 284 [(false, [.str s])] [(false, [(false, .int .i64 r.1)]), (false, [(false, .ifc r.2)])] := by
 obtain ⟨h1,h2⟩:=Zs h
 refine ⟨⟨f284,func284,by kernel_rfl,by kernel_rfl⟩,fun w z vs hj hz hargs=>?_⟩
 obtain ⟨v,L,rfl,rfl,_⟩:=ZjO hargs
 cases ha:Lib.atoi (toL s) with
 | some n=>
  rw [ha] at h2
  obtain rfl:=A3 h2
  refine (strconv_Atoi s n h1 ha w).mono ?_
  rintro e w' ⟨rfl,t,rfl⟩
  exact ⟨_,z,rfl,ZpA ⟨⟨rfl,rfl⟩,rfl⟩ ⟨⟨rfl,rfl,rfl⟩,rfl⟩,fun b h=>h,Lib.bytesWorld_below _ _ _⟩
 | none=>
  rw [ha] at h2
  obtain rfl:=A3 h2
  obtain ⟨tp,p,hv⟩:=hJ w hj
  refine (strconv_Atoi_err_var s h1 ha tp p w hv).mono ?_
  rintro e w' ⟨N,rfl,_,_,hb⟩
  exact ⟨_,z,rfl,ZpA ⟨⟨rfl,rfl⟩,rfl⟩ ⟨⟨rfl,rfl,_,_,rfl⟩,rfl⟩,fun b h=>h,hb⟩
end
section
open Go.RowKit Go.Sort Go.Lib
theorem Zzq {J : World → Prop} (hJ : ∀ w, J w → Lib.TabIs prog w "internal/strconv.uint64pow10" .u64 Lib.pow10Tab) {n : Int} {r : ByteArray} (h : Zno n = some r) : Zl prog J 300 [(false, [.int .i64 n])] [(false, [(false, .str r)])] := by
 obtain ⟨h1,h2⟩:=Zs h
 obtain rfl:=A3 h2
 refine ⟨⟨f300,func300,by kernel_rfl,by kernel_rfl⟩,fun w z vs hj hz hargs=>?_⟩
 obtain ⟨v,L,rfl,rfl,_⟩:=ZjO hargs
 refine (strconv_Itoa n h1.1 h1.2 w (hJ w hj)).mono ?_
 rintro e w' ⟨rfl,k,os,rfl⟩
 refine ⟨_,z,rfl,Zo0 ⟨⟨rfl,rfl,?_⟩,rfl⟩,fun b h=>h,below_grow _ _ (A7 _) _ _⟩
 have:=Lib.itoa_length_le n h1.1 h1.2
 show (Lib.itoa n).toArray.size≤_
 rw [AJ]
 omega
end
theorem Zly {l r:List Int} (h:ZeC l=some r):ZaU prog J0 JF0 238 (.row 3 1 (l.map Z5)) [] [] (.row 3 1 (r.map Z5)):=Zqj h
theorem Zhw {a b:ByteArray} {r:Int} (h:Zd1 a b=some r):Zl prog J0 250 [(false,[.str a]),(false,[.str b])] [(false,[(false,.int .i64 r)])]:=Zsl h
theorem Zir {l r:List ByteArray} (h:ZbK l=some r):ZaU prog J0 JF0 257 (.row 9 1 (l.map Zw)) [] [] (.row 9 1 (r.map Zw)):=Zlz h
theorem ZsH {s:ByteArray} {r:Int × Bool} (h:Zkj s=some r):Zl prog J0 284 [(false,[.str s])] [(false,[(false,.int .i64 r.1)]),(false,[(false,.ifc r.2)])]:=ZzG Zyl h
theorem Zr1 {n:Int} {r:ByteArray} (h:Zno n=some r):Zl prog J0 300 [(false,[.int .i64 n])] [(false,[(false,.str r)])]:=Zzq ZyT h
section
theorem yA{p q:Prop}(h:q)(e:p=q:=by simp only[*,go_sem,seval];try rfl):p:=e▸h
theorem yD{p:Prop}(e:p:=by simp only[*,go_sem,seval]):p:=e
theorem yB{α:Type}{G q v:Prop}{b:Bool}{x y:Option α}{r:α}(h:(if b=true then x else y)=some r)(h1:b=true→x=some r→q)(h2:b=false→y=some r→v)(e:∀(_:b=true)(_:x=some r),G=q:=by intro _ _;(try simp only[*,go_sem,seval]);try rfl)(f:∀(_:b=false)(_:y=some r),G=v:=by intro _ _;(try simp only[*,go_sem,seval]);try rfl):G:=Ze h (fun a c=>(e a c)▸h1 a c) fun a c=>(f a c)▸h2 a c
theorem yC{σ ρ:Type}{s:σ}{y:σ⊕ρ}{C:σ→List (Bool×Nat×Nat)→List Nat→Prop}(h:some (.inl s)=some y)(ms:List (Bool×Nat×Nat))(k:List Nat)(d:k.Nodup:=by decide)(e:C s ms k:=by simp only[*,go_sem,seval]):∃s' ms k,y=.inl s'∧k.Nodup∧C s' ms k:=⟨s,ms,k,(Option.some.inj h).symm,d,e⟩
def yL(n:Nat):SV:=.p false [.c (.int .i64 (n:Int))]
def yM(x:CT):SV:=.p false [.c x]
def yZ(t:Nat)(l:List CT):Ob:=.box t (l.map .c)
attribute [go_sem] yL yM yZ List.map_cons List.map_nil
def yO(l:List Zd):CT:=.sl 71 2 (List.map Zq l)
attribute [go_sem] yO
def yP(l:List ByteArray):CT:=.sl 9 1 (List.map Zw l)
attribute [go_sem] yP
def yQ(l:List Int):CT:=.sl 3 1 (List.map Z5 l)
attribute [go_sem] yQ
def yR(l:List Zf):CT:=.sl 104 4 (List.map ZG l)
attribute [go_sem] yR
def yS(l:List Zr):CT:=.sl 60 5 (List.map ZK l)
attribute [go_sem] yS
def yT(l:List Zp):CT:=.sl 135 2 (List.map ZZ l)
attribute [go_sem] yT
def yU(l:List Zx):CT:=.sl 166 3 (List.map ZD l)
attribute [go_sem] yU
def yV(l:List Zg):CT:=.sl 144 3 (List.map ZL l)
attribute [go_sem] yV
def yW(l:List Zt):CT:=.sl 118 2 (List.map YE l)
attribute [go_sem] yW
def yX(l:List Int):CT:=.sl 5 1 (List.map Zek l)
attribute [go_sem] yX
def yY(l:List ZvY):CT:=.sl 86 4 (List.map ZAO l)
attribute [go_sem] yY
theorem ZkF {a_0:(List ByteArray)} {b_1:(List ByteArray)} {r:Bool} (h:Zb4 a_0 b_1=some r):Zl prog J0 198 [(false,[.sl 9 1 (A0 Zw a_0)]),(false,[.sl 9 1 (A0 Zw b_1)])] [(false,[(false,.bool r)])]:=by
 refine fnk func198 rfl ?_
 unfold Zb4 at h
 simp only[fnS,f198,Zm,go_sem,seval]
 refine yB h (fun _ h=>?_) fun _ h=>?_
 cases h;exact yD
 refine Zh h (fun i _ st=>IV [(0,yM (yP a_0)),(1,yM (yP b_1)),(12,yL a_0.length),(13,yL i)] [] st) [] [] yF yD ?_ ?_
 rintro _ _ ⟨⟩ ⟨sl,ob,n⟩ _ a b e h f
 simp only[go_sem,seval,Zc] at b
 obtain ⟨⟨g,_,_,_⟩,hn⟩:=b
 subst hn
 have k:=WF.slotL e g (j:=0) rfl
 have:=ZB a
 have:=ZC a
 have:=Zj (ZA a) k
 obtain ⟨_,_,_,l,h⟩:=Zci h
 simp only[AK] at l
 simp only[*,go_sem,seval]
 refine yB h (fun _ h=>?_) fun _ h=>?_
 exact yC h [] []
 replace h:=Zo h f
 cases h;exact yD
 rintro ⟨⟩ ⟨sl,ob,n⟩ d _ h
 simp only[go_sem,seval,Zc] at d
 obtain ⟨⟨_,_,_,_⟩,hn⟩:=d
 subst hn
 have:=Zz (a_0.length)
 cases h;exact yD
theorem ZfK {l_0:(List ByteArray)} {r:(List ByteArray)} (h:Zaw l_0=some r):Zl prog J0 179 [(false,[.sl 9 1 (A0 Zw l_0)])] [(false,[(false,.sl 9 1 (A0 Zw r))])]:=by
 refine fnk func179 rfl ?_
 unfold Zaw at h
 simp only[fnS,f179,Zm,go_sem,seval]
 obtain ⟨_,h⟩:=Zs h
 cases h;exact yD
theorem XS {s_0:ByteArray} {r:Bool} (h:X5 s_0=some r):Zl prog J0 213 [(false,[.str s_0])] [(false,[(false,.bool r)])]:=by
 refine fnk func213 rfl ?_
 unfold X5 at h
 simp only[fnS,f213,Zm,go_sem,seval]
 iterate 2 ((refine Ze h (fun _ h=>?_) fun _ h=>?_<;>try simp only[*,go_sem,seval]);cases h;simp only[*,go_sem,seval])
 refine Zh h (fun i _ st=>IV [(0,yM (.str s_0)),(3,yL i)] [] st) [] [] yF yD ?_ ?_
 rintro _ _ ⟨⟩ ⟨sl,ob,n⟩ _ b d f h a
 simp only[go_sem,seval,Zc] at d
 obtain ⟨⟨g,_⟩,hn⟩:=d
 subst hn
 have k:=WF.slotS f g (j:=0) rfl
 have:=Znm b
 have:=Zuf b
 have:=Zj (Zrk b) k
 simp only[*,go_sem,seval]
 iterate 2 refine yB h (fun _ h=>?_) fun _ h=>?_
 replace h:=Zo h a
 cases h;exact yD
 refine yB h (fun _ h=>?_) fun _ h=>?_
 replace h:=Zo h a
 cases h;exact yD
 exact yC h [] []
 iterate 2 refine yB h (fun _ h=>?_) fun _ h=>?_
 replace h:=Zo h a
 cases h;exact yD
 refine yB h (fun _ h=>?_) fun _ h=>?_
 replace h:=Zo h a
 cases h;exact yD
 exact yC h [] []
 exact yC h [] []
 rintro ⟨⟩ ⟨sl,ob,n⟩ e _ h
 simp only[go_sem,seval,Zc] at e
 obtain ⟨⟨_,_⟩,hn⟩:=e
 subst hn
 have:=Zz (s_0.size)
 cases h;exact yD
theorem Zfq {b_0:(List Zp)} {r:(List Zp)} (h:ZaB b_0=some r):Zl prog J0 212 [(false,[.sl 135 2 (A0 ZZ b_0)])] [(false,[(false,.sl 135 2 (A0 ZZ r))])]:=by
 refine fnk func212 rfl ?_
 unfold ZaB at h
 simp only[fnS,f212,Zm,go_sem,seval]
 obtain ⟨_,h⟩:=Zs h
 cases h;exact yD
theorem QN {p_0:Zv} {r:Bool} (h:YS p_0=some r):Zl prog J0 254 [(true,Qz p_0)] [(false,[(false,.bool r)])]:=by
 refine fnk func254 rfl ?_
 unfold YS at h
 have a:Z2 ⟨#[]⟩=true:=by decide
 simp only[fnS,f254,Zm,go_sem,seval,a]
 refine yB h (fun _ h=>?_) fun _ h=>?_
 iterate 2 (cases h;exact yD)
theorem ZjM {n_0:Int} {r:ByteArray} (h:Zav n_0=some r):Zl prog J0 285 [(false,[.int .i64 n_0])] [(false,[(false,.str r)])]:=by
 refine fnk func285 rfl ?_
 unfold Zav at h
 have a:Z2 ⟨#[]⟩=true:=by decide
 simp only[fnS,f285,Zm,go_sem,seval,a]
 refine Za h fun v1 b h=>Zb (Zr1 b) ?_
 cases h;exact yD
theorem Zbp {a_0:Int} {b_1:Int} {r:Int} (h:Xw a_0 b_1=some r):Zl prog J0 252 [(false,[.int .i64 a_0]),(false,[.int .i64 b_1])] [(false,[(false,.int .i64 r)])]:=by
 refine fnk func252 rfl ?_
 unfold Xw at h
 simp only[fnS,f252,Zm,go_sem,seval]
 iterate 2 ((refine Ze h (fun _ h=>?_) fun _ h=>?_<;>try simp only[*,go_sem,seval]);cases h;simp only[*,go_sem,seval])
 cases h;exact yD
theorem Zeh {r_0:Zf} {r:(List Zr)} (h:YA r_0=some r):Zl prog J0 173 [(true,ZG r_0)] [(false,[(true,.sl 60 5 (A0 ZK r))])]:=by
 refine fnk func173 rfl ?_
 unfold YA at h
 simp only[fnS,f173,Zm,go_sem,seval]
 refine Zh h (fun i a st=>IV [(3,.p false [.row 0]),(7,yM (yS r_0.cond)),(8,yL r_0.cond.length),(9,yL i)] [.row 60 5 (A0 ZK a) 1] st) [(false,3,0),(true,112,1)] [112] yF yD ?_ ?_
 rintro _ _ a ⟨sl,ob,n⟩ _ b d f h _
 simp only[go_sem,seval,Zc] at d
 obtain ⟨⟨_,g,_,_⟩,_,hn⟩:=d
 subst hn
 have k:=WF.slotL f g (j:=0) rfl
 have:=ZB b
 have:=ZC b
 have:=Zj (ZA b) k
 simp only[*,go_sem,seval]
 refine yB h (fun _ h=>?_) fun _ h=>?_
 obtain ⟨l,h⟩:=Zs h
 try simp only[Nat.reduceLeDiff] at l
 simp only[*,go_sem,seval]
 exact yC h [] [177]
 exact yC h [] [0]
 rintro a ⟨sl,ob,n⟩ e _ h
 simp only[go_sem,seval,Zc] at e
 obtain ⟨⟨_,_,_,_⟩,_,hn⟩:=e
 subst hn
 have:=Zz (r_0.cond.length)
 cases h;exact yD
theorem XK {l_0:(List ByteArray)} {r:(List ByteArray)} (h:Yb l_0=some r):Zl prog J0 207 [(false,[.sl 9 1 (A0 Zw l_0)])] [(false,[(false,.sl 9 1 (A0 Zw r))])]:=by
 refine fnk func207 rfl ?_
 unfold Yb at h
 simp only[fnS,f207,Zm,go_sem,seval]
 obtain ⟨_,h⟩:=Zs h
 simp only[*,go_sem,seval]
 obtain ⟨v1,f,h⟩:=ZJ h
 refine QC (Zir f)<|yA ?_
 refine Zh h (fun i a st=>IV [(3,.p false [.row 0]),(4,.p false [.row 1]),(11,.p false [.row 0]),(12,yL v1.length),(13,yL i)] [.row 9 1 (A0 Zw v1) 2,.row 9 1 (A0 Zw a) 2] st) [(false,4,0)] [32,160] yF yD ?_ ?_
 rintro _ _ a ⟨sl,ob,n⟩ _ b d g h _
 simp only[go_sem,seval,Zc] at d
 obtain ⟨⟨_,_,_,_,_⟩,j,_,hn⟩:=d
 subst hn
 have k:=WF.rowL g j
 have:=ZB b
 have:=ZC b
 have:=Zj (ZA b) k
 simp only[*,go_sem,seval]
 refine yB h (fun _ h=>?_) fun _ h=>?_
 obtain ⟨l,h⟩:=Zs h
 try simp only[Nat.reduceLeDiff] at l
 simp only[*,go_sem,seval]
 exact yC h [] [0,322]
 obtain ⟨_,h⟩:=Zs h
 obtain ⟨_,_,h⟩:=ZJ h
 simp only[*,go_sem,seval]
 refine yB h (fun _ h=>?_) fun _ h=>?_
 exact yC h [] [0,1]
 obtain ⟨m,h⟩:=Zs h
 try simp only[Nat.reduceLeDiff] at m
 simp only[*,go_sem,seval]
 exact yC h [] [0,322]
 rintro a ⟨sl,ob,n⟩ e _ h
 simp only[go_sem,seval,Zc] at e
 obtain ⟨⟨_,_,_,_,_⟩,_,_,hn⟩:=e
 subst hn
 have:=Zz (v1.length)
 cases h;exact yD
theorem QT {l_0:(List ByteArray)} {s_1:ByteArray} {r:Bool} (h:YV l_0 s_1=some r):Zl prog J0 206 [(false,[.sl 9 1 (A0 Zw l_0)]),(false,[.str s_1])] [(false,[(false,.bool r)])]:=by
 refine fnk func206 rfl ?_
 unfold YV at h
 simp only[fnS,f206,Zm,go_sem,seval]
 refine Zh h (fun i _ st=>IV [(1,yM (.str s_1)),(7,yM (yP l_0)),(8,yL l_0.length),(9,yL i)] [] st) [] [] yF yD ?_ ?_
 rintro _ _ ⟨⟩ ⟨sl,ob,n⟩ _ a b e h f
 simp only[go_sem,seval,Zc] at b
 obtain ⟨⟨_,g,_,_⟩,hn⟩:=b
 subst hn
 have k:=WF.slotL e g (j:=0) rfl
 have:=ZB a
 have:=ZC a
 have:=Zj (ZA a) k
 simp only[*,go_sem,seval]
 refine yB h (fun _ h=>?_) fun _ h=>?_
 replace h:=Zo h f
 cases h;exact yD
 exact yC h [] []
 rintro ⟨⟩ ⟨sl,ob,n⟩ d _ h
 simp only[go_sem,seval,Zc] at d
 obtain ⟨⟨_,_,_,_⟩,hn⟩:=d
 subst hn
 have:=Zz (l_0.length)
 cases h;exact yD
theorem ZlR {l_0:(List Zf)} {name_1:ByteArray} {r:Int} (h:Zao l_0 name_1=some r):Zl prog J0 190 [(false,[.sl 104 4 (A0 ZG l_0)]),(false,[.str name_1])] [(false,[(false,.int .i64 r)])]:=by
 refine fnk func190 rfl ?_
 unfold Zao at h
 simp only[fnS,f190,Zm,go_sem,seval]
 refine Zh h (fun i _ st=>IV [(1,yM (.str name_1)),(7,yM (yR l_0)),(8,yL l_0.length),(9,yL i)] [] st) [] [] yF yD ?_ ?_
 rintro _ _ ⟨⟩ ⟨sl,ob,n⟩ _ a b e h f
 simp only[go_sem,seval,Zc] at b
 obtain ⟨⟨_,g,_,_⟩,hn⟩:=b
 subst hn
 have k:=WF.slotL e g (j:=0) rfl
 have:=ZB a
 have:=ZC a
 have:=Zj (ZA a) k
 simp only[*,go_sem,seval]
 refine yB h (fun _ h=>?_) fun _ h=>?_
 replace h:=Zo h f
 cases h;exact yD
 exact yC h [] []
 rintro ⟨⟩ ⟨sl,ob,n⟩ d _ h
 simp only[go_sem,seval,Zc] at d
 obtain ⟨⟨_,_,_,_⟩,hn⟩:=d
 subst hn
 have:=Zz (l_0.length)
 cases h;exact yD
theorem ZlZ {r_0:Zf} {r:Bool} (h:Zc0 r_0=some r):Zl prog J0 291 [(true,ZG r_0)] [(false,[(false,.bool r)])]:=by
 refine fnk func291 rfl ?_
 unfold Zc0 at h
 simp only[fnS,f291,Zm,go_sem,seval]
 refine Zh h (fun i _ st=>IV [(6,yM (yU r_0.thn)),(7,yL r_0.thn.length),(8,yL i)] [] st) [] [] yF yD ?_ ?_
 rintro _ _ ⟨⟩ ⟨sl,ob,n⟩ _ a b e h f
 simp only[go_sem,seval,Zc] at b
 obtain ⟨⟨g,_,_⟩,hn⟩:=b
 subst hn
 have k:=WF.slotL e g (j:=0) rfl
 have:=ZB a
 have:=ZC a
 have:=Zj (ZA a) k
 simp only[*,go_sem,seval]
 refine yB h (fun _ h=>?_) fun _ h=>?_
 replace h:=Zo h f
 cases h;exact yD
 exact yC h [] []
 rintro ⟨⟩ ⟨sl,ob,n⟩ d _ h
 simp only[go_sem,seval,Zc] at d
 obtain ⟨⟨_,_,_⟩,hn⟩:=d
 subst hn
 have:=Zz (r_0.thn.length)
 cases h;exact yD
theorem Zph {l_0:(List Int)} {n_1:Int} {r:Bool} (h:ZfM l_0 n_1=some r):Zl prog J0 237 [(false,[.sl 3 1 (A0 Z5 l_0)]),(false,[.int .i64 n_1])] [(false,[(false,.bool r)])]:=by
 refine fnk func237 rfl ?_
 unfold ZfM at h
 simp only[fnS,f237,Zm,go_sem,seval]
 refine Zh h (fun i _ st=>IV [(1,yM (.int .i64 n_1)),(7,yM (yQ l_0)),(8,yL l_0.length),(9,yL i)] [] st) [] [] yF yD ?_ ?_
 rintro _ _ ⟨⟩ ⟨sl,ob,n⟩ _ a b e h f
 simp only[go_sem,seval,Zc] at b
 obtain ⟨⟨_,g,_,_⟩,hn⟩:=b
 subst hn
 have k:=WF.slotL e g (j:=0) rfl
 have:=ZB a
 have:=ZC a
 have:=Zj (ZA a) k
 simp only[*,go_sem,seval]
 refine yB h (fun _ h=>?_) fun _ h=>?_
 replace h:=Zo h f
 cases h;exact yD
 exact yC h [] []
 rintro ⟨⟩ ⟨sl,ob,n⟩ d _ h
 simp only[go_sem,seval,Zc] at d
 obtain ⟨⟨_,_,_,_⟩,hn⟩:=d
 subst hn
 have:=Zz (l_0.length)
 cases h;exact yD
theorem ZgG {a_0:(List Int)} {b_1:(List Int)} {r:Bool} (h:Zbh a_0 b_1=some r):Zl prog J0 279 [(false,[.sl 3 1 (A0 Z5 a_0)]),(false,[.sl 3 1 (A0 Z5 b_1)])] [(false,[(false,.bool r)])]:=by
 refine fnk func279 rfl ?_
 unfold Zbh at h
 simp only[fnS,f279,Zm,go_sem,seval]
 refine yB h (fun _ h=>?_) fun _ h=>?_
 cases h;exact yD
 refine Zh h (fun i _ st=>IV [(0,yM (yQ a_0)),(1,yM (yQ b_1)),(12,yL a_0.length),(13,yL i)] [] st) [] [] yF yD ?_ ?_
 rintro _ _ ⟨⟩ ⟨sl,ob,n⟩ _ a b e h f
 simp only[go_sem,seval,Zc] at b
 obtain ⟨⟨g,_,_,_⟩,hn⟩:=b
 subst hn
 have k:=WF.slotL e g (j:=0) rfl
 have:=ZB a
 have:=ZC a
 have:=Zj (ZA a) k
 obtain ⟨_,_,_,l,h⟩:=Zci h
 simp only[AK] at l
 simp only[*,go_sem,seval]
 refine yB h (fun _ h=>?_) fun _ h=>?_
 replace h:=Zo h f
 cases h;exact yD
 exact yC h [] []
 rintro ⟨⟩ ⟨sl,ob,n⟩ d _ h
 simp only[go_sem,seval,Zc] at d
 obtain ⟨⟨_,_,_,_⟩,hn⟩:=d
 subst hn
 have:=Zz (a_0.length)
 cases h;exact yD
theorem Zoq {a:Zu} {r:(List Int)} (h:ZfS a=some r):Zl prog J0 241 [(true,Qw a)] [(false,[(false,.sl 3 1 (A0 Z5 r))])]:=by
 refine fnk func241 rfl ?_
 unfold ZfS at h
 simp only[fnS,f241,Zm,go_sem,seval]
 obtain ⟨_,h⟩:=Zs h
 simp only[*,go_sem,seval]
 refine XH h (fun s st=>match s with | (q,t)=>IV [(1,.bp 0 0),(3,.p false [.row 1]),(4,yM (.bool t))] [.box 91 [.c (.int .i64 a.nodes),.c (yV a.reasons)],.row 3 1 (A0 Z5 q) 2] st) [] [0,64] yF yD ?_
 rintro ⟨q,t⟩ ⟨sl,ob,n⟩ _ u _ h C
 simp only[go_sem,seval,Zc] at u
 obtain ⟨⟨_,_,_⟩,_,_,hn⟩:=u
 subst hn
 simp only[*,go_sem,seval]
 refine yB h (fun _ h=>?_) fun _ h=>?_
 refine Zh h (fun i s st=>match s with | (e,f)=>IV [(1,.bp 0 0),(3,.p false [.row 1]),(4,yM (.bool f)),(17,yM (yV a.reasons)),(18,yL a.reasons.length),(19,yL i)] [.box 91 [.c (.int .i64 a.nodes),.c (yV a.reasons)],.row 3 1 (A0 Z5 e) 2] st) [] [0,1] yF yD ?_ ?_
 rintro v d ⟨e,f⟩ ⟨sl,ob,n⟩ _ g w D h _
 simp only[go_sem,seval,Zc] at w
 obtain ⟨⟨_,_,_,E,_,_⟩,_,_,hn⟩:=w
 subst hn
 have F:=WF.slotL D E (j:=0) rfl
 have:=ZB g
 have:=ZC g
 have:=Zj (ZA g) F
 obtain ⟨_,h⟩:=Zs h
 obtain ⟨_,_,h⟩:=ZJ h
 simp only[*,go_sem,seval]
 refine Zh h (fun i k st=>IV [(1,.bp 0 0),(3,.p false [.row 1]),(4,yM (.bool f)),(6,.bp 2 0),(7,yM (.int .i64 k)),(17,yM (yV a.reasons)),(18,yL a.reasons.length),(19,yL v),(29,yM (yQ d.inn)),(30,yL d.inn.length),(31,yL i)] [.box 91 [.c (.int .i64 a.nodes),.c (yV a.reasons)],.row 3 1 (A0 Z5 e) 2,yZ 144 (ZL d)] st) [] [0,1,50] yF yD ?_ ?_
 rintro _ _ k ⟨sl,ob,n⟩ _ l x G h _
 simp only[go_sem,seval,Zc] at x
 obtain ⟨⟨_,_,_,_,_,_,_,_,H,_,_⟩,_,_,_,hn⟩:=x
 subst hn
 have I:=WF.slotL G H (j:=0) rfl
 have:=ZB l
 have:=ZC l
 have:=Zj (ZA l) I
 obtain ⟨_,h⟩:=Zs h
 obtain ⟨_,_,h⟩:=ZJ h
 simp only[*,go_sem,seval]
 exact yC h [] [0,1,2]
 rintro k ⟨sl,ob,n⟩ y _ h
 simp only[go_sem,seval,Zc] at y
 obtain ⟨⟨_,_,_,_,_,_,_,_,_,_,_⟩,_,_,_,hn⟩:=y
 subst hn
 have:=Zz (d.inn.length)
 simp only[*,go_sem,seval]
 refine Zh h (fun i m st=>IV [(1,.bp 0 0),(3,.p false [.row 1]),(4,yM (.bool f)),(6,.bp 2 0),(7,yM (.int .i64 m)),(17,yM (yV a.reasons)),(18,yL a.reasons.length),(19,yL v),(43,yM (yQ d.outs)),(44,yL d.outs.length),(45,yL i)] [.box 91 [.c (.int .i64 a.nodes),.c (yV a.reasons)],.row 3 1 (A0 Z5 e) 2,yZ 144 (ZL d)] st) [] [0,1,2] yF yD ?_ ?_
 rintro _ _ m ⟨sl,ob,n⟩ _ o z J h _
 simp only[go_sem,seval,Zc] at z
 obtain ⟨⟨_,_,_,_,_,_,_,_,K,_,_⟩,_,_,_,hn⟩:=z
 subst hn
 have L:=WF.slotL J K (j:=0) rfl
 have:=ZB o
 have:=ZC o
 have:=Zj (ZA o) L
 obtain ⟨_,h⟩:=Zs h
 obtain ⟨_,_,h⟩:=ZJ h
 simp only[*,go_sem,seval]
 exact yC h [] [0,1,2]
 rintro m ⟨sl,ob,n⟩ A _ h
 simp only[go_sem,seval,Zc] at A
 obtain ⟨⟨_,_,_,_,_,_,_,_,_,_,_⟩,_,_,_,hn⟩:=A
 subst hn
 have:=Zz (d.outs.length)
 simp only[*,go_sem,seval]
 refine yB h (fun _ h=>?_) fun _ h=>?_
 exact yC h [] [0,1]
 exact yC h [] [0,1]
 rintro ⟨e,f⟩ ⟨sl,ob,n⟩ B _ h
 simp only[go_sem,seval,Zc] at B
 obtain ⟨⟨_,_,_,_,_,_⟩,_,_,hn⟩:=B
 subst hn
 have:=Zz (a.reasons.length)
 simp only[*,go_sem,seval]
 exact yC h [] [0,1]
 replace h:=Zo h C
 cases h;exact yD
theorem Zkh {r_0:Zg} {rounds_1:(List Int)} {before_2:Int} {r:Bool} (h:Zas r_0 rounds_1 before_2=some r):Zl prog J0 242 [(true,ZL r_0),(false,[.sl 3 1 (A0 Z5 rounds_1)]),(false,[.int .i64 before_2])] [(false,[(false,.bool r)])]:=by
 refine fnk func242 rfl ?_
 unfold Zas at h
 simp only[fnS,f242,Zm,go_sem,seval]
 refine Zh h (fun i _ st=>IV [(1,yM (yQ rounds_1)),(2,yM (.int .i64 before_2)),(3,.bp 0 0),(12,yM (yQ r_0.inn)),(13,yL r_0.inn.length),(14,yL i)] [yZ 144 (ZL r_0)] st) [] [0] yF yD ?_ ?_
 rintro _ _ ⟨⟩ ⟨sl,ob,n⟩ _ a d l h e
 simp only[go_sem,seval,Zc] at d
 obtain ⟨⟨_,_,_,m,_,_⟩,_,hn⟩:=d
 subst hn
 have o:=WF.slotL l m (j:=0) rfl
 have:=ZB a
 have:=ZC a
 have:=Zj (ZA a) o
 obtain ⟨_,_,_,_,h⟩:=Zci h
 simp only[*,go_sem,seval]
 refine yB h (fun _ h=>?_) fun _ h=>?_
 replace h:=Zo h e
 cases h;exact yD
 refine yB h (fun _ h=>?_) fun _ h=>?_
 replace h:=Zo h e
 cases h;exact yD
 exact yC h [] [0]
 rintro ⟨⟩ ⟨sl,ob,n⟩ f _ h
 simp only[go_sem,seval,Zc] at f
 obtain ⟨⟨_,_,_,_,_,_⟩,_,hn⟩:=f
 subst hn
 have:=Zz (r_0.inn.length)
 simp only[*,go_sem,seval]
 refine Zh h (fun i _ st=>IV [(1,yM (yQ rounds_1)),(33,yM (yQ r_0.outs)),(34,yL r_0.outs.length),(35,yL i)] [] st) [] [] yF yD ?_ ?_
 rintro _ _ ⟨⟩ ⟨sl,ob,n⟩ _ b g q h t
 simp only[go_sem,seval,Zc] at g
 obtain ⟨⟨_,u,_,_⟩,hn⟩:=g
 subst hn
 have v:=WF.slotL q u (j:=0) rfl
 have:=ZB b
 have:=ZC b
 have:=Zj (ZA b) v
 obtain ⟨_,_,_,_,h⟩:=Zci h
 simp only[*,go_sem,seval]
 refine yB h (fun _ h=>?_) fun _ h=>?_
 replace h:=Zo h t
 cases h;exact yD
 exact yC h [] []
 rintro ⟨⟩ ⟨sl,ob,n⟩ k _ h
 simp only[go_sem,seval,Zc] at k
 obtain ⟨⟨_,_,_,_⟩,hn⟩:=k
 subst hn
 have:=Zz (r_0.outs.length)
 cases h;exact yD
theorem Ztt {code_0:(List Int)} {r:Bool} (h:ZqV code_0=some r):Zl prog J0 30 [(false,[.sl 5 1 (A0 Zek code_0)])] [(false,[(false,.bool r)])]:=by
 refine fnk func30 rfl ?_
 unfold ZqV at h
 simp only[fnS,f30,Zm,go_sem,seval]
 cases h;exact yD
theorem Zqr {code_0:(List Int)} {r:ZF} (h:ZhL code_0=some r):Zj3 prog J0 83 [(false,[.sl 5 1 (A0 Zek code_0)])] (.box 184 (Za7 r)):=by
 refine fnb func83 rfl ?_
 unfold ZhL at h
 simp only[fnB,f83,Zm,go_sem,seval]
 refine Zh h (fun i a st=>IV [(0,yM (yX code_0)),(3,yM (.int .i64 a)),(4,yL i)] [] st) [] [] yF yD ?_ ?_
 rintro _ _ a ⟨sl,ob,n⟩ _ b d f h g
 simp only[go_sem,seval,Zc] at d
 obtain ⟨⟨k,_,_⟩,hn⟩:=d
 subst hn
 have l:=WF.slotL f k (j:=0) rfl
 have:=ZB b
 have:=ZC b
 have:=Zj (ZA b) l
 simp only[*,go_sem,seval]
 refine yB h (fun _ h=>?_) fun _ h=>?_
 exact yC h [] []
 replace h:=Zo h g
 cases h;exact yD
 rintro a ⟨sl,ob,n⟩ e _ h
 simp only[go_sem,seval,Zc] at e
 obtain ⟨⟨_,_,_⟩,hn⟩:=e
 subst hn
 have:=Zz (code_0.length)
 cases h;exact yD
theorem Zdz {c_0:ZF} {r:(Int × ZF)} (h:Zb0 c_0=some r):ZaU prog J0 JF0 215 (.box 184 (Za7 c_0)) [] [(false,[(false,.int .i64 r.1)])] (.box 184 (Za7 r.2)):=by
 refine fnh func215 rfl ?_
 unfold Zb0 at h
 have a:¬((35:Int)<0):=by decide
 have b:¬((45:Int)<0):=by decide
 simp only[fnH,f215,ZcO,ZcW,Y9,go_sem,seval,a,b]
 refine yB h (fun _ h=>?_) fun _ h=>?_
 obtain ⟨_,_,_,_,h⟩:=Zci h
 iterate 2 (cases h;exact yD)
theorem Zat {a:Int} {least_1:Int} {most_2:Int} {r:Bool} (h:Za5 a least_1 most_2=some r):Zl prog J0 132 [(false,[.int .i64 a]),(false,[.int .i64 least_1]),(false,[.int .i64 most_2])] [(false,[(false,.bool r)])]:=by
 refine fnk func132 rfl ?_
 unfold Za5 at h
 simp only[fnS,f132,Zm,go_sem,seval]
 refine yB h (fun _ h=>?_) fun _ h=>?_
 iterate 2 (cases h;exact yD)
theorem Ziu {n_0:Int} {r:ByteArray} (h:Q4 n_0=some r):Zl prog J0 182 [(false,[.int .i64 n_0])] [(false,[(false,.str r)])]:=by
 refine fnk func182 rfl ?_
 unfold Q4 at h
 have f:Z2 ⟨#[45,57,50,50,51,51,55,50,48,51,54,56,53,52,55,55,53,56,48,56]⟩=true:=by decide
 have g:Z2 ⟨#[]⟩=true:=by decide
 have i:¬((10:Int)=0):=by decide
 simp only[fnS,f182,Zm,go_sem,seval,f,g,i]
 refine yB h (fun _ h=>?_) fun _ h=>?_
 cases h;exact yD
 refine yB h (fun _ h=>?_) fun _ h=>?_
 cases h
 refine XH h (fun s st=>match s with | (a,b)=>IV [(0,yM (.int .i64 a)),(3,yM (.str b))] [] st) [] [] yF yD ?_
 rintro ⟨a,b⟩ ⟨sl,ob,n⟩ _ d _ h j
 simp only[go_sem,seval,Zc] at d
 obtain ⟨⟨_,_⟩,hn⟩:=d
 subst hn
 obtain ⟨_,h⟩:=Zs h
 simp only[*,go_sem,seval]
 refine yB h (fun _ h=>?_) fun _ h=>?_
 replace h:=Zo h j
 cases h;exact yD
 exact yC h [] []
theorem Zfs {n_0:Int} {r:ByteArray} (h:XO n_0=some r):Zl prog J0 182 [(false,[.int .i64 n_0])] [(false,[(false,.str r)])]:=by
 refine fnk func182 rfl ?_
 unfold XO at h
 have f:Z2 ⟨#[45,57,50,50,51,51,55,50,48,51,54,56,53,52,55,55,53,56,48,56]⟩=true:=by decide
 have g:Z2 ⟨#[45]⟩=true:=by decide
 have i:Z2 ⟨#[]⟩=true:=by decide
 have j:¬((10:Int)=0):=by decide
 simp only[fnS,f182,Zm,go_sem,seval,f,g,i,j]
 refine yB h (fun _ h=>?_) fun _ h=>?_
 cases h;exact yD
 refine yB h (fun _ h=>?_) fun _ h=>?_
 refine Za h fun v1 k h=>Zb (Ziu k) ?_
 obtain ⟨l,h⟩:=Zs h
 simp only[go_sem] at l
 cases h;exact yD
 refine XH h (fun s st=>match s with | (a,b)=>IV [(0,yM (.int .i64 a)),(3,yM (.str b))] [] st) [] [] yF yD ?_
 rintro ⟨a,b⟩ ⟨sl,ob,n⟩ _ d _ h m
 simp only[go_sem,seval,Zc] at d
 obtain ⟨⟨_,_⟩,hn⟩:=d
 subst hn
 obtain ⟨_,h⟩:=Zs h
 simp only[*,go_sem,seval]
 refine yB h (fun _ h=>?_) fun _ h=>?_
 replace h:=Zo h m
 cases h;exact yD
 exact yC h [] []
end
section
theorem XU {a:ByteArray} {b:ByteArray} {r:(List ByteArray)} (h:Qd a b=some r):Zl prog J0 262 [(false,[.str a]),(false,[.str b])] [(false,[(false,.sl 9 1 (A0 Zw r))])]:=by
 refine fnk func262 rfl ?_
 unfold Qd at h
 have i:Z2 ⟨#[]⟩=true:=by decide
 simp only[fnS,f262,Zm,go_sem,seval,i]
 refine yB h (fun _ h=>?_) fun _ h=>?_
 cases h;exact yD
 refine XH h (fun s st=>match s with | (d,e,f)=>IV [(0,yM (.str a)),(1,yM (.str b)),(5,.p false [.row 0]),(6,yM (.int .i64 e)),(7,yM (.int .i64 f))] [.row 9 1 (A0 Zw d) 2] st) [] [16] yF yD ?_
 rintro ⟨d,e,f⟩ ⟨sl,ob,n⟩ _ g _ h k
 simp only[go_sem,seval,Zc] at g
 obtain ⟨⟨_,_,_,_,_⟩,_,hn⟩:=g
 subst hn
 simp only[*,go_sem,seval]
 refine yB h (fun _ h=>?_) fun _ h=>?_
 obtain ⟨_,h⟩:=Zs h
 simp only[*,go_sem,seval]
 refine yB h (fun _ h=>?_) fun _ h=>?_
 obtain ⟨_,h⟩:=Zs h
 obtain ⟨l,h⟩:=Zs h
 try simp only[Nat.reduceLeDiff] at l
 simp only[*,go_sem,seval]
 exact yC h [] [353]
 exact yC h [] [0]
 obtain ⟨_,h⟩:=Zs h
 obtain ⟨m,h⟩:=Zs h
 try simp only[Nat.reduceLeDiff] at m
 replace h:=Zo h k
 cases h;exact yD
theorem Y1 {a:(List ByteArray)} {b:ByteArray} {r:(List ByteArray)} (h:XA a b=some r):Zl prog J0 225 [(false,[.sl 9 1 (A0 Zw a)]),(false,[.str b])] [(false,[(false,.sl 9 1 (A0 Zw r))])]:=by
 refine fnk func225 rfl ?_
 unfold XA at h
 simp only[fnS,f225,Zm,go_sem,seval]
 refine Zh h (fun i s st=>match s with | (d,e)=>IV [(0,yM (yP a)),(1,yM (.str b)),(5,.p false [.row 0]),(6,yM (.bool e)),(7,yL i)] [.row 9 1 (A0 Zw d) 2] st) [] [16] yF yD ?_ ?_
 rintro _ _ ⟨d,e⟩ ⟨sl,ob,n⟩ _ f g l h _
 simp only[go_sem,seval,Zc] at g
 obtain ⟨⟨m,_,_,_,_⟩,_,hn⟩:=g
 subst hn
 have o:=WF.slotL l m (j:=0) rfl
 have:=ZB f
 have:=ZC f
 have:=Zj (ZA f) o
 simp only[*,go_sem,seval]
 refine yB h (fun _ h=>?_) fun _ h=>?_
 obtain ⟨q,h⟩:=Zs h
 try simp only[Nat.reduceLeDiff] at q
 simp only[*,go_sem,seval]
 exact yC h [] [321]
 refine yB h (fun _ h=>?_) fun _ h=>?_
 obtain ⟨t,h⟩:=Zs h
 try simp only[Nat.reduceLeDiff] at t
 simp only[*,go_sem,seval]
 exact yC h [] [321]
 refine yB h (fun _ h=>?_) fun _ h=>?_
 obtain ⟨u,h⟩:=Zs h
 try simp only[Nat.reduceLeDiff] at u
 simp only[*,go_sem,seval]
 exact yC h [] [433]
 obtain ⟨v,h⟩:=Zs h
 try simp only[Nat.reduceLeDiff] at v
 obtain ⟨w,h⟩:=Zs h
 try simp only[Nat.reduceLeDiff] at w
 simp only[*,go_sem,seval]
 exact yC h [] [513]
 rintro ⟨d,e⟩ ⟨sl,ob,n⟩ k _ h
 simp only[go_sem,seval,Zc] at k
 obtain ⟨⟨_,_,_,_,_⟩,_,hn⟩:=k
 subst hn
 have:=Zz (a.length)
 simp only[*,go_sem,seval]
 refine yB h (fun _ h=>?_) fun _ h=>?_
 cases h;exact yD
 obtain ⟨x,h⟩:=Zs h
 try simp only[Nat.reduceLeDiff] at x
 cases h;exact yD
theorem Ym {l_0:(List ByteArray)} {s_1:ByteArray} {r:Bool} (h:ZR l_0 s_1=some r):Zl prog J0 151 [(false,[.sl 9 1 (A0 Zw l_0)]),(false,[.str s_1])] [(false,[(false,.bool r)])]:=by
 refine fnk func151 rfl ?_
 unfold ZR at h
 simp only[fnS,f151,Zm,go_sem,seval]
 refine Zh h (fun i _ st=>IV [(0,yM (yP l_0)),(1,yM (.str s_1)),(5,yL i)] [] st) [] [] yF yD ?_ ?_
 rintro _ _ ⟨⟩ ⟨sl,ob,n⟩ _ a b e h f
 simp only[go_sem,seval,Zc] at b
 obtain ⟨⟨g,_,_⟩,hn⟩:=b
 subst hn
 have k:=WF.slotL e g (j:=0) rfl
 have:=ZB a
 have:=ZC a
 have:=Zj (ZA a) k
 simp only[*,go_sem,seval]
 refine yB h (fun _ h=>?_) fun _ h=>?_
 replace h:=Zo h f
 cases h;exact yD
 exact yC h [] []
 rintro ⟨⟩ ⟨sl,ob,n⟩ d _ h
 simp only[go_sem,seval,Zc] at d
 obtain ⟨⟨_,_,_⟩,hn⟩:=d
 subst hn
 have:=Zz (l_0.length)
 cases h;exact yD
theorem Zpc {kind_0:Int} {r:ByteArray} (h:Zfu kind_0=some r):Zl prog J0 287 [(false,[.int .i64 kind_0])] [(false,[(false,.str r)])]:=by
 refine fnk func287 rfl ?_
 unfold Zfu at h
 have a:Z2 ⟨#[32,33,61,32]⟩=true:=by decide
 have b:Z2 ⟨#[32,60,32]⟩=true:=by decide
 have c:Z2 ⟨#[32,61,32]⟩=true:=by decide
 have d:Z2 ⟨#[]⟩=true:=by decide
 simp only[fnS,f287,Zm,go_sem,seval,a,b,c,d]
 iterate 2 ((refine Ze h (fun _ h=>?_) fun _ h=>?_<;>try simp only[*,go_sem,seval]);cases h;simp only[*,go_sem,seval])
 cases h;exact yD
theorem Zkf {a_0:ByteArray} {b_1:ByteArray} {r:Int} (h:Zgl a_0 b_1=some r):Zl prog J0 119 [(false,[.str a_0]),(false,[.str b_1])] [(false,[(false,.int .i64 r)])]:=by
 refine fnk func119 rfl ?_
 unfold Zgl at h
 simp only[fnS,f119,Zm,go_sem,seval]
 refine yB h (fun a h=>?_) fun a h=>?_
 cases h;exact yD
 refine Ze h (fun b h=>?_) (fun b h=>?_)
 have c:=b
 try simp only[a,Ah,Aj] at c
 cases h;exact yD
 have c:=b
 try simp only[a,Ah,Aj] at c
 cases h;exact yD
theorem ZnT {l_0:(List ByteArray)} {r:(List ByteArray)} (h:Zeq l_0=some r):Zl prog J0 171 [(false,[.sl 9 1 (A0 Zw l_0)])] [(false,[(false,.sl 9 1 (A0 Zw r))])]:=by
 refine fnk func171 rfl ?_
 unfold Zeq at h
 simp only[fnS,f171,Zm,go_sem,seval]
 obtain ⟨_,h⟩:=Zs h
 cases h;exact yD
theorem ZlV {l_0:(List Zf)} {name_1:ByteArray} {r:Int} (h:Zev l_0 name_1=some r):Zl prog J0 246 [(false,[.sl 104 4 (A0 ZG l_0)]),(false,[.str name_1])] [(false,[(false,.int .i64 r)])]:=by
 refine fnk func246 rfl ?_
 unfold Zev at h
 simp only[fnS,f246,Zm,go_sem,seval]
 refine Zh h (fun i _ st=>IV [(0,yM (yR l_0)),(1,yM (.str name_1)),(5,yL i)] [] st) [] [] yF yD ?_ ?_
 rintro _ _ ⟨⟩ ⟨sl,ob,n⟩ _ a b e h f
 simp only[go_sem,seval,Zc] at b
 obtain ⟨⟨g,_,_⟩,hn⟩:=b
 subst hn
 have k:=WF.slotL e g (j:=0) rfl
 have:=ZB a
 have:=ZC a
 have:=Zj (ZA a) k
 simp only[*,go_sem,seval]
 refine yB h (fun _ h=>?_) fun _ h=>?_
 replace h:=Zo h f
 cases h;exact yD
 exact yC h [] []
 rintro ⟨⟩ ⟨sl,ob,n⟩ d _ h
 simp only[go_sem,seval,Zc] at d
 obtain ⟨⟨_,_,_⟩,hn⟩:=d
 subst hn
 have:=Zz (l_0.length)
 cases h;exact yD
theorem Zf8 {b_0:(List Zp)} {r:(List Zp)} (h:Zb7 b_0=some r):Zl prog J0 74 [(false,[.sl 135 2 (A0 ZZ b_0)])] [(false,[(false,.sl 135 2 (A0 ZZ r))])]:=by
 refine fnk func74 rfl ?_
 unfold Zb7 at h
 simp only[fnS,f74,Zm,go_sem,seval]
 obtain ⟨_,h⟩:=Zs h
 cases h;exact yD
theorem Zqy {a:(List Zp)} {b:ByteArray} {d:ByteArray} {r:(List Zp)} (h:Zh3 a b d=some r):Zl prog J0 268 [(false,[.sl 135 2 (A0 ZZ a)]),(false,[.str b]),(false,[.str d])] [(false,[(false,.sl 135 2 (A0 ZZ r))])]:=by
 refine fnk func268 rfl ?_
 unfold Zh3 at h
 simp only[fnS,f268,Zm,go_sem,seval]
 refine Zh h (fun i s st=>match s with | (e,f)=>IV [(0,yM (yT a)),(1,yM (.str b)),(2,yM (.str d)),(7,.p false [.row 0]),(8,yM (.bool f)),(9,yL i)] [.row 135 2 (A0 ZZ e) 2] st) [] [16] yF yD ?_ ?_
 rintro _ _ ⟨e,f⟩ ⟨sl,ob,n⟩ _ g l o h _
 simp only[go_sem,seval,Zc] at l
 obtain ⟨⟨q,_,_,_,_,_⟩,_,hn⟩:=l
 subst hn
 have t:=WF.slotL o q (j:=0) rfl
 have:=ZB g
 have:=ZC g
 have:=Zj (ZA g) t
 simp only[*,go_sem,seval]
 refine yB h (fun _ h=>?_) fun _ h=>?_
 obtain ⟨u,h⟩:=Zs h
 try simp only[Nat.reduceLeDiff] at u
 simp only[*,go_sem,seval]
 exact yC h [] [337]
 refine Ze h (fun k h=>?_) (fun k h=>?_)
 have v:=k
 obtain ⟨w,h⟩:=Zs h
 try simp only[Nat.reduceLeDiff] at w
 simp only[*,go_sem,seval]
 exact yC h [] [337]
 have v:=k
 obtain ⟨x,h⟩:=Zs h
 try simp only[Nat.reduceLeDiff] at x
 obtain ⟨y,h⟩:=Zs h
 try simp only[Nat.reduceLeDiff] at y
 simp only[*,go_sem,seval]
 exact yC h [] [465]
 rintro ⟨e,f⟩ ⟨sl,ob,n⟩ m _ h
 simp only[go_sem,seval,Zc] at m
 obtain ⟨⟨_,_,_,_,_,_⟩,_,hn⟩:=m
 subst hn
 have:=Zz (a.length)
 simp only[*,go_sem,seval]
 refine yB h (fun _ h=>?_) fun _ h=>?_
 cases h;exact yD
 obtain ⟨z,h⟩:=Zs h
 try simp only[Nat.reduceLeDiff] at z
 cases h;exact yD
theorem Zee {r_0:Zf} {r:(List Zr)} (h:Xv r_0=some r):Zl prog J0 115 [(true,ZG r_0)] [(false,[(true,.sl 60 5 (A0 ZK r))])]:=by
 refine fnk func115 rfl ?_
 unfold Xv at h
 simp only[fnS,f115,Zm,go_sem,seval]
 refine Zh h (fun i a st=>IV [(1,.bp 0 0),(3,.p false [.row 1]),(4,yL i)] [yZ 104 (ZG r_0),.row 60 5 (A0 ZK a) 1] st) [(true,32,1)] [0,32] yF yD ?_ ?_
 rintro _ _ a ⟨sl,ob,n⟩ _ b d f h _
 simp only[go_sem,seval,Zc] at d
 obtain ⟨⟨_,_,_⟩,g,_,hn⟩:=d
 subst hn
 have k:=WF.boxL f g (j:=2) rfl
 have:=ZB b
 have:=ZC b
 have:=Zj (ZA b) k
 simp only[*,go_sem,seval]
 refine yB h (fun _ h=>?_) fun _ h=>?_
 obtain ⟨l,h⟩:=Zs h
 try simp only[Nat.reduceLeDiff] at l
 simp only[*,go_sem,seval]
 exact yC h [] [0,306]
 exact yC h [] [0,1]
 rintro a ⟨sl,ob,n⟩ e _ h
 simp only[go_sem,seval,Zc] at e
 obtain ⟨⟨_,_,_⟩,_,_,hn⟩:=e
 subst hn
 have:=Zz (r_0.cond.length)
 cases h;exact yD
theorem ZiH {a_0:(List ByteArray)} {b_1:(List ByteArray)} {r:Bool} (h:ZdL a_0 b_1=some r):Zl prog J0 196 [(false,[.sl 9 1 (A0 Zw a_0)]),(false,[.sl 9 1 (A0 Zw b_1)])] [(false,[(false,.bool r)])]:=by
 refine fnk func196 rfl ?_
 unfold ZdL at h
 simp only[fnS,f196,Zm,go_sem,seval]
 refine yB h (fun _ h=>?_) fun _ h=>?_
 cases h;exact yD
 refine Zh h (fun i _ st=>IV [(0,yM (yP a_0)),(1,yM (yP b_1)),(5,yL i)] [] st) [] [] yF yD ?_ ?_
 rintro _ _ ⟨⟩ ⟨sl,ob,n⟩ _ a b e h f
 simp only[go_sem,seval,Zc] at b
 obtain ⟨⟨g,_,_⟩,hn⟩:=b
 subst hn
 have k:=WF.slotL e g (j:=0) rfl
 have:=ZB a
 have:=ZC a
 have:=Zj (ZA a) k
 obtain ⟨_,_,_,l,h⟩:=Zci h
 simp only[AK] at l
 simp only[*,go_sem,seval]
 refine yB h (fun _ h=>?_) fun _ h=>?_
 exact yC h [] []
 replace h:=Zo h f
 cases h;exact yD
 rintro ⟨⟩ ⟨sl,ob,n⟩ d _ h
 simp only[go_sem,seval,Zc] at d
 obtain ⟨⟨_,_,_⟩,hn⟩:=d
 subst hn
 have:=Zz (a_0.length)
 cases h;exact yD
theorem Zpb {a:(List Int)} {b:Int} {r:(List Int)} (h:Zga a b=some r):Zl prog J0 271 [(false,[.sl 3 1 (A0 Z5 a)]),(false,[.int .i64 b])] [(false,[(false,.sl 3 1 (A0 Z5 r))])]:=by
 refine fnk func271 rfl ?_
 unfold Zga at h
 simp only[fnS,f271,Zm,go_sem,seval]
 refine Zh h (fun i s st=>match s with | (d,e)=>IV [(0,yM (yQ a)),(1,yM (.int .i64 b)),(5,.p false [.row 0]),(6,yM (.bool e)),(7,yL i)] [.row 3 1 (A0 Z5 d) 2] st) [] [16] yF yD ?_ ?_
 rintro _ _ ⟨d,e⟩ ⟨sl,ob,n⟩ _ f k m h _
 simp only[go_sem,seval,Zc] at k
 obtain ⟨⟨o,_,_,_,_⟩,_,hn⟩:=k
 subst hn
 have q:=WF.slotL m o (j:=0) rfl
 have:=ZB f
 have:=ZC f
 have:=Zj (ZA f) q
 simp only[*,go_sem,seval]
 refine yB h (fun _ h=>?_) fun _ h=>?_
 obtain ⟨t,h⟩:=Zs h
 try simp only[Nat.reduceLeDiff] at t
 simp only[*,go_sem,seval]
 exact yC h [] [321]
 iterate 2 refine yB h (fun _ h=>?_) fun _ h=>?_
 obtain ⟨u,h⟩:=Zs h
 try simp only[Nat.reduceLeDiff] at u
 obtain ⟨v,h⟩:=Zs h
 try simp only[Nat.reduceLeDiff] at v
 simp only[*,go_sem,seval]
 exact yC h [] [513]
 obtain ⟨w,h⟩:=Zs h
 try simp only[Nat.reduceLeDiff] at w
 simp only[*,go_sem,seval]
 exact yC h [] [433]
 obtain ⟨x,h⟩:=Zs h
 try simp only[Nat.reduceLeDiff] at x
 simp only[*,go_sem,seval]
 exact yC h [] [321]
 rintro ⟨d,e⟩ ⟨sl,ob,n⟩ l _ h
 simp only[go_sem,seval,Zc] at l
 obtain ⟨⟨_,_,_,_,_⟩,_,hn⟩:=l
 subst hn
 have:=Zz (a.length)
 simp only[*,go_sem,seval]
 refine yB h (fun _ h=>?_) fun _ h=>?_
 cases h;exact yD
 obtain ⟨y,h⟩:=Zs h
 try simp only[Nat.reduceLeDiff] at y
 cases h;exact yD
theorem Ze0 {a_0:(List Int)} {b_1:(List Int)} {r:Bool} (h:ZaN a_0 b_1=some r):Zl prog J0 231 [(false,[.sl 3 1 (A0 Z5 a_0)]),(false,[.sl 3 1 (A0 Z5 b_1)])] [(false,[(false,.bool r)])]:=by
 refine fnk func231 rfl ?_
 unfold ZaN at h
 simp only[fnS,f231,Zm,go_sem,seval]
 refine yB h (fun _ h=>?_) fun _ h=>?_
 cases h;exact yD
 refine Zh h (fun i _ st=>IV [(0,yM (yQ a_0)),(1,yM (yQ b_1)),(5,yL i)] [] st) [] [] yF yD ?_ ?_
 rintro _ _ ⟨⟩ ⟨sl,ob,n⟩ _ a b e h f
 simp only[go_sem,seval,Zc] at b
 obtain ⟨⟨g,_,_⟩,hn⟩:=b
 subst hn
 have k:=WF.slotL e g (j:=0) rfl
 have:=ZB a
 have:=ZC a
 have:=Zj (ZA a) k
 obtain ⟨_,_,_,l,h⟩:=Zci h
 simp only[AK] at l
 simp only[*,go_sem,seval]
 refine yB h (fun _ h=>?_) fun _ h=>?_
 replace h:=Zo h f
 cases h;exact yD
 exact yC h [] []
 rintro ⟨⟩ ⟨sl,ob,n⟩ d _ h
 simp only[go_sem,seval,Zc] at d
 obtain ⟨⟨_,_,_⟩,hn⟩:=d
 subst hn
 have:=Zz (a_0.length)
 cases h;exact yD
theorem ZHf {l_0:(List Int)} {r:(List Int)} (h:ZFr l_0=some r):Zl prog J0 303 [(false,[.sl 3 1 (A0 Z5 l_0)])] [(false,[(false,.sl 3 1 (A0 Z5 r))])]:=by
 refine fnk func303 rfl ?_
 unfold ZFr at h
 simp only[fnS,f303,Zm,go_sem,seval]
 obtain ⟨_,h⟩:=Zs h
 cases h;exact yD
theorem ZEO {l_0:(List Int)} {rounds_1:(List Int)} {round_2:Int} {r:Bool} (h:ZDx l_0 rounds_1 round_2=some r):Zl prog J0 272 [(false,[.sl 3 1 (A0 Z5 l_0)]),(false,[.sl 3 1 (A0 Z5 rounds_1)]),(false,[.int .i64 round_2])] [(false,[(false,.bool r)])]:=by
 refine fnk func272 rfl ?_
 unfold ZDx at h
 simp only[fnS,f272,Zm,go_sem,seval]
 refine Zh h (fun i _ st=>IV [(0,yM (yQ l_0)),(1,yM (yQ rounds_1)),(2,yM (.int .i64 round_2)),(7,yL i)] [] st) [] [] yF yD ?_ ?_
 rintro _ _ ⟨⟩ ⟨sl,ob,n⟩ _ a b f h d
 simp only[go_sem,seval,Zc] at b
 obtain ⟨⟨g,_,_,_⟩,hn⟩:=b
 subst hn
 have k:=WF.slotL f g (j:=0) rfl
 have:=ZB a
 have:=ZC a
 have:=Zj (ZA a) k
 obtain ⟨_,_,_,_,h⟩:=Zci h
 simp only[*,go_sem,seval]
 refine yB h (fun _ h=>?_) fun _ h=>?_
 replace h:=Zo h d
 cases h;exact yD
 refine yB h (fun _ h=>?_) fun _ h=>?_
 replace h:=Zo h d
 cases h;exact yD
 exact yC h [] []
 rintro ⟨⟩ ⟨sl,ob,n⟩ e _ h
 simp only[go_sem,seval,Zc] at e
 obtain ⟨⟨_,_,_,_⟩,hn⟩:=e
 subst hn
 have:=Zz (l_0.length)
 cases h;exact yD
theorem ZFh {l_0:(List Int)} {rounds_1:(List Int)} {r:Bool} (h:ZDR l_0 rounds_1=some r):Zl prog J0 273 [(false,[.sl 3 1 (A0 Z5 l_0)]),(false,[.sl 3 1 (A0 Z5 rounds_1)])] [(false,[(false,.bool r)])]:=by
 refine fnk func273 rfl ?_
 unfold ZDR at h
 simp only[fnS,f273,Zm,go_sem,seval]
 refine Zh h (fun i _ st=>IV [(0,yM (yQ l_0)),(1,yM (yQ rounds_1)),(5,yL i)] [] st) [] [] yF yD ?_ ?_
 rintro _ _ ⟨⟩ ⟨sl,ob,n⟩ _ a b e h f
 simp only[go_sem,seval,Zc] at b
 obtain ⟨⟨g,_,_⟩,hn⟩:=b
 subst hn
 have k:=WF.slotL e g (j:=0) rfl
 have:=ZB a
 have:=ZC a
 have:=Zj (ZA a) k
 obtain ⟨_,_,_,_,h⟩:=Zci h
 simp only[*,go_sem,seval]
 refine yB h (fun _ h=>?_) fun _ h=>?_
 replace h:=Zo h f
 cases h;exact yD
 exact yC h [] []
 rintro ⟨⟩ ⟨sl,ob,n⟩ d _ h
 simp only[go_sem,seval,Zc] at d
 obtain ⟨⟨_,_,_⟩,hn⟩:=d
 subst hn
 have:=Zz (l_0.length)
 cases h;exact yD
theorem Zch {l_0:(List Int)} {nodes_1:Int} {r:Bool} (h:YW l_0 nodes_1=some r):Zl prog J0 194 [(false,[.sl 3 1 (A0 Z5 l_0)]),(false,[.int .i64 nodes_1])] [(false,[(false,.bool r)])]:=by
 refine fnk func194 rfl ?_
 unfold YW at h
 simp only[fnS,f194,Zm,go_sem,seval]
 refine Zh h (fun i _ st=>IV [(0,yM (yQ l_0)),(1,yM (.int .i64 nodes_1)),(7,yM (yQ l_0)),(8,yL l_0.length),(9,yL i)] [] st) [] [] yF yD ?_ ?_
 rintro _ _ ⟨⟩ ⟨sl,ob,n⟩ _ a d f h b
 simp only[go_sem,seval,Zc] at d
 obtain ⟨⟨g,_,_,_,_⟩,hn⟩:=d
 subst hn
 have k:=WF.slotL f g (j:=0) rfl
 have:=ZB a
 have:=ZC a
 have:=Zj (ZA a) k
 simp only[*,go_sem,seval]
 refine yB h (fun _ h=>?_) fun _ h=>?_
 replace h:=Zo h b
 cases h;exact yD
 refine yB h (fun _ h=>?_) fun _ h=>?_
 replace h:=Zo h b
 cases h;exact yD
 refine yB h (fun _ h=>?_) fun _ h=>?_
 obtain ⟨_,_,_,_,h⟩:=Zci h
 simp only[*,go_sem,seval]
 refine yB h (fun _ h=>?_) fun _ h=>?_
 replace h:=Zo h b
 cases h;exact yD
 exact yC h [] []
 exact yC h [] []
 rintro ⟨⟩ ⟨sl,ob,n⟩ e _ h
 simp only[go_sem,seval,Zc] at e
 obtain ⟨⟨_,_,_,_,_⟩,hn⟩:=e
 subst hn
 have:=Zz (l_0.length)
 cases h;exact yD
theorem ZOx {code_0:(List Int)} {i_1:Int} {r:Int} (h:ZOs code_0 i_1=some r):Zl prog J0 54 [(false,[.sl 5 1 (A0 Zek code_0)]),(false,[.int .i64 i_1])] [(false,[(false,.int .i64 r)])]:=by
 refine fnk func54 rfl ?_
 unfold ZOs at h
 simp only[fnS,f54,Zm,go_sem,seval]
 refine yB h (fun _ h=>?_) fun _ h=>?_
 cases h;exact yD
 obtain ⟨_,_,_,_,h⟩:=Zci h
 cases h;exact yD
end
end Go.Proofs.YtekbmedphidcgaaGreatDoor
