/- Texts of this proof, joined: BFrz, BOpsM, BOps9, BCall, BCall2, BReg, BDraw, BAny. What each holds is said at its theorems. -/
import Derived.Test.YtekbmedphidcgaaGreatDoorDerivedOfQ1
import Derived.MapKept
import Derived.Orders
set_option linter.unusedSimpArgs false
set_option linter.unusedVariables false
open Array renaming getD_eq_getD_getElem?→AA,getElem?_eq_some_iff→AM,getElem?_setIfInBounds_ne→AP,ext'→AU,getElem?_setIfInBounds→AZ
open Bool renaming and_eq_true→AE,or_eq_true→AL
open List renaming mem_append→A4,mem_map→A6,mem_cons→A7,all_eq_true→AC,not_mem_nil→AG,range'→AJ,map_congr_left→AK,mem_range'_1→AO,map_cons→AR,nodup_append→AT,flatMap_cons→AW,range'_succ→AX,mem_flatMap→AY,mem_of_getElem?→Aa,cons_append→Ab,range→Ac,nil_sublist→Ad,nil_append→Ae,map_nil→Ag,map_map→Ai,length_cons→Aj,mem_filterMap→Ak,nodup_cons→Al
open List.Sublist renaming refl→AQ,append→Af
open List.cons renaming injEq→AI
open Nat renaming le_refl→A9,le_of_ble_eq_true→AD,le_trans→AN,lt_of_lt_of_le→Ah
open Option renaming map_eq_some_iff→A3,bind_eq_some_iff→A5,map_some→AB,bind_some→AF,map_none→AH,getD_some→AS
open Option.some renaming injEq→A0
open Prod.mk renaming injEq→A8
namespace Go.Proofs.YtekbmedphidcgaaGreatDoor
section
open Go.RowKit
section
variable {P:Program} {W:QK} {U:Nat→Prop} {key:Nat} {st:St} {g:Gh} {w w':World} {a:Act} {tt:Nat→Option TI}
theorem Zqt [NW] {α:Type} (f:Nat→α) (k:Nat):upd f k (f k)=f:=by
 funext j;by_cases hj:j=k
 ·subst hj;rw [Zy]
 ·rw [ZI _ _ hj]
theorem AVR.less [NW] {g1:Gh} {x:AV} {v:Value} (h:AVR g w x v) (hv:g1.val=g.val) (ho:Y7 g1 g):AVR g1 w x v:=by
 cases x with
 | c x=>obtain ⟨L,h1,h2⟩:=h;exact ⟨L,h1,fun b mb hb=>h2 b mb (ho.own b hb)⟩
 | n x=>exact NR.move h (fun _ _ _=>rfl) (ho.grow _)
 | row k=>exact ⟨h.1.trans (by rw [hv]),h.2⟩
 | nil e m=>exact h
 | dead=>exact h
theorem SVR.less [NW] {g1:Gh} {x:SV} {v:Value} (h:SVR g w x v) (hv:g1.val=g.val) (ho:Y7 g1 g):SVR g1 w x v:=
 h.move (U:=fun _=>True) (by (cases x<;>try trivial);(intro y my;cases y<;>trivial);(intro y my z mz;cases z<;>trivial)) (fun k _=>by rw [hv]) (fun _ _ _=>rfl) (ho.grow _) (A9 _)
theorem ZhF [NW] {ob:Nat→Ob} (hI:HI W g ob w) (k:Nat):∃g1:Gh,HI W g1 (upd ob k (Z4 (ob k))) w∧g1.val=g.val∧Y7 g1 g∧((∃e m xs d,ob k=.row e m xs d)→∀b∈g.O k++g.D k,¬g1.low b):=by
 cases hk:ob k with
 | gone=>exact ⟨g,by rw [show Z4 Ob.gone=ob k from hk.symm,Zqt];exact hI,rfl,Y7.refl _,by simp⟩
 | box t cs=>exact ⟨g,by rw [show Z4 (Ob.box t cs)=ob k from hk.symm,Zqt];exact hI,rfl,Y7.refl _,by simp⟩
 | map kk vk kv=>exact ⟨g,by rw [show Z4 (Ob.map kk vk kv)=ob k from hk.symm,Zqt];exact hI,rfl,Y7.refl _,by simp⟩
 | row e m xs d=>
  obtain ⟨hm,cs,L,o1,o2,o3,o5⟩:=hI.deep hk
  let g1:Gh:=⟨g.val,upd g.O k [],upd g.D k [],g.Z⟩
  have hO:∀j b,b∈g1.O j→j≠k∧b∈g.O j:=fun j b mb=>by
   by_cases hj:j=k
   ·subst hj;simp [g1,upd] at mb
   ·exact ⟨hj,by simpa [g1,upd,hj] using mb⟩
  have hD:∀j b,b∈g1.D j→j≠k∧b∈g.D j:=fun j b mb=>by
   by_cases hj:j=k
   ·subst hj;simp [g1,upd] at mb
   ·exact ⟨hj,by simpa [g1,upd,hj] using mb⟩
  have hOD:∀j b,b∈g1.O j++g1.D j→j≠k∧b∈g.O j++g.D j:=fun j b mb=>by
   rcases A4.1 mb with m1 | m1
   ·exact ⟨(hO j b m1).1,by simp [(hO j b m1).2]⟩
   ·exact ⟨(hD j b m1).1,by simp [(hD j b m1).2]⟩
  have hown:∀b,g1.own b→g.own b:=fun b hb=>by
   rcases hb with ⟨j,mj⟩ | hz
   ·exact .inl ⟨j,(hO j b mj).2⟩
   ·exact .inr hz
  have hless:Y7 g1 g:=.of hown fun j b mb=>⟨j,(hD j b mb).2⟩
  have hnot:∀b∈(g.val k).ownBlock.toList,¬g1.own b:=fun b mb hb=>by
   rcases o5 with ⟨_,q,_⟩ | ⟨_,q,_⟩ | ⟨_,_,_,q⟩
   ·have mk:b∈g.O k++g.D k:=by simp [q,mb]
    rcases hb with ⟨j,mj⟩ | hz
    ·exact hI.apart k j (fun e=>(hO j b mj).1 e.symm) b mk (by simp [(hO j b mj).2])
    ·exact hI.nz mk hz
   ·have mk:b∈g.O k++g.D k:=by simp [q,mb]
    rcases hb with ⟨j,mj⟩ | hz
    ·exact hI.apart k j (fun e=>(hO j b mj).1 e.symm) b mk (by simp [(hO j b mj).2])
    ·exact hI.nz mk hz
   ·exact q b mb (hown b hb)
  refine ⟨g1,⟨hI.below,fun j=>?_,fun j=>?_,fun i j hij b mb mj=>?_,fun j b mb=>?_,hI.gz,hI.zx,hI.nw⟩,rfl,hless,fun _ b mb hb=>?_⟩
  rotate_right
  ·rcases hb with (⟨j,mj⟩ | hz) | ⟨j,mj⟩
   ·exact hI.apart k j (fun e=>(hO j b mj).1 e.symm) b mb (by simp [(hO j b mj).2])
   ·exact hI.nz mb hz
   ·exact hI.apart k j (fun e=>(hD j b mj).1 e.symm) b mb (by simp [(hD j b mj).2])
  ·by_cases hj:j=k
   ·subst hj
    rw [Zy]
    refine ⟨hm,cs,L,o1,o2,.inr (.inr ⟨rfl,by simp [g1,upd],by simp [g1,upd],fun b mb=>?_⟩)⟩
    rcases A4.1 mb with m1 | m1
    ·exact hnot b m1
    ·exact fun hb=>o3 b m1 (hown b hb)
   ·rw [ZI _ _ hj]
    have ho:=hI.obs j
    cases hoj:ob j with
    | gone=>rw [hoj] at ho;exact ⟨by simpa [g1,upd,hj] using ho.1,by simpa [g1,upd,hj] using ho.2⟩
    | box t ds=>
     rw [hoj] at ho
     obtain ⟨b,vs,h1,h2,h3,h4,h5⟩:=ho
     exact ⟨b,vs,h1,by simpa [g1,upd,hj] using h2,by simpa [g1,upd,hj] using h3,h4,h5.mono fun x u _ hx=>AVR.less hx rfl hless⟩
    | map kk vk kv=>
     rw [hoj] at ho
     obtain ⟨b,es,c,h1,h2,h3,h4⟩:=ho
     exact ⟨b,es,c,h1,by simpa [g1,upd,hj] using h2,by simpa [g1,upd,hj] using h3,h4⟩
    | row e' m' xs' d'=>
     rw [hoj] at ho
     obtain ⟨hm',cs',L',p1,p2,p3⟩:=ho
     refine ⟨hm',cs',L',p1,p2,?_⟩
     have e1:g1.O j=g.O j:=by simp [g1,upd,hj]
     have e2:g1.D j=g.D j:=by simp [g1,upd,hj]
     rw [e1,e2]
     rcases p3 with p3 | ⟨q1,q2,q3,q4⟩ | ⟨q1,q2,q3,q4⟩
     ·exact .inl p3
     ·exact .inr (.inl ⟨q1,q2,q3,fun b mb hb=>q4 b mb (hown b hb)⟩)
     ·exact .inr (.inr ⟨q1,q2,q3,fun b mb hb=>q4 b mb (hown b hb)⟩)
  ·by_cases hj:j=k
   ·subst hj;simp [g1,upd]
   ·have:=hI.nodup j;simpa [g1,upd,hj] using this
  ·exact hI.apart i j hij b (hOD i b mb).2 (hOD j b mj).2
  ·rw [ZI _ _ (hOD j b mb).1];exact hI.plain j b (hOD j b mb).2
theorem Zuq [NW] {ob:Nat→Ob} (hI:HI W g ob w) {k t:Nat} {cs:List AV} (hk:ob k=.box t cs):∃g1:Gh,HI W g1 (upd ob k .gone) w∧g1.val=g.val∧Y7 g1 g∧∃b vs,g.val k=.pointer (some ⟨b,0,none⟩)∧¬g1.own b∧b<w.heap.size∧Q9 w b 0 vs∧ZH (AVR g w) cs vs:=by
 have ho:=hI.obs k
 rw [hk] at ho
 obtain ⟨b,vs,h1,h2,h3,h4,h5⟩:=ho
 let g1:Gh:=⟨g.val,upd g.O k [],upd g.D k [],g.Z⟩
 have hO:∀j x,x∈g1.O j++g1.D j→j≠k∧x∈g.O j++g.D j:=fun j x mx=>by
  by_cases hj:j=k
  ·subst hj;simp [g1,upd] at mx
  ·exact ⟨hj,by simpa [g1,upd,hj] using mx⟩
 have hown:∀x,g1.own x→g.own x∧x≠b:=fun x hx=>by
  rcases hx with ⟨j,mj⟩ | hz
  ·have:=hO j x (by simp [mj])
   refine ⟨.inl ⟨j,?_⟩,fun e=>?_⟩
   ·have hj:=this.1
    simpa [g1,upd,hj] using mj
   ·subst e
    exact hI.apart j k this.1 x this.2 (by simp [h2])
  ·exact ⟨.inr hz,fun e=>by subst e;exact hI.nz (k:=k) (by simp [h2]) hz⟩
 have hless:Y7 g1 g:=.of (fun x hx=>(hown x hx).1) fun j b mb=>⟨j,by
  have hj:=(hO j b (by simp [mb])).1
  simpa [g1,upd,hj] using mb⟩
 refine ⟨g1,⟨hI.below,fun j=>?_,fun j=>?_,fun i j hij x mx mj=>?_,fun j x mx=>?_,hI.gz,hI.zx,hI.nw⟩,rfl,hless,b,vs,h1,fun hb=>(hown b hb).2 rfl,(AM.1 h4).1,fun j u hj=>?_,h5⟩
 ·by_cases hj:j=k
  ·subst hj;rw [Zy];exact ⟨by simp [g1,upd],by simp [g1,upd]⟩
  ·rw [ZI _ _ hj]
   have ho:=hI.obs j
   have e1:g1.O j=g.O j:=by simp [g1,upd,hj]
   have e2:g1.D j=g.D j:=by simp [g1,upd,hj]
   cases hoj:ob j with
   | gone=>rw [hoj] at ho;exact ⟨e1.trans ho.1,e2.trans ho.2⟩
   | box t ds=>
    rw [hoj] at ho
    obtain ⟨b,vs,h1,h2,h3,h4,h5⟩:=ho
    exact ⟨b,vs,h1,e1.trans h2,e2.trans h3,h4,h5.mono fun x u _ hx=>AVR.less hx rfl hless⟩
   | map kk vk kv=>
    rw [hoj] at ho
    obtain ⟨b,es,c,h1,h2,h3,h4⟩:=ho
    exact ⟨b,es,c,h1,e1.trans h2,e2.trans h3,h4⟩
   | row e' m' xs' d'=>
    rw [hoj] at ho
    obtain ⟨hm',cs',L',p1,p2,p3⟩:=ho
    refine ⟨hm',cs',L',p1,p2,?_⟩
    rw [e1,e2]
    rcases p3 with p3 | ⟨q1,q2,q3,q4⟩ | ⟨q1,q2,q3,q4⟩
    ·exact .inl p3
    ·exact .inr (.inl ⟨q1,q2,q3,fun b mb hb=>q4 b mb (hown b hb).1⟩)
    ·exact .inr (.inr ⟨q1,q2,q3,fun b mb hb=>q4 b mb (hown b hb).1⟩)
 ·by_cases hj:j=k
  ·subst hj;simp [g1,upd]
  ·have:=hI.nodup j;simpa [g1,upd,hj] using this
 ·exact hI.apart i j hij x (hO i x mx).2 (hO j x mj).2
 ·rw [ZI _ _ (hO j x mx).1];exact hI.plain j x (hO j x mx).2
 ·rw [Nat.zero_add,cell_of_row w b j vs.toArray t (0,0) h4];simpa using hj
theorem ZoZ [NW] {ob:Nat→Ob} (hI:HI W g ob w) {k e m:Nat} {xs:List (List CT)} (hk:ob k=.row e m xs 0):∃L,RC w (.sl e m xs) (g.val k) L∧∀b∈L,¬g.own b:=by
 obtain ⟨hm,cs,L1,o1,o2,o3,o5⟩:=hI.deep hk
 obtain ⟨A,cap,L0,s1,s2,s3,s4,s5⟩:=Sl.row o1
 refine ⟨L0++L1,⟨A,cap,cs,L0,L1,s1,s2,s3,rfl,hm,s4,o2⟩,fun b mb=>?_⟩
 rcases A4.1 mb with m1 | m1
 ·rcases o5 with ⟨q,_⟩ | ⟨q,_⟩ | ⟨_,_,_,q⟩
  ·omega
  ·omega
  ·exact q b (s5.subset m1)
 ·exact o3 b m1
theorem REs.dropS {m:Nat}:∀{xs:List (List CT)} {cs:List Value} {L:List Nat} (l:Nat),REs w m xs cs L→∃L',REs w m (xs.drop l) (cs.drop (l * m)) L'∧L'.Sublist L
 | xs,cs,L,0,h=>⟨L,by simpa using h,AQ _⟩
 | [],cs,L,l+1,h=>⟨[],by obtain ⟨rfl,rfl⟩:=h;simp [REs],Ad _⟩
 | x::r,_,_,l+1,⟨c1,c2,L1,L2,rfl,rfl,h3,h4⟩=>by
  obtain ⟨L',h5,h6⟩:=REs.dropS l h4
  refine ⟨L',?_,h6.trans (List.sublist_append_right _ _)⟩
  have e:(l+1) * m=c1.length+l * m:=by rw [h3.2,Nat.add_mul];omega
  have e2:(c1++c2).drop (c1.length+l * m)=c2.drop (l * m):=by
   rw [List.drop_append,List.drop_of_length_le (Nat.le_add_right _ _),Ae,Nat.add_sub_cancel_left]
  rw [e,e2]
  simpa using h5
theorem Zth [NW] (htt:∀t i,tt t=some i→TOk P t i) (hI:HI W g st.ob w) (hU:StU U st) (hkey:¬U key) {t k e m d l:Nat} {xs:List (List CT)} (hk:st.ob k=.row e m xs d) (hd0:¬d=0) (hsz:ZiK (tt t)=m) {lo:Option SV} {vx:Value} {vlo:Option Value} (hl:loB xs.length lo=some l) (hx:SVR g w (.p false [.row k]) vx)
  (hlo:Zkq g w lo vlo) {s:Sem Next} (hs:s=(do pure (.value (←Instr.sliceAt t vx vlo none none)))):Fin P W U key st g w s (.p false [.row key],[(k,.gone),(key,.row e m (xs.drop l) d)]):=by
 obtain ⟨hm,cs,L,o1,o2,o3,o4,o5⟩:=hI.deepO hk hd0
 have hv:=ZeK hx
 subst hv
 obtain ⟨A,cap,hv,hnc,hcm⟩:=ZcS o1
 obtain ⟨b1,b2,_⟩:=Zho (P:=P) (w:=w) (g:=g) (b:=true) (len:=xs.length) (cap:=cap) (h:=xs.length) (hi:=none) (vhi:=none) rfl hl hlo trivial hnc
 obtain ⟨e',b',z',hti⟩:∃e' b' z',tt t=some (.slice e' m b' z'):=by
  unfold ZiK at hsz
  split at hsz
  ·rename_i h1;subst hsz;exact ⟨_,_,_,h1⟩
  ·omega
 obtain ⟨hu,_,_,⟨ie,zv,hie,hsi,_⟩,_⟩:=htt t _ hti
 have hO:g.O k=(Value.slice A xs.length cap).ownBlock.toList:=by rw [o4,hv]
 have o1':=o1
 rw [hv] at o1'
 obtain ⟨t1,t2⟩:=Zqw (l:=l) o1' b2
 generalize hw:(Value.slice (if cap=l then A else A.map (·.add (l * m))) (xs.length - l) (cap - l))=v' at t1 t2
 have hrun:s.run P w=.ok (.value v') w:=by
  subst hs
  have:(Instr.sliceAt t (.slice A xs.length cap) vlo none none).run P w=.ok v' w:=by
   rw [←hw]
   simp [Instr.sliceAt,Yh hu,Instr.slice,b1,Xp hie,hsi]
  rw [hv]
  simp only[Sem.run_bind,this,Result.andThen_ok,Sem.run_pure]
 obtain ⟨M,r1,r2⟩:=o2.dropS l
 have hUk:U k:=Classical.byContradiction fun hn=>by have:=hU.gone _ hn;rw [hk] at this;simp at this
 have hDm:∀b∈(if d=2 then M else []),b∈g.D k:=fun b mb=>by
  split at mb
  ·rename_i hd
   rcases o5 with ⟨_,q⟩ | ⟨q,_⟩
   ·rw [q];exact r2.subset mb
   ·omega
  ·simp at mb
 have hlen:(xs.drop l).length=xs.length - l:=by simp
 obtain ⟨i1,i2⟩:=hI.turn (key:=key) (U:=U) (w':=w) (v:=v') (O:=v'.ownBlock.toList) (D:=if d=2 then M else []) (o:=.row e m (xs.drop l) d) hU.ob hkey [k]
  (fun j mj=>by simp at mj;subst mj;exact hUk) hI.below (A9 _) (fun b hb hn=>rfl)
  (fun b mb=>.inl ⟨k,by simp,by rw [hO,←t2];exact mb⟩)
  (fun b mb=>.inl ⟨k,by simp,A4.2 (.inr (hDm b mb))⟩)
  (by
   have hn:=hI.nodup k
   refine hn.sublist (Af (by rw [hO,←t2];exact AQ _) ?_)
   split
   ·rename_i hd
    rcases o5 with ⟨_,q⟩ | ⟨q,_⟩
    ·rw [q];exact r2
    ·omega
   ·exact Ad _)
  (fun b mb=>by
   have hmem:b∈g.O k++g.D k:=by
    rcases A4.1 mb with mb | mb
    ·exact A4.2 (.inl (by rw [hO,←t2];exact mb))
    ·exact A4.2 (.inr (hDm b mb))
   obtain ⟨p1,p2⟩:=hI.plain k b hmem
   exact ⟨p1,p2.of (by rw [hk];rfl)⟩)
  (fun hown=>⟨hm,cs.drop (l * m),M,by simp only[Gh.turn,Zy];rw [hlen];exact t1,r1,by
   rcases o5 with ⟨q,_⟩ | ⟨q,_⟩
   ·exact .inl ⟨q,by simp [Gh.turn,Zy],by simp [Gh.turn,q]⟩
   ·refine .inr (.inl ⟨q,by simp [Gh.turn,Zy],by simp [Gh.turn,q],fun b mb ho=>?_⟩)
    rcases ZdX ho with mo | ⟨j,_,_,mj⟩ | hz
    ·exact o3 b (r2.subset mb) (.inl ⟨k,by rw [hO,←t2];exact mo⟩)
    ·exact o3 b (r2.subset mb) (.inl ⟨j,mj⟩)
    ·exact o3 b (r2.subset mb) (.inr hz)⟩)
 have hwf:=Zh7 (key:=key) (o:=.row e m (xs.drop l) d) hU [k] trivial
 refine ⟨_,v',w,.inl hrun,i1,⟨_,rfl,⟨by simp [Gh.turn,Zy],?_⟩⟩,i2,fun y my=>by simp at my;subst my;exact Zij,hwf.1,hwf.2⟩
 rw [←hw]
 simp [Value.oneCell']
theorem Zso [NW] (htt:∀t i,tt t=some i→TOk P t i) (hI:HI W g st.ob w) (hU:StU U st) (hkey:¬U key) {t:Nat} {x:SV} {r:SV × List (Nat × Ob)} {lo hi:Option SV} {vx:Value} {vlo vhi:Option Value} (h:Qi st key (tt t) lo hi x=some r) (hx:SVR g w x vx)
  (hlo:Zkq g w lo vlo) (hhi:Zkq g w hi vhi) {s:Sem Next} (hs:s=(do pure (.value (←Instr.sliceAt t vx vlo vhi none)))):Fin P W U key st g w s r:=by
 unfold Qi at h
 split at h
 ·rename_i k
  split at h
  rotate_left
  ·simp at h
  split at h
  ·rename_i e m xs d hk
   split at h
   ·rename_i hsz
    split at h
    ·rename_i hmv
     obtain ⟨l,hl,rfl⟩:=A3.1 h
     unfold mvS at hmv
     split at hmv
     ·have hd0:¬d=0:=fun e=>by subst e;simp at hmv
      cases vhi with
      | some _=>exact hhi.elim
      | none=>exact Zth htt hI hU hkey hk hd0 hsz hl hx hlo hs
     ·simp at hmv
    obtain ⟨q,hq,h⟩:=A5.1 h
    obtain ⟨l,hl,rfl⟩:=A3.1 h
    obtain ⟨g1,i1,i2,i3,_⟩:=ZhF hI k
    rw [hk] at i1
    obtain ⟨L,t1,t2⟩:=ZoZ i1 (Zy st.ob k (.row e m xs 0))
    have hvx:vx=g1.val k:=by rw [i2];exact ZeK hx
    have hx1:SVR g1 w (.p false [.c (.sl e m xs)]) vx:=⟨_,rfl,L,hvx ▸ t1,t2⟩
    have lo1:Zkq g1 w lo vlo:=by
     cases lo<;>cases vlo<;>simp only[Zkq] at hlo ⊢
     exact hlo.less i2 i3
    have hi1:Zkq g1 w hi vhi:=by
     cases hi<;>cases vhi<;>simp only[Zkq] at hhi ⊢
     exact hhi.less i2 i3
    obtain ⟨cv,c1,c2,c3⟩:=Zor (t:=t) (U:=U) (g:=g1) (P:=P) (x:=.p false [.c (.sl e m xs)]) (v:=.p false [.c (.sl e m ((xs.take q).drop l))]) htt (by simp only[ZkW,hsz,if_true,hq,hl,AF,AB]) hx1 lo1 hi1
    have hUk:U k:=Classical.byContradiction fun hn=>by have:=hU.gone _ hn;rw [hk] at this;simp at this
    refine ⟨g1,cv,w,.inl (by rw [hs];simp only[Sem.run_bind,c1,Result.andThen_ok,Sem.run_pure]),i1,c2,fun y v _ hy=>hy.less i2 i3,c3.mono fun _=>.inl,fun j=>?_,fun j hj=>?_⟩
    ·show obU _ (upd st.ob k (.row e m xs 0) j)
     by_cases hjk:j=k
     ·subst hjk;rw [Zy];trivial
     ·rw [ZI _ _ hjk];exact (hU.ob j).mono fun _=>.inl
    ·show upd st.ob k (.row e m xs 0) j=_
     rw [ZI _ _ (show j≠k from fun e=>hj (.inl (e ▸ hUk)))];exact hU.gone j fun h=>hj (.inl h)
   ·simp at h
  ·simp at h
 ·obtain ⟨v,hv,rfl⟩:=A3.1 h
  obtain ⟨cv,c1,c2,c3⟩:=Zor (U:=U) htt hv hx hlo hhi
  exact QY hI hU (by rw [hs];simp only[Sem.run_bind,c1,Result.andThen_ok,Sem.run_pure]) c2 c3
 ·simp at h
end
end
section
open Go.RowKit Go.MapKept
theorem Zlo {kk:PK} {d:TypeDesc} {k:Value} (hd:Zc4 kk d=true) (hk:Zgw kk k):IsKey d k:=by
 cases kk<;>cases d<;>simp [Zc4] at hd<;>cases k<;>simp_all [Zgw,IsKey]
theorem Zrf {kk:PK} {a b:Value} (ha:Zgw kk a) (hb:Zgw kk b):vEq a b=true↔a=b:=by
 cases kk<;>cases a<;>simp [Zgw] at ha<;>cases b<;>simp [Zgw] at hb<;>simp_all [vEq,sEq]
theorem Zg1 [NW] {kk vk:PK} {d:TypeDesc} {k:Value} (hd:Zc4 kk d=true) (hk:Zgw kk k):∀(l:List MapEntry) (i:Nat),Zib kk vk (l.map fun e=>(e.key,e.val))→
  (Instr.findNow d k l i=some none∧Zjs (l.map fun e=>(e.key,e.val)) k=none∧∀v,Zd6 (l.map fun e=>(e.key,e.val)) k v=(l.map fun e=>(e.key,e.val))++[(k,v)])∨
  ∃j e,Instr.findNow d k l i=some (some (i+j,e.val))∧l[j]?=some e∧e.key=k∧Zjs (l.map fun e=>(e.key,e.val)) k=some e.val∧Zgw vk e.val∧∀v,Zd6 (l.map fun e=>(e.key,e.val)) k v=(l.modify j fun e=>{ e with key:=k,val:=v }).map fun e=>(e.key,e.val)
 | [],i,_=>.inl ⟨rfl,rfl,fun _=>rfl⟩
 | e::l,i,h=>by
  have he:=h (e.key,e.val) (by simp)
  obtain ⟨r,hr,hiff⟩:=sameNow_of_keys (Zlo hd hk) (Zlo hd he.1)
  cases r with
  | true=>
   have hek:=hiff.1 rfl
   have hv:vEq k e.key=true:=(Zrf hk he.1).2 hek
   exact .inr ⟨0,e,by simp [Instr.findNow,hr],rfl,hek.symm,by simp [Zjs,hv],he.2,fun v=>by simp [Zd6,hv]⟩
  | false=>
   have hne:¬vEq k e.key=true:=fun q=>by have:=hiff.2 ((Zrf hk he.1).1 q);cases this
   rcases Zg1 hd hk l (i+1) (fun p m=>h p (by simp only[AR,A7];exact .inr m)) with ⟨h1,h2,h3⟩ | ⟨j,e',h1,h2,h3,h4,h5,h6⟩
   ·exact .inl ⟨by simp [Instr.findNow,hr,h1],by simp [Zjs,hne,h2],fun v=>by simp [Zd6,hne,h3]⟩
   ·exact .inr ⟨j+1,e',by simp [Instr.findNow,hr,h1];omega,by simpa using h2,h3,by simp [Zjs,hne,h4],h5,fun v=>by simp [Zd6,hne,h6]⟩
section
variable {P:Program} {W:QK} {U:Nat→Prop} {key:Nat} {st:St} {g:Gh} {w w':World} {a:Act} {tt:Nat→Option TI}
theorem Zx2 [NW] {vk:PK} {v:Value} (h:Zgw vk v):AVR g w (avV v) v:=by
 cases vk<;>cases v<;>simp [Zgw] at h<;>first | exact ⟨[],⟨rfl,rfl⟩,by simp⟩ | exact ⟨[],⟨rfl,rfl,h⟩,by simp⟩
theorem ZAC (v:Value):avU U (avV v):=by cases v<;>trivial
theorem Znk [NW] {kk:PK} {x:SV} {v k:Value} (h:Zrz kk x=some k) (hx:SVR g w x v):v=k∧Zgw kk k:=by
 unfold Zrz at h
 split at h
 ·split at h<;>simp only[A0,reduceCtorEq] at h
  rename_i e;subst e h
  exact ⟨Za1 hx,rfl⟩
 ·simp only[A0] at h;subst h
  exact ⟨(Zhm hx).1,(Zhm hx).2⟩
 ·simp only[A0] at h;subst h
  exact ⟨ZeW hx,trivial⟩
 ·simp at h
theorem Zks (htt:∀t i,tt t=some i→TOk P t i) {t:Nat} {kk vk:PK} (h:ZdE kk vk (tt t)=true):TOk P t (.map kk vk):=by
 unfold ZdE at h
 split at h
 ·rename_i a b hti
  simp only[AE,decide_eq_true_eq] at h
  rw [h.1,h.2] at hti
  exact htt _ _ hti
 ·simp at h
theorem ZrT [NW] {vk:PK} {zv:Value} (h:QV (ZdG vk) zv=true):AVR g w (ZdG vk) zv∧avU U (ZdG vk):=by
 refine ⟨Zep h,?_⟩
 cases vk<;>trivial
theorem ZpQ [NW] (htt:∀t i,tt t=some i→TOk P t i) {t:Nat} {kk vk:PK} {kv:List (Value × Value)} {i v:SV} {vi:Value} {ok:Bool} {b c:Nat} {es:Array MapEntry} (hm:ZdE kk vk (tt t)=true) (h:ZpB kk vk kv i ok=some v) (hi:SVR g w i vi) (hb:w.heap[b]?=some (.map es c)) (hes:Zc2 es=kv) (hok:Zib kk vk kv):
  ∃cv,(Instr.lookup t (.map (some b)) vi ok).run P w=.ok cv w∧SVR g w v cv∧svU U v:=by
 obtain ⟨kt,et,dk,dv,inf,zv,h1,h2,h3,h4,h5,h6,h7,h8⟩:=Zks htt hm
 unfold ZpB at h
 obtain ⟨k,hk,rfl⟩:=A3.1 h
 obtain ⟨rfl,hkk⟩:=Znk hk hi
 subst hes
 have hz:=ZrT (g:=g) (w:=w) (U:=U) h8
 have hze:(zeroValue et).run P w=.ok zv w:=Zhp h6 h7
 have key:∃r:Option (Nat × Value),(Instr.findKey kt vi es.toList).run P w=.ok r w∧(match r with | some p=>Zjs (Zc2 es) vi=some p.2∧Zgw vk p.2 | none=>Zjs (Zc2 es) vi=none):=by
  rcases Zg1 h3 hkk es.toList 0 hok with ⟨f1,f2,_⟩ | ⟨j,e,f1,f2,f3,f4,f5,_⟩
  ·exact ⟨none,run_findKey h2 f1,f2⟩
  ·exact ⟨some _,run_findKey h2 f1,f4,f5⟩
 obtain ⟨r,hr,hr2⟩:=key
 have hck:(Instr.checkKey es.isEmpty 10000 kt vi).run P w=.ok () w:=run_checkKey (P:=P) (w:=w) h2 (Zlo h3 hkk) es.isEmpty 9999
 have hg:(getObj b).run P w=.ok (.map es c) w:=by simp [getObj,Sem.run,hb]
 have hfin:∃rv rb,(Instr.lookup t (.map (some b)) vi ok).run P w=.ok (if ok then .tuple #[rv,.bool rb] else rv) w∧AVR g w (ZaV (Zc2 es) vi (ZdG vk)) rv∧avU U (ZaV (Zc2 es) vi (ZdG vk))∧ZdR (Zc2 es) vi=rb:=by
  cases r with
  | none=>
   simp only at hr2
   refine ⟨zv,false,?_,by simp only[ZaV,hr2];exact hz.1,by simp only[ZaV,hr2];exact hz.2,by simp [ZdR,hr2]⟩
   unfold Instr.lookup
   simp only[Sem.run_bind,Yh h1,Result.andThen_ok,hg,Sem.run_pure,hck,hr,hze]
  | some p=>
   simp only at hr2
   refine ⟨p.2,true,?_,by simp only[ZaV,hr2.1];exact Zx2 hr2.2,by simp only[ZaV,hr2.1];exact ZAC _,by simp [ZdR,hr2.1]⟩
   unfold Instr.lookup
   simp only[Sem.run_bind,Yh h1,Result.andThen_ok,hg,Sem.run_pure,hck,hr]
 obtain ⟨rv,rb,q1,q2,q3,q4⟩:=hfin
 refine ⟨_,q1,?_,?_⟩
 ·cases ok with
  | true=>exact ⟨[rv,.bool rb],rfl,⟨_,rfl,q2⟩,⟨_,rfl,[],⟨by rw [q4],rfl⟩,by simp⟩,trivial⟩
  | false=>exact ⟨_,rfl,q2⟩
 ·cases ok with
  | true=>
   intro y my
   simp only[A7,AG,or_false] at my
   rcases my with rfl | rfl
   ·intro z mz;simp at mz;subst mz;exact q3
   ·intro z mz;simp at mz;subst mz;trivial
  | false=>intro z mz;simp at mz;subst mz;exact q3
theorem ZuJ [NW] (htt:∀t i,tt t=some i→TOk P t i) (hI:HI W g st.ob w) {t:Nat} {x i v:SV} {vx vi:Value} {ok:Bool} (h:Zfb st (tt t) x i ok=some v) (hx:SVR g w x vx) (hi:SVR g w i vi):
  ∃cv,(Instr.lookup t vx vi ok).run P w=.ok cv w∧SVR g w v cv∧svU U v:=by
 unfold Zfb at h
 split at h
 ·rename_i k
  split at h
  ·rename_i kk vk kv hk
   split at h
   ·rename_i hm
    have hv:=ZeK hx
    have ho:=hI.obs k
    rw [hk] at ho
    obtain ⟨b,es,c,h1,_,_,h4,h5,h6⟩:=ho
    rw [hv,h1]
    exact ZpQ htt hm h hi h4 h5 h6
   ·simp at h
  ·simp at h
 ·rename_i kk vk kv
  split at h
  ·rename_i hm
   obtain ⟨y,hy,hx⟩:=hx
   simp at hy;subst hy
   obtain ⟨L,⟨b,es,c,rfl,h4,h5,h6,_⟩,_⟩:=hx
   exact ZpQ htt hm h hi h4 h5 h6
  ·simp at h
 ·simp at h
theorem ZwM [NW] (htt:∀t i,tt t=some i→TOk P t i) (hI:HI W g st.ob w) (hU:StU U st) (hkey:¬U key) {t:Nat} {r:SV × List (Nat × Ob)} (h:Zl6 key (tt t)=some r) {s:Sem Next} (hs:s=(do pure (.value (←Instr.makeMap t none)))):Fin P W U key st g w s r:=by
 unfold Zl6 at h
 split at h
 ·rename_i kk vk hti
  simp only[A0] at h;subst h
  have hrun:s.run P w=.ok (.value (.map (some w.heap.size))) (w.alloc (.map #[] 0)):=by
   subst hs
   have h0:(Instr.makeMap t none).run P w=.ok (.map (some w.heap.size)) (w.alloc (.map #[] 0)):=rfl
   simp only[Sem.run_bind,h0,Result.andThen_ok,Sem.run_pure]
  have hb:Below w.heap.size w (w.alloc (.map #[] 0)):=(Below.refl _ _).alloc (A9 _) _
  have hnew:=heap_alloc_new w (.map #[] 0)
  obtain ⟨h1,h2⟩:=hI.turn (key:=key) (U:=U) (w':=w.alloc (.map #[] 0)) (v:=.map (some w.heap.size)) (O:=[w.heap.size]) (D:=[]) (o:=.map kk vk []) hU.ob hkey [] (by simp)
   (hI.below.trans hb) hb.size (fun b hb' _=>hb.block b hb') (by simp) (by simp) (by simp) (fun b mb=>by
    simp at mb;subst mb
    exact ⟨.inl hI.below.size,_,_,hnew⟩)
   (fun _=>⟨w.heap.size,#[],0,by simp [Gh.turn,upd],by simp [Gh.turn,upd],by simp [Gh.turn,upd],hnew,rfl,fun _ m=>by simp at m⟩)
  have hwf:=Zh7 (key:=key) (o:=.map kk vk []) hU [] trivial
  exact ⟨_,_,_,.inl hrun,h1,⟨_,rfl,⟨by simp [Gh.turn,upd],by simp [Value.oneCell']⟩⟩,h2,fun y my=>by simp at my;subst my;exact Zij,hwf.1,hwf.2⟩
 ·simp at h
theorem Zvp [NW] (htt:∀t i,tt t=some i→TOk P t i) {t:Nat} {kk vk:PK} {kv:List (Value × Value)} {k v:Value} {b c:Nat} {es:Array MapEntry} (hm:ZdE kk vk (tt t)=true) (hk:Zgw kk k) (hv:Zgw vk v) (hb:w.heap[b]?=some (.map es c)) (hes:Zc2 es=kv) (hok:Zib kk vk kv):
  ∃es' c',(Instr.mapUpdate t (.map (some b)) k v).run P w=.ok () { w with heap:=w.heap.setIfInBounds b (.map es' c') }∧Zc2 es'=Zd6 kv k v∧Zib kk vk (Zd6 kv k v):=by
 obtain ⟨kt,et,dk,dv,inf,zv,h1,h2,h3,h4,h5,h6,h7,h8⟩:=Zks htt hm
 subst hes
 have hck:(Instr.checkKey false 10000 kt k).run P w=.ok () w:=run_checkKey (P:=P) (w:=w) h2 (Zlo h3 hk) false 9999
 have hg:(getObj b).run P w=.ok (.map es c) w:=by simp [getObj,Sem.run,hb]
 have hst:∀o,(setObj b o).run P w=.ok () { w with heap:=w.heap.setIfInBounds b o }:=fun o=>by simp [setObj,Sem.run,hb]
 have hput:∀{kv:List (Value × Value)},Zib kk vk kv→Zib kk vk (Zd6 kv k v):=fun {kv}=>by
  induction kv with
  | nil=>intro _ p m;simp [Zd6] at m;subst m;exact ⟨hk,hv⟩
  | cons q r ih=>
   intro h p m
   simp only[Zd6] at m
   split at m
   ·rcases A7.1 m with rfl | m
    ·exact ⟨hk,hv⟩
    ·exact h p (by simp [m])
   ·rcases A7.1 m with rfl | m
    ·exact h p (by simp)
    ·exact ih (fun q mq=>h q (by simp [mq])) p m
 rcases Zg1 h3 hk es.toList 0 hok with ⟨f1,_,f2⟩ | ⟨j,e,f1,f2,f3,_,_,f4⟩
 ·refine ⟨es.push { key:=k,val:=v,born:=c },c+1,?_,?_,hput hok⟩
  ·have hf:=run_findKey (P:=P) (w:=w) h2 f1
   unfold Instr.mapUpdate
   simp only[Sem.run_bind,Yh h1,Result.andThen_ok,hg,hck,hf,hst]
  ·rw [show Zd6 (Zc2 es) k v=_ from f2 v];simp [Zc2]
 ·rw [Nat.zero_add] at f1
  have hf:=run_findKey (P:=P) (w:=w) h2 f1
  have hj:es[j]?=some e:=by simpa using f2
  have hkey:(Instr.keyThatStays k k).run P w=.ok k w:=run_keyThatStays (Zlo h3 hk)
  refine ⟨es.modify j fun e=>{ e with key:=k,val:=v },c,?_,?_,hput hok⟩
  ·unfold Instr.mapUpdate
   simp only[Sem.run_bind,Yh h1,Result.andThen_ok,hg,hck,hf,hst,hj,AB,AS,f3,hkey]
  ·rw [show Zd6 (Zc2 es) k v=_ from f4 v];simp [Zc2]
theorem ZxO [NW] (htt:∀t i,tt t=some i→TOk P t i) (hI:HI W g st.ob w) (hU:StU U st) {t:Nat} {x i v:SV} {u:List (Nat × Ob)} {vx vi vv:Value} (h:Zsw st (tt t) x i v=some u) (hx:SVR g w x vx) (hi:SVR g w i vi) (hv:SVR g w v vv) {s:Sem Next} (hs:s=(do Instr.mapUpdate t vx vi vv;pure .skip)):Fin P W U key st g w s (.und,u):=by
 unfold Zsw at h
 split at h
 ·rename_i k
  split at h
  ·rename_i kk vk kv hk
   split at h
   ·rename_i hm
    obtain ⟨a,ha,h⟩:=A5.1 h
    obtain ⟨b',hb',rfl⟩:=A3.1 h
    obtain ⟨rfl,hka⟩:=Znk ha hi
    obtain ⟨rfl,hkb⟩:=Znk hb' hv
    have hvx:=ZeK hx
    have ho:=hI.obs k
    rw [hk] at ho
    obtain ⟨b,es,c,h1,h2,h3,h4,h5,h6⟩:=ho
    obtain ⟨es',c',r1,r2,r3⟩:=Zvp (w:=w) htt hm hka hkb h4 h5 h6
    have hrun:s.run P w=.ok .skip { w with heap:=w.heap.setIfInBounds b (.map es' c') }:=by
     rw [hs,hvx,h1];simp only[Sem.run_bind,r1,Result.andThen_ok,Sem.run_pure]
    obtain ⟨q1,q2⟩:=heap_set (o':=.map es' c') h4
    have hlt:b<w.heap.size:=(AM.1 h4).1
    have hsz:({ w with heap:=w.heap.setIfInBounds b (.map es' c') }:World).heap.size=w.heap.size:=by simp
    have hbW:W.heap.size≤b∨W.x b:=(hI.plain k b (by simp [h2])).1
    have hUk:U k:=Classical.byContradiction fun hn=>by have:=hU.gone _ hn;rw [hk] at this;simp at this
    have hmv:∀b',b'<w.heap.size→¬g.own b'→({ w with heap:=w.heap.setIfInBounds b (.map es' c') }:World).heap[b']?=w.heap[b']?:=fun b' _ hn=>q2 b' fun e=>hn (.inl ⟨k,by simp [h2,e]⟩)
    refine ⟨g,undef,_,.inr ⟨hrun,rfl⟩,?_,rfl,fun x u hx hu=>hu.move hx (fun _ _=>rfl) hmv (X7.refl _ _) (Nat.le_of_eq hsz.symm),trivial,fun q=>?_,fun q hq=>?_⟩
    ·refine hI.step (U:=U) (fun q=>q=k) ?_ rfl (fun b' _ hn=>q2 b' fun e=>hn k rfl (by simp [h2,e])) (fun q hq=>⟨ZI _ _ hq,rfl,rfl,rfl⟩) hU.ob (fun _ _=>rfl) (X7.refl _ _) (fun q hq=>?_)
     ·exact ⟨hI.below.os,hI.below.tape,hI.below.output,AN hI.below.size (Nat.le_of_eq hsz.symm),fun q hq hx=>by
       show (w.heap.setIfInBounds b (.map es' c'))[q]?=_
       rw [q2 q (fun e=>by subst e;rcases hbW with h | h;omega;exact hx h)];exact hI.below.block q hq hx⟩
     ·subst hq
      refine ⟨?_,hI.nodup q,fun b' m=>?_,hI.apart q⟩
      ·simp only[Zk,Zy]
       exact ⟨b,es',c',h1,h2,h3,q1,r2,r3⟩
      ·simp [h2,h3] at m
       subst m
       refine ⟨hbW,?_⟩
       simp only[Zk,Zy]
       exact ⟨_,_,q1⟩
    ·simp only[Zk,upd]
     split
     ·trivial
     ·exact (hU.ob q).mono fun _=>.inl
    ·simp only[Zk,upd]
     split
     ·rename_i e;subst e;exact absurd (.inl hUk) hq
     ·exact hU.gone q fun h=>hq (.inl h)
   ·simp at h
  ·simp at h
 ·simp at h
theorem Zre [NW]:∀{cs:List AV} {l:List CT} {vs:List Value},Zhy.zBox cs=some l→ZH (AVR g w) cs vs→∃L,RCs w l vs L∧∀b∈L,¬g.own b
 | [],l,[],h,_=>by simp [Zhy.zBox] at h;subst h;exact ⟨[],⟨rfl,rfl⟩,by simp⟩
 | [],_,_::_,_,h=>h.elim
 | _::_,_,[],_,h=>h.elim
 | x::r,l,v::vs,h,hr=>by
  cases x with
  | c x=>
   simp only[Zhy.zBox] at h
   obtain ⟨b,hb,rfl⟩:=A3.1 h
   obtain ⟨L,h1,h2⟩:=Zre hb hr.2
   obtain ⟨L0,h3,h4⟩:=hr.1
   refine ⟨L0++L,⟨v,vs,L0,L,rfl,rfl,h3,h1⟩,fun b mb=>?_⟩
   rcases A4.1 mb with m | m
   ·exact h4 b m
   ·exact h2 b m
  | _=>simp [Zhy.zBox] at h
theorem Zsz {x:SV} {r:CT × List (Nat × Ob)} (h:Zhy st x=some r):(∀p∈r.2,p.2=Ob.gone∧∃t cs,st.ob p.1=.box t cs):=by
 unfold Zhy at h
 split at h
 ·split at h
  ·rename_i k _ t cs hk
   obtain ⟨l,_,rfl⟩:=A3.1 h
   intro p mp;simp at mp;subst mp
   exact ⟨rfl,t,cs,hk⟩
  ·simp at h
 ·simp only[A0] at h;subst h;intro p mp;simp at mp
 ·simp at h
theorem Zvl [NW] {ob:Nat→Ob} (hI:HI W g ob w) {x:SV} {r:CT × List (Nat × Ob)} {v:Value} (h:Zhy st x=some r) (hob:∀p∈r.2,ob p.1=st.ob p.1) (hx:SVR g w x v):
  ∃g1:Gh,HI W g1 (Zk ob r.2) w∧g1.val=g.val∧Y7 g1 g∧∃L,RC w r.1 v L∧∀b∈L,¬g1.own b:=by
 unfold Zhy at h
 split at h
 ·rename_i k
  split at h
  ·rename_i t cs hk
   obtain ⟨l,hl,rfl⟩:=A3.1 h
   have hk':ob k=.box t cs:=(hob (k,.gone) (by simp)).trans hk
   obtain ⟨g1,i1,i2,i3,b,vs,j1,j2,j3,j4,j5⟩:=Zuq hI hk'
   obtain ⟨L,l1,l2⟩:=Zre hl j5
   obtain ⟨b',e1,rfl⟩:=hx
   rw [j1] at e1
   simp at e1
   subst e1
   refine ⟨g1,i1,i2,i3,b::L,⟨b,vs,L,rfl,j3,rfl,j4,l1⟩,fun x mx=>?_⟩
   rcases A7.1 mx with rfl | mx
   ·exact j2
   ·exact fun hx=>l2 x mx (i3.own x hx)
  ·simp at h
 ·simp only[A0] at h;subst h
  obtain ⟨y,hy,hx⟩:=hx
  simp at hy;subst hy
  obtain ⟨L,h1,h2⟩:=hx
  exact ⟨g,hI,rfl,Y7.refl _,L,h1,h2⟩
 ·simp at h
theorem Zo7 [NW]:∀{xs:List SV} {ob:Nat→Ob} {g:Gh} {r:List CT × List (Nat × Ob)} {vs:List Value},HI W g ob w→ZdD st xs=some r→(r.2.map (·.1)).Nodup→(∀p∈r.2,ob p.1=st.ob p.1)→ZH (SVR g w) xs vs→
  ∃g1:Gh,HI W g1 (Zk ob r.2) w∧g1.val=g.val∧Y7 g1 g∧∃L,RCs w r.1 vs L∧∀b∈L,¬g1.own b
 | [],ob,g,r,vs,hI,h,_,_,hr=>by
  simp [ZdD] at h;subst h
  cases vs with
  | nil=>exact ⟨g,hI,rfl,Y7.refl _,[],⟨rfl,rfl⟩,by simp⟩
  | cons _ _=>exact hr.elim
 | x::xs,ob,g,r,[],hI,h,_,_,hr=>hr.elim
 | x::xs,ob,g,r,v::vs,hI,h,hn,hob,hr=>by
  simp only[ZdD] at h
  obtain ⟨a,ha,h⟩:=A5.1 h
  obtain ⟨b,hb,rfl⟩:=A3.1 h
  simp only[List.map_append,AT] at hn
  obtain ⟨n1,n2,n3⟩:=hn
  obtain ⟨g1,i1,i2,i3,L1,l1,l2⟩:=Zvl hI ha (fun p m=>hob p (by simp [m])) hr.1
  have hob2:∀p∈b.2,Zk ob a.2 p.1=st.ob p.1:=fun p mp=>by
   have hne:∀q∈a.2,q.1≠p.1:=fun q mq=>n3 q.1 (A6.2 ⟨q,mq,rfl⟩) p.1 (A6.2 ⟨p,mp,rfl⟩)
   have:∀(u:List (Nat × Ob)) (ob:Nat→Ob),(∀q∈u,q.1≠p.1)→Zk ob u p.1=ob p.1:=by
    intro u
    induction u with
    | nil=>intro ob _;rfl
    | cons q u ih=>intro ob h;rw [Zk,ih _ fun z mz=>h z (by simp [mz])];exact ZI _ _ fun e=>h q (by simp) e.symm
   rw [this _ _ hne]
   exact hob p (by simp [mp])
  have hr2:ZH (SVR g1 w) xs vs:=hr.2.mono fun x u _ hx=>hx.less i2 i3
  obtain ⟨g2,k1,k2,k3,L2,m1,m2⟩:=Zo7 i1 hb n2 hob2 hr2
  refine ⟨g2,?_,k2.trans i2,k3.trans i3,L1++L2,⟨v,vs,L1,L2,rfl,rfl,l1,m1⟩,fun x mx=>?_⟩
  ·rw [Yy];exact k1
  ·rcases A4.1 mx with m | m
   ·exact fun hx=>l2 x m (k3.own x hx)
   ·exact m2 x m
theorem Zk5 [NW]:∀{xs:List SV} {r:List CT × List (Nat × Ob)},ZdD st xs=some r→∀p∈r.2,p.2=Ob.gone∧∃t cs,st.ob p.1=.box t cs
 | [],r,h=>by simp [ZdD] at h;subst h;intro p m;simp at m
 | x::xs,r,h=>by
  simp only[ZdD] at h
  obtain ⟨a,ha,h⟩:=A5.1 h
  obtain ⟨b,hb,rfl⟩:=A3.1 h
  intro p m
  rcases A4.1 m with m | m
  ·exact Zsz ha p m
  ·exact Zk5 hb p m
theorem ZzB [NW] (hI:HI W g st.ob w) (hU:StU U st) {f:FuncId} {xs:List SV} {vs:List Value} {r:List CT × List (Nat × Ob)} (h:ZdD st xs=some r) (hn:(r.2.map (·.1)).Nodup) (hr:ZH (SVR g w) xs vs) {s:Sem Next} (hs:s.run P w=.ok (.value (.func (.func f) #[] vs.toArray)) w):Fin P W U key st g w s (.p false [.c (.fn f r.1)],r.2):=by
 obtain ⟨g1,i1,i2,i3,L,l1,l2⟩:=Zo7 hI h hn (fun _ _=>rfl) hr
 have hg:=Zk5 h
 have hall:∀(u:List (Nat × Ob)) (ob:Nat→Ob) (k:Nat),(∀p∈u,p.2=Ob.gone)→Zk ob u k=ob k∨Zk ob u k=.gone:=by
  intro u
  induction u with
  | nil=>intro ob k _;exact .inl rfl
  | cons q u ih=>
   intro ob k h
   rw [Zk]
   rcases ih (upd ob q.1 q.2) k (fun p m=>h p (by simp [m])) with e | e
   ·rw [e]
    by_cases hk:k=q.1
    ·right;rw [hk,Zy];exact h q (by simp)
    ·left;exact ZI _ _ hk
   ·exact .inr e
 refine ⟨g1,_,w,.inl hs,i1,⟨_,rfl,L,⟨vs,rfl,l1⟩,l2⟩,fun x u _ hx=>hx.less i2 i3,Y8 _,fun k=>?_,fun k hk=>?_⟩
 ·rcases hall r.2 st.ob k (fun p m=>(hg p m).1) with e | e
  ·rw [e];exact (hU.ob k).mono fun _=>.inl
  ·rw [e];trivial
 ·rcases hall r.2 st.ob k (fun p m=>(hg p m).1) with e | e
  ·rw [e];exact hU.gone k fun h=>hk (.inl h)
  ·exact e
end
end
section
open Go.RowKit
section
variable {P:Program} {W:QK} {U:Nat→Prop} {key:Nat} {st:St} {g:Gh} {w w':World} {a:Act} {tt:Nat→Option TI}
theorem Zed:∀(ts:List TypeId) (xs:List Operand),(ZhJ ts xs).map (·.2)=xs
 | _,[]=>by cases ‹List TypeId›<;>rfl
 | [],x::xs=>by simp [ZhJ,Zed [] xs]
 | t::ts,x::xs=>by simp [ZhJ,Zed ts xs]
theorem Zsj [NW] (htt:∀t i,tt t=some i→TOk P t i) {t:Nat} {z:List AV} (h:Zj8 (tt t)=some z):∃zv vs,(zeroValue t).run P w=.ok zv w∧zv.cells=(vs:List Value).toArray∧ZH (AVR g w) z vs∧X6 U z:=by
 unfold Zj8 at h
 split at h<;>simp only[A0,reduceCtorEq] at h<;>subst h<;>rename_i hti
 ·obtain ⟨d,zv,i,h1,h2,h3,h4,h5,h6⟩:=htt t _ hti
  have hr:AVR g w _ zv:=Zep h6
  exact ⟨zv,[zv],Zhp h3 h4,by rw [ZmH hr.one],⟨hr,trivial⟩,fun y m=>by
   simp at m;subst m
   cases y<;>first | trivial | simp [QV] at h6⟩
 ·obtain ⟨fields,i,zvs,h1,h2,h3,h4,h5,_⟩:=htt t _ hti
  obtain ⟨q1,q2⟩:=Zhc (g:=g) (w:=w) (U:=U) h5
  exact ⟨.agg zvs,zvs.toList,Zhp h2 h4,by simp [Value.cells],q1,q2⟩
 ·obtain ⟨_,hm,_,_,j,h1,h2,h3⟩:=htt t _ hti
  exact ⟨_,[.slice none 0 0],Zhp h1 h3,rfl,⟨rfl,trivial⟩,fun y m=>by simp at m;subst m;trivial⟩
set_option maxHeartbeats 1000000 in
theorem ZmA [NW] (htt:∀t i,tt t=some i→TOk P t i) (o:Oper) {r:SV × List (Nat × Ob)} (hr:opE tt key o st=some r) (hI:HI W g st.ob w) (hS:∀t,SVR g w (st.sl t) (a.tmps.getD t undef)) (hU:StU U st) (hkey:¬U key):
  Fin P W U key st g w (execOp a.eval o) r:=by
 have ev:=fun t x=>Zi6 (P:=P) (a:=a) (g:=g) (w:=w) (U:=U) htt hS hU t x
 have pur:∀{v:Option SV} {s:Sem Value},Zay v=some r→execOp a.eval o=(do pure (.value (←s)))→(∀u,v=some u→∃cv,s.run P w=.ok cv w∧SVR g w u cv∧svU U u)→Fin P W U key st g w (execOp a.eval o) r:=fun {v s} hp he hv=>by
  obtain ⟨u,hu,rfl⟩:=A3.1 hp
  obtain ⟨cv,c1,c2,c3⟩:=hv u hu
  exact QY hI hU (by rw [he];simp only[Sem.run_bind,c1,Result.andThen_ok,Sem.run_pure]) c2 c3
 obtain ⟨dst,op,ty,pos,af,gd⟩:=o
 cases op with
 | move x=>
  simp only[opE,A0] at hr;subst hr
  exact QY hI hU rfl (ev ty x).1 (ev ty x).2
 | assign x=>
  simp only[opE,A0] at hr;subst hr
  exact QY hI hU rfl (ev ty x).1 (ev ty x).2
 | pick c x y=>
  simp only[opE] at hr
  split at hr
  ·rename_i b hb
   simp only[A0] at hr;subst hr
   have hc:=(ev 0 c).1
   rw [hb] at hc
   obtain ⟨cv,c1,c2,c3⟩:=Zvs (P:=P) hc (ev ty x) (ev ty y)
   exact QY hI hU c1 c2 c3
  ·simp at hr
 | alloc t=>
  simp only[opE] at hr
  obtain ⟨z,hz,rfl⟩:=A3.1 hr
  obtain ⟨zv,vs,h1,h2,h3,h4⟩:=Zsj (P:=P) (g:=g) (w:=w) (U:=U) htt hz
  exact ZtI hI hU hkey h3 h4 (by simp [execOp,Instr.alloc,h1,newVar,newRow,h2])
 | box t x=>
  simp only[opE] at hr
  split at hr
  ·rename_i ag cs hx
   simp only[A0] at hr;subst hr
   have hv:=ev t x
   rw [hx] at hv
   obtain ⟨vs,h2,h3⟩:=PVR.cells hv.1
   exact ZtI hI hU hkey h3 hv.2 (by simp [execOp,Instr.box,newVar,newRow,h2])
  ·simp at hr
 | build t parts=>
  simp only[opE] at hr
  split at hr
  ·rename_i fs n z hti
   obtain ⟨cs,hcs,rfl⟩:=A3.1 hr
   obtain ⟨cv,c1,c2,c3⟩:=Zud (P:=P) htt hS hU hti hcs
   exact QY hI hU (by simp only[execOp,Sem.run_bind,c1,Result.andThen_ok,Sem.run_pure]) c2 c3
  ·simp at hr
 | buildSlice t len parts=>
  simp only[opE] at hr
  split at hr
  ·rename_i e m bytes z hti
   obtain ⟨⟨xs,ks,d⟩,h1,hr⟩:=A5.1 hr
   split at hr
   ·rename_i hc
    simp only[A0] at hr;subst hr
    exact Zwb htt hI hS hU hkey hti h1 hc.1 hc.2.1 hc.2.2.1 rfl
   ·simp at hr
  ·simp at hr
 | load t x=>exact pur hr rfl fun u hu=>Zq2 htt hI hU hu (ev 0 x).1
 | store t x v=>
  simp only[opE] at hr
  obtain ⟨u,hu,rfl⟩:=A3.1 hr
  have hx:=ev 0 x
  have hv:=ev t v
  unfold Zk4 at hu
  split at hu
  ·rename_i k off ag vs he1 he2
   rw [he1] at hx
   rw [he2] at hv
   split at hu
   ·rename_i tb cs hk
    split at hu
    ·rename_i hc
     simp only[A0] at hu;subst hu
     exact ZtA htt hI hU hk hc.1 hc.2.2 hx.1 hv.1 hv.2 hc.2.1 rfl
    ·simp at hu
   ·simp at hu
  ·rename_i k m i off ag vs he1 he2
   rw [he1] at hx
   rw [he2] at hv
   split at hu
   ·rename_i e m' xs d hk
    obtain ⟨y,hy,hu⟩:=A5.1 hu
    obtain ⟨ys,hys,hu⟩:=A5.1 hu
    split at hu
    ·rename_i hc
     simp only[A0] at hu;subst hu
     obtain ⟨rfl,hc1,hc2,hc3,hc4⟩:=hc
     exact ZsL htt hI hU hk (by omega) hy hys hc1 hc3 hx.1 hv.1 hc2 rfl
    ·simp at hu
   ·simp at hu
  ·simp at hu
 | nilCheck x=>
  simp only[opE] at hr
  have hx:=ev 0 x
  split at hr<;>simp only[A0,reduceCtorEq] at hr<;>subst hr<;>rename_i he<;>rw [he] at hx
  ·obtain ⟨b,_,hv⟩:=hx.1
   exact QY hI hU (cv:=a.eval x) (by simp [execOp,hv]) hx.1 hx.2
  ·obtain ⟨b,_,_,_,hv⟩:=hx.1
   exact QY hI hU (cv:=a.eval x) (by simp [execOp,hv]) hx.1 hx.2
  ·obtain ⟨b,_,_,_,hv,_⟩:=hx.1
   exact QY hI hU (cv:=a.eval x) (by simp [execOp,hv]) hx.1 hx.2
  ·obtain ⟨b,_,_,hv,_⟩:=ZqT hx.1
   exact QY hI hU (cv:=a.eval x) (by simp [execOp,hv]) hx.1 hx.2
 | binOp op t x y t'=>exact pur hr rfl fun u hu=>ZuQ htt hu (ev t x).1 (ev t y).1
 | unOp op t x=>exact pur hr rfl fun u hu=>ZBh hu (ev 0 x).1
 | convert s t x=>exact pur hr rfl fun u hu=>Zs1 htt hI hu (ev 0 x).1
 | makeSlice t n c=>
  simp only[opE] at hr
  have hn:=(ev 0 n).1
  have hc:=(ev 0 c).1
  unfold ZpS at hr
  split at hr
  ·rename_i n' c' he1 he2
   rw [he1] at hn
   rw [he2] at hc
   split at hr
   ·rename_i e m bytes z hti
    obtain ⟨ze,hz,hr⟩:=A5.1 hr
    split at hr
    ·rename_i hq
     simp only[A0] at hr;subst hr
     obtain ⟨h0,rfl,h1⟩:=hq
     have e1:=Za1 hn
     have e2:=Za1 hc
     obtain ⟨n'',rfl⟩:=Int.eq_ofNat_of_zero_le h0
     simp only[Int.toNat_natCast]
     exact ZvA htt hI hU hkey hti hz (by omega) (by simp only[execOp,e1,e2])
    ·simp at hr
   ·simp at hr
  ·simp at hr
 | slice t x lo hi mx=>
  cases mx with
  | some _=>simp [opE] at hr
  | none=>
   refine Zso (vlo:=lo.map a.eval) (vhi:=hi.map a.eval) htt hI hU hkey hr (ev 0 x).1 ?_ ?_ rfl
   ·cases lo with
    | none=>trivial
    | some y=>exact (ev 0 y).1
   ·cases hi with
    | none=>trivial
    | some y=>exact (ev 0 y).1
 | fieldAddr t x f=>
  simp only[opE] at hr
  split at hr
  ·rename_i fs n z hti
   refine pur hr rfl fun u hu=>?_
   obtain ⟨fi,hf,hu⟩:=A5.1 hu
   exact Zy0 htt hti hf hu (ev 0 x).1 (ev 0 x).2
  ·simp at hr
 | field t x f=>
  simp only[opE] at hr
  split at hr
  ·rename_i fs n z hti
   exact pur hr rfl fun u hu=>Zx1 htt hti hu (ev 0 x).1 (ev 0 x).2
  ·simp at hr
 | indexAddr t x i=>
  simp only[opE] at hr
  split at hr
  ·rename_i e m bytes z hti
   exact pur hr rfl fun u hu=>ZAb htt hI hU hti hu (ev 0 x).1 (ev 0 x).2 (ev 0 i).1
  ·simp at hr
 | index t x i=>exact pur hr rfl fun u hu=>ZvI htt hu (ev 0 x).1 (ev 0 i).1
 | makeFunc fn first caps=>
  cases fn with
  | func f=>
   simp only[opE] at hr
   split at hr
   ·rename_i h0
    obtain ⟨q,hq,hr⟩:=A5.1 hr
    split at hr
    ·rename_i hn
     simp only[A0] at hr;subst hr
     have hf:first=#[]:=by simpa using h0
     have hall:ZH (SVR g w) (caps.toList.map (st.ev tt 0)) (caps.toList.map a.eval):=ZH.of_map _ _ fun x _=>(ev 0 x).1
     refine ZzB hI hU hq hn hall ?_
     have e1:(caps.toList.map a.eval).toArray=caps.map a.eval:=by apply AU;simp
     rw [e1]
     simp [execOp,Instr.makeFunc,hf]
    ·simp at hr
   ·simp at hr
  | _=>simp [opE] at hr
 | makeMap t res=>
  cases res with
  | none=>
   simp only[opE] at hr
   exact ZwM htt hI hU hkey hr rfl
  | some _=>simp [opE] at hr
 | lookup t x i ok=>exact pur hr rfl fun u hu=>ZuJ htt hI hu (ev 0 x).1 (ev 0 i).1
 | mapUpdate t x i v=>
  simp only[opE] at hr
  obtain ⟨u,hu,rfl⟩:=A3.1 hr
  exact ZxO htt hI hU hu (ev 0 x).1 (ev 0 i).1 (ev 0 v).1 rfl
 | extract x i=>exact pur hr rfl fun u hu=>Zwy hu (ev 0 x).1 (ev 0 x).2
 | call c=>
  obtain ⟨callee,args,ts⟩:=c
  cases callee with
  | builtin b=>
   simp only[opE] at hr
   have hts:∀l:List TypeId,ts.toList=l→ts=l.toArray:=fun l h=>by rw [←h]
   have one:∀v,evs tt st ts.toList args.toList=[v]→∃x,args=#[x]∧SVR g w v (a.eval x)∧svU U v:=fun v h=>by
    obtain ⟨args⟩:=args
    generalize ts.toList=l at h
    cases args with
    | nil=>cases l<;>simp [evs,ZhJ] at h
    | cons x xs=>
     cases xs with
     | nil=>
      refine ⟨x,rfl,?_⟩
      cases l with
      | nil=>simp only[evs,ZhJ,AR,Ag,AI,and_true] at h;rw [←h];exact ev _ _
      | cons t l=>cases l<;>(simp only[evs,ZhJ,AR,Ag,AI,and_true] at h;rw [←h];exact ev _ _)
     | cons y ys=>cases l with
      | nil=>simp [evs,ZhJ] at h
      | cons t l=>cases l<;>simp [evs,ZhJ] at h
   have two:∀v u,evs tt st ts.toList args.toList=[v,u]→∃x y,args=#[x,y]∧(SVR g w v (a.eval x)∧svU U v)∧SVR g w u (a.eval y)∧svU U u:=fun v u h=>by
    obtain ⟨args⟩:=args
    have h2:=congrArg List.length h
    have h3:(evs tt st ts.toList args).length=args.length:=by
     have:=congrArg List.length (Zed ts.toList args)
     simpa [evs] using this
    have h4:args.length=2:=by rw [←h3];exact h2
    obtain ⟨x,y,rfl⟩:∃x y,args=[x,y]:=by
     match args,h4 with
     | [x,y],_=>exact ⟨x,y,rfl⟩
    refine ⟨x,y,rfl,?_⟩
    have h5:∃t1 t2,evs tt st ts.toList [x,y]=[st.ev tt t1 x,st.ev tt t2 y]:=by
     generalize ts.toList=l
     cases l with
     | nil=>exact ⟨0,0,rfl⟩
     | cons t1 l=>cases l with
      | nil=>exact ⟨t1,0,rfl⟩
      | cons t2 l=>exact ⟨t1,t2,by cases l<;>rfl⟩
    obtain ⟨t1,t2,h5⟩:=h5
    rw [h5] at h
    simp only[AI,and_true] at h
    rw [←h.1,←h.2]
    exact ⟨ev _ _,ev _ _⟩
   unfold Zet at hr
   split at hr
   ·rename_i t _ v he1 he2
    have e1:=hts _ he1
    obtain ⟨x,rfl,hx,_⟩:=one _ he2
    exact pur (s:=Builtin.len_ ts ty #[a.eval x]) hr (by simp [execOp,resolve,invoke,builtin]) fun u hu=>Zxg htt hI (by simp [e1]) hu hx
   ·rename_i t u v1 v2 he1 he2
    have e1:=hts _ he1
    obtain ⟨x,y,rfl,hx,hy⟩:=two _ _ he2
    split at hr
    ·rename_i he
     subst he
     exact Zx5 htt hI hU hkey hr hx hy (ty:=ty) (by simp [execOp,resolve,invoke,builtin,e1])
    ·simp at hr
   ·rename_i v1 v2 he2
    obtain ⟨x,y,rfl,hx,hy⟩:=two _ _ he2
    refine pur (s:=Builtin.max_ ts ty #[a.eval x,a.eval y]) hr (by simp [execOp,resolve,invoke,builtin]) fun u hu=>?_
    have:=Zs6 (P:=P) (U:=U) (ts:=ts) (ty:=ty) hu hx.1 hy.1
    simpa using this
   ·rename_i v1 v2 he2
    obtain ⟨x,y,rfl,hx,hy⟩:=two _ _ he2
    refine pur (s:=Builtin.min_ ts ty #[a.eval x,a.eval y]) hr (by simp [execOp,resolve,invoke,builtin]) fun u hu=>?_
    have:=Zs6 (P:=P) (U:=U) (ts:=ts) (ty:=ty) hu hx.1 hy.1
    simpa using this
   ·simp at hr
  | value f=>simp [opE] at hr
  | invoke r m=>simp [opE] at hr
 | _=>simp [opE] at hr
end
end
section
open Go.RowKit
theorem ZcL {α β:Type} {f h:α→List β}:∀{l:List α},(∀x∈l,f x=h x)→l.flatMap f=l.flatMap h
 | [],_=>rfl
 | x::l,hh=>by rw [AW,AW,hh x (by simp),ZcL fun y m=>hh y (by simp [m])]
def Zjv (w:World) (z:Nat→Prop) (x:Bool × List CT) (v:Value):Prop:=
 (x.1=true∧∃(vs:List Value) (L:List Nat),v=.agg vs.toArray∧RCs w x.2 vs L∧∀b∈L,¬z b)∨(x.1=false∧∃(ct:CT) (L:List Nat),x.2=[ct]∧RC w ct v L∧∀b∈L,¬z b)
def OC (w:World) (B:Nat) (n:Nat→Prop):Bool × CT→Value→List Nat→Prop
 | (false,.sl e m xs),v,F=>0<m∧∃cs L,w.ownsV B e m v xs.length cs∧REs w m xs cs L∧F=v.ownBlock.toList++L∧∀b∈v.ownBlock.toList,n b
 | (false,.int k i),v,F=>RC w (.int k i) v []∧F=[]
 | (false,.bool b),v,F=>RC w (.bool b) v []∧F=[]
 | (false,.str s),v,F=>RC w (.str s) v []∧F=[]
 | (false,.ifc b),v,F=>RC w (.ifc b) v []∧F=[]
 | (false,.any),v,F=>RC w .any v []∧F=[]
 | (false,.pt _),_,_=>False
 | (false,.fn _ _),_,_=>False
 | (false,.mp _ _ _),_,_=>False
 | (false,.nl _ _),_,_=>False
 | (true,x),v,F=>F=[]∧∃L,RC w x v L∧∀b∈L,¬n b
def OCs (w:World) (B:Nat) (n:Nat→Prop):List (Bool × CT)→List Value→List Nat→Prop
 | [],vs,F=>vs=[]∧F=[]
 | x::r,vs,F=>∃v vs' F1 F2,vs=v::vs'∧F=F1++F2∧OC w B n x v F1∧OCs w B n r vs' F2
def OP (w:World) (B:Nat) (n:Nat→Prop) (x:RT) (v:Value) (F:List Nat):Prop:=
 (x.1=true∧∃vs:List Value,v=.agg vs.toArray∧OCs w B n x.2 vs F)∨(x.1=false∧∃ct,x.2=[ct]∧OC w B n ct v F)
def OPs (w:World) (B:Nat) (n:Nat→Prop):List RT→List Value→List Nat→Prop
 | [],vs,F=>vs=[]∧F=[]
 | x::r,vs,F=>∃v vs' F1 F2,vs=v::vs'∧F=F1++F2∧OP w B n x v F1∧OPs w B n r vs' F2
def Ziy (w:World) (B:Nat) (n:Nat→Prop) (res:List RT) (v:Value):Prop:=
 ∃(vs:List Value) (F:List Nat),OPs w B n res vs F∧Own w B F∧v=(if h:vs.toArray.size=1 then vs.toArray[0] else .tuple vs.toArray)
def ZcX (P : Program) (f : FuncId) : Prop := ∃ fn, P.funcs[f]? = some fn ∧ (fn.name == "runtime.NumGoroutine") = false ∧ fn.body.isNone = false
def Zl (P:Program) (J:World→Prop) (f:FuncId) (args:List (Bool × List CT)) (res:List RT):Prop:=
 ZcX P f∧∀(w:World) (z:Nat→Prop) (vs:List Value),J w→(∀b,z b→b<w.heap.size)→ZH (Zjv w z) args vs→Calls P f vs.toArray w fun e w'=>∃v n,e=.returned v∧Ziy w' w.heap.size n res v∧(∀b,z b→n b)∧Below w.heap.size w w'
def Zme (w:World) (z:Nat→Prop) (q:Option Nat):Zf7→Value→Prop
 | .row e m xs,v=>Zal xs=true∧0<m∧v.ownBlock=q∧∃cs,w.ownsV 0 e m v xs.length cs∧REs w m xs cs []
 | .box t cs,v=>∃b vs L,q=some b∧v=.pointer (some ⟨b,0,none⟩)∧w.heap[b]?=some (.cells (vs:List Value).toArray t (0,0))∧RCs w cs vs L∧∀a∈L,¬z a
def inQ (z:Nat→Prop) (q:Option Nat) (a:Nat):Prop:=z a∨q=some a
structure Zyq (q:Option Nat) (w w':World):Prop where
 os:w'.os=w.os
 tape:w'.tape=w.tape
 output:w'.output=w.output
 size:w.heap.size≤w'.heap.size
 block:∀k,k<w.heap.size→¬q=some k→w'.heap[k]?=w.heap[k]?
def ZaU (P:Program) (J:World→Prop) (JF:Nat→Prop) (f:FuncId) (h:Zf7) (args:List (Bool × List CT)) (res:List RT) (h':Zf7):Prop:=
 ZcX P f∧∀(w:World) (z:Nat→Prop) (q:Option Nat) (v0:Value) (vs:List Value),J w→(∀b,q=some b→JF b)→(∀b,z b→b<w.heap.size∧¬q=some b)→Zme w (inQ z q) q h v0→ZH (Zjv w (inQ z q)) args vs→
  Calls P f (v0::vs).toArray w fun e w'=>∃v n,e=.returned v∧Ziy w' w.heap.size n res v∧(∀b,inQ z q b→n b)∧Zme w' n q h' v0∧Zyq q w w'
def Zmc (b:Nat):NB→Value
 | .box _ _=>.pointer (some ⟨b,0,none⟩)
 | .map _ _ _=>.map (some b)
def nbR (w:World) (n:Nat→Prop) (b:Nat):NB→Prop
 | .box t cs=>∃us L,w.heap[b]?=some (.cells (us:List Value).toArray t (0,0))∧RCs w cs us L∧∀x∈L,¬n x
 | .map kk vk kv=>∃es c,w.heap[b]?=some (.map es c)∧Zc2 es=kv∧Zib kk vk kv
def Zj3 (P:Program) (J:World→Prop) (f:FuncId) (args:List (Bool × List CT)) (nb:NB):Prop:=
 ZcX P f∧∀(w:World) (z:Nat→Prop) (vs:List Value),J w→(∀b,z b→b<w.heap.size)→ZH (Zjv w z) args vs→
  Calls P f vs.toArray w fun e w'=>∃(b:Nat) (n:Nat→Prop),e=.returned (Zmc b nb)∧w.heap.size≤b∧nbR w' n b nb∧n b∧(∀x,z x→n x)∧Below w.heap.size w w'
def SC (P:Program) (J:World→Prop) (JF:Nat→Prop) (hd:FuncId→Nat):Ctx:=⟨Zl P J,ZaU P J JF,hd,Zj3 P J⟩
structure MOk (P:Program) (J:World→Prop) (JF:Nat→Prop) (W:QK) (tt:Nat→Option TI):Prop where
 tt:∀t i,tt t=some i→TOk P t i
 jb:∀w:World,Bel W w→J w
 jf:∀b,W.heap.size≤b→JF b
 xf:∀b,W.x b→JF b
section
variable {P:Program} {J:World→Prop} {W:QK} {U:Nat→Prop} {key:Nat} {st:St} {g:Gh} {w w':World} {a:Act} {tt:Nat→Option TI}
theorem MOk.at {JF:Nat→Prop} (h:MOk P J JF W tt) (hb:Bel W w):J w:=h.jb _ hb
def Zuh (ob:Nat→Ob):AV→Prop
 | .row k=>∃e m xs,ob k=.row e m xs 0
 | _=>True
theorem ZpN [NW] (hI:HI W g st.ob w) {x:AV} {ct:CT} {v:Value} (h:Zbc st x=some ct) (hx:AVR g w x v):∃L,RC w ct v L∧(Zuh st.ob x→∀b∈L,¬g.own b):=by
 cases x with
 | c y=>simp only[Zbc,A0] at h;subst h;obtain ⟨L,h1,h2⟩:=hx;exact ⟨L,h1,fun _=>h2⟩
 | row k=>
  simp only[Zbc] at h
  split at h
  ·rename_i e m xs d hk
   simp only[A0] at h;subst h
   obtain ⟨hm,cs,L1,o1,o2,o3,o5⟩:=hI.deep hk
   obtain ⟨A,cap,L0,s1,s2,s3,s4,s5⟩:=Sl.row o1
   refine ⟨L0++L1,⟨A,cap,cs,L0,L1,by rw [hx.1,s1],s2,s3,rfl,hm,s4,o2⟩,?_⟩
   rintro ⟨e',m',xs',h0⟩ b mb
   rw [hk] at h0
   have hd:d=0:=by simp at h0;exact h0.2.2.2
   rcases A4.1 mb with m1 | m1
   ·rcases o5 with ⟨q,_⟩ | ⟨q,_⟩ | ⟨_,_,_,q⟩
    ·omega
    ·omega
    ·exact q b (s5.subset m1)
   ·exact o3 b m1
  ·simp at h
 | nil e m=>
  simp only[Zbc] at h
  split at h
  ·rename_i hm
   simp only[A0] at h;subst h
   exact ⟨[],⟨none,0,[],[],[],hx,by simp,Nat.zero_le _,rfl,hm,Sl.zero,rfl,rfl⟩,by simp⟩
  ·simp at h
 | n y=>simp only[Zbc,A0] at h;subst h;obtain ⟨L,h1,h2⟩:=NR.toC hx;exact ⟨L,h1,fun _=>h2⟩
 | dead=>simp [Zbc] at h
theorem Zei [NW] (hI:HI W g st.ob w):∀{xs:List AV} {cts:List CT} {vs:List Value},Yq st xs=some cts→ZH (AVR g w) xs vs→∃L,RCs w cts vs L∧((∀x∈xs,Zuh st.ob x)→∀b∈L,¬g.own b)
 | [],_,[],h,_=>by simp [Yq] at h;subst h;exact ⟨[],⟨rfl,rfl⟩,by simp⟩
 | [],_,_::_,_,h=>h.elim
 | _::_,_,[],_,h=>h.elim
 | x::r,cts,v::vs,h,hr=>by
  simp only[Yq] at h
  obtain ⟨c1,h1,h⟩:=A5.1 h
  obtain ⟨c2,h2,rfl⟩:=A3.1 h
  obtain ⟨L1,a1,b1⟩:=ZpN hI h1 hr.1
  obtain ⟨L2,a2,b2⟩:=Zei hI h2 hr.2
  refine ⟨L1++L2,⟨v,vs,L1,L2,rfl,rfl,a1,a2⟩,fun ho b mb=>?_⟩
  rcases A4.1 mb with m | m
  ·exact b1 (ho x (by simp)) b m
  ·exact b2 (fun y my=>ho y (by simp [my])) b m
def Zsy (ob:Nat→Ob):SV→Prop
 | .p _ cs=>∀x∈cs,Zuh ob x
 | _=>True
theorem Ztp [NW] (hI:HI W g st.ob w) {x:SV} {r:Bool × List CT} {v:Value} (h:Zcd st x=some r) (hx:SVR g w x v) {z:Nat→Prop} (hz:(∀b,¬z b)∨(Zsy st.ob x∧∀b,z b→g.own b)):Zjv w z r v:=by
 cases x with
 | p ag cs=>
  simp only[Zcd] at h
  obtain ⟨l,hl,rfl⟩:=A3.1 h
  have av:∀{L:List Nat},((∀x∈cs,Zuh st.ob x)→∀b∈L,¬g.own b)→∀b∈L,¬z b:=fun hL b mb=>by
   rcases hz with hz | ⟨h1,h2⟩
   ·exact hz b
   ·exact fun hb=>hL h1 b mb (h2 b hb)
  cases ag with
  | true=>
   obtain ⟨vs,rfl,h2⟩:=hx
   obtain ⟨L,hL,hL2⟩:=Zei hI hl h2
   exact .inl ⟨rfl,vs,L,rfl,hL,av hL2⟩
  | false=>
   obtain ⟨y,rfl,h2⟩:=hx
   simp only[Yq] at hl
   obtain ⟨c1,h1,hl⟩:=A5.1 hl
   simp at hl;subst hl
   obtain ⟨L1,a1,b1⟩:=ZpN hI h1 h2
   exact .inr ⟨rfl,c1,L1,rfl,a1,av fun ho=>b1 (ho y (by simp))⟩
 | _=>simp [Zcd] at h
theorem Zcq [NW] (hI:HI W g st.ob w) {z:Nat→Prop}:∀{xs:List SV} {l:List (Bool × List CT)} {vs:List Value},ZT st xs=some l→ZH (SVR g w) xs vs→((∀b,¬z b)∨((∀x∈xs,Zsy st.ob x)∧∀b,z b→g.own b))→ZH (Zjv w z) l vs
 | [],_,[],h,_,_=>by simp [ZT] at h;subst h;trivial
 | [],_,_::_,_,h,_=>h.elim
 | _::_,_,[],_,h,_=>h.elim
 | x::r,l,v::vs,h,hr,hz=>by
  simp only[ZT] at h
  obtain ⟨c1,h1,h⟩:=A5.1 h
  obtain ⟨c2,h2,rfl⟩:=A3.1 h
  exact ⟨Ztp hI h1 hr.1 (hz.imp id fun q=>⟨q.1 x (by simp),q.2⟩),Zcq hI h2 hr.2 (hz.imp id fun q=>⟨fun y my=>q.1 y (by simp [my]),q.2⟩)⟩
theorem Zuw {vs:List SV} {ob:Nat→Ob} (h:vs.all Zgk=true):∀x∈vs,Zsy ob x:=fun x mx=>by
 have hx:=AC.1 h x mx
 cases x with
 | p ag cs=>
  intro y my
  have hy:=AC.1 hx y my
  cases y with
  | row k=>simp [Zaa] at hy
  | _=>trivial
 | _=>trivial
def CR (val:Nat→Value) (w:World) (n:Nat→Prop) (l:Bool) (lo hi:Nat):AV→Value→Prop
 | .row k,v=>lo≤k∧k<hi∧v=val k∧v.oneCell'=true
 | .c x,v=>∃L,RC w x v L∧∀b∈L,l=true∧¬n b
 | _,_=>False
structure Zoe (w:World) (B lo hi:Nat) (n:Nat→Prop) (up:List (Nat × Ob)) (F:List Nat) (val:Nat→Value) (O D:Nat→List Nat):Prop where
 le:lo≤hi
 at_:∀k,lo≤k→k<hi→∃e m xs cs,(∀ob,Zk ob up k=.row e m xs 2)∧0<m∧w.ownsV B e m (val k) xs.length cs∧REs w m xs cs (D k)∧O k=(val k).ownBlock.toList∧∀b∈O k,n b
 out:∀k,¬(lo≤k∧k<hi)→∀ob,Zk ob up k=ob k
 foot:F=(AJ lo (hi - lo)).flatMap fun k=>O k++D k
theorem Zoe.join [NW] {B lo mid hi:Nat} {n:Nat→Prop} {u1 u2:List (Nat × Ob)} {F1 F2:List Nat} {v1 v2:Nat→Value} {O1 O2 D1 D2:Nat→List Nat} (h1:Zoe w B lo mid n u1 F1 v1 O1 D1) (h2:Zoe w B mid hi n u2 F2 v2 O2 D2):
  Zoe w B lo hi n (u1++u2) (F1++F2) (fun k=>if k<mid then v1 k else v2 k) (fun k=>if k<mid then O1 k else O2 k) (fun k=>if k<mid then D1 k else D2 k):=by
 have hl:=h1.le
 have hr:=h2.le
 refine ⟨by omega,fun k a b=>?_,fun k hk ob=>?_,?_⟩
 ·by_cases hk:k<mid
  ·obtain ⟨e,m,xs,cs,p1,p2⟩:=h1.at_ k a hk
   simp only[hk,if_true]
   exact ⟨e,m,xs,cs,fun ob=>by rw [Yy,h2.out k (by omega)];exact p1 ob,p2⟩
  ·obtain ⟨e,m,xs,cs,p1,p2⟩:=h2.at_ k (by omega) b
   simp only[hk,if_false]
   exact ⟨e,m,xs,cs,fun ob=>by rw [Yy];exact p1 _,p2⟩
 ·rw [Yy,h2.out k (by omega),h1.out k (by omega)]
 ·rw [h1.foot,h2.foot,show hi - lo=(mid - lo)+(hi - mid) by omega,←List.range'_append_1,List.flatMap_append,show lo+(mid - lo)=mid by omega]
  congr 1
  ·refine ZcL fun k hk=>?_
   have:=(AO.1 hk).2
   simp [show k<mid by omega]
  ·refine ZcL fun k hk=>?_
   have:=(AO.1 hk).1
   simp [show ¬k<mid by omega]
theorem CR.mono {val val':Nat→Value} {n:Nat→Prop} {l:Bool} {lo hi lo' hi':Nat} {x:AV} {v:Value} (h:CR val w n l lo hi x v) (hl:lo'≤lo) (hh:hi≤hi') (hv:∀k,lo≤k→k<hi→val' k=val k):CR val' w n l lo' hi' x v:=by
 cases x with
 | row k=>obtain ⟨a,b,c,d⟩:=h;exact ⟨by omega,by omega,by rw [hv k a b];exact c,d⟩
 | c x=>exact h
 | n _=>exact h.elim
 | nil _ _=>exact h.elim
 | dead=>exact h.elim
theorem QR [NW] {B:Nat} {n:Nat→Prop} {l:Bool}:∀{cts:List (Bool × CT)} {vs:List Value} {F:List Nat} (key:Nat),OCs w B n cts vs F→(Zbk cts=true→l=true)→∃val O D,Zoe w B key (Z3 key cts).2.2 n (Z3 key cts).2.1 F val O D∧ZH (CR val w n l key (Z3 key cts).2.2) (Z3 key cts).1 vs
 | [],vs,F,key,h,_=>by
  obtain ⟨rfl,rfl⟩:=h
  exact ⟨fun _=>undef,fun _=>[],fun _=>[],⟨A9 _,fun k a b=>by simp [Z3] at b;omega,fun _ _ _=>rfl,by simp [Z3]⟩,trivial⟩
 | (true,x)::r,_,_,key,⟨v,vs,F1,F2,rfl,rfl,h1,h2⟩,hl=>by
  obtain ⟨rfl,L,h3,h4⟩:=h1
  obtain ⟨val,O,D,hb,hr⟩:=QR (l:=l) key h2 fun e=>hl (by simp [Zbk])
  exact ⟨val,O,D,by simpa [Z3] using hb,⟨⟨L,h3,fun b mb=>⟨hl (by simp [Zbk]),h4 b mb⟩⟩,hr⟩⟩
 | (false,.sl e m xs)::r,_,_,key,⟨v,vs,F1,F2,rfl,rfl,h1,h2⟩,hl=>by
  obtain ⟨hm,cs,L,o1,o2,rfl,o3⟩:=h1
  obtain ⟨val,O,D,hb,hr⟩:=QR (l:=l) (key+1) h2 fun e=>hl (by simpa [Zbk] using e)
  have hone:Zoe w B key (key+1) n [(key,.row e m xs 2)] (v.ownBlock.toList++L) (fun _=>v) (fun _=>v.ownBlock.toList) (fun _=>L):=
   ⟨by omega,fun k a b=>⟨e,m,xs,cs,fun ob=>by simp [Zk,upd,show k=key by omega],hm,o1,o2,rfl,o3⟩,fun k hk ob=>by simp [Zk,upd,show ¬k=key by omega],by simp⟩
  refine ⟨_,_,_,hone.join hb,⟨?_,hr.mono fun x u _ hx=>hx.mono (by omega) (A9 _) fun k a b=>by simp [show ¬k<key+1 by omega]⟩⟩
  have hle:=hb.le
  obtain ⟨A,cap,hv⟩:=Q8 o1
  exact ⟨A9 _,by simp only[Z3];omega,by simp,by simp [hv,Value.oneCell']⟩
 | (false,.int k i)::r,_,_,key,⟨v,vs,F1,F2,rfl,rfl,h1,h2⟩,hl=>by
  obtain ⟨h1,rfl⟩:=h1
  obtain ⟨val,O,D,hb,hr⟩:=QR (l:=l) key h2 fun e=>hl (by simpa [Zbk] using e)
  exact ⟨val,O,D,by simpa [Z3] using hb,⟨⟨[],h1,by simp⟩,hr⟩⟩
 | (false,.bool k)::r,_,_,key,⟨v,vs,F1,F2,rfl,rfl,h1,h2⟩,hl=>by
  obtain ⟨h1,rfl⟩:=h1
  obtain ⟨val,O,D,hb,hr⟩:=QR (l:=l) key h2 fun e=>hl (by simpa [Zbk] using e)
  exact ⟨val,O,D,by simpa [Z3] using hb,⟨⟨[],h1,by simp⟩,hr⟩⟩
 | (false,.str s)::r,_,_,key,⟨v,vs,F1,F2,rfl,rfl,h1,h2⟩,hl=>by
  obtain ⟨h1,rfl⟩:=h1
  obtain ⟨val,O,D,hb,hr⟩:=QR (l:=l) key h2 fun e=>hl (by simpa [Zbk] using e)
  exact ⟨val,O,D,by simpa [Z3] using hb,⟨⟨[],h1,by simp⟩,hr⟩⟩
 | (false,.ifc s)::r,_,_,key,⟨v,vs,F1,F2,rfl,rfl,h1,h2⟩,hl=>by
  obtain ⟨h1,rfl⟩:=h1
  obtain ⟨val,O,D,hb,hr⟩:=QR (l:=l) key h2 fun e=>hl (by simpa [Zbk] using e)
  exact ⟨val,O,D,by simpa [Z3] using hb,⟨⟨[],h1,by simp⟩,hr⟩⟩
 | (false,.any)::r,_,_,key,⟨v,vs,F1,F2,rfl,rfl,h1,h2⟩,hl=>by
  obtain ⟨h1,rfl⟩:=h1
  obtain ⟨val,O,D,hb,hr⟩:=QR (l:=l) key h2 fun e=>hl (by simpa [Zbk] using e)
  exact ⟨val,O,D,by simpa [Z3] using hb,⟨⟨[],h1,by simp⟩,hr⟩⟩
 | (false,.pt _)::r,_,_,key,⟨v,vs,F1,F2,rfl,rfl,h1,h2⟩,hl=>h1.elim
 | (false,.fn _ _)::r,_,_,key,⟨v,vs,F1,F2,rfl,rfl,h1,h2⟩,hl=>h1.elim
 | (false,.mp _ _ _)::r,_,_,key,⟨v,vs,F1,F2,rfl,rfl,h1,h2⟩,hl=>h1.elim
 | (false,.nl _ _)::r,_,_,key,⟨v,vs,F1,F2,rfl,rfl,h1,h2⟩,hl=>h1.elim
def PR (val:Nat→Value) (w:World) (n:Nat→Prop) (l:Bool) (lo hi:Nat) (x:Bool × List AV) (v:Value):Prop:=
 (x.1=true∧∃vs:List Value,v=.agg vs.toArray∧ZH (CR val w n l lo hi) x.2 vs)∨(x.1=false∧∃y,x.2=[y]∧CR val w n l lo hi y v)
theorem PR.mono [NW] {val val':Nat→Value} {n:Nat→Prop} {l:Bool} {lo hi lo' hi':Nat} {x:Bool × List AV} {v:Value} (h:PR val w n l lo hi x v) (hl:lo'≤lo) (hh:hi≤hi') (hv:∀k,lo≤k→k<hi→val' k=val k):PR val' w n l lo' hi' x v:=by
 rcases h with ⟨h1,vs,h2,h3⟩ | ⟨h1,y,h2,h3⟩
 ·exact .inl ⟨h1,vs,h2,h3.mono fun a b _ hab=>hab.mono hl hh hv⟩
 ·exact .inr ⟨h1,y,h2,h3.mono hl hh hv⟩
theorem Zl4 [NW] {B:Nat} {n:Nat→Prop} {l:Bool}:∀{res:List RT} {vs:List Value} {F:List Nat} (key:Nat),OPs w B n res vs F→(Zcg res=true→l=true)→∃val O D,Zoe w B key (ZE key res).2.2 n (ZE key res).2.1 F val O D∧ZH (PR val w n l key (ZE key res).2.2) (ZE key res).1 vs
 | [],vs,F,key,h,_=>by
  obtain ⟨rfl,rfl⟩:=h
  exact ⟨fun _=>undef,fun _=>[],fun _=>[],⟨A9 _,fun k a b=>by simp [ZE] at b;omega,fun _ _ _=>rfl,by simp [ZE]⟩,trivial⟩
 | x::r,_,_,key,⟨v,vs,F1,F2,rfl,rfl,h1,h2⟩,hl=>by
  have hl1:Zbk x.2=true→l=true:=fun e=>hl (by simp [Zcg,e])
  have hl2:Zcg r=true→l=true:=fun e=>hl (by simp [Zcg,e])
  have hx:∃val O D,Zoe w B key (Z3 key x.2).2.2 n (Z3 key x.2).2.1 F1 val O D∧PR val w n l key (Z3 key x.2).2.2 (x.1,(Z3 key x.2).1) v:=by
   rcases h1 with ⟨hx,us,rfl,hc⟩ | ⟨hx,ct,he,hc⟩
   ·obtain ⟨val,O,D,hb,hr⟩:=QR key hc hl1
    exact ⟨val,O,D,hb,.inl ⟨hx,us,rfl,hr⟩⟩
   ·obtain ⟨val,O,D,hb,hr⟩:=QR (cts:=x.2) (vs:=[v]) (F:=F1) key (by rw [he];exact ⟨v,[],F1,[],rfl,by simp,hc,rfl,rfl⟩) hl1
    refine ⟨val,O,D,hb,.inr ⟨hx,?_⟩⟩
    generalize (Z3 key x.2).1=l at hr
    cases l with
    | nil=>exact hr.elim
    | cons y l=>
     cases l with
     | nil=>exact ⟨y,rfl,hr.1⟩
     | cons _ _=>exact hr.2.elim
  obtain ⟨val,O,D,hb,hp⟩:=hx
  obtain ⟨val2,O2,D2,hb2,hr2⟩:=Zl4 (Z3 key x.2).2.2 h2 hl2
  have hle2:=hb2.le
  have hle:=hb.le
  refine ⟨_,_,_,hb.join hb2,⟨hp.mono (A9 _) hle2 fun k a b=>by simp [b],hr2.mono fun y u _ hy=>hy.mono hle (A9 _) fun k a b=>by simp [show ¬k<(Z3 key x.2).2.2 by omega]⟩⟩
theorem ZpZ {n:Nat} {G:Nat→List Nat}:∀{lo:Nat},((AJ lo n).flatMap G).Nodup→(∀k,lo≤k→k<lo+n→(G k).Nodup)∧∀k j,lo≤k→k<lo+n→lo≤j→j<lo+n→k≠j→∀b∈G k,b∉G j:=by
 induction n with
 | zero=>intro lo _;exact ⟨fun k a b=>by omega,fun k j a b=>by omega⟩
 | succ n ih=>
  intro lo h
  rw [AX,AW,AT] at h
  obtain ⟨h1,h2,h3⟩:=h
  obtain ⟨i1,i2⟩:=ih h2
  have mem:∀k,lo+1≤k→k<lo+1+n→∀b∈G k,b∈(AJ (lo+1) n).flatMap G:=fun k a b x mx=>AY.2 ⟨k,AO.2 ⟨a,b⟩,mx⟩
  refine ⟨fun k a b=>?_,fun k j a b a' b' hkj x mx mj=>?_⟩
  ·by_cases e:k=lo
   ·subst e;exact h1
   ·exact i1 k (by omega) (by omega)
  ·by_cases e:k=lo
   ·subst e
    exact h3 x mx x (mem j (by omega) (by omega) x mj) rfl
   ·by_cases e':j=lo
    ·subst e'
     exact h3 x mj x (mem k (by omega) (by omega) x mx) rfl
    ·exact i2 k j (by omega) (by omega) (by omega) (by omega) hkj x mx mj
theorem Zgi [NW] {ob:Nat→Ob} (hI:HI W g ob w) (hobU:∀k,obU U (ob k)) (hgone:∀k,¬U k→ob k=.gone) (hkey:∀k,key≤k→k<key+16→¬U k) {res:List RT} {v:Value} {n:Nat→Prop} (hr:Ziy w' w.heap.size n res v) (hn:(ZE key res).2.2≤key+16)
  (H:Nat→Prop) (hHU:∀k,H k→U k) (obH:Nat→Ob) (hlen:Zcg res=true→∀b,g.own b→n b)
  (hbel:Bel W w') (hsz:w.heap.size≤w'.heap.size) (hw:∀b,b<w.heap.size→(∀k,H k→b∉g.O k)→w'.heap[b]?=w.heap[b]?)
  (hobH:∀k,H k→obU (Uk U key) (obH k)) (hH:∀g':Gh,(∀b,g'.own b→g.own b∨((∃k,b∈g'.O k)∧w.heap.size≤b∧n b))→(∀k,H k→g'.val k=g.val k∧g'.O k=g.O k∧g'.D k=g.D k)→∀k,H k→ObR g' w' k (obH k)∧∀b∈g.O k++g.D k,Xk w' (obH k) b):
  ∃g',HI W g' (fun k=>Zk (fun j=>open Classical in if H j then obH j else ob j) (ZE key res).2.1 k) w'∧SVR g' w' (Zcf (ZE key res).1) v∧(∀x u,svU U x→SVR g w x u→SVR g' w' x u)∧svU (Uk U key) (Zcf (ZE key res).1)∧
   (∀k,obU (Uk U key) (Zk (fun j=>open Classical in if H j then obH j else ob j) (ZE key res).2.1 k))∧∀k,¬Uk U key k→Zk (fun j=>open Classical in if H j then obH j else ob j) (ZE key res).2.1 k=.gone:=by
 classical
 obtain ⟨vs,F,h1,hF,hv⟩:=hr
 obtain ⟨val,O,D,hB,hA⟩:=Zl4 (l:=Zcg res) key h1 id
 generalize (ZE key res).2.2=hi at *
 generalize (ZE key res).2.1=up at *
 generalize (ZE key res).1=xs at *
 have hle:=hB.le
 let T:Nat→Prop:=fun k=>key≤k∧k<hi
 have hTU:∀k,T k→¬U k:=fun k hk=>hkey k hk.1 (by have:=hk.2;omega)
 let g':Gh:=⟨fun k=>if key≤k∧k<hi then val k else g.val k,fun k=>if key≤k∧k<hi then O k else g.O k,fun k=>if key≤k∧k<hi then D k else g.D k,g.Z⟩
 have gT:∀k,T k→g'.val k=val k∧g'.O k=O k∧g'.D k=D k:=fun k hk=>⟨if_pos hk,if_pos hk,if_pos hk⟩
 have gN:∀k,¬T k→g'.val k=g.val k∧g'.O k=g.O k∧g'.D k=g.D k:=fun k hk=>⟨if_neg hk,if_neg hk,if_neg hk⟩
 have hTH:∀k,H k→¬T k:=fun k hk ht=>hTU k ht (hHU k hk)
 have hmemF:∀k,T k→∀b∈O k++D k,b∈F:=fun k hk b mb=>by
  rw [hB.foot]
  exact AY.2 ⟨k,AO.2 ⟨hk.1,by have:=hk.2;omega⟩,mb⟩
 have hge:∀k,T k→∀b∈O k++D k,w.heap.size≤b:=fun k hk b mb=>hF.ge b (hmemF k hk b mb)
 have hnd:=ZpZ (hB.foot ▸ hF.nodup)
 have hval:∀k,U k→g'.val k=g.val k:=fun k hk=>(gN k fun h=>hTU k h hk).1
 have hown2:∀b,g'.own b→g.own b∨((∃k,b∈g'.O k)∧w.heap.size≤b∧n b):=fun b hb=>by
  rcases hb with ⟨k,mk⟩ | hz
  ·by_cases hk:T k
   ·have mk':=mk
    rw [(gT k hk).2.1] at mk'
    obtain ⟨e,m,ys,cs,_,_,_,_,_,p6⟩:=hB.at_ k hk.1 hk.2
    exact .inr ⟨⟨k,mk⟩,hge k hk b (by simp [mk']),p6 b mk'⟩
   ·rw [(gN k hk).2.1] at mk;exact .inl (.inl ⟨k,mk⟩)
  ·exact .inl (.inr hz)
 have hown:X7 g g' w.heap.size:=.of (fun b hb=>(hown2 b hb).imp id fun h=>h.2.1) fun j b mb=>by
  by_cases hj:T j
  ·rw [(gT j hj).2.2] at mb
   exact .inr (hge j hj b (by simp [mb]))
  ·rw [(gN j hj).2.2] at mb;exact .inl (.inr ⟨j,mb⟩)
 have hw':∀b,b<w.heap.size→¬g.own b→w'.heap[b]?=w.heap[b]?:=fun b hb hnb=>hw b hb fun k _ mk=>hnb (.inl ⟨k,mk⟩)
 have hmove:∀x u,svU U x→SVR g w x u→SVR g' w' x u:=fun x u hx hu=>hu.move hx hval hw' hown hsz
 have hout:∀k,¬T k→Zk (fun j=>if H j then obH j else ob j) up k=if H k then obH k else ob k:=fun k hk=>hB.out k hk _
 have hHI:HI W g' (Zk (fun j=>if H j then obH j else ob j) up) w':=by
  refine hI.step (U:=U) (fun k=>T k∨H k) hbel rfl (fun b hb' hq=>hw b hb' fun k hk=>hq k (.inr hk)) (fun k hk=>?_) hobU hval hown (fun k hk=>?_)
  ·have k1:¬T k:=fun h=>hk (.inl h)
   have k2:¬H k:=fun h=>hk (.inr h)
   exact ⟨by rw [hout k k1,if_neg k2],gN k k1⟩
  ·by_cases hTk:T k
   ·obtain ⟨e1,e2,e3⟩:=gT k hTk
    obtain ⟨e,m,ys,cs,p1,p2,p3,p4,p5,_⟩:=hB.at_ k hTk.1 hTk.2
    rw [p1,e2,e3]
    refine ⟨⟨p2,cs,D k,?_,p4,.inl ⟨rfl,by rw [e1,e2];exact p5,e3⟩⟩,hnd.1 k hTk.1 (by have:=hTk.2;omega),fun b mb=>?_,fun j hj b mb mj=>?_⟩
    ·rw [e1];exact ZqH p3 (Nat.zero_le _)
    ·exact ⟨.inl (AN hI.below.size (hge k hTk b mb)),hF.plain b (hmemF k hTk b mb)⟩
    ·by_cases hTj:T j
     ·rw [(gT j hTj).2.1,(gT j hTj).2.2] at mj
      exact hnd.2 k j hTk.1 (by have:=hTk.2;omega) hTj.1 (by have:=hTj.2;omega) hj b mb mj
     ·rw [(gN j hTj).2.1,(gN j hTj).2.2] at mj
      have:=hI.lt j b mj
      have:=hge k hTk b mb
      omega
   ·have hHk:H k:=hk.resolve_left hTk
    obtain ⟨e1,e2,e3⟩:=gN k hTk
    obtain ⟨q1,q2⟩:=hH g' hown2 (fun j hj=>gN j (hTH j hj)) k hHk
    rw [hout k hTk,if_pos hHk,e2,e3]
    refine ⟨q1,hI.nodup k,fun b mb=>⟨(hI.plain k b mb).1,q2 b mb⟩,fun j hj b mb mj=>?_⟩
    by_cases hTj:T j
    ·rw [(gT j hTj).2.1,(gT j hTj).2.2] at mj
     have:=hI.lt k b mb
     have:=hge j hTj b mj
     omega
    ·rw [(gN j hTj).2.1,(gN j hTj).2.2] at mj
     exact hI.apart k j hj b mb mj
 have hAV:∀x u,CR val w' n (Zcg res) key hi x u→AVR g' w' x u∧avU (Uk U key) x:=fun x u h=>by
  cases x with
  | row k=>
   obtain ⟨c1,c2,c3,c4⟩:=h
   exact ⟨⟨by rw [(gT k ⟨c1,c2⟩).1];exact c3,c4⟩,.inr ⟨c1,by omega⟩⟩
  | c x=>
   obtain ⟨L,h1,h2⟩:=h
   refine ⟨⟨L,h1,fun b mb o=>?_⟩,trivial⟩
   rcases hown2 b o with o | o
   ·exact (h2 b mb).2 (hlen (h2 b mb).1 b o)
   ·exact (h2 b mb).2 o.2.2
  | n _=>exact h.elim
  | nil _ _=>exact h.elim
  | dead=>exact h.elim
 have hAVs:∀(ys:List AV) (us:List Value),ZH (CR val w' n (Zcg res) key hi) ys us→ZH (AVR g' w') ys us∧X6 (Uk U key) ys:=fun ys us h=>by
  induction ys generalizing us with
  | nil=>cases us with
   | nil=>exact ⟨trivial,fun _ m=>by simp at m⟩
   | cons _ _=>exact h.elim
  | cons y ys ih=>cases us with
   | nil=>exact h.elim
   | cons u us=>
    obtain ⟨i1,i2⟩:=ih us h.2
    refine ⟨⟨(hAV y u h.1).1,i1⟩,fun z mz=>?_⟩
    rcases A7.1 mz with rfl | mz
    ·exact (hAV z u h.1).2
    ·exact i2 z mz
 have hPV:∀(y:Bool × List AV) (u:Value),PR val w' n (Zcg res) key hi y u→PVR g' w' y.1 y.2 u∧X6 (Uk U key) y.2:=fun y u h=>by
  rcases h with ⟨h1,us,rfl,h3⟩ | ⟨h1,z,h2,h3⟩
  ·obtain ⟨i1,i2⟩:=hAVs _ _ h3
   exact ⟨by rw [h1];exact ⟨us,rfl,i1⟩,i2⟩
  ·obtain ⟨i1,i2⟩:=hAV z u h3
   exact ⟨by rw [h1];exact ⟨z,h2,i1⟩,by rw [h2];intro q mq;simp at mq;subst mq;exact i2⟩
 have hres:SVR g' w' (Zcf xs) v∧svU (Uk U key) (Zcf xs):=by
  have hlen:=hA.len
  by_cases hl:xs.length=1
  ·obtain ⟨x,rfl⟩:=List.length_eq_one_iff.1 hl
   cases vs with
   | nil=>simp at hlen
   | cons u us=>
    cases us with
    | cons _ _=>simp at hlen
    | nil=>
     have hvu:v=u:=by rw [hv];rfl
     rw [hvu]
     exact hPV x u hA.1
  ·have hvs:¬vs.toArray.size=1:=by simp;omega
   rw [dif_neg hvs] at hv
   have e:Zcf xs=.tup xs:=by
    cases xs with
    | nil=>rfl
    | cons x xs=>cases xs with
     | nil=>simp at hl
     | cons _ _=>rfl
   rw [e]
   refine ⟨⟨vs,hv,hA.mono fun y u _ h=>(hPV y u h).1⟩,fun y my=>?_⟩
   obtain ⟨i,hi'⟩:=List.mem_iff_getElem?.1 my
   obtain ⟨u,_,hu⟩:=hA.at hi'
   exact (hPV y u hu).2
 refine ⟨g',hHI,hres.1,hmove,hres.2,fun k=>?_,fun k hk=>?_⟩
 ·by_cases hTk:T k
  ·obtain ⟨e,m,ys,cs,p1,_⟩:=hB.at_ k hTk.1 hTk.2
   rw [p1];trivial
  ·rw [hout k hTk]
   split
   ·rename_i hHk;exact hobH k hHk
   ·exact (hobU k).mono fun _=>.inl
 ·have hTk:¬T k:=fun hTk=>hk (.inr ⟨hTk.1,by have:=hTk.2;omega⟩)
  have hHk:¬H k:=fun h=>hk (.inl (hHU k h))
  rw [hout k hTk,if_neg hHk]
  exact hgone k fun h=>hk (.inl h)
theorem ZjB [NW] (st:St):∀(ks:List Nat) {g:Gh} {ob:Nat→Ob},HI W g ob w→(∀k,ob k=st.ob k∨ob k=Z4 (st.ob k))→∃g1:Gh,HI W g1 (Zk ob (ZO st ks)) w∧g1.val=g.val∧Y7 g1 g∧∀k,Zk ob (ZO st ks) k=(if k∈ks then Z4 (st.ob k) else ob k)
 | [],g,ob,hI,_=>⟨g,hI,rfl,Y7.refl _,fun k=>by simp [ZO,Zk]⟩
 | k::r,g,ob,hI,hob=>by
  have hfk:Z4 (ob k)=Z4 (st.ob k):=by
   rcases hob k with h | h
   ·rw [h]
   ·rw [h];cases st.ob k<;>rfl
  obtain ⟨g1,h1,h2,h3,_⟩:=ZhF hI k
  rw [hfk] at h1
  have hob':∀j,upd ob k (Z4 (st.ob k)) j=st.ob j∨upd ob k (Z4 (st.ob k)) j=Z4 (st.ob j):=fun j=>by
   by_cases hj:j=k
   ·subst hj;right;rw [Zy]
   ·rw [ZI _ _ hj];exact hob j
  obtain ⟨g2,i1,i2,i3,i4⟩:=ZjB st r h1 hob'
  refine ⟨g2,i1,i2.trans h2,i3.trans h3,fun j=>?_⟩
  show Zk (upd ob k (Z4 (st.ob k))) (ZO st r) j=_
  rw [i4 j]
  by_cases hj:j=k
  ·subst hj;simp [upd]
  ·simp [hj,upd]
theorem Zmh {st st':St} (h:∀k,st'.ob k=st.ob k∨st'.ob k=Z4 (st.ob k)) (x:SV):Zcd st' x=Zcd st x:=by
 have h1:∀y:AV,Zbc st' y=Zbc st y:=fun y=>by
  cases y with
  | row k=>
   simp only[Zbc]
   rcases h k with e | e
   ·rw [e]
   ·rw [e];cases st.ob k<;>rfl
  | _=>rfl
 have h2:∀ys:List AV,Yq st' ys=Yq st ys:=fun ys=>by
  induction ys with
  | nil=>rfl
  | cons y ys ih=>simp only[Yq,h1,ih]
 cases x<;>simp [Zcd,h2]
theorem ZeL [NW] {st st':St} (h:∀k,st'.ob k=st.ob k∨st'.ob k=Z4 (st.ob k)):∀xs:List SV,ZT st' xs=ZT st xs
 | []=>rfl
 | x::r=>by simp only[ZT];rw [Zmh h x,ZeL h r]
theorem Zk1 {k:Nat}:∀{cs:List AV},AV.row k∈cs→k∈Zhn cs
 | [],h=>by simp at h
 | x::r,h=>by
  rcases A7.1 h with rfl | h
  ·simp [Zhn]
  ·have:=Zk1 h
   cases x<;>simp [Zhn,this]
theorem Zku [NW] {k:Nat} {a:Bool} {cs:List AV}:∀{vs:List SV},SV.p a cs∈vs→AV.row k∈cs→k∈Z1 vs
 | [],h,_=>by simp at h
 | x::r,h,hk=>by
  rcases A7.1 h with rfl | h
  ·simp [Z1,Zk1 hk]
  ·have:=Zku h hk
   cases x<;>simp [Z1,this]
end
end
section
open Go.RowKit
def Zaz (S:Ctx) (f:FuncId) (n key:Nat) (st:St) (vs:List SV) (v:SV) (u:List (Nat × Ob)):Prop:=
 match n with
 | 0=>∃l res,ZT st vs=some l∧S.r f l res∧(!Zcg res||vs.all Zgk)=true∧(ZE key res).2.2≤key+16∧v=Zcf (ZE key res).1∧u=(ZE key res).2.1
 | 1=>∃v0 r k h l res h',vs=v0::r∧ZeF st v0=some (k,h)∧ZT st r=some l∧S.h f h l res h'∧(Z1 r).all (fun j=>j != k)=true∧(ZE key res).2.2≤key+16∧v=Zcf (ZE key res).1∧u=ZO st (Z1 r)++((k,Y9 h')::(ZE key res).2.1)
 | 3=>∃l nb,ZT st vs=some l∧S.b f l nb∧v=ZAz key nb∧u=ZO st (Z1 vs)++[(key,Zub nb)]
 | 4=>∃l res,ZT st (vs.map nlS)=some l∧S.r f l res∧(!Zcg res||(vs.map nlS).all Zgk)=true∧(ZE key res).2.2≤key+16∧v=Zcf (ZE key res).1∧u=(ZE key res).2.1
 | _=>∃l res,ZT st vs=some l∧S.r f l res∧(ZE key res).2.2≤key+16∧v=Zcf (ZE key res).1∧u=ZO st (Z1 vs)++(ZE key res).2.1
theorem ZjD {S:Ctx} {f:FuncId} {n key:Nat} {d:Option Nat} {K:St→Prop} {st:St} {vs:List SV}:spK S f n key d K st vs↔∃v u,Zaz S f n key st vs v u∧K ((st.put d v).app u):=by
 rcases n with _ | _ | _ | _ | _ | n
 ·simp only[spK,Zaz]
  constructor
  ·intro h
   unfold Yp at h
   split at h
   ·rename_i l hl
    obtain ⟨res,h1,h2,h3,h4⟩:=h
    exact ⟨_,_,⟨l,res,hl,h1,h2,h3,rfl,rfl⟩,h4⟩
   ·exact h.elim
  ·rintro ⟨v,u,⟨l,res,hl,h1,h2,h3,rfl,rfl⟩,h4⟩
   rw [hl]
   exact ⟨res,h1,h2,h3,h4⟩
 ·simp only[spK,Zaz]
  constructor
  ·intro h
   cases vs with
   | nil=>exact h.elim
   | cons v0 r=>
    simp only[Zro] at h
    unfold Yp at h
    split at h
    ·rename_i kh hk
     split at h
     ·rename_i l hl
      obtain ⟨res,h',h1,h2,h3,h4⟩:=h
      exact ⟨_,_,⟨v0,r,kh.1,kh.2,l,res,h',rfl,hk,hl,h1,h2,h3,rfl,rfl⟩,h4⟩
     ·exact h.elim
    ·exact h.elim
  ·rintro ⟨v,u,⟨v0,r,k,hh,l,res,h',rfl,hk,hl,h1,h2,h3,rfl,rfl⟩,h4⟩
   simp only[Zro,hk,hl,Yp]
   exact ⟨res,h',h1,h2,h3,h4⟩
 ·simp only[spK,Zaz]
  constructor
  ·intro h
   unfold Yp at h
   split at h
   ·rename_i l hl
    obtain ⟨res,h1,h3,h4⟩:=h
    exact ⟨_,_,⟨l,res,hl,h1,h3,rfl,rfl⟩,h4⟩
   ·exact h.elim
  ·rintro ⟨v,u,⟨l,res,hl,h1,h3,rfl,rfl⟩,h4⟩
   rw [hl]
   exact ⟨res,h1,h3,h4⟩
 ·simp only[spK,Zaz]
  constructor
  ·intro h
   unfold Yp at h
   split at h
   ·rename_i l hl
    obtain ⟨nb,h1,h4⟩:=h
    exact ⟨_,_,⟨l,nb,hl,h1,rfl,rfl⟩,h4⟩
   ·exact h.elim
  ·rintro ⟨v,u,⟨l,nb,hl,h1,rfl,rfl⟩,h4⟩
   rw [hl]
   exact ⟨nb,h1,h4⟩
 ·simp only[spK,Zaz]
  constructor
  ·intro h
   unfold Yp at h
   split at h
   ·rename_i l hl
    obtain ⟨res,h1,h2,h3,h4⟩:=h
    exact ⟨_,_,⟨l,res,hl,h1,h2,h3,rfl,rfl⟩,h4⟩
   ·exact h.elim
  ·rintro ⟨v,u,⟨l,res,hl,h1,h2,h3,rfl,rfl⟩,h4⟩
   rw [hl]
   exact ⟨res,h1,h2,h3,h4⟩
 ·simp only[spK,Zaz]
  constructor
  ·intro h
   unfold Yp at h
   split at h
   ·rename_i l hl
    obtain ⟨res,h1,h3,h4⟩:=h
    exact ⟨_,_,⟨l,res,hl,h1,h3,rfl,rfl⟩,h4⟩
   ·exact h.elim
  ·rintro ⟨v,u,⟨l,res,hl,h1,h3,rfl,rfl⟩,h4⟩
   rw [hl]
   exact ⟨res,h1,h3,h4⟩
section
variable {P:Program} {J:World→Prop} {JF:Nat→Prop} {W:QK} {U:Nat→Prop} {key:Nat} {st:St} {g:Gh} {w w':World} {a:Act} {tt:Nat→Option TI} {hd:FuncId→Nat}
def ZvZ [NW] (W:QK) (U:Nat→Prop) (key:Nat) (st:St) (g:Gh) (w:World) (v:SV) (u:List (Nat × Ob)) (cv:Value) (w':World):Prop:=
 ∃g',HI W g' (Zk st.ob u) w'∧SVR g' w' v cv∧(∀x c,svU U x→SVR g w x c→SVR g' w' x c)∧svU (Uk U key) v∧(∀k,obU (Uk U key) (Zk st.ob u k))∧∀k,¬Uk U key k→Zk st.ob u k=.gone
theorem HI.ownlt [NW] {ob:Nat→Ob} (hI:HI W g ob w) {b:Nat} (h:g.own b):b<w.heap.size:=by
 rcases h with ⟨k,mk⟩ | hz
 ·exact hI.lt k b (by simp [mk])
 ·rw [hI.gz] at hz
  exact Ah (hI.zx b hz).1 hI.below.size
theorem Ztg {ks:List Nat} {ob:Nat→Ob} (hobU:∀k,obU U (st.ob k)) (h:∀k,ob k=(if k∈ks then Z4 (st.ob k) else st.ob k)):∀k,obU U (ob k):=fun k=>by
 rw [h k]
 have:=hobU k
 split
 ·cases hk:st.ob k<;>simp only[Z4]<;>first | trivial | (rw [hk] at this;exact this)
 ·exact this
theorem ZqL [NW] {vs:List SV} {l:List (Bool × List CT)} {st1:St} (h:∀k,st1.ob k=(if k∈Z1 vs then Z4 (st.ob k) else st.ob k)) (hl:ZT st vs=some l):∀x∈vs,Zsy st1.ob x:=by
 have key:∀(cs:List AV) (l:List CT),Yq st cs=some l→(∀k,AV.row k∈cs→k∈Z1 vs)→∀y∈cs,Zuh st1.ob y:=by
  intro cs
  induction cs with
  | nil=>intro l _ _ y my;simp at my
  | cons c cs ih=>
   intro l hl hk y my
   simp only[Yq] at hl
   obtain ⟨c1,h1,hl⟩:=A5.1 hl
   obtain ⟨c2,h2,_⟩:=A3.1 hl
   rcases A7.1 my with rfl | my
   ·cases y with
    | row k=>
     simp only[Zbc] at h1
     split at h1
     ·rename_i e m xs d hob
      exact ⟨e,m,xs,by rw [h k,if_pos (hk k (by simp)),hob];rfl⟩
     ·simp at h1
    | _=>trivial
   ·exact ih c2 h2 (fun k mk=>hk k (by simp [mk])) y my
 have all:∀(xs:List SV) (l:List (Bool × List CT)),ZT st xs=some l→(∀x∈xs,x∈vs)→∀x∈xs,Zsy st1.ob x:=by
  intro xs
  induction xs with
  | nil=>intro l _ _ x mx;simp at mx
  | cons x xs ih=>
   intro l hl hm y my
   simp only[ZT] at hl
   obtain ⟨c1,h1,hl⟩:=A5.1 hl
   obtain ⟨c2,h2,_⟩:=A3.1 hl
   rcases A7.1 my with rfl | my
   ·cases y with
    | p ag cs=>
     simp only[Zcd] at h1
     obtain ⟨l1,h3,_⟩:=A3.1 h1
     exact key cs l1 h3 (fun k mk=>Zku (hm (.p ag cs) (by simp)) mk)
    | _=>trivial
   ·exact ih c2 h2 (fun z mz=>hm z (by simp [mz])) y my
 exact all vs l hl (fun _ h=>h)
theorem ZBI {k:Nat} {inst:∀j,Decidable (j=k)} (ob:Nat→Ob) (o:Ob):(fun j=>@ite _ (j=k) (inst j) o (ob j))=upd ob k o:=by
 funext j
 simp only[upd]
 split<;>rfl
theorem ZhH [NW] (htt:MOk P J JF W tt) {f:FuncId} {vs:List SV} {cvs:List Value} {v:SV} {u:List (Nat × Ob)} (h:Zaz (SC P J JF hd) f 0 key st vs v u) (hH:HI W g st.ob w) (hU:StU U st) (hkey:∀k,key≤k→k<key+16→¬U k) (hvs:ZH (SVR g w) vs cvs) (hvU:∀x∈vs,svU U x):
  ZcX P f∧Calls P f cvs.toArray w fun e w'=>∃cv,e=.returned cv∧ZvZ W U key st g w v u cv w':=by
 obtain ⟨l,res,hl,hs,hlend,hn,rfl,rfl⟩:=h
 obtain ⟨hc,hC⟩:=hs
 refine ⟨hc,?_⟩
 by_cases hle:Zcg res=true
 ·have hno:∀x∈vs,Zsy st.ob x:=Zuw (by simpa [hle] using hlend)
  refine (hC w g.own cvs (htt.at hH.below) (fun b hb=>hH.ownlt hb) (Zcq hH hl hvs (.inr ⟨hno,fun _ h=>h⟩))).mono ?_
  rintro e w' ⟨cv,n,rfl,hr,hz,hb⟩
  obtain ⟨g',t1,t2,t3,t4,t5,t6⟩:=Zgi hH hU.ob hU.gone hkey hr hn (fun _=>False) (fun _ h=>h.elim) (fun _=>.gone) (fun _ b hb=>hz b hb) (hH.below.trans hb) hb.size (fun b hb' _=>hb.block b hb') (fun _ h=>h.elim) (fun _ _ _ _ h=>h.elim)
  simp only[if_false] at t1 t5 t6
  exact ⟨cv,rfl,g',t1,t2,t3,t4,t5,t6⟩
 ·refine (hC w (fun _=>False) cvs (htt.at hH.below) (fun b hb=>hb.elim) (Zcq hH hl hvs (.inl fun _ h=>h))).mono ?_
  rintro e w' ⟨cv,n,rfl,hr,hz,hb⟩
  obtain ⟨g',t1,t2,t3,t4,t5,t6⟩:=Zgi hH hU.ob hU.gone hkey hr hn (fun _=>False) (fun _ h=>h.elim) (fun _=>.gone) (fun h=>absurd h hle) (hH.below.trans hb) hb.size (fun b hb' _=>hb.block b hb') (fun _ h=>h.elim) (fun _ _ _ _ h=>h.elim)
  simp only[if_false] at t1 t5 t6
  exact ⟨cv,rfl,g',t1,t2,t3,t4,t5,t6⟩
theorem Zuj [NW] {x:AV} {v:Value} (h:AVR g w x v):AVR g w (nlA x) v:=by
 cases x with
 | nil e m=>exact ⟨[],⟨h,rfl⟩,by simp⟩
 | _=>exact h
theorem Zrd [NW]:∀{xs:List AV} {vs:List Value},ZH (AVR g w) xs vs→ZH (AVR g w) (xs.map nlA) vs
 | [],[],_=>trivial
 | [],_::_,h=>h.elim
 | _::_,[],h=>h.elim
 | _::_,_::_,h=>⟨Zuj h.1,Zrd h.2⟩
theorem Zzy [NW] {x:SV} {v:Value} (h:SVR g w x v):SVR g w (nlS x) v:=by
 cases x with
 | p a cs=>
  cases a with
  | true=>obtain ⟨vs,h1,h2⟩:=h;exact ⟨vs,h1,Zrd h2⟩
  | false=>obtain ⟨y,rfl,h2⟩:=h;exact ⟨_,rfl,Zuj h2⟩
 | _=>exact h
theorem Zrj [NW]:∀{xs:List SV} {vs:List Value},ZH (SVR g w) xs vs→ZH (SVR g w) (xs.map nlS) vs
 | [],[],_=>trivial
 | [],_::_,h=>h.elim
 | _::_,[],h=>h.elim
 | _::_,_::_,h=>⟨Zzy h.1,Zrj h.2⟩
theorem ZtO {x:SV} (h:svU U x):svU U (nlS x):=by
 cases x with
 | p a cs=>
  intro y my
  obtain ⟨z,mz,rfl⟩:=A6.1 my
  have hz:=h z mz
  cases z<;>first | exact hz | trivial
 | _=>exact h
theorem Zfw [NW] (htt:MOk P J JF W tt) {f:FuncId} {n:Nat} {vs:List SV} {cvs:List Value} {v:SV} {u:List (Nat × Ob)} (h:Zaz (SC P J JF hd) f n key st vs v u) (hH:HI W g st.ob w) (hU:StU U st) (hkey:∀k,key≤k→k<key+16→¬U k) (hvs:ZH (SVR g w) vs cvs) (hvU:∀x∈vs,svU U x):
  ZcX P f∧Calls P f cvs.toArray w fun e w'=>∃cv,e=.returned cv∧ZvZ W U key st g w v u cv w':=by
 unfold Zaz at h
 split at h
 ·exact ZhH htt (f:=f) (vs:=vs) h hH hU hkey hvs hvU
 ·obtain ⟨v0,r,k,hh,l,res,h',rfl,hk,hl,hs,hne,hn,rfl,rfl⟩:=h
  obtain ⟨hc,hC⟩:=hs
  refine ⟨hc,?_⟩
  cases cvs with
  | nil=>exact hvs.elim
  | cons c0 cr=>
  obtain ⟨hv0,hvr⟩:=hvs
  obtain ⟨g1,i1,i2,i3,i4⟩:=ZjB st (Z1 r) hH (fun k=>.inl rfl)
  let st1:St:=⟨st.sl,Zk st.ob (ZO st (Z1 r)),st.n⟩
  have hob1:∀k,st1.ob k=(if k∈Z1 r then Z4 (st.ob k) else st.ob k):=i4
  have hfr:∀k,st1.ob k=st.ob k∨st1.ob k=Z4 (st.ob k):=fun k=>by
   rw [hob1 k];split
   ·exact .inr rfl
   ·exact .inl rfl
  have hl1:ZT st1 r=some l:=by rw [ZeL hfr];exact hl
  have hok1:=ZqL (st1:=st1) hob1 hl
  have hkr:k∉Z1 r:=fun hm=>by
   have:=AC.1 hne k hm
   simp at this
  have hk1:st1.ob k=st.ob k:=by rw [hob1 k,if_neg hkr]
  have hUk:st.ob k≠.gone→U k:=fun hg=>Classical.byContradiction fun hn=>hg (hU.gone k hn)
  have hobU1:∀j,obU U (st1.ob j):=Ztg hU.ob hob1
  have hgone1:∀j,¬U j→st1.ob j=.gone:=fun j hj=>by
   have e:=hU.gone j hj
   rcases hfr j with h | h<;>rw [h,e]<;>rfl
  have hv0':SVR g1 w v0 c0:=hv0.less i2 i3
  have hvr':ZH (SVR g1 w) r cr:=hvr.mono fun x c _ hx=>hx.less i2 i3
  have hhand:∃q:Option Nat,Zme w (inQ (fun b=>g1.own b∧¬q=some b) q) q hh c0∧g1.O k=q.toList∧g1.D k=[]∧c0=g1.val k∧st.ob k≠.gone:=by
   unfold ZeF at hk
   split at hk
   ·rename_i k'
    split at hk
    ·rename_i t cs hob
     split at hk
     ·rename_i hnr
      obtain ⟨l',hl',e⟩:=A3.1 hk
      simp only[A8] at e
      obtain ⟨rfl,rfl⟩:=e
      have ho:=i1.obs k'
      rw [show Zk st.ob (ZO st (Z1 r)) k'=.box t cs from hk1.trans hob] at ho
      obtain ⟨b,vs,h1,h2,h3,h4,h5⟩:=ho
      obtain ⟨b',h6,h7⟩:=hv0'
      have hb:b'=b:=by rw [h6] at h1;simpa using h1
      subst hb
      have hl1':Yq st1 cs=some l':=by
       have:=Zmh hfr (.p true cs)
       simp only[Zcd,hl'] at this
       obtain ⟨x,hx,hx2⟩:=A3.1 this
       simp only[A8,true_and] at hx2
       rw [hx,hx2]
      obtain ⟨L,hL,hL2⟩:=Zei (st:=st1) i1 hl1' h5
      refine ⟨some b',⟨b',vs,L,rfl,h7,h4,hL,fun x mx hx=>?_⟩,by simp [h2],h3,by rw [h7,h6],by rw [hob];simp⟩
      refine hL2 (fun y my=>?_) x mx ?_
      ·have:=AC.1 hnr y my
       cases y<;>simp [Zaa] at this<;>trivial
      ·rcases hx with hx | hx
       ·exact hx.1
       ·simp only[A0] at hx
        subst hx
        exact .inl ⟨k',by simp [h2]⟩
     ·simp at hk
    ·simp at hk
   ·rename_i k'
    split at hk
    ·rename_i e m xs d hob
     split at hk
     ·rename_i hd2
      simp only[A0,A8] at hk
      obtain ⟨rfl,rfl⟩:=hk
      have ho:=i1.obs k'
      rw [show Zk st.ob (ZO st (Z1 r)) k'=.row e m xs d from hk1.trans hob] at ho
      obtain ⟨hm,cs,L,h1,h2,h3⟩:=ho
      obtain rfl:=ZfO h2 hd2.2
      obtain ⟨x,hx1,hx2⟩:=hv0'
      simp only[AI,and_true] at hx1
      subst hx1
      rcases h3 with ⟨_,h3,h4⟩ | ⟨h3,_⟩ | ⟨h3,_⟩
      ·exact ⟨(g1.val k').ownBlock,⟨hd2.2,hm,by rw [hx2.1],cs,by rw [hx2.1];exact h1,h2⟩,h3,h4,hx2.1,by rw [hob];simp⟩
      ·omega
      ·omega
     ·simp at hk
    ·simp at hk
   ·simp at hk
  obtain ⟨q,hq1,hq2,hq3,hq4,hq5⟩:=hhand
  have hkU:=hUk hq5
  have hqo:∀b,q=some b→g1.own b:=fun b hb=>.inl ⟨k,by simp [hq2,hb]⟩
  have hin:∀b,g1.own b→inQ (fun b=>g1.own b∧¬q=some b) q b:=fun b hb=>by
   by_cases hqb:q=some b
   ·exact .inr hqb
   ·exact .inl ⟨hb,hqb⟩
  have hargs:ZH (Zjv w (inQ (fun b=>g1.own b∧¬q=some b) q)) l cr:=Zcq (st:=st1) i1 hl1 hvr' (.inr ⟨hok1,fun b hb=>by
   rcases hb with hb | hb
   ·exact hb.1
   ·exact hqo b hb⟩)
  have hqf:∀b,q=some b→JF b:=fun b hb=>by
   rcases (i1.plain k b (by simp [hq2,hb])).1 with h | h
   ·exact htt.jf b h
   ·exact htt.xf b h
  refine (hC w _ q c0 cr (htt.at hH.below) hqf (fun b hb=>⟨i1.ownlt hb.1,hb.2⟩) hq1 hargs).mono ?_
  rintro e w' ⟨cv,n,rfl,hr,hz,hb',hbq⟩
  have hbel:Bel W w':=⟨hbq.os.trans hH.below.os,hbq.tape.trans hH.below.tape,hbq.output.trans hH.below.output,AN hH.below.size hbq.size,fun i hi hx=>by
   rw [hbq.block i (Ah hi hH.below.size) fun hqi=>?_]
   ·exact hH.below.block i hi hx
   ·rcases (i1.plain k i (by simp [hq2,hqi])).1 with h | h
    ·omega
    ·exact hx h⟩
  obtain ⟨g',t1,t2,t3,t4,t5,t6⟩:=Zgi i1 hobU1 hgone1 hkey hr hn (fun j=>j=k) (fun j hj=>by rw [hj];exact hkU) (fun _=>Y9 h') (fun _ b hb=>hz b (hin b hb)) hbel hbq.size
   (fun b hb hk'=>hbq.block b hb fun hqb=>hk' k rfl (by simp [hq2,hqb]))
   (fun j _=>by
    cases h' with
    | row e m xs=>trivial
    | box t cs=>intro y my;simp only[A6] at my;obtain ⟨x,_,rfl⟩:=my;trivial)
   (fun g' ho hg' j hj=>by
    subst hj
    obtain ⟨e1,e2,e3⟩:=hg' j rfl
    have hno:∀b,¬n b→¬g'.own b:=fun b hnb hob=>by
     rcases ho b hob with h | h
     ·exact hnb (hz b (hin b h))
     ·exact hnb h.2.2
    cases h' with
    | row e m xs=>
     obtain ⟨p1,p2,p3,cs,p4,p5⟩:=hb'
     refine ⟨⟨p2,cs,[],by rw [e1,←hq4];exact p4,p5,.inl ⟨rfl,by rw [e2,hq2,e1,←hq4,p3],by rw [e3,hq3]⟩⟩,fun b mb=>?_⟩
     rw [hq2,hq3] at mb
     simp at mb
     rcases p4.2 with ⟨h0,_⟩ | ⟨gg,o,cap,cur,hv,_,hcc,_⟩
     ·rw [h0] at p3;simp [Value.ownBlock] at p3;rw [←p3] at mb;simp at mb
     ·rw [hv] at p3;simp only[Value.ownBlock] at p3;rw [mb] at p3;simp at p3;subst p3;exact ⟨_,_,hcc⟩
    | box t cs=>
     obtain ⟨b,vs,L,p1,p2,p3,p4,p5⟩:=hb'
     refine ⟨⟨b,vs,by rw [e1,←hq4];exact p2,by rw [e2,hq2,p1];rfl,by rw [e3,hq3],p3,p4.avr fun x mx=>hno x (p5 x mx)⟩,fun x mx=>?_⟩
     rw [hq2,hq3,p1] at mx
     simp at mx
     subst mx
     exact ⟨_,_,p3⟩)
  have hup:Zk st.ob (ZO st (Z1 r)++((k,Y9 h')::(ZE key res).2.1))=Zk (upd (Zk st.ob (ZO st (Z1 r))) k (Y9 h')) (ZE key res).2.1:=by rw [Yy];rfl
  have hif:=ZBI (k:=k) (inst:=fun j=>Classical.propDecidable (j=k)) (Zk st.ob (ZO st (Z1 r))) (Y9 h')
  have t1':HI W g' (Zk (upd (Zk st.ob (ZO st (Z1 r))) k (Y9 h')) (ZE key res).2.1) w':=hif ▸ t1
  have t5':∀j,obU (Uk U key) (Zk (upd (Zk st.ob (ZO st (Z1 r))) k (Y9 h')) (ZE key res).2.1 j):=hif ▸ t5
  have t6':∀j,¬Uk U key j→Zk (upd (Zk st.ob (ZO st (Z1 r))) k (Y9 h')) (ZE key res).2.1 j=.gone:=hif ▸ t6
  rw [←hup] at t1' t5' t6'
  exact ⟨cv,rfl,g',t1',t2,fun x c hx hc=>t3 x c hx (hc.less i2 i3),t4,t5',t6'⟩
 ·obtain ⟨l,nb,hl,hs,rfl,rfl⟩:=h
  obtain ⟨hc,hC⟩:=hs
  refine ⟨hc,?_⟩
  obtain ⟨g1,i1,i2,i3,i4⟩:=ZjB st (Z1 vs) hH (fun k=>.inl rfl)
  let st1:St:=⟨st.sl,Zk st.ob (ZO st (Z1 vs)),st.n⟩
  have hob1:∀k,st1.ob k=(if k∈Z1 vs then Z4 (st.ob k) else st.ob k):=i4
  have hfr:∀k,st1.ob k=st.ob k∨st1.ob k=Z4 (st.ob k):=fun k=>by
   rw [hob1 k];split
   ·exact .inr rfl
   ·exact .inl rfl
  have hl1:ZT st1 vs=some l:=by rw [ZeL hfr];exact hl
  have hok1:=ZqL (st1:=st1) hob1 hl
  have hobU1:∀j,obU U (st1.ob j):=Ztg hU.ob hob1
  have hgone1:∀j,¬U j→st1.ob j=.gone:=fun j hj=>by
   have e:=hU.gone j hj
   rcases hfr j with h | h<;>rw [h,e]<;>rfl
  have hvs':ZH (SVR g1 w) vs cvs:=hvs.mono fun x c _ hx=>hx.less i2 i3
  refine (hC w g1.own cvs (htt.at hH.below) (fun b hb=>i1.ownlt hb) (Zcq (st:=st1) i1 hl1 hvs' (.inr ⟨hok1,fun _ h=>h⟩))).mono ?_
  rintro e w' ⟨b,n,rfl,hb,hnR,hnb,hz,hbel⟩
  have hkU:¬U key:=hkey key (A9 _) (by omega)
  let g':Gh:=⟨fun k=>if k=key then Zmc b nb else g1.val k,fun k=>if k=key then [b] else g1.O k,fun k=>if k=key then [] else g1.D k,g1.Z⟩
  have hval:∀k,U k→g'.val k=g1.val k:=fun k hk=>if_neg fun (e:k=key)=>hkU (e ▸ hk)
  have hown2:∀x,g'.own x→g1.own x∨x=b:=fun x hx=>by
   rcases hx with ⟨k,mk⟩ | hx
   ·simp only[g'] at mk
    split at mk
    ·exact .inr (by simpa using mk)
    ·exact .inl (.inl ⟨k,mk⟩)
   ·exact .inl (.inr hx)
  have hown:X7 g1 g' w.heap.size:=.of (fun x hx=>(hown2 x hx).imp id fun (e:x=b)=>by rw [e];exact hb) fun j x mx=>by
   simp only[g'] at mx
   split at mx
   ·simp at mx
   ·exact .inl (.inr ⟨j,mx⟩)
  have hno:∀x,¬n x→¬g'.own x:=fun x mx hx=>mx (by
   rcases hown2 x hx with h | h
   ·exact hz x h
   ·rw [h];exact hnb)
  have hup:Zk st.ob (ZO st (Z1 vs)++[(key,Zub nb)])=upd (Zk st.ob (ZO st (Z1 vs))) key (Zub nb):=by rw [Yy];rfl
  have hvk:g'.val key=Zmc b nb:=if_pos rfl
  have hplain:Xk w' (Zub nb) b:=by
   cases nb with
   | box t cs=>obtain ⟨us,L,p1,_⟩:=hnR;exact ⟨_,_,p1⟩
   | map kk vk kv=>obtain ⟨es,c,p1,_⟩:=hnR;exact ⟨_,_,p1⟩
  refine ⟨_,rfl,g',?_,?_,fun x c hx hc=>(hc.less i2 i3).move hx hval (fun b hb _=>hbel.block b hb) hown hbel.size,?_,fun k=>?_,fun k hk=>?_⟩
  ·rw [hup]
   refine i1.step (U:=U) (fun k=>k=key) (hH.below.trans hbel) rfl (fun b hb _=>hbel.block b hb) (fun k hk=>⟨ZI _ _ hk,if_neg hk,if_neg hk,if_neg hk⟩) hobU1 hval hown (fun k hk=>?_)
   subst hk
   have e1:g'.O k=[b]:=if_pos rfl
   have e2:g'.D k=[]:=if_pos rfl
   rw [Zy,e1,e2]
   refine ⟨?_,by simp,fun x mx=>?_,fun j hj x mx mj=>?_⟩
   ·cases nb with
    | box t cs=>obtain ⟨us,L,p1,p2,p3⟩:=hnR;exact ⟨b,us,hvk,e1,e2,p1,p2.avr fun x mx=>hno x (p3 x mx)⟩
    | map kk vk kv=>obtain ⟨es,c,p1,p2⟩:=hnR;exact ⟨b,es,c,hvk,e1,e2,p1,p2⟩
   ·simp at mx;subst mx;exact ⟨.inl (AN hH.below.size hb),hplain⟩
   ·simp at mx;subst mx
    have e3:g'.O j=g1.O j:=if_neg fun e=>hj e.symm
    have e4:g'.D j=g1.D j:=if_neg fun e=>hj e.symm
    rw [e3,e4] at mj
    have:=i1.lt j x mj
    omega
  ·cases nb with
   | box t cs=>exact ⟨b,hvk,rfl⟩
   | map kk vk kv=>exact ⟨.row key,rfl,hvk.symm,rfl⟩
  ·cases nb with
   | box t cs=>exact .inr ⟨A9 _,by omega⟩
   | map kk vk kv=>intro y my;simp at my;subst my;exact .inr ⟨A9 _,by omega⟩
  ·rw [hup]
   by_cases hk:k=key
   ·subst hk;rw [Zy]
    cases nb with
    | box t cs=>intro y my;simp only[A6] at my;obtain ⟨x,_,rfl⟩:=my;trivial
    | map kk vk kv=>trivial
   ·rw [ZI _ _ hk];exact (hobU1 k).mono fun _=>.inl
  ·have hk2:¬k=key:=fun e=>hk (.inr ⟨by omega,by omega⟩)
   rw [hup,ZI _ _ hk2]
   exact hgone1 k fun h=>hk (.inl h)
 ·exact ZhH htt (f:=f) (vs:=vs.map nlS) h hH hU hkey (Zrj hvs) (fun x hx=>by
   obtain ⟨y,my,rfl⟩:=A6.1 hx
   exact ZtO (hvU y my))
 ·obtain ⟨l,res,hl,hs,hn,rfl,rfl⟩:=h
  obtain ⟨hc,hC⟩:=hs
  refine ⟨hc,?_⟩
  obtain ⟨g1,i1,i2,i3,i4⟩:=ZjB st (Z1 vs) hH (fun k=>.inl rfl)
  let st1:St:=⟨st.sl,Zk st.ob (ZO st (Z1 vs)),st.n⟩
  have hob1:∀k,st1.ob k=(if k∈Z1 vs then Z4 (st.ob k) else st.ob k):=i4
  have hfr:∀k,st1.ob k=st.ob k∨st1.ob k=Z4 (st.ob k):=fun k=>by
   rw [hob1 k];split
   ·exact .inr rfl
   ·exact .inl rfl
  have hl1:ZT st1 vs=some l:=by rw [ZeL hfr];exact hl
  have hok1:=ZqL (st1:=st1) hob1 hl
  have hobU1:∀j,obU U (st1.ob j):=Ztg hU.ob hob1
  have hgone1:∀j,¬U j→st1.ob j=.gone:=fun j hj=>by
   have e:=hU.gone j hj
   rcases hfr j with h | h<;>rw [h,e]<;>rfl
  have hvs':ZH (SVR g1 w) vs cvs:=hvs.mono fun x c _ hx=>hx.less i2 i3
  refine (hC w g1.own cvs (htt.at hH.below) (fun b hb=>i1.ownlt hb) (Zcq (st:=st1) i1 hl1 hvs' (.inr ⟨hok1,fun _ h=>h⟩))).mono ?_
  rintro e w' ⟨cv,n,rfl,hr,hz,hb⟩
  obtain ⟨g',t1,t2,t3,t4,t5,t6⟩:=Zgi i1 hobU1 hgone1 hkey hr hn (fun _=>False) (fun _ h=>h.elim) (fun _=>.gone) (fun _ b hb=>hz b hb) (hH.below.trans hb) hb.size (fun b hb' _=>hb.block b hb') (fun _ h=>h.elim) (fun _ _ _ _ h=>h.elim)
  simp only[if_false,←Yy] at t1 t5 t6
  exact ⟨cv,rfl,g',t1,t2,fun x c hx hc=>t3 x c hx (hc.less i2 i3),t4,t5,t6⟩
end
end
section
open Go.RowKit
section
variable {P:Program} {J:World→Prop} {JF:Nat→Prop} {W:QK} {U:Nat→Prop} {key:Nat} {st:St} {w w':World} {a:Act} {tt:Nat→Option TI} {hs:FuncId→Nat} {Q:Exit→Act→World→Prop}
theorem Zb2 (a:Act) (d:Option Nat) (v:Value):(a.put d v).tmps.size=a.tmps.size:=by cases d<;>simp [Act.put]
theorem ZeE [NW] {g g':Gh} {d:Option Nat} {v:SV} {u:List (Nat × Ob)} {cv:Value} (hS:∀t,SVR g w (st.sl t) (a.tmps.getD t undef)) (hU:StU U st) (hdef:a.defers=[]) (hh:∀v,W.hv=some v→a.tmps.getD 0 undef=v) (hd:∀t,d=some t→t<a.tmps.size∧(W.hv=none∨t≠0))
  (h1:HI W g' (Zk st.ob u) w') (h2:SVR g' w' v cv) (h3:∀x c,svU U x→SVR g w x c→SVR g' w' x c) (h4:svU (Uk U key) v) (h5:∀k,obU (Uk U key) (Zk st.ob u k)) (h6:∀k,¬Uk U key k→Zk st.ob u k=.gone):
  Inv W (Uk U key) ((st.put d v).app u) (a.put d cv) w':=by
 cases d with
 | none=>
  refine ⟨⟨g',h1,fun t=>h3 _ _ (hU.sl t) (hS t)⟩,⟨fun t=>(hU.sl t).mono fun _=>.inl,h5,h6⟩,hdef,hh⟩
 | some d=>
  have hd':=(hd d rfl).1
  refine ⟨⟨g',h1,fun t=>?_⟩,⟨fun t=>?_,h5,h6⟩,hdef,fun u hu=>?_⟩
  ·show SVR g' w' (upd st.sl d v t) ((a.tmps.setIfInBounds d cv).getD t undef)
   by_cases ht:t=d
   ·subst ht
    rw [Zy]
    simpa [AA,AZ,hd'] using h2
   ·rw [ZI _ _ ht]
    have:(a.tmps.setIfInBounds d cv).getD t undef=a.tmps.getD t undef:=by
     simp [AA,AP (fun e:d=t=>ht e.symm)]
    rw [this]
    exact h3 _ _ (hU.sl t) (hS t)
  ·show svU (Uk U key) (upd st.sl d v t)
   by_cases ht:t=d
   ·subst ht;rw [Zy];exact h4
   ·rw [ZI _ _ ht];exact (hU.sl t).mono fun _=>.inl
  ·show (a.tmps.setIfInBounds d cv).getD 0 undef=u
   have hne:d≠0:=by
    rcases (hd d rfl).2 with h | h
    ·rw [h] at hu;simp at hu
    ·exact h
   rw [←hh u hu]
   simp [AA,AP hne]
theorem Zof [NW] {g:Gh} {x:SV} {v:Value} {fc:FuncId × List CT} (hfc:ZmF x=some fc) (hs:SVR g w x v):∃cs:List Value,v=.func (.func fc.1) #[] cs.toArray∧ZH (SVR g w) (fc.2.map Zi8) cs:=by
 unfold ZmF at hfc
 split at hfc
 ·rename_i f es
  simp only[A0] at hfc
  subst hfc
  obtain ⟨y,hy,hs⟩:=hs
  simp at hy;subst hy
  obtain ⟨L,⟨vs,h1,h2⟩,h3⟩:=hs
  refine ⟨vs,h1,?_⟩
  have:=h2.avr (g:=g) h3
  have conv:∀(es:List CT) (vs:List Value),ZH (AVR g w) (es.map AV.c) vs→ZH (SVR g w) (es.map Zi8) vs:=by
   intro es
   induction es with
   | nil=>intro vs h;cases vs with
    | nil=>trivial
    | cons _ _=>exact h.elim
   | cons e es ih=>intro vs h;cases vs with
    | nil=>exact h.elim
    | cons v vs=>exact ⟨⟨_,rfl,h.1⟩,ih vs h.2⟩
  exact conv _ _ this
 ·rename_i f
  simp only[A0] at hfc
  subst hfc
  exact ⟨[],hs,trivial⟩
 ·simp at hfc
theorem ZmU [NW] (htt:MOk P J JF W tt) {o:Oper} {K:St→Prop} (h:opS tt (SC P J JF hs) key o K st) (hI:Inv W U st a w) (hkey:∀k,key≤k→k<key+16→¬U k) (hd:∀t,o.dst=some t→t<a.tmps.size∧(W.hv=none∨t≠0)):
  o.wp P a w (fun a' w'=>∃st',Inv W (Uk U key) st' a' w'∧a'.tmps.size=a.tmps.size∧K st') Q:=by
 obtain ⟨⟨g,hH,hS⟩,hU,hdef,hh⟩:=hI
 have evals:∀(args:Array Operand) (ts:Array TypeId),ZH (SVR g w) (evs tt st ts.toList args.toList) (args.toList.map a.eval)∧∀x∈evs tt st ts.toList args.toList,svU U x:=fun args ts=>by
  have he:args.toList.map a.eval=(ZhJ ts.toList args.toList).map fun p=>a.eval p.2:=by
   have:=congrArg (List.map a.eval) (Zed ts.toList args.toList)
   rw [←this,Ai];rfl
  refine ⟨?_,fun x mx=>?_⟩
  ·rw [he]
   exact ZH.of_map _ _ fun p _=>(Zi6 htt.tt hS hU p.1 p.2).1
  ·obtain ⟨p,_,rfl⟩:=A6.1 mx
   exact (Zi6 htt.tt hS hU p.1 p.2).2
 have arm:∀(f:FuncId) (n:Nat) (vs:List SV) (cvs:List Value),spK (SC P J JF hs) f n key o.dst K st vs→ZH (SVR g w) vs cvs→(∀x∈vs,svU U x)→(ZcX P f→(execOp a.eval o).run P w=.ok (.enter f cvs.toArray) w)→
   o.wp P a w (fun a' w'=>∃st',Inv W (Uk U key) st' a' w'∧a'.tmps.size=a.tmps.size∧K st') Q:=fun f n vs cvs h hargs hargU hrun=>by
  obtain ⟨v,u,hr,hK⟩:=ZjD.1 h
  obtain ⟨hc,hcall⟩:=Zfw htt hr hH hU hkey hargs hargU
  unfold Oper.wp
  rw [hrun hc,Oper.upon_enter]
  refine hcall.mono ?_
  rintro e w' ⟨cv,rfl,g',t1,t2,t3,t4,t5,t6⟩
  exact ⟨_,ZeE hS hU hdef hh hd t1 t2 t3 t4 t5 t6,Zb2 _ _ _,hK⟩
 unfold opS at h
 split at h
 ·rename_i c hc
  obtain ⟨f,l1,l2⟩:=c
  have hop:∃args ts,o.op=.call ⟨.value (.func f),args,ts⟩∧l1=ts.toList∧l2=args.toList:=by
   unfold Yx at hc
   split at hc
   ·rename_i f' args ts he
    simp only[A0,A8] at hc
    obtain ⟨rfl,rfl,rfl⟩:=hc
    exact ⟨args,ts,he,rfl,rfl⟩
   ·simp at hc
  obtain ⟨args,ts,hop,rfl,rfl⟩:=hop
  refine arm f _ _ _ h (evals args ts).1 (evals args ts).2 ?_
  rintro ⟨fn,f1,f2,f3⟩
  have f2' : ¬ fn.name = "runtime.NumGoroutine" := by simpa using f2
  have f3':¬fn.body=none:=fun e=>by rw [e] at f3;simp at f3
  have e1:(args.toList.map a.eval).toArray=args.map a.eval:=by
   apply AU
   simp
  rw [e1]
  simp [execOp,hop,resolve,Act.eval,Deferred.ofValue,invoke,callFunc,program,Sem.run,f1,f2',f3']
 ·split at h
  ·rename_i c hc
   obtain ⟨s,l1,l2⟩:=c
   have hop:∃args ts,o.op=.call ⟨.value (.tmp s),args,ts⟩∧l1=ts.toList∧l2=args.toList:=by
    unfold YP at hc
    split at hc
    ·rename_i s' args ts he
     simp only[A0,A8] at hc
     obtain ⟨rfl,rfl,rfl⟩:=hc
     exact ⟨args,ts,he,rfl,rfl⟩
    ·simp at hc
   obtain ⟨args,ts,hop,rfl,rfl⟩:=hop
   unfold Yp at h
   split at h
   ·rename_i fc hfc
    obtain ⟨_,h⟩:=h
    have hval:=Zof hfc (hS s)
    obtain ⟨cs,hv',hcs⟩:=hval
    have hv:a.eval (.tmp s)=.func (.func fc.1) #[] cs.toArray:=hv'
    refine arm fc.1 0 _ (args.toList.map a.eval++cs) h ((evals args ts).1.append hcs) (fun x mx=>?_) ?_
    ·rcases A4.1 mx with m | m
     ·exact (evals args ts).2 x m
     ·obtain ⟨c,_,rfl⟩:=A6.1 m
      exact Y8 _
    ·rintro ⟨fn,f1,f2,f3⟩
     have f2' : ¬ fn.name = "runtime.NumGoroutine" := by simpa using f2
     have f3':¬fn.body=none:=fun e=>by rw [e] at f3;simp at f3
     have e1:(args.toList.map a.eval++cs).toArray=args.map a.eval++cs.toArray:=by
      apply AU
      simp
     rw [e1]
     simp [execOp,hop,resolve,hv,Deferred.ofValue,invoke,callFunc,program,Sem.run,f1,f2',f3']
   ·exact h.elim
  ·unfold Yp at h
   split at h
   ·rename_i r hr
    obtain ⟨g',cv,w',hrun,t1,t2,t3,t4,t5,t6⟩:=ZmA (P:=P) (W:=W) (a:=a) htt.tt o hr hH hS hU (hkey key (A9 _) (by omega))
    unfold Oper.wp
    rcases hrun with hrun | ⟨hrun,rfl⟩
    ·rw [hrun]
     exact ⟨_,ZeE hS hU hdef hh hd t1 t2 t3 t4 t5 t6,Zb2 _ _ _,h⟩
    ·rw [hrun]
     exact ⟨_,ZeE hS hU hdef hh hd t1 t2 t3 t4 t5 t6,Zb2 _ _ _,h⟩
   ·exact h.elim
theorem ZqU [NW] (hI:Inv W U st a w) (d:Option Nat) (hd:∀t,d=some t→t<a.tmps.size∧(W.hv=none∨t≠0)):Inv W (Uk U key) (st.put d .und) (a.put d undef) w:=by
 obtain ⟨⟨g,hH,hS⟩,hU,hdef,hh⟩:=hI
 exact ZeE (u:=[]) (key:=key) hS hU hdef hh hd hH rfl (fun _ _ _ h=>h) trivial (fun k=>(hU.ob k).mono fun _=>.inl) (fun k hk=>hU.gone k fun h=>hk (.inl h))
theorem ZmK [NW] (htt:MOk P J JF W tt) {ops:Array Oper} {i:Nat} {o:Oper} {K:St→Prop} (ho:ops[i]?=some o) (h:opG tt (SC P J JF hs) ops.toList key o K st) (hI:Inv W U st a w) (hkey:∀k,key≤k→k<key+16→¬U k) (hd:∀t,o.dst=some t→t<a.tmps.size∧(W.hv=none∨t≠0)):
  wpOp P ops Q i (fun a' w'=>∃st',Inv W (Uk U key) st' a' w'∧a'.tmps.size=a.tmps.size∧K st') a w:=by
 have skip:K (st.put o.dst .und)→∃st',Inv W (Uk U key) st' (a.put o.dst undef) w∧(a.put o.dst undef).tmps.size=a.tmps.size∧K st':=fun hK=>⟨_,ZqU hI _ hd,Zb2 _ _ _,hK⟩
 unfold wpOp
 simp only[ho]
 unfold opG QX at h
 cases hg:o.guard with
 | none=>
  rw [hg] at h
  rw [if_pos (by simp [Region.wanted,hg])]
  exact .inl (ZmU htt h hI hkey hd)
 | some jw=>
  obtain ⟨j,want⟩:=jw
  rw [hg] at h
  simp only at h
  cases hj:(ops.toList[j]?).bind (·.dst) with
  | none=>
   rw [hj] at h
   have hj':(ops[j]?).bind (·.dst)=none:=by simpa using hj
   rw [if_neg (by simp [Region.wanted,hg,yielded,hj'])]
   exact skip h
  | some t=>
   rw [hj] at h
   have hj':(ops[j]?).bind (·.dst)=some t:=by simpa using hj
   obtain ⟨⟨g,hH,hS⟩,hU,hdef,hh⟩:=hI
   have hst:=hS t
   simp only at h
   unfold gK at h
   split at h
   ·rename_i hb
    have:∃b,st.sl t=.p false [.c (.bool b)]:=by
     unfold QJ at hb
     split at hb
     ·rename_i b he;exact ⟨b,he⟩
     ·simp at hb
    obtain ⟨b,hb'⟩:=this
    rw [hb'] at hst h
    have hv:=ZeW hst
    have hy:yielded ops a.tmps j=some b:=by
     unfold yielded
     rw [hj',AF]
     have:a.tmps[t]?=some (.bool b):=by
      rw [AA] at hv
      cases he:a.tmps[t]? with
      | none=>rw [he] at hv;simp [undef] at hv
      | some q=>rw [he] at hv;simpa using hv
     rw [this]
    by_cases hw:(b==want)=true
    ·rw [if_pos (show (XB (.p false [.c (.bool b)])==want)=true from hw)] at h
     rw [if_pos (by simpa [Region.wanted,hg,hy] using hw)]
     exact .inl (ZmU htt h ⟨⟨g,hH,hS⟩,hU,hdef,hh⟩ hkey hd)
    ·rw [if_neg (show ¬(XB (.p false [.c (.bool b)])==want)=true from hw)] at h
     rw [if_neg (by simpa [Region.wanted,hg,hy] using hw)]
     exact skip h
   ·split at h
    ·rename_i hu
     have hb':st.sl t=.und:=by
      unfold Zpw at hu
      split at hu
      ·rename_i he;exact he
      ·simp at hu
     rw [hb'] at hst
     have hst':a.tmps.getD t undef=undef:=hst
     have hy:yielded ops a.tmps j=none:=by
      unfold yielded
      rw [hj',AF]
      rw [AA] at hst'
      cases he:a.tmps[t]? with
      | none=>rfl
      | some q=>rw [he] at hst';simp at hst';rw [hst'];rfl
     rw [if_neg (by simp [Region.wanted,hg,hy])]
     exact skip h
    ·exact h.elim
theorem Zl8 [NW] (htt:MOk P J JF W tt) {ops:Array Oper} {N:Nat} (hN:∀o∈ops.toList,∀t,o.dst=some t→t<N∧(W.hv=none∨t≠0)) {K:St→Prop}:∀(r:List Oper) (i key:Nat) (U:Nat→Prop) (st:St) (a:Act) (w:World),ops.toList.drop i=r→ZY tt (SC P J JF hs) ops.toList key r K st→Inv W U st a w→(∀k,key≤k→¬U k)→a.tmps.size=N→
  (∀U' st' a' w',Inv W U' st' a' w'→(∀k,key+16 * r.length≤k→¬U' k)→a'.tmps.size=N→K st'→Q .normal a' w')→wpOps P ops Q (AJ i r.length) a w
 | [],i,key,U,st,a,w,_,h,hI,hk,hs,hQ=>hQ U st a w hI (by simpa using hk) hs h
 | o::r,i,key,U,st,a,w,hr,h,hI,hk,hs,hQ=>by
  have hi:ops.toList[i]?=some o:=by
   have:=congrArg (fun l=>l[0]?) hr
   simpa using this
  have hr':ops.toList.drop (i+1)=r:=by
   have:=congrArg List.tail hr
   simpa using this
  rw [Aj,AX,wpOps_cons]
  refine wpOp_mono ?_ (ZmK htt (by simpa using hi) h hI (fun k a _=>hk k a) (fun t ht=>by rw [hs];exact hN o (Aa hi) t ht))
  rintro a' w' ⟨st',hI',hs',hK'⟩
  refine Zl8 htt hN r (i+1) (key+16) _ st' a' w' hr' hK' hI' (fun k hk' hU=>?_) (by omega) (fun U' st2 a2 w2 h1 h2 h3 h4=>hQ U' st2 a2 w2 h1 (fun k hk'=>h2 k (by simp at hk';omega)) h3 h4)
  rcases hU with hU | hU
  ·exact hk k (by omega) hU
  ·omega
end
end
section
open Go.RowKit
def Ztk:Option TI→Bool
 | some (.slice _ _ _ z)=>z.all ZiM
 | _=>false
def cls (tt:Nat→Option TI) (hs:FuncId→Nat):Op→Nat
 | .move _=>0
 | .assign _=>0
 | .pick _ _ _=>0
 | .build _ _=>0
 | .nilCheck _=>0
 | .binOp _ _ _ _ _=>0
 | .unOp _ _ _=>0
 | .convert _ t _=>if ZbY (tt t)=true then 1 else 0
 | .slice t _ lo hi _=>if ZbY (tt t)=true then 0 else if lo.isSome&&hi.isNone then 4 else 3
 | .fieldAddr _ _ _=>0
 | .field _ _ _=>0
 | .index _ _ _=>0
 | .extract _ _=>0
 | .alloc _=>1
 | .box _ _=>1
 | .load _ _=>1
 | .makeMap _ _=>1
 | .lookup _ _ _ _=>1
 | .makeSlice _ _ _=>1
 | .indexAddr _ _ _=>1
 | .buildSlice t _ ps=>if ps.size=0∨Ztk (tt t)=true then 2 else 3
 | .call ⟨.builtin .len,_,_⟩=>1
 | .call ⟨.builtin .max,_,_⟩=>0
 | .call ⟨.builtin .min,_,_⟩=>0
 | .call ⟨.value (.func f),_,_⟩=>if hs f=0∨hs f=4 then 1 else 4
 | _=>4
section
variable {P:Program} {W:QK} {U:Nat→Prop} {key:Nat} {st st':St} {w w':World} {a:Act} {tt:Nat→Option TI} {S:Ctx} {Q:Exit→Act→World→Prop}
def Q5 (tt:Nat→Option TI) (S:Ctx) (key:Nat) (o:Oper) (st:St) (v:SV) (u:List (Nat × Ob)):Prop:=
 match Yx o.op with
 | some c=>Zaz S c.1 (S.hd c.1) key st (evs tt st c.2.1 c.2.2) v u
 | none=>match YP o.op with
  | some c=>∃fc,ZmF (st.sl c.1)=some fc∧S.hd fc.1=0∧Zaz S fc.1 0 key st (evs tt st c.2.1 c.2.2++fc.2.map Zi8) v u
  | none=>opE tt key o st=some (v,u)
def opR (tt:Nat→Option TI) (S:Ctx) (all:List Oper) (key:Nat) (o:Oper) (st:St) (v:SV) (u:List (Nat × Ob)):Prop:=
 match QX all o with
 | none=>Q5 tt S key o st v u
 | some (none,_)=>v=.und∧u=[]
 | some (some t,want)=>gK (st.sl t) want (Q5 tt S key o st v u) (v=.und∧u=[])
theorem Zrl [NW] {o:Oper} {K:St→Prop}:opS tt S key o K st↔∃v u,Q5 tt S key o st v u∧K ((st.put o.dst v).app u):=by
 cases hc:Yx o.op with
 | some c=>
  simp only[opS,Q5,hc]
  exact ZjD
 | none=>
  simp only[opS,Q5,hc]
  cases hd:YP o.op with
  | some c=>
   simp only
   constructor
   ·intro h
    unfold Yp at h
    split at h
    ·rename_i fc hfc
     obtain ⟨h0,h⟩:=h
     obtain ⟨v,u,h1,h2⟩:=ZjD.1 h
     exact ⟨v,u,⟨fc,hfc,h0,h1⟩,h2⟩
    ·exact h.elim
   ·rintro ⟨v,u,⟨fc,hfc,h0,h1⟩,h2⟩
    rw [hfc]
    exact ⟨h0,ZjD.2 ⟨v,u,h1,h2⟩⟩
  | none=>
   simp only
   constructor
   ·intro h
    unfold Yp at h
    split at h
    ·rename_i r hr
     exact ⟨r.1,r.2,hr,h⟩
    ·exact h.elim
   ·rintro ⟨v,u,h1,h2⟩
    rw [h1]
    exact h2
theorem Zgn [NW] {all:List Oper} {o:Oper} {K:St→Prop}:opG tt S all key o K st↔∃v u,opR tt S all key o st v u∧K ((st.put o.dst v).app u):=by
 have skip:K (st.put o.dst .und)↔∃v u,(v=SV.und∧u=[])∧K ((st.put o.dst v).app u):=by
  constructor
  ·intro h;exact ⟨.und,[],⟨rfl,rfl⟩,h⟩
  ·rintro ⟨v,u,⟨rfl,rfl⟩,h⟩;exact h
 cases hg:QX all o with
 | none=>simp only[opG,opR,hg];exact Zrl
 | some q=>
  obtain ⟨q,want⟩:=q
  cases q with
  | none=>simp only[opG,opR,hg];exact skip
  | some t=>
   simp only[opG,opR,hg,gK]
   by_cases h1:QJ (st.sl t)=true
   ·by_cases h2:(XB (st.sl t)==want)=true
    ·simp only[h1,h2,if_true];exact Zrl
    ·simp only[h1,h2,if_true,if_false];exact skip
   ·by_cases h2:Zpw (st.sl t)=true
    ·simp only[h1,h2,if_true,if_false];exact skip
    ·simp only[h1,h2,if_false];simp
theorem Zcy [NW] {ts:List TypeId} {xs:List Operand} (h:∀x∈xs,∀t,st.ev tt t x=st'.ev tt t x):evs tt st ts xs=evs tt st' ts xs:=by
 unfold evs
 refine AK fun p hp=>h p.2 ?_ p.1
 rw [←Zed ts xs]
 exact A6.2 ⟨p,hp,rfl⟩
def Wk (st st':St) (U:Nat→Prop):Prop:=∀k,U k→st'.ob k=st.ob k∨st'.ob k=Z4 (st.ob k)
theorem Wk.of (h:∀k,U k→st.ob k=st'.ob k):Wk st st' U:=fun k hk=>.inl (h k hk).symm
theorem ZfC (hob:Wk st st' U):∀{xs:List AV},X6 U xs→Yq st xs=Yq st' xs
 | [],_=>rfl
 | x::r,h=>by
  have hx:Zbc st x=Zbc st' x:=by
   cases x with
   | row k=>
    simp only[Zbc]
    rcases hob k (h (.row k) (by simp)) with e | e
    ·rw [e]
    ·rw [e];cases st.ob k<;>rfl
   | _=>rfl
  have hr:=ZfC hob (xs:=r) (fun y m=>h y (by simp [m]))
  simp only[Yq,hx,hr]
theorem Zdv [NW] (hob:Wk st st' U):∀{xs:List SV},(∀x∈xs,svU U x)→ZT st xs=ZT st' xs
 | [],_=>rfl
 | x::r,h=>by
  have hx:Zcd st x=Zcd st' x:=by
   cases x with
   | p ag cs=>simp only[Zcd,ZfC hob (h (.p ag cs) (by simp))]
   | _=>rfl
  have hr:=Zdv hob (xs:=r) (fun y m=>h y (by simp [m]))
  simp only[ZT,hx,hr]
theorem Zp7 (hob:Wk st st' U) {t:Option TI} {x:SV} (hx:svU U x):Qa st t x=Qa st' t x:=by
 cases x with
 | bp k off=>
  simp only[Qa]
  rcases hob k hx with e | e
  ·rw [e]
  ·rw [e];cases st.ob k<;>rfl
 | rp k m i off=>
  simp only[Qa]
  rcases hob k hx with e | e
  ·rw [e]
  ·rw [e];cases st.ob k<;>rfl
 | p ag cs=>cases ag with
  | true=>rfl
  | false=>cases cs with
   | nil=>rfl
   | cons y r=>cases r<;>cases y<;>first | rfl | (rename_i z;cases z<;>rfl) | (rename_i z _ _;cases z<;>rfl)
 | _=>rfl
theorem Zsd (hob:Wk st st' U) {t:Option TI} {x:SV} (hx:svU U x):ZlW st t x=ZlW st' t x:=by
 unfold ZlW
 split<;>try rfl
 rename_i k
 rcases hob k (hx (.row k) (by simp)) with e | e
 ·rw [e]
 ·rw [e];cases st.ob k<;>rfl
theorem Zn2 (hob:Wk st st' U) {m:Nat} {x i:SV} (hx:svU U x):Za9 st m x i=Za9 st' m x i:=by
 unfold Za9
 split<;>try rfl
 rename_i k _ _
 rcases hob k (hx (.row k) (by simp)) with e | e
 ·rw [e]
 ·rw [e];cases st.ob k<;>rfl
theorem Zsg (hob:st.ob=st'.ob) (x:SV):Zhy st x=Zhy st' x:=by
 unfold Zhy
 rw [hob]
theorem ZkP [NW] (hob:st.ob=st'.ob):∀xs:List SV,ZdD st xs=ZdD st' xs
 | []=>rfl
 | x::r=>by simp only[ZdD,Zsg hob x,ZkP hob r]
theorem Zqi (hob:Wk st st' U) {t:Option TI} {x i:SV} {ok:Bool} (hx:svU U x):Zfb st t x i ok=Zfb st' t x i ok:=by
 unfold Zfb
 split<;>try rfl
 rename_i k
 rcases hob k (hx (.row k) (by simp)) with e | e
 ·rw [e]
 ·rw [e];cases st.ob k<;>rfl
theorem ZqC (hob:Wk st st' U) {x:SV} (hx:svU U x):ZgV st x=ZgV st' x:=by
 unfold ZgV
 split<;>try rfl
 rename_i k
 rcases hob k (hx (.row k) (by simp)) with e | e
 ·rw [e]
 ·rw [e];cases st.ob k<;>rfl
theorem Zqp [NW] (hob:Wk st st' U) {s t:Nat} {x:SV} (hx:svU U x):ZfG tt st s t x=ZfG tt st' s t x:=by
 unfold ZfG
 rw [ZqC hob hx]
def Mk (st st':St) (U:Nat→Prop):Prop:=∀k,U k→st'.ob k=st.ob k∨st'.ob k=.gone
theorem Zja (hob:Mk st st' U):∀{xs:List AV} {r:List CT},X6 U xs→Yq st' xs=some r→Yq st xs=some r
 | [],_,_,h=>h
 | x::xs,r,hu,h=>by
  simp only[Yq] at h ⊢
  obtain ⟨a,h1,h⟩:=A5.1 h
  obtain ⟨b,h2,rfl⟩:=A3.1 h
  have hx:Zbc st x=some a:=by
   cases x with
   | row k=>
    simp only[Zbc] at h1 ⊢
    rcases hob k (hu (.row k) (by simp)) with e | e
    ·rwa [e] at h1
    ·rw [e] at h1;simp at h1
   | _=>exact h1
  rw [hx,AF,Zja hob (fun y m=>hu y (by simp [m])) h2]
  rfl
theorem Zfx [NW] (hob:Mk st st' U):∀{xs:List SV} {r:List (Bool × List CT)},(∀x∈xs,svU U x)→ZT st' xs=some r→ZT st xs=some r
 | [],_,_,h=>h
 | x::xs,r,hu,h=>by
  simp only[ZT] at h ⊢
  obtain ⟨a,h1,h⟩:=A5.1 h
  obtain ⟨b,h2,rfl⟩:=A3.1 h
  have hx:Zcd st x=some a:=by
   cases x with
   | p ag cs=>
    simp only[Zcd] at h1 ⊢
    obtain ⟨l,h3,rfl⟩:=A3.1 h1
    rw [Zja hob (hu (.p ag cs) (by simp)) h3]
    rfl
   | _=>exact h1
  rw [hx,AF,Zfx hob (fun y m=>hu y (by simp [m])) h2]
  rfl
theorem Zqx (hob:Mk st st' U) {t:Option TI} {x r:SV} (hx:svU U x) (h:Qa st' t x=some r):Qa st t x=some r:=by
 cases x with
 | bp k off=>
  simp only[Qa] at h ⊢
  rcases hob k hx with e | e
  ·rwa [e] at h
  ·rw [e] at h;simp at h
 | rp k m i off=>
  simp only[Qa] at h ⊢
  rcases hob k hx with e | e
  ·rwa [e] at h
  ·rw [e] at h;simp at h
 | p ag cs=>cases ag with
  | true=>exact h
  | false=>cases cs with
   | nil=>exact h
   | cons y r=>cases r<;>cases y<;>first | exact h | (rename_i z;cases z<;>exact h) | (rename_i z _ _;cases z<;>exact h)
 | _=>exact h
theorem Zsk (hob:Mk st st' U) {t:Option TI} {x r:SV} (hx:svU U x) (h:ZlW st' t x=some r):ZlW st t x=some r:=by
 unfold ZlW at h ⊢
 split at h<;>try exact h
 rename_i k
 rcases hob k (hx (.row k) (by simp)) with e | e
 ·rwa [e] at h
 ·rw [e] at h;simp at h
theorem Znv (hob:Mk st st' U) {m:Nat} {x i r:SV} (hx:svU U x) (h:Za9 st' m x i=some r):Za9 st m x i=some r:=by
 unfold Za9 at h ⊢
 split at h<;>try exact h
 rename_i k _ _
 rcases hob k (hx (.row k) (by simp)) with e | e
 ·rwa [e] at h
 ·rw [e] at h;simp at h
theorem Zp4 (hob:Mk st st' U) {t:Option TI} {x i r:SV} {ok:Bool} (hx:svU U x) (h:Zfb st' t x i ok=some r):Zfb st t x i ok=some r:=by
 unfold Zfb at h ⊢
 split at h<;>try exact h
 rename_i k
 rcases hob k (hx (.row k) (by simp)) with e | e
 ·rwa [e] at h
 ·rw [e] at h;simp at h
theorem ZqG (hob:Mk st st' U) {x r:SV} (hx:svU U x) (h:ZgV st' x=some r):ZgV st x=some r:=by
 unfold ZgV at h ⊢
 split at h<;>try exact h
 rename_i k
 rcases hob k (hx (.row k) (by simp)) with e | e
 ·rwa [e] at h
 ·rw [e] at h;simp at h
theorem Zm0 [NW] {o:Oper} {sl sl':Nat→SV} {ob:Nat→Ob} {n n':Nat} (hl:∀x∈o.op.operands,∀t,St.ev tt ⟨sl,ob,n⟩ t x=St.ev tt ⟨sl',ob,n'⟩ t x):opE tt key o ⟨sl,ob,n⟩=opE tt key o ⟨sl',ob,n'⟩:=by
 obtain ⟨dst,op,ty,pos,af,gd⟩:=o
 cases op with
 | build t parts=>
  have hp:∀fs z,parts.toList.map (Ze5 tt ⟨sl,ob,n⟩ fs z)=parts.toList.map (Ze5 tt ⟨sl',ob,n'⟩ fs z):=fun fs z=>AK fun p hp=>by
   have:=hl p.2 (by simp [Op.operands];exact ⟨p.1,by simpa using hp⟩) 0
   unfold Ze5
   split
   ·rfl
   ·rw [this]
  simp only[opE,hp]
 | buildSlice t len parts=>
  have hp:∀e,(parts.toList.map fun p=>St.ev tt ⟨sl,ob,n⟩ e p.2)=parts.toList.map fun p=>St.ev tt ⟨sl',ob,n'⟩ e p.2:=fun e=>AK fun p hp=>hl p.2 (by simp [Op.operands];exact ⟨p.1,by simpa using hp⟩) e
  have he:∀m l,YL ⟨sl,ob,n⟩ m l=YL ⟨sl',ob,n'⟩ m l:=fun m l=>by
   have h1:∀x,avT ⟨sl,ob,n⟩ x=avT ⟨sl',ob,n'⟩ x:=fun x=>by cases x<;>rfl
   have h2:∀xs,Ze6 ⟨sl,ob,n⟩ xs=Ze6 ⟨sl',ob,n'⟩ xs:=fun xs=>by
    induction xs with
    | nil=>rfl
    | cons x xs ih=>simp only[Ze6,h1,ih]
   induction l with
   | nil=>rfl
   | cons x xs ih=>cases x<;>simp only[YL,h2,ih]
  have hz:∀ks,ZO ⟨sl,ob,n⟩ ks=ZO ⟨sl',ob,n'⟩ ks:=fun ks=>by
   induction ks with
   | nil=>rfl
   | cons k r ih=>simp only[ZO,ih]
  simp only[opE,hp,he,hz]
 | slice t x lo hi mx=>
  simp only[Op.operands] at hl
  cases mx with
  | some _=>rfl
  | none=>
   have hx:=fun t=>hl x (by simp) t
   cases lo with
   | none=>cases hi with
    | none=>simp only[opE,hx,AH];rfl
    | some h=>have hh:=fun t=>hl h (by simp) t;simp only[opE,hx,hh,AH,AB];rfl
   | some l=>
    have hlo:=fun t=>hl l (by simp) t
    cases hi with
    | none=>simp only[opE,hx,hlo,AH,AB];rfl
    | some h=>have hh:=fun t=>hl h (by simp) t;simp only[opE,hx,hlo,hh,AB];rfl
 | call c=>
  obtain ⟨callee,args,ts⟩:=c
  cases callee with
  | builtin b=>
   have:=Zcy (tt:=tt) (st:=⟨sl,ob,n⟩) (st':=⟨sl',ob,n'⟩) (ts:=ts.toList) (xs:=args.toList) (fun x m t=>hl x (by simp [Op.operands,Call.operands];simpa using m) t)
   simp only[opE,this]
   unfold Zet
   split<;>rfl
  | value f=>rfl
  | invoke r m=>rfl
 | move x=>have:=fun t=>hl x (by simp [Op.operands]) t;simp only[opE,this]
 | assign x=>have:=fun t=>hl x (by simp [Op.operands]) t;simp only[opE,this]
 | pick c x y=>have h1:=fun t=>hl c (by simp [Op.operands]) t;have h2:=fun t=>hl x (by simp [Op.operands]) t;have h3:=fun t=>hl y (by simp [Op.operands]) t;simp only[opE,h1,h2,h3]
 | alloc t=>rfl
 | box t x=>have:=fun t=>hl x (by simp [Op.operands]) t;simp only[opE,this]
 | load t x=>have:=fun t=>hl x (by simp [Op.operands]) t;simp only[opE,this];rfl
 | store t x v=>have h1:=fun t=>hl x (by simp [Op.operands]) t;have h2:=fun t=>hl v (by simp [Op.operands]) t;simp only[opE,h1,h2];rfl
 | nilCheck x=>have:=fun t=>hl x (by simp [Op.operands]) t;simp only[opE,this]
 | binOp op t x y t'=>have h1:=fun t=>hl x (by simp [Op.operands]) t;have h2:=fun t=>hl y (by simp [Op.operands]) t;simp only[opE,h1,h2]
 | unOp op t x=>have:=fun t=>hl x (by simp [Op.operands]) t;simp only[opE,this]
 | convert s t x=>have:=fun t=>hl x (by simp [Op.operands]) t;simp only[opE,this];rfl
 | makeFunc fn first caps=>
  cases fn with
  | func f=>
   have hc:caps.toList.map (St.ev tt ⟨sl,ob,n⟩ 0)=caps.toList.map (St.ev tt ⟨sl',ob,n'⟩ 0):=AK fun x hx=>hl x (by simp [Op.operands];exact .inr (by simpa using hx)) 0
   simp only[opE,hc,ZkP (st:=⟨sl,ob,n⟩) (st':=⟨sl',ob,n'⟩) rfl]
  | _=>rfl
 | makeMap t r=>cases r<;>rfl
 | lookup t x i ok=>have h1:=fun t=>hl x (by simp [Op.operands]) t;have h2:=fun t=>hl i (by simp [Op.operands]) t;simp only[opE,h1,h2];rfl
 | mapUpdate t x i v=>have h1:=fun t=>hl x (by simp [Op.operands]) t;have h2:=fun t=>hl i (by simp [Op.operands]) t;have h3:=fun t=>hl v (by simp [Op.operands]) t;simp only[opE,h1,h2,h3];rfl
 | makeSlice t x y=>have h1:=fun t=>hl x (by simp [Op.operands]) t;have h2:=fun t=>hl y (by simp [Op.operands]) t;simp only[opE,h1,h2]
 | fieldAddr t x f=>have:=fun t=>hl x (by simp [Op.operands]) t;simp only[opE,this]
 | field t x f=>have:=fun t=>hl x (by simp [Op.operands]) t;simp only[opE,this]
 | indexAddr t x y=>have h1:=fun t=>hl x (by simp [Op.operands]) t;have h2:=fun t=>hl y (by simp [Op.operands]) t;simp only[opE,h1,h2];rfl
 | index t x y=>have h1:=fun t=>hl x (by simp [Op.operands]) t;have h2:=fun t=>hl y (by simp [Op.operands]) t;simp only[opE,h1,h2]
 | extract x i=>have:=fun t=>hl x (by simp [Op.operands]) t;simp only[opE,this]
 | _=>rfl
theorem Zq5 (sl:Nat→SV) (ob ob':Nat→Ob) (n n' t:Nat) (x:Operand):St.ev tt ⟨sl,ob,n⟩ t x=St.ev tt ⟨sl,ob',n'⟩ t x:=by cases x<;>rfl
theorem ZtQ {st st':St} (h:∀k,U k→st.ob k=st'.ob k) {x:AV} (hx:avU U x):avT st x=avT st' x:=by
 cases x with
 | row k=>simp only[avT];rw [h k hx]
 | c x=>cases x<;>rfl
 | nil e m=>rfl
 | n x=>rfl
 | dead=>rfl
theorem ZmZ [NW] {st st':St} (h:∀k,U k→st.ob k=st'.ob k):∀{xs:List AV},X6 U xs→Ze6 st xs=Ze6 st' xs
 | [],_=>rfl
 | x::r,hx=>by simp only[Ze6];rw [ZtQ h (hx x (by simp)),ZmZ h fun y m=>hx y (by simp [m])]
theorem ZiQ [NW] {st st':St} {m:Nat} (h:∀k,U k→st.ob k=st'.ob k):∀{xs:List SV},(∀v∈xs,svU U v)→YL st m xs=YL st' m xs
 | [],_=>rfl
 | .p a cs::r,hx=>by
  simp only[YL]
  rw [ZmZ h (hx (.p a cs) (by simp)),ZiQ h fun v mv=>hx v (by simp [mv])]
 | .any::r,_=>rfl
 | .und::r,_=>rfl
 | .tup _::r,_=>rfl
 | .bp _ _::r,_=>rfl
 | .rp _ _ _ _::r,_=>rfl
 | .ep _ _::r,_=>rfl
 | .fn _::r,_=>rfl
theorem ZrR {x:AV} {ct:CT} {ks:List Nat} {d:Nat} (h:avT st x=some (ct,ks,d)) (hx:avU U x):∀k∈ks,U k:=by
 intro k mk
 cases x with
 | c y=>cases y<;>simp only[avT,A0,A8] at h<;>(rw [←h.2.1] at mk;simp at mk)
 | nil e m=>
  simp only[avT] at h
  split at h<;>simp only[A0,A8,reduceCtorEq] at h
  rw [←h.2.1] at mk;simp at mk
 | row j=>
  simp only[avT] at h
  split at h
  ·split at h<;>simp only[A0,A8] at h
   ·rw [←h.2.1] at mk;simp at mk
   ·rw [←h.2.1] at mk;simp at mk;subst mk;exact hx
  ·simp at h
 | n x=>simp [avT] at h
 | dead=>simp [avT] at h
theorem ZkM [NW]:∀{xs:List AV} {cts:List CT} {ks:List Nat} {d:Nat},Ze6 st xs=some (cts,ks,d)→X6 U xs→∀k∈ks,U k
 | [],_,_,_,h,_,k,mk=>by simp only[Ze6,A0,A8] at h;rw [←h.2.1] at mk;simp at mk
 | x::r,_,_,_,h,hu,k,mk=>by
  simp only[Ze6] at h
  obtain ⟨⟨c1,k1,d1⟩,h1,h⟩:=A5.1 h
  obtain ⟨⟨c2,k2,d2⟩,h2,h⟩:=A3.1 h
  simp only[A8] at h
  rw [←h.2.1] at mk
  rcases A4.1 mk with mk | mk
  ·exact ZrR h1 (hu x (by simp)) k mk
  ·exact ZkM h2 (fun y my=>hu y (by simp [my])) k mk
theorem ZeS [NW] {m:Nat}:∀{xs:List SV} {es:List (List CT)} {ks:List Nat} {d:Nat},YL st m xs=some (es,ks,d)→(∀v∈xs,svU U v)→∀k∈ks,U k
 | [],_,_,_,h,_,k,mk=>by simp only[YL,A0,A8] at h;rw [←h.2.1] at mk;simp at mk
 | x::r,_,_,_,h,hu,k,mk=>by
  cases x with
  | p a cs=>
   simp only[YL] at h
   split at h
   ·obtain ⟨⟨c1,k1,d1⟩,h1,h⟩:=A5.1 h
    obtain ⟨⟨c2,k2,d2⟩,h2,h⟩:=A3.1 h
    simp only[A8] at h
    rw [←h.2.1] at mk
    rcases A4.1 mk with mk | mk
    ·exact ZkM h1 (hu (.p a cs) (by simp)) k mk
    ·exact ZeS h2 (fun v mv=>hu v (by simp [mv])) k mk
   ·simp at h
  | _=>simp [YL] at h
theorem ZpM {st st':St} {ks:List Nat} (h:∀k∈ks,st.ob k=st'.ob k):ZO st ks=ZO st' ks:=by
 induction ks with
 | nil=>rfl
 | cons k r ih=>simp only[ZO,h k (by simp),ih fun j mj=>h j (by simp [mj])]
theorem ZjV {ks:List Nat} {p:Nat × Ob} (h:p∈ZO st ks):p.1∈ks∧p.2=Z4 (st.ob p.1):=by
 induction ks with
 | nil=>simp [ZO] at h
 | cons k r ih=>
  simp only[ZO,A7] at h
  rcases h with rfl | h
  ·exact ⟨by simp,rfl⟩
  ·exact ⟨by simp [(ih h).1],(ih h).2⟩
theorem ZjE [NW] {hs:FuncId→Nat} {o:Oper} {sl:Nat→SV} {ob ob':Nat→Ob} {n n':Nat} (h:cls tt hs o.op=0∨(cls tt hs o.op≤3∧(∀k,U k→ob k=ob' k)∧∀t x,svU U (St.ev tt ⟨sl,ob,n⟩ t x))∨(cls tt hs o.op≤1∧Wk ⟨sl,ob,n⟩ ⟨sl,ob',n'⟩ U∧∀t x,svU U (St.ev tt ⟨sl,ob,n⟩ t x))):opE tt key o ⟨sl,ob,n⟩=opE tt key o ⟨sl,ob',n'⟩:=by
 have he:=fun t x=>Zq5 (tt:=tt) sl ob ob' n n' t x
 have hle:cls tt hs o.op≤3:=by rcases h with h | h | h<;>omega
 have hwk:cls tt hs o.op=0∨(Wk ⟨sl,ob,n⟩ ⟨sl,ob',n'⟩ U∧∀t x,svU U (St.ev tt ⟨sl,ob',n'⟩ t x)):=by
  rcases h with h | h | h
  ·exact .inl h
  ·exact .inr ⟨fun k hk=>.inl (h.2.1 k hk).symm,fun t x=>he t x ▸ h.2.2 t x⟩
  ·exact .inr ⟨h.2.1,fun t x=>he t x ▸ h.2.2 t x⟩
 obtain ⟨dst,op,ty,pos,af,gd⟩:=o
 cases op with
 | build t parts=>
  have hp:∀fs z,parts.toList.map (Ze5 tt ⟨sl,ob,n⟩ fs z)=parts.toList.map (Ze5 tt ⟨sl,ob',n'⟩ fs z):=fun fs z=>AK fun p hp=>by
   unfold Ze5
   split
   ·rfl
   ·rw [he]
  simp only[opE,hp]
 | buildSlice t len parts=>
  have hc:2≤cls tt hs (.buildSlice t len parts):=by simp only[cls];split<;>omega
  have h':(∀k,U k→ob k=ob' k)∧∀t x,svU U (St.ev tt ⟨sl,ob,n⟩ t x):=by
   rcases h with h | h | h
   ·simp only at h;omega
   ·exact h.2
   ·simp only at h;omega
  obtain ⟨h1,h2⟩:=h'
  simp only[opE,he]
  split
  ·rename_i e m _ z _
   have hu:∀v∈parts.toList.map (fun p=>St.ev tt ⟨sl,ob',n'⟩ e p.2),svU U v:=fun v mv=>by obtain ⟨p,_,rfl⟩:=A6.1 mv;rw [←he];exact h2 _ _
   rw [ZiQ (U:=U) (st:=⟨sl,ob,n⟩) (st':=⟨sl,ob',n'⟩) h1 hu]
   cases hel:YL ⟨sl,ob',n'⟩ m (parts.toList.map fun p=>St.ev tt ⟨sl,ob',n'⟩ e p.2) with
   | none=>rfl
   | some a=>
    have hk:=ZeS (U:=U) hel hu
    have:=ZpM (st:=⟨sl,ob,n⟩) (st':=⟨sl,ob',n'⟩) (ks:=a.2.1) (fun k mk=>h1 k (hk k mk))
    simp only[AF,this]
  ·rfl
 | load t x=>
  obtain ⟨h1,h2⟩:=hwk.resolve_left (by simp [cls])
  simp only[opE,he]
  rw [Zp7 (U:=U) (st:=⟨sl,ob,n⟩) (st':=⟨sl,ob',n'⟩) h1 (h2 0 x)]
 | indexAddr t x y=>
  obtain ⟨h1,h2⟩:=hwk.resolve_left (by simp [cls])
  simp only[opE,he]
  split
  ·rw [Zn2 (U:=U) (st:=⟨sl,ob,n⟩) (st':=⟨sl,ob',n'⟩) h1 (h2 0 x)]
  ·rfl
 | call c=>
  obtain ⟨callee,args,ts⟩:=c
  cases callee with
  | builtin b=>
   have hev:evs tt ⟨sl,ob,n⟩ ts.toList args.toList=evs tt ⟨sl,ob',n'⟩ ts.toList args.toList:=Zcy fun x _ t=>he t x
   simp only[opE,hev]
   unfold Zet
   split
   ·rename_i t _ v he1 he2
    obtain ⟨h1,h2⟩:=hwk.resolve_left (by simp [cls])
    have hu:svU U v:=by
     have hm:v∈evs tt ⟨sl,ob',n'⟩ ts.toList args.toList:=by simp [he2]
     obtain ⟨p,_,rfl⟩:=A6.1 hm
     exact h2 _ _
    rw [Zsd (U:=U) (st:=⟨sl,ob,n⟩) (st':=⟨sl,ob',n'⟩) h1 hu]
   ·simp [cls] at hle
   ·rfl
   ·rfl
   ·rfl
  | value f=>rfl
  | invoke r m=>rfl
 | store t x v=>simp [cls] at hle
 | makeFunc fn first caps=>simp [cls] at hle
 | mapUpdate t x i v=>simp [cls] at hle
 | makeMap t r=>cases r<;>rfl
 | lookup t x i ok=>
  obtain ⟨h1,h2⟩:=hwk.resolve_left (by simp [cls])
  simp only[opE,he]
  rw [Zqi (U:=U) (st:=⟨sl,ob,n⟩) (st':=⟨sl,ob',n'⟩) h1 (h2 0 x)]
 | convert s t x=>
  simp only[opE,he]
  by_cases hst:ZbY (tt t)=true
  ·obtain ⟨h1,h2⟩:=hwk.resolve_left (by simp [cls,hst])
   rw [Zqp (U:=U) (st:=⟨sl,ob,n⟩) (st':=⟨sl,ob',n'⟩) h1 (h2 0 x)]
  ·have e:∀st:St,ZfG tt st s t (St.ev tt ⟨sl,ob',n'⟩ 0 x)=ZoY (tt s) (tt t) (St.ev tt ⟨sl,ob',n'⟩ 0 x):=fun st=>by
    unfold ZfG
    rw [if_neg (by simp [hst])]
   rw [e,e]
 | slice t x lo hi mx=>
  cases mx with
  | some _=>rfl
  | none=>
   by_cases hstr:ZbY (tt t)=true
   ·have hns:Za2 (tt t)=false:=by
     unfold ZbY at hstr
     split at hstr
     ·rename_i e;rw [e];rfl
     ·simp at hstr
    have hu:∀l h v,Qi ⟨sl,ob,n⟩ key (tt t) l h v=Qi ⟨sl,ob',n'⟩ key (tt t) l h v:=fun l h v=>by
     unfold Qi
     split
     ·simp [hns]
     ·rfl
     ·rfl
    cases lo<;>cases hi<;>simp only[opE,he,AH,AB,hu]
   ·have hc:2<cls tt hs (.slice t x lo hi none):=by simp only[cls];rw [if_neg hstr];split<;>omega
    have h':(∀k,U k→ob k=ob' k)∧∀t x,svU U (St.ev tt ⟨sl,ob,n⟩ t x):=by
     rcases h with h | h | h
     ·simp only at h;omega
     ·exact h.2
     ·simp only at h;omega
    obtain ⟨h1,h2⟩:=h'
    have hu:∀l h v,svU U v→Qi ⟨sl,ob,n⟩ key (tt t) l h v=Qi ⟨sl,ob',n'⟩ key (tt t) l h v:=fun l h v hv=>by
     unfold Qi
     split
     ·rename_i k
      have hk:U k:=hv (.row k) (by simp)
      simp only[h1 k hk]
     ·rfl
     ·rfl
    simp only[opE,he]
    exact hu _ _ _ (he 0 x ▸ h2 0 x)
 | _=>first | rfl | simp only[opE,he]
theorem Zdk {x y:Option SV} {r:SV × List (Nat × Ob)} (h:∀v,x=some v→y=some v) (hx:Zay x=some r):Zay y=some r:=by
 obtain ⟨v,h1,rfl⟩:=A3.1 hx
 rw [h v h1]
 rfl
theorem ZsV [NW] {hs:FuncId→Nat} {o:Oper} {sl:Nat→SV} {ob ob':Nat→Ob} {n n':Nat} {r:SV × List (Nat × Ob)} (hc:cls tt hs o.op≤1) (hob:Mk ⟨sl,ob,n⟩ ⟨sl,ob',n'⟩ U) (hu:∀t x,svU U (St.ev tt ⟨sl,ob,n⟩ t x)) (h:opE tt key o ⟨sl,ob',n'⟩=some r):opE tt key o ⟨sl,ob,n⟩=some r:=by
 have he:=fun t x=>Zq5 (tt:=tt) sl ob ob' n n' t x
 by_cases h0:cls tt hs o.op=0
 ·rw [ZjE (U:=U) (n':=n') (ob':=ob') (.inl h0)];exact h
 obtain ⟨dst,op,ty,pos,af,gd⟩:=o
 cases op with
 | load t x=>
  simp only[opE,he] at h ⊢
  exact Zdk (fun v hv=>Zqx hob (he 0 x ▸ hu 0 x) hv) h
 | indexAddr t x y=>
  simp only[opE,he] at h ⊢
  split at h
  ·exact Zdk (fun v hv=>Znv hob (he 0 x ▸ hu 0 x) hv) h
  ·simp at h
 | lookup t x i ok=>
  simp only[opE,he] at h ⊢
  exact Zdk (fun v hv=>Zp4 hob (he 0 x ▸ hu 0 x) hv) h
 | convert s t x=>
  simp only[opE,he] at h ⊢
  refine Zdk (fun v hv=>?_) h
  unfold ZfG at hv ⊢
  split at hv
  ·rename_i hb
   rw [if_pos hb]
   exact ZqG hob (he 0 x ▸ hu 0 x) hv
  ·rename_i hb
   rw [if_neg hb]
   exact hv
 | call c=>
  obtain ⟨callee,args,ts⟩:=c
  cases callee with
  | builtin b=>
   have hev:evs tt ⟨sl,ob,n⟩ ts.toList args.toList=evs tt ⟨sl,ob',n'⟩ ts.toList args.toList:=Zcy fun x _ t=>he t x
   simp only[opE,hev] at h ⊢
   unfold Zet at h ⊢
   split at h
   ·rename_i t _ v he1 he2
    have hu':svU U v:=by
     have hm:v∈evs tt ⟨sl,ob',n'⟩ ts.toList args.toList:=by simp [he2]
     obtain ⟨p,_,rfl⟩:=A6.1 hm
     rw [←he];exact hu _ _
    exact Zdk (fun w hw=>Zsk hob hu' hw) h
   ·simp [cls] at hc
   ·exact h
   ·exact h
   ·exact h
  | value f=>exact h
  | invoke r m=>exact h
 | slice t x lo hi mx=>simp only[cls] at hc h0;split at hc<;>rename_i hq<;>simp [hq] at h0<;>(split at hc<;>omega)
 | buildSlice t len parts=>simp only[cls] at hc;split at hc<;>omega
 | store t x v=>simp [cls] at hc
 | makeFunc fn first caps=>simp [cls] at hc
 | mapUpdate t x i v=>simp [cls] at hc
 | makeMap t r=>cases r<;>exact h
 | _=>first | exact h | (simp only[opE,he] at h ⊢;exact h)
theorem Yo:∀(cts:List (Bool × CT)) (key:Nat),key≤(Z3 key cts).2.2∧∀p∈(Z3 key cts).2.1,key≤p.1∧p.1<(Z3 key cts).2.2
 | [],key=>by simp [Z3]
 | (true,x)::r,key=>Yo r key
 | (false,ct)::r,key=>by
  cases ct with
  | sl e m xs=>
   obtain ⟨h1,h2⟩:=Yo r (key+1)
   refine ⟨by simp only[Z3];omega,fun p hp=>?_⟩
   simp only[Z3,A7] at hp ⊢
   rcases hp with rfl | hp
   ·exact ⟨A9 _,by simp only;omega⟩
   ·have:=h2 p hp;omega
  | int k n=>exact Yo r key
  | bool b=>exact Yo r key
  | str s=>exact Yo r key
  | ifc s=>exact Yo r key
  | any=>exact Yo r key
  | nl a b=>exact Yo r key
  | pt s=>exact Yo r key
  | fn f s=>exact Yo r key
  | mp a b s=>exact Yo r key
theorem ZfE [NW]:∀(res:List RT) (key:Nat),key≤(ZE key res).2.2∧∀p∈(ZE key res).2.1,key≤p.1∧p.1<(ZE key res).2.2
 | [],key=>by simp [ZE]
 | x::r,key=>by
  obtain ⟨h1,h2⟩:=Yo x.2 key
  obtain ⟨h3,h4⟩:=ZfE r (Z3 key x.2).2.2
  refine ⟨by simp only[ZE];omega,fun p hp=>?_⟩
  simp only[ZE,A4] at hp ⊢
  rcases hp with hp | hp
  ·have:=h2 p hp;omega
  ·have:=h4 p hp;omega
theorem YK {v:Option SV} {r:SV × List (Nat × Ob)} (h:Zay v=some r):r.2=[]:=by
 obtain ⟨u,_,rfl⟩:=A3.1 h;rfl
theorem Ztm [NW] {hs:FuncId→Nat} {o:Oper} {r:SV × List (Nat × Ob)} (hU:∀t x,svU U (st.ev tt t x)) (h:opE tt key o st=some r):(cls tt hs o.op=0→r.2=[])∧(cls tt hs o.op≤2→∀p∈r.2,key≤p.1∧p.1<key+16)∧(cls tt hs o.op≤3→∀p∈r.2,(key≤p.1∧p.1<key+16)∨(U p.1∧p.2=Z4 (st.ob p.1))):=by
 have nil:r.2=[]→(cls tt hs o.op=0→r.2=[])∧(cls tt hs o.op≤2→∀p∈r.2,key≤p.1∧p.1<key+16)∧(cls tt hs o.op≤3→∀p∈r.2,(key≤p.1∧p.1<key+16)∨(U p.1∧p.2=Z4 (st.ob p.1))):=fun e=>⟨fun _=>e,fun _ p hp=>by simp [e] at hp,fun _ p hp=>by simp [e] at hp⟩
 obtain ⟨dst,op,ty,pos,af,gd⟩:=o
 cases op with
 | move x=>simp only[opE,A0] at h;exact nil (by rw [←h])
 | assign x=>simp only[opE,A0] at h;exact nil (by rw [←h])
 | pick c x y=>
  simp only[opE] at h
  split at h
  ·simp only[A0] at h;exact nil (by rw [←h])
  ·simp at h
 | alloc t=>
  simp only[opE] at h
  obtain ⟨z,_,rfl⟩:=A3.1 h
  exact ⟨fun e=>by simp [cls] at e,fun _ p hp=>by simp at hp;subst hp;simp,fun _ p hp=>by simp at hp;subst hp;simp⟩
 | box t x=>
  simp only[opE] at h
  split at h
  ·simp only[A0] at h
   subst h
   exact ⟨fun e=>by simp [cls] at e,fun _ p hp=>by simp at hp;subst hp;simp,fun _ p hp=>by simp at hp;subst hp;simp⟩
  ·simp at h
 | build t parts=>
  simp only[opE] at h
  split at h
  ·obtain ⟨cs,_,rfl⟩:=A3.1 h;exact nil rfl
  ·simp at h
 | buildSlice t len parts=>
  simp only[opE] at h
  split at h
  ·obtain ⟨⟨xs,ks,d⟩,h1,h⟩:=A5.1 h
   split at h
   ·simp only[A0] at h
    subst h
    rename_i e0 _ _ z hti hcond
    have hu:∀v∈parts.toList.map (fun p=>st.ev tt e0 p.2),svU U v:=fun v mv=>by obtain ⟨p,_,rfl⟩:=A6.1 mv;exact hU _ _
    have hk:=ZeS (U:=U) h1 hu
    refine ⟨fun e=>by simp only[cls] at e;split at e<;>simp at e,fun e p hp=>?_,fun e p hp=>?_⟩
    ·by_cases hs:parts.size=0
     ·have:parts=#[]:=by simpa using hs
      subst this
      simp [YL] at h1
      obtain ⟨_,rfl,_⟩:=h1
      simp [ZO] at hp;subst hp;simp
     ·by_cases hf:Ztk (tt t)=true
      ·have hz:z.all ZiM=true:=by rw [hti] at hf;exact hf
       have hks:ks=[]:=by
        have h3:=hcond.2.2.2
        rw [hz] at h3
        simpa using h3
       subst hks
       simp [ZO] at hp;subst hp;simp
      ·simp [cls,hs,hf] at e
    ·rcases A4.1 hp with hp | hp
     ·obtain ⟨p1,p2⟩:=ZjV hp
      exact .inr ⟨hk _ p1,p2⟩
     ·simp at hp;subst hp;simp
   ·simp at h
  ·simp at h
 | load t x=>exact nil (YK h)
 | store t x v=>exact ⟨fun e=>by simp [cls] at e,fun e=>by simp [cls] at e,fun e=>by simp [cls] at e⟩
 | makeFunc fn first caps=>exact ⟨fun e=>by simp [cls] at e,fun e=>by simp [cls] at e,fun e=>by simp [cls] at e⟩
 | mapUpdate t x i v=>exact ⟨fun e=>by simp [cls] at e,fun e=>by simp [cls] at e,fun e=>by simp [cls] at e⟩
 | lookup t x i ok=>exact nil (YK h)
 | makeMap t r=>
  cases r with
  | none=>
   simp only[opE,Zl6] at h
   split at h
   ·simp only[A0] at h
    subst h
    exact ⟨fun e=>by simp [cls] at e,fun _ p hp=>by simp at hp;subst hp;simp,fun _ p hp=>by simp at hp;subst hp;simp⟩
   ·simp at h
  | some _=>simp [opE] at h
 | nilCheck x=>
  simp only[opE] at h
  split at h<;>simp only[A0,reduceCtorEq] at h<;>exact nil (by rw [←h])
 | binOp op t x y t'=>exact nil (YK h)
 | unOp op t x=>exact nil (YK h)
 | convert s t x=>exact nil (YK h)
 | makeSlice t n c=>
  simp only[opE,ZpS] at h
  split at h
  ·split at h
   ·obtain ⟨ze,_,h⟩:=A5.1 h
    split at h
    ·simp only[A0] at h
     subst h
     exact ⟨fun e=>by simp [cls] at e,fun _ p hp=>by simp at hp;subst hp;simp,fun _ p hp=>by simp at hp;subst hp;simp⟩
    ·simp at h
   ·simp at h
  ·simp at h
 | slice t x lo hi mx=>
  cases mx with
  | some _=>simp [opE] at h
  | none=>
   by_cases hstr:ZbY (tt t)=true
   ·have hns:Za2 (tt t)=false:=by
     unfold ZbY at hstr
     split at hstr
     ·rename_i e;rw [e];rfl
     ·simp at hstr
    refine nil ?_
    simp only[opE,Qi] at h
    split at h
    ·simp [hns] at h
    ·obtain ⟨v,_,rfl⟩:=A3.1 h;rfl
    ·simp at h
   ·have hc:3≤cls tt hs (.slice t x lo hi none):=by simp only[cls];rw [if_neg hstr];split<;>omega
    refine ⟨fun e=>by simp only at e;omega,fun e=>by simp only at e;omega,fun e p hp=>?_⟩
    have hmv:∀d,mvS d (lo.map (st.ev tt 0)) (hi.map (st.ev tt 0))=false:=fun d=>by
     cases lo with
     | none=>rfl
     | some _=>cases hi with
      | none=>simp [cls,hstr] at e
      | some _=>rfl
    simp only[opE,Qi] at h
    split at h
    ·rename_i k hv
     have hk:U k:=by
      have:=hU 0 x
      rw [hv] at this
      exact this (.row k) (by simp)
     split at h
     ·split at h
      ·rename_i hob
       split at h
       ·rw [hmv,if_neg (by simp)] at h
        obtain ⟨_,_,h⟩:=A5.1 h
        obtain ⟨_,_,rfl⟩:=A3.1 h
        simp at hp
        subst hp
        exact .inr ⟨hk,by rw [hob];rfl⟩
       ·simp at h
      ·simp at h
     ·simp at h
    ·obtain ⟨v,_,rfl⟩:=A3.1 h
     simp at hp
    ·simp at h
 | fieldAddr t x f=>
  simp only[opE] at h
  split at h
  ·exact nil (YK h)
  ·simp at h
 | field t x f=>
  simp only[opE] at h
  split at h
  ·exact nil (YK h)
  ·simp at h
 | indexAddr t x i=>
  simp only[opE] at h
  split at h
  ·exact nil (YK h)
  ·simp at h
 | index t x i=>exact nil (YK h)
 | extract x i=>exact nil (YK h)
 | call c=>
  obtain ⟨callee,args,ts⟩:=c
  cases callee with
  | builtin b=>
   simp only[opE,Zet] at h
   split at h
   ·exact nil (YK h)
   ·exact ⟨fun e=>by simp [cls] at e,fun e=>by simp [cls] at e,fun e=>by simp [cls] at e⟩
   ·exact nil (YK h)
   ·exact nil (YK h)
   ·simp at h
  | value f=>simp [opE] at h
  | invoke r m=>simp [opE] at h
 | _=>simp [opE] at h
theorem Zaj {hs:FuncId→Nat} {o:Op} {c:FuncId × List TypeId × List Operand} (h:Yx o=some c):cls tt hs o=if hs c.1=0∨hs c.1=4 then 1 else 4:=by
 unfold Yx at h
 split at h
 ·simp only[A0] at h;rw [←h];rfl
 ·simp at h
theorem ZjF {o:Op} {c:Nat × List TypeId × List Operand} (h:YP o=some c):∃args ts,o=.call ⟨.value (.tmp c.1),args,ts⟩∧c.2.1=ts.toList∧c.2.2=args.toList:=by
 unfold YP at h
 split at h
 ·rename_i s args ts
  simp only[A0] at h
  rw [←h]
  exact ⟨args,ts,rfl,rfl,rfl⟩
 ·simp at h
theorem Zfg [NW] {hs:FuncId→Nat} {o:Op} {c:Nat × List TypeId × List Operand} (h:YP o=some c):cls tt hs o=4:=by
 obtain ⟨args,ts,rfl,_⟩:=ZjF h
 rfl
theorem Zk0 [NW] (hU:∀t x,svU U (st.ev tt t x)) {all:List Oper} {o:Oper} {v:SV} {u:List (Nat × Ob)} (h:opR tt S all key o st v u):(cls tt S.hd o.op=0→u=[])∧(cls tt S.hd o.op≤2→∀p∈u,key≤p.1∧p.1<key+16)∧(cls tt S.hd o.op≤3→∀p∈u,(key≤p.1∧p.1<key+16)∨(U p.1∧p.2=Z4 (st.ob p.1))):=by
 have nil:u=[]→(cls tt S.hd o.op=0→u=[])∧(cls tt S.hd o.op≤2→∀p∈u,key≤p.1∧p.1<key+16)∧(cls tt S.hd o.op≤3→∀p∈u,(key≤p.1∧p.1<key+16)∨(U p.1∧p.2=Z4 (st.ob p.1))):=fun e=>⟨fun _=>e,fun _ p hp=>by simp [e] at hp,fun _ p hp=>by simp [e] at hp⟩
 have hRS:Q5 tt S key o st v u→(cls tt S.hd o.op=0→u=[])∧(cls tt S.hd o.op≤2→∀p∈u,key≤p.1∧p.1<key+16)∧(cls tt S.hd o.op≤3→∀p∈u,(key≤p.1∧p.1<key+16)∨(U p.1∧p.2=Z4 (st.ob p.1))):=fun h=>by
  unfold Q5 at h
  split at h
  ·rename_i c hc
   by_cases h0:S.hd c.1=0∨S.hd c.1=4
   ·have h':∃res,(ZE key res).2.2≤key+16∧u=(ZE key res).2.1:=by
     rcases h0 with h0 | h0
     ·rw [h0] at h
      obtain ⟨l,res,_,_,_,h3,_,e⟩:=h
      exact ⟨res,h3,e⟩
     ·rw [h0] at h
      obtain ⟨l,res,_,_,_,h3,_,e⟩:=h
      exact ⟨res,h3,e⟩
    obtain ⟨res,h3,rfl⟩:=h'
    have hp:∀p∈(ZE key res).2.1,key≤p.1∧p.1<key+16:=fun p hp=>by
     have:=(ZfE res key).2 p hp
     omega
    exact ⟨fun e=>by rw [Zaj hc,if_pos h0] at e;simp at e,fun _=>hp,fun _ p m=>.inl (hp p m)⟩
   ·refine ⟨fun e=>by rw [Zaj hc,if_neg h0] at e;simp at e,fun e=>by rw [Zaj hc,if_neg h0] at e;simp at e,fun e=>by rw [Zaj hc,if_neg h0] at e;simp at e⟩
  ·split at h
   ·rename_i c hc
    have h4:=Zfg (tt:=tt) (hs:=S.hd) hc
    exact ⟨fun e=>by rw [h4] at e;simp at e,fun e=>by rw [h4] at e;simp at e,fun e=>by rw [h4] at e;simp at e⟩
   ·exact Ztm hU h
 unfold opR at h
 split at h
 ·exact hRS h
 ·exact nil h.2
 ·unfold gK at h
  split at h
  ·split at h
   ·exact hRS h
   ·exact nil h.2
  ·split at h
   ·exact nil h.2
   ·exact h.elim
theorem Zgh (h:st.ob=st'.ob):∀ks:List Nat,ZO st ks=ZO st' ks
 | []=>rfl
 | k::r=>by simp only[ZO,Zgh h r,h]
theorem ZB3 (s:SV):svU (fun _=>True) s:=by
 cases s<;>first | trivial | (intro y my;cases y<;>trivial) | (intro y my z mz;cases z<;>trivial)
theorem ZrQ [NW] (h:st.ob=st'.ob) (v:SV):ZeF st v=ZeF st' v:=by
 have ha:∀cs,Yq st cs=Yq st' cs:=fun cs=>ZfC (U:=fun _=>True) (fun k _=>.inl (by rw [h])) (fun x _=>by cases x<;>trivial)
 unfold ZeF
 split
 ·rw [h]
  split
  ·rw [ha]
  ·rfl
 ·rw [h]
 ·rfl
theorem Zj2 [NW] (h:st.ob=st'.ob) {f:FuncId} {n:Nat} {vs:List SV} {v:SV} {u:List (Nat × Ob)}:Zaz S f n key st vs v u↔Zaz S f n key st' vs v u:=by
 have hs:∀xs,ZT st xs=ZT st' xs:=fun xs=>Zdv (U:=fun _=>True) (fun k _=>.inl (by rw [h])) (fun x _=>ZB3 x)
 unfold Zaz
 split
 ·simp only[hs]
 ·simp only[hs,ZrQ h,Zgh h]
 ·simp only[hs,Zgh h]
 ·simp only[hs]
 ·simp only[hs,Zgh h]
theorem ZrK [NW] {o:Oper} {v:SV} {u:List (Nat × Ob)} (hl:∀x∈o.op.operands,∀t,st.ev tt t x=st'.ev tt t x)
  (hob:cls tt S.hd o.op=0∨st.ob=st'.ob∨(∀t x,svU U (st.ev tt t x))∧((cls tt S.hd o.op≤3∧∀k,U k→st.ob k=st'.ob k)∨(cls tt S.hd o.op≤1∧Wk st st' U))):Q5 tt S key o st v u↔Q5 tt S key o st' v u:=by
 cases hc:Yx o.op with
 | some c=>
  simp only[Q5,hc]
  have hop:∃args ts,o.op=.call ⟨.value (.func c.1),args,ts⟩∧c.2.1=ts.toList∧c.2.2=args.toList:=by
   unfold Yx at hc
   split at hc
   ·rename_i f args ts he
    simp only[A0] at hc
    rw [←hc]
    exact ⟨args,ts,he,rfl,rfl⟩
   ·simp at hc
  obtain ⟨args,ts,ho,e1,e2⟩:=hop
  have hev:evs tt st c.2.1 c.2.2=evs tt st' c.2.1 c.2.2:=Zcy fun x m t=>hl x (by rw [ho];rw [e2] at m;simp [Op.operands,Call.operands];exact .inr (by simpa using m)) t
  rw [←hev]
  rcases hob with hc0 | hob | ⟨hu,hob⟩
  ·rw [Zaj hc] at hc0
   split at hc0<;>simp at hc0
  ·exact Zj2 hob
  ·have hc1:cls tt S.hd o.op≤3:=by rcases hob with h | h<;>omega
   have hwk:Wk st st' U:=by
    rcases hob with h | h
    ·exact .of h.2
    ·exact h.2
   have h0:S.hd c.1=0∨S.hd c.1=4:=by
    rw [Zaj hc] at hc1
    split at hc1
    ·assumption
    ·simp at hc1
   have hev0:∀x∈evs tt st c.2.1 c.2.2,svU U x:=fun x hx=>by
    obtain ⟨p,_,rfl⟩:=A6.1 hx
    exact hu _ _
   rcases h0 with h0 | h0
   ·have hsv:ZT st (evs tt st c.2.1 c.2.2)=ZT st' (evs tt st c.2.1 c.2.2):=Zdv (U:=U) hwk hev0
    rw [h0]
    simp only[Zaz,hsv]
   ·have hsv:ZT st ((evs tt st c.2.1 c.2.2).map nlS)=ZT st' ((evs tt st c.2.1 c.2.2).map nlS):=Zdv (U:=U) hwk (fun x hx=>by
     obtain ⟨y,my,rfl⟩:=A6.1 hx
     exact ZtO (hev0 y my))
    rw [h0]
    simp only[Zaz,hsv]
 | none=>
  simp only[Q5,hc]
  have:opE tt key o st=opE tt key o st':=by
   obtain ⟨sl,ob,n⟩:=st
   obtain ⟨sl',ob',n'⟩:=st'
   have s1:opE tt key o ⟨sl',ob',n'⟩=opE tt key o ⟨sl,ob',n⟩:=Zm0 fun x m t=>by
    rw [←hl x m t];exact Zq5 _ _ _ _ _ _ _
   rw [s1]
   rcases hob with hc | hob | ⟨hu,⟨hc,hob⟩ | ⟨hc,hob⟩⟩
   ·exact ZjE (U:=U) (.inl hc)
   ·simp only at hob;subst hob;rfl
   ·exact ZjE (U:=U) (.inr (.inl ⟨hc,hob,hu⟩))
   ·exact ZjE (U:=U) (.inr (.inr ⟨hc,hob,hu⟩))
  cases hd:YP o.op with
  | none=>simp only[this]
  | some c=>
   simp only
   obtain ⟨args,ts,ho,e1,e2⟩:=ZjF hd
   have hev:evs tt st c.2.1 c.2.2=evs tt st' c.2.1 c.2.2:=Zcy fun x m t=>hl x (by rw [ho];rw [e2] at m;simp [Op.operands,Call.operands];exact .inr (by simpa using m)) t
   have hsl:st.sl c.1=st'.sl c.1:=hl (.tmp c.1) (by rw [ho];simp [Op.operands,Call.operands]) 0
   have h4:=Zfg (tt:=tt) (hs:=S.hd) hd
   rcases hob with h0 | h0 | ⟨_,⟨h0,_⟩ | ⟨h0,_⟩⟩
   ·omega
   ·rw [hev,hsl]
    constructor
    ·rintro ⟨fc,f1,f2,f3⟩;exact ⟨fc,f1,f2,(Zj2 h0).1 f3⟩
    ·rintro ⟨fc,f1,f2,f3⟩;exact ⟨fc,f1,f2,(Zj2 h0).2 f3⟩
   ·omega
   ·omega
theorem Zb3 [NW] {ops:Array Oper} {o:Oper} {v:SV} {u:List (Nat × Ob)} (hl:∀s∈o.looksAt ops,st.sl s=st'.sl s)
  (hob:cls tt S.hd o.op=0∨st.ob=st'.ob∨(∀t x,svU U (st.ev tt t x))∧((cls tt S.hd o.op≤3∧∀k,U k→st.ob k=st'.ob k)∨(cls tt S.hd o.op≤1∧Wk st st' U))):opR tt S ops.toList key o st v u↔opR tt S ops.toList key o st' v u:=by
 have hl':∀x∈o.op.operands,∀t,st.ev tt t x=st'.ev tt t x:=fun x m t=>by
  cases x with
  | tmp s=>exact hl s (by
    unfold Oper.looksAt
    refine A4.2 (.inl (Ak.2 ⟨.tmp s,by simpa using m,rfl⟩)))
  | _=>rfl
 have h1:=ZrK (S:=S) (key:=key) (v:=v) (u:=u) hl' hob
 unfold opR
 cases hg:QX ops.toList o with
 | none=>exact h1
 | some q=>
  obtain ⟨q,want⟩:=q
  cases q with
  | none=>rfl
  | some t=>
   have ht:st.sl t=st'.sl t:=hl t (by
    unfold QX at hg
    split at hg
    ·simp at hg
    ·rename_i g hgd
     simp only[A0,A8] at hg
     unfold Oper.looksAt
     refine A4.2 (.inr ?_)
     rw [hgd]
     have:(ops[g.1]?).bind (·.dst)=some t:=by simpa using hg.1
     simp [this])
   simp only[gK,ht,h1]
theorem ZAM [NW] (hU:StU U st) (t:Nat) (x:Operand):svU U (st.ev tt t x):=by
 cases x with
 | tmp s=>exact hU.sl s
 | const v=>
  show svU U (cvT (tt t) v)
  unfold cvT
  split
  ·exact Y8 _
  ·exact Y8 _
  ·split
   ·exact Y8 _
   ·trivial
  ·split
   ·intro y m;simp at m;subst m;trivial
   ·trivial
  ·trivial
 | global _=>trivial
 | func _=>trivial
theorem Xy [NW]:∀{u:List (Nat × Ob)} {ob:Nat→Ob} {k:Nat},(∀p∈u,p.1≠k)→Zk ob u k=ob k
 | [],_,_,_=>rfl
 | p::r,ob,k,h=>by
  rw [Zk,Xy fun q m=>h q (by simp [m])]
  exact ZI _ _ fun e=>h p (by simp) e.symm
theorem Ziw [NW]:∀{u:List (Nat × Ob)} {ob ob':Nat→Ob} {k:Nat},(∃p∈u,p.1=k)→Zk ob u k=Zk ob' u k
 | [],_,_,_,h=>by simp at h
 | p::r,ob,ob',k,h=>by
  rw [Zk,Zk]
  by_cases hr:∃q∈r,q.1=k
  ·exact Ziw hr
  ·have hn:∀q∈r,q.1≠k:=fun q m e=>hr ⟨q,m,e⟩
   rw [Xy hn,Xy hn]
   obtain ⟨q,mq,e⟩:=h
   rcases A7.1 mq with rfl | mq
   ·rw [←e,Zy,Zy]
   ·exact absurd e (hn q mq)
theorem Zpo [NW] {u1 u2:List (Nat × Ob)} {ob:Nat→Ob} (h:∀p∈u1,∀q∈u2,p.1≠q.1):Zk (Zk ob u1) u2=Zk (Zk ob u2) u1:=by
 funext k
 by_cases h1:∃p∈u1,p.1=k
 ·obtain ⟨p,mp,rfl⟩:=h1
  rw [Xy fun q mq e=>h p mp q mq e.symm]
  exact Ziw ⟨p,mp,rfl⟩
 ·have hn:∀q∈u1,q.1≠k:=fun q m e=>h1 ⟨q,m,e⟩
  rw [Xy (ob:=Zk ob u2) hn]
  by_cases h2:∃p∈u2,p.1=k
  ·exact Ziw h2
  ·have hn2:∀q∈u2,q.1≠k:=fun q m e=>h2 ⟨q,m,e⟩
   rw [Xy hn2,Xy hn2,Xy hn]
theorem ZbS [NW] (st:St) (d:Option Nat) (v:SV) (s:Nat) (h:∀t,d=some t→s≠t):(st.put d v).sl s=st.sl s:=by
 cases d with
 | none=>rfl
 | some t=>exact ZI _ _ (h t rfl)
theorem QG (st:St) (d:Option Nat) (v:SV):(st.put d v).ob=st.ob:=by cases d<;>rfl
theorem ZoF (st:St) (d:Option Nat) (v:SV):(st.put d v).n=st.n:=by cases d<;>rfl
theorem ZmW (st:St) (d e:Option Nat) (v u:SV) (h:∀t,d=some t→e≠some t):((st.put d v).put e u).sl=((st.put e u).put d v).sl:=by
 cases d with
 | none=>rfl
 | some t=>cases e with
  | none=>rfl
  | some s=>
   have hne:t≠s:=fun e=>h t rfl (e ▸ rfl)
   funext k
   show upd (upd st.sl t v) s u k=upd (upd st.sl s u) t v k
   unfold upd
   by_cases h1:k=s
   ·by_cases h2:k=t
    ·exact absurd (h2.symm.trans h1) hne
    ·have hst:¬s=t:=fun e=>hne e.symm
     simp [h1,hst]
   ·simp [h1]
def ZrG (tt:Nat→Option TI):Op→Bool
 | .slice t _ (some _) none none=>!ZbY (tt t)
 | .call ⟨.builtin .append,_,_⟩=>true
 | _=>false
theorem Zgo [NW] {ops:Array Oper} {o:Oper} {v:SV} {u:List (Nat × Ob)} (hl:∀s∈o.looksAt ops,st.sl s=st'.sl s) (h1:Q5 tt S key o st' v u→Q5 tt S key o st v u) (h:opR tt S ops.toList key o st' v u):opR tt S ops.toList key o st v u:=by
 unfold opR at h ⊢
 cases hg:QX ops.toList o with
 | none=>rw [hg] at h;exact h1 h
 | some q=>
  obtain ⟨q,want⟩:=q
  rw [hg] at h
  cases q with
  | none=>exact h
  | some t=>
   have ht:st.sl t=st'.sl t:=hl t (by
    unfold QX at hg
    split at hg
    ·simp at hg
    ·rename_i g hgd
     simp only[A0,A8] at hg
     unfold Oper.looksAt
     refine A4.2 (.inr ?_)
     rw [hgd]
     have:(ops[g.1]?).bind (·.dst)=some t:=by simpa using hg.1
     simp [this])
   simp only[gK,ht] at h ⊢
   split at h
   ·rename_i hb
    rw [if_pos hb]
    split at h
    ·rename_i hb2;rw [if_pos hb2];exact h1 h
    ·rename_i hb2;rw [if_neg hb2];exact h
   ·rename_i hb
    rw [if_neg hb]
    exact h
theorem ZbN {ops:Array Oper} {o:Oper} (hl:∀s∈o.looksAt ops,st.sl s=st'.sl s):∀x∈o.op.operands,∀t,st.ev tt t x=st'.ev tt t x:=fun x m t=>by
 cases x with
 | tmp s=>exact hl s (by
   unfold Oper.looksAt
   refine A4.2 (.inl (Ak.2 ⟨.tmp s,by simpa using m,rfl⟩)))
 | _=>rfl
theorem ZrC [NW] {o:Oper} {v:SV} {u:List (Nat × Ob)} (hl:∀x∈o.op.operands,∀t,st.ev tt t x=st'.ev tt t x) (hc1:cls tt S.hd o.op≤1) (hu:∀t x,svU U (st.ev tt t x)) (hob:Mk st st' U) (h:Q5 tt S key o st' v u):Q5 tt S key o st v u:=by
 cases hc:Yx o.op with
 | some c=>
  simp only[Q5,hc] at h ⊢
  have hop:∃args ts,o.op=.call ⟨.value (.func c.1),args,ts⟩∧c.2.1=ts.toList∧c.2.2=args.toList:=by
   unfold Yx at hc
   split at hc
   ·rename_i f args ts he
    simp only[A0] at hc
    rw [←hc]
    exact ⟨args,ts,he,rfl,rfl⟩
   ·simp at hc
  obtain ⟨args,ts,ho,e1,e2⟩:=hop
  have hev:evs tt st c.2.1 c.2.2=evs tt st' c.2.1 c.2.2:=Zcy fun x m t=>hl x (by rw [ho];rw [e2] at m;simp [Op.operands,Call.operands];exact .inr (by simpa using m)) t
  rw [←hev] at h
  have h0:S.hd c.1=0∨S.hd c.1=4:=by
   rw [Zaj hc] at hc1
   split at hc1
   ·assumption
   ·simp at hc1
  have hev0:∀x∈evs tt st c.2.1 c.2.2,svU U x:=fun x hx=>by
   obtain ⟨p,_,rfl⟩:=A6.1 hx
   exact hu _ _
  rcases h0 with h0 | h0
  ·rw [h0] at h ⊢
   simp only[Zaz] at h ⊢
   obtain ⟨al,res,h1,h2⟩:=h
   exact ⟨al,res,Zfx hob hev0 h1,h2⟩
  ·rw [h0] at h ⊢
   simp only[Zaz] at h ⊢
   obtain ⟨al,res,h1,h2⟩:=h
   exact ⟨al,res,Zfx hob (fun x hx=>by
    obtain ⟨y,my,rfl⟩:=A6.1 hx
    exact ZtO (hev0 y my)) h1,h2⟩
 | none=>
  simp only[Q5,hc] at h ⊢
  cases hd:YP o.op with
  | some c=>have h4:=Zfg (tt:=tt) (hs:=S.hd) hd;omega
  | none=>
   rw [hd] at h
   simp only at h ⊢
   obtain ⟨sl,ob,n⟩:=st
   obtain ⟨sl',ob',n'⟩:=st'
   have s1:opE tt key o ⟨sl',ob',n'⟩=opE tt key o ⟨sl,ob',n⟩:=Zm0 fun x m t=>by
    rw [←hl x m t];exact Zq5 _ _ _ _ _ _ _
   rw [s1] at h
   exact ZsV hc1 hob hu h
theorem ZvX {o:Op} (h:ZrG tt o=true):(∃t x lo,o=.slice t x (some lo) none none∧ZbY (tt t)=false)∨∃args ts,o=.call ⟨.builtin .append,args,ts⟩:=by
 unfold ZrG at h
 split at h
 ·exact .inl ⟨_,_,_,rfl,by simpa using h⟩
 ·exact .inr ⟨_,_,rfl⟩
 ·simp at h
theorem ZtK [NW] {s:SV} {a:List (List CT) × List Nat × Nat} (hs:svU U s) (h:ZeO st s=some a):∀k∈a.2.1,U k:=by
 unfold ZeO at h
 split at h
 ·simp only[A0] at h;rw [←h];simp
 ·split at h
  ·split at h
   ·simp at h
   ·simp only[A0] at h
    rw [←h]
    intro k hk
    simp only[A7,AG,or_false] at hk
    subst hk
    exact hs (.row _) (by simp)
  ·simp at h
 ·simp at h
theorem Zun [NW] {fl:Bool} {s:SV} {a:List (List CT) × List Nat × Nat} (hs:svU U s) (h:ZeU st fl s=some a):∀k∈a.2.1,U k:=by
 unfold ZeU at h
 split at h
 ·simp only[A0] at h;rw [←h];simp
 ·simp only[A0] at h;rw [←h];simp
 ·split at h
  ·split at h
   ·simp only[A0] at h;rw [←h];simp
   ·simp only[A0] at h
    rw [←h]
    intro k hk
    simp only[A7,AG,or_false] at hk
    subst hk
    exact hs (.row _) (by simp)
  ·simp at h
 ·simp at h
theorem Zrx [NW] {t:Option TI} {s x:SV} (hs:svU U s) (hx:svU U x) (hob:∀k,U k→st.ob k=st'.ob k):Zl2 st key t s x=Zl2 st' key t s x:=by
 have e1:ZeO st s=ZeO st' s:=by
  unfold ZeO
  split
  ·rfl
  ·rename_i k
   rw [hob k (hs (.row k) (by simp))]
  ·rfl
 have e2:∀fl,ZeU st fl x=ZeU st' fl x:=fun fl=>by
  unfold ZeU
  split
  ·rfl
  ·rfl
  ·rename_i k
   rw [hob k (hx (.row k) (by simp))]
  ·rfl
 have e3:∀e m,Zj6 st e m s=Zj6 st' e m s:=fun e m=>by
  unfold Zj6
  split
  ·rename_i k
   rw [hob k (hs (.row k) (by simp))]
  ·rfl
  ·rfl
 have e4:∀m,Zi4 st m x=Zi4 st' m x:=fun m=>by
  unfold Zi4
  split
  ·rename_i k
   rw [hob k (hx (.row k) (by simp))]
  ·rfl
  ·rfl
  ·rfl
 unfold Zl2
 split
 ·simp only[e1,e2,e3,e4]
 ·rfl
theorem Zq0 {ts:List TypeId} {vs:List SV} {r:SV × List (Nat × Ob)} (h:Zet tt st key .append ts vs=some r):∃t s x,ts=[t,t]∧vs=[s,x]∧Zl2 st key (tt t) s x=some r:=by
 match ts,vs,h with
 | [t,u],[s,x],h=>
  simp only[Zet] at h
  split at h
  ·rename_i e;subst e;exact ⟨t,s,x,rfl,rfl,h⟩
  ·simp at h
 | [],_,h=>simp [Zet] at h
 | [_],_,h=>simp [Zet] at h
 | _::_::_::_,_,h=>simp [Zet] at h
 | [_,_],[],h=>simp [Zet] at h
 | [_,_],[_],h=>simp [Zet] at h
 | [_,_],_::_::_::_,h=>simp [Zet] at h
theorem Zu2 [NW] {o:Oper} {v:SV} {u:List (Nat × Ob)} (hm:ZrG tt o.op=true) (hU:∀t x,svU U (st.ev tt t x)) (h:Q5 tt S key o st v u):(∀p∈u,(key≤p.1∧p.1<key+16)∨(U p.1∧(p.2=st.ob p.1∨p.2=.gone))):=by
 obtain ⟨dst,op,ty,pos,af,gd⟩:=o
 obtain ⟨t,x,lo,ho,hs⟩ | ⟨args,ts,ho⟩:=ZvX hm
 rotate_left
 ·simp only at ho
  subst ho
  have h':Zet tt st key .append ts.toList (evs tt st ts.toList args.toList)=some (v,u):=h
  obtain ⟨t,s,x,_,he,h'⟩:=Zq0 h'
  have hmem:svU U s∧svU U x:=by
   have hall:∀y∈evs tt st ts.toList args.toList,svU U y:=fun y my=>by
    obtain ⟨p,_,rfl⟩:=A6.1 my
    exact hU _ _
   exact ⟨hall s (by rw [he];simp),hall x (by rw [he];simp)⟩
  unfold Zl2 at h'
  split at h'
  ·obtain ⟨a,h1,h'⟩:=A5.1 h'
   obtain ⟨b,h2,h'⟩:=A5.1 h'
   split at h'
   ·simp only[A0,A8] at h'
    rw [←h'.2]
    intro p hp
    rcases A4.1 hp with hp | hp
    ·obtain ⟨k,mk,rfl⟩:=A6.1 hp
     refine .inr ⟨?_,.inr rfl⟩
     rcases A4.1 mk with mk | mk
     ·exact ZtK hmem.1 h1 k mk
     ·exact Zun hmem.2 h2 k mk
    ·simp only[A7,AG,or_false] at hp
     subst hp
     exact .inl ⟨A9 _,by simp only;omega⟩
   ·simp at h'
  ·simp at h'
 simp only at ho
 subst ho
 have h':opE tt key ⟨dst,.slice t x (some lo) none none,ty,pos,af,gd⟩ st=some (v,u):=h
 simp only[opE,Qi,AB,AH] at h'
 intro p hp
 split at h'
 ·rename_i k hv
  have hk:U k:=by
   have:=hU 0 x
   rw [hv] at this
   exact this (.row k) (by simp)
  split at h'
  ·split at h'
   ·rename_i hob
    split at h'
    ·split at h'
     ·obtain ⟨l,_,e⟩:=A3.1 h'
      simp only[A8] at e
      rw [←e.2] at hp
      simp only[A7,AG,or_false] at hp
      rcases hp with rfl | rfl
      ·exact .inr ⟨hk,.inr rfl⟩
      ·exact .inl ⟨A9 _,by simp only;omega⟩
     ·rename_i hmv
      obtain ⟨_,_,h'⟩:=A5.1 h'
      obtain ⟨_,_,e⟩:=A3.1 h'
      simp only[A8] at e
      rw [←e.2] at hp
      simp only[A7,AG,or_false] at hp
      subst hp
      refine .inr ⟨hk,.inl ?_⟩
      simp only[mvS] at hmv
      split at hmv
      ·rename_i hd;rw [hob,hd]
      ·simp at hmv
    ·simp at h'
   ·simp at h'
  ·simp at h'
 ·obtain ⟨_,_,e⟩:=A3.1 h'
  simp only[A8] at e
  rw [←e.2] at hp
  simp at hp
 ·simp at h'
theorem ZvP [NW] {o:Oper} {v:SV} {u:List (Nat × Ob)} (hm:ZrG tt o.op=true) (hl:∀x∈o.op.operands,∀t,st.ev tt t x=st'.ev tt t x) (hU:∀t x,svU U (st'.ev tt t x)) (hob:∀k,U k→st.ob k=st'.ob k) (h:Q5 tt S key o st' v u):Q5 tt S key o st v u:=by
 obtain ⟨dst,op,ty,pos,af,gd⟩:=o
 obtain ⟨t,x,lo,ho,hs⟩ | ⟨args,ts,ho⟩:=ZvX hm
 rotate_left
 ·simp only at ho
  subst ho
  have h':Zet tt st' key .append ts.toList (evs tt st' ts.toList args.toList)=some (v,u):=h
  show Zet tt st key .append ts.toList (evs tt st ts.toList args.toList)=some (v,u)
  have hev:evs tt st ts.toList args.toList=evs tt st' ts.toList args.toList:=Zcy fun x m t=>hl x (by simpa [Op.operands,Call.operands] using m) t
  have hall:∀y∈evs tt st' ts.toList args.toList,svU U y:=fun y my=>by
   obtain ⟨p,_,rfl⟩:=A6.1 my
   exact hU _ _
  obtain ⟨t,s,x,et,he,h'⟩:=Zq0 h'
  rw [hev,he,et]
  rw [he] at hall
  show (if t=t then Zl2 st key (tt t) s x else none)=_
  rw [if_pos rfl,Zrx (hall s (by simp)) (hall x (by simp)) hob,h']
 simp only at ho
 subst ho
 have h':opE tt key ⟨dst,.slice t x (some lo) none none,ty,pos,af,gd⟩ st'=some (v,u):=h
 show opE tt key ⟨dst,.slice t x (some lo) none none,ty,pos,af,gd⟩ st=some (v,u)
 have e1:=hl x (by simp [Op.operands]) 0
 have e2:=hl lo (by simp [Op.operands]) 0
 simp only[opE,AB,AH,e1,e2] at h' ⊢
 rw [←h']
 have hx:=hU 0 x
 unfold Qi
 split
 ·rename_i k hv
  rw [hv] at hx
  have hk:U k:=hx (.row k) (by simp)
  simp only[hob k hk]
 ·rfl
 ·rfl
theorem Zct [NW] {ops:List Oper} {o:Oper} {v:SV} {u:List (Nat × Ob)} {C:Prop} (h:opR tt S ops key o st v u) (h1:Q5 tt S key o st v u→C) (h2:u=[]→C):C:=by
 unfold opR at h
 split at h
 ·exact h1 h
 ·exact h2 h.2
 ·unfold gK at h
  split at h
  ·split at h
   ·exact h1 h
   ·exact h2 h.2
  ·split at h
   ·exact h2 h.2
   ·exact h.elim
def Zq3 (tt:Nat→Option TI) (hs:FuncId→Nat) (x y:Op):Bool:=cls tt hs x==0||cls tt hs y==0||(Nat.ble (cls tt hs x) 2&&Nat.ble (cls tt hs y) 2)||(Nat.ble (cls tt hs x) 1&&Nat.ble (cls tt hs y) 3)||(Nat.ble (cls tt hs x) 3&&Nat.ble (cls tt hs y) 1)||(ZrG tt x&&Nat.ble (cls tt hs y) 1)
theorem comm [NW] {ops:Array Oper} {oi oj:Oper} {ki kj:Nat} {vi vj:SV} {ui uj:List (Nat × Ob)} (hap:oi.apart ops oj=true) (hc:Zq3 tt S.hd oi.op oj.op=true) (hU:StU U st) (hki:∀k,ki≤k→k<ki+16→¬U k) (hkj:∀k,kj≤k→k<kj+16→¬U k) (hdis:ki+16≤kj∨kj+16≤ki)
  (h:opR tt S ops.toList ki oi st vi ui) (h':opR tt S ops.toList kj oj ((st.put oi.dst vi).app ui) vj uj):
  opR tt S ops.toList kj oj st vj uj∧opR tt S ops.toList ki oi ((st.put oj.dst vj).app uj) vi ui∧((((st.put oi.dst vi).app ui).put oj.dst vj).app uj)=((((st.put oj.dst vj).app uj).put oi.dst vi).app ui):=by
 obtain ⟨a1,a2,a3⟩:=Oper.apart_spec hap
 have hev:∀t x,svU U (st.ev tt t x):=fun t x=>ZAM hU t x
 obtain ⟨i1,i2,i3⟩:=Zk0 (U:=U) hev h
 have eqs:(∀p∈ui,∀q∈uj,p.1≠q.1)→((((st.put oi.dst vi).app ui).put oj.dst vj).app uj)=((((st.put oj.dst vj).app uj).put oi.dst vi).app ui):=fun hne=>by
  have hsl:((((st.put oi.dst vi).app ui).put oj.dst vj).app uj).sl=((((st.put oj.dst vj).app uj).put oi.dst vi).app ui).sl:=by
   have e1:∀(s:St) (u:List (Nat × Ob)) (d:Option Nat) (v:SV),((s.app u).put d v).sl=(s.put d v).sl:=fun s u d v=>by cases d<;>rfl
   show (((st.put oi.dst vi).app ui).put oj.dst vj).sl=(((st.put oj.dst vj).app uj).put oi.dst vi).sl
   rw [e1,e1]
   exact ZmW st _ _ _ _ fun t ht=>a2 t ht
  have hobs:((((st.put oi.dst vi).app ui).put oj.dst vj).app uj).ob=((((st.put oj.dst vj).app uj).put oi.dst vi).app ui).ob:=by
   show Zk (((st.put oi.dst vi).app ui).put oj.dst vj).ob uj=Zk (((st.put oj.dst vj).app uj).put oi.dst vi).ob ui
   rw [QG,QG]
   show Zk (Zk (st.put oi.dst vi).ob ui) uj=Zk (Zk (st.put oj.dst vj).ob uj) ui
   rw [QG,QG]
   exact Zpo hne
  have hn:((((st.put oi.dst vi).app ui).put oj.dst vj).app uj).n=((((st.put oj.dst vj).app uj).put oi.dst vi).app ui).n:=by
   show (((st.put oi.dst vi).app ui).put oj.dst vj).n=(((st.put oj.dst vj).app uj).put oi.dst vi).n
   rw [ZoF,ZoF]
   show (st.put oi.dst vi).n=(st.put oj.dst vj).n
   rw [ZoF,ZoF]
  generalize ((((st.put oi.dst vi).app ui).put oj.dst vj).app uj)=s1 at hsl hobs hn ⊢
  generalize ((((st.put oj.dst vj).app uj).put oi.dst vi).app ui)=s2 at hsl hobs hn ⊢
  cases s1;cases s2
  simp only at hsl hobs hn
  subst hsl hobs hn
  rfl
 by_cases hmv:ZrG tt oi.op=true∧cls tt S.hd oj.op≤1
 ·obtain ⟨hm,hj⟩:=hmv
  have hui:∀p∈ui,(ki≤p.1∧p.1<ki+16)∨(U p.1∧(p.2=st.ob p.1∨p.2=.gone)):=Zct h (fun h=>Zu2 hm hev h) fun e p hp=>by rw [e] at hp;simp at hp
  have hmk:Mk st ((st.put oi.dst vi).app ui) U:=fun k hk=>by
   show Zk (st.put oi.dst vi).ob ui k=st.ob k∨Zk (st.put oi.dst vi).ob ui k=.gone
   rw [QG]
   have gen:∀(u:List (Nat × Ob)) (ob:Nat→Ob),(∀p∈u,(ki≤p.1∧p.1<ki+16)∨(U p.1∧(p.2=st.ob p.1∨p.2=.gone)))→(ob k=st.ob k∨ob k=.gone)→(Zk ob u k=st.ob k∨Zk ob u k=.gone):=by
    intro u
    induction u with
    | nil=>intro ob _ h;exact h
    | cons p u ih=>
     intro ob hp h
     refine ih _ (fun x mx=>hp x (by simp [mx])) ?_
     by_cases hpk:k=p.1
     ·rcases hp p (by simp) with h1 | h1
      ·exact absurd (hpk ▸ hk) (hki p.1 h1.1 h1.2)
      ·rw [hpk,Zy];exact h1.2
     ·rw [ZI _ _ hpk];exact h
   exact gen ui st.ob hui (.inl rfl)
  have hlj:∀s∈oj.looksAt ops,st.sl s=((st.put oi.dst vi).app ui).sl s:=fun s ms=>(ZbS st oi.dst vi s fun t ht e=>a1 t ht (e ▸ ms)).symm
  have hA:opR tt S ops.toList kj oj st vj uj:=Zgo hlj (ZrC (ZbN hlj) hj hev hmk) h'
  obtain ⟨_,j2,_⟩:=Zk0 (U:=U) hev hA
  have hlk:∀s∈oi.looksAt ops,((st.put oj.dst vj).app uj).sl s=st.sl s:=fun s ms=>ZbS st oj.dst vj s fun t ht e=>a3 t ht (e ▸ ms)
  have hag:∀k,U k→((st.put oj.dst vj).app uj).ob k=st.ob k:=fun k hk=>by
   show Zk (st.put oj.dst vj).ob uj k=st.ob k
   rw [QG]
   exact Xy fun p mp e=>hkj p.1 (j2 (by omega) p mp).1 (j2 (by omega) p mp).2 (e ▸ hk)
  refine ⟨hA,Zgo hlk (ZvP hm (ZbN hlk) hev hag) h,eqs fun p mp q mq e=>?_⟩
  have h2:=j2 (by omega) q mq
  rcases hui p mp with h1 | h1
  ·omega
  ·exact hkj q.1 h2.1 h2.2 (e ▸ h1.1)
 have hcl:cls tt S.hd oi.op=0∨cls tt S.hd oj.op=0∨(cls tt S.hd oi.op≤2∧cls tt S.hd oj.op≤2)∨(cls tt S.hd oi.op≤1∧cls tt S.hd oj.op≤3)∨(cls tt S.hd oi.op≤3∧cls tt S.hd oj.op≤1):=by
  unfold Zq3 at hc
  simp only[AL,beq_iff_eq,AE] at hc
  rcases hc with ((((hc | hc) | hc) | hc) | hc) | hc
  ·exact .inl hc
  ·exact .inr (.inl hc)
  ·exact .inr (.inr (.inl ⟨AD hc.1,AD hc.2⟩))
  ·exact .inr (.inr (.inr (.inl ⟨AD hc.1,AD hc.2⟩)))
  ·exact .inr (.inr (.inr (.inr ⟨AD hc.1,AD hc.2⟩)))
  ·exact absurd ⟨hc.1,AD hc.2⟩ hmv
 have agree:∀{u:List (Nat × Ob)} {q:Nat},(∀p∈u,q≤p.1∧p.1<q+16)→(∀k,q≤k→k<q+16→¬U k)→∀k,U k→st.ob k=Zk st.ob u k:=fun hu hq k hk=>(Xy fun p mp e=>hq p.1 (hu p mp).1 (hu p mp).2 (e ▸ hk)).symm
 have weak:∀{u:List (Nat × Ob)} {q:Nat},(∀p∈u,(q≤p.1∧p.1<q+16)∨(U p.1∧p.2=Z4 (st.ob p.1)))→(∀k,q≤k→k<q+16→¬U k)→∀k,U k→Zk st.ob u k=st.ob k∨Zk st.ob u k=Z4 (st.ob k):=fun {u q} hu hq k hk=>by
  have gen:∀(u:List (Nat × Ob)) (ob:Nat→Ob),(∀p∈u,(q≤p.1∧p.1<q+16)∨(U p.1∧p.2=Z4 (st.ob p.1)))→(ob k=st.ob k∨ob k=Z4 (st.ob k))→(Zk ob u k=st.ob k∨Zk ob u k=Z4 (st.ob k)):=by
   intro u
   induction u with
   | nil=>intro ob _ h;exact h
   | cons p u ih=>
    intro ob hp h
    refine ih _ (fun x mx=>hp x (by simp [mx])) ?_
    by_cases hpk:k=p.1
    ·rcases hp p (by simp) with h1 | h1
     ·exact absurd (hpk ▸ hk) (hq p.1 h1.1 h1.2)
     ·right;rw [hpk,Zy];exact h1.2
    ·rw [ZI _ _ hpk];exact h
  exact gen u st.ob hu (.inl rfl)
 have hA:opR tt S ops.toList kj oj st vj uj:=by
  refine (Zb3 (U:=U) (st:=st) (st':=(st.put oi.dst vi).app ui) (fun s ms=>(ZbS st oi.dst vi s fun t ht e=>a1 t ht (e ▸ ms)).symm) ?_).2 h'
  show cls tt S.hd oj.op=0∨st.ob=Zk (st.put oi.dst vi).ob ui∨_∧((cls tt S.hd oj.op≤3∧∀k,U k→st.ob k=Zk (st.put oi.dst vi).ob ui k)∨(cls tt S.hd oj.op≤1∧∀k,U k→Zk (st.put oi.dst vi).ob ui k=st.ob k∨Zk (st.put oi.dst vi).ob ui k=Z4 (st.ob k)))
  rw [QG]
  rcases hcl with hcl | hcl | ⟨c1,c2⟩ | ⟨c1,c2⟩ | ⟨c1,c2⟩
  ·right;left;rw [i1 hcl];rfl
  ·left;exact hcl
  ·right;right;exact ⟨hev,.inl ⟨by omega,agree (i2 c1) hki⟩⟩
  ·right;right;exact ⟨hev,.inl ⟨c2,agree (i2 (by omega)) hki⟩⟩
  ·right;right;exact ⟨hev,.inr ⟨c2,weak (i3 c1) hki⟩⟩
 obtain ⟨j1',j2',j3'⟩:=Zk0 (U:=U) hev hA
 refine ⟨hA,?_,?_⟩
 ·refine (Zb3 (U:=U) (st:=st) (st':=(st.put oj.dst vj).app uj) (fun s ms=>(ZbS st oj.dst vj s fun t ht e=>a3 t ht (e ▸ ms)).symm) ?_).1 h
  show cls tt S.hd oi.op=0∨st.ob=Zk (st.put oj.dst vj).ob uj∨_∧((cls tt S.hd oi.op≤3∧∀k,U k→st.ob k=Zk (st.put oj.dst vj).ob uj k)∨(cls tt S.hd oi.op≤1∧∀k,U k→Zk (st.put oj.dst vj).ob uj k=st.ob k∨Zk (st.put oj.dst vj).ob uj k=Z4 (st.ob k)))
  rw [QG]
  rcases hcl with hcl | hcl | ⟨c1,c2⟩ | ⟨c1,c2⟩ | ⟨c1,c2⟩
  ·left;exact hcl
  ·right;left;rw [j1' hcl];rfl
  ·right;right;exact ⟨hev,.inl ⟨by omega,agree (j2' c2) hkj⟩⟩
  ·right;right;exact ⟨hev,.inr ⟨c1,weak (j3' c2) hkj⟩⟩
  ·right;right;exact ⟨hev,.inl ⟨c1,agree (j2' (by omega)) hkj⟩⟩
 ·rcases hcl with hcl | hcl | ⟨c1,c2⟩ | ⟨c1,c2⟩ | ⟨c1,c2⟩
  ·exact eqs fun p mp=>by rw [i1 hcl] at mp;simp at mp
  ·exact eqs fun p mp q mq=>by rw [j1' hcl] at mq;simp at mq
  ·refine eqs fun p mp q mq e=>?_
   have:=i2 c1 p mp
   have:=j2' c2 q mq
   omega
  ·refine eqs fun p mp q mq e=>?_
   have h1:=i2 (by omega) p mp
   rcases j3' c2 q mq with h2 | h2
   ·omega
   ·exact hki p.1 h1.1 h1.2 (e ▸ h2.1)
  ·refine eqs fun p mp q mq e=>?_
   have h1:=j2' (by omega) q mq
   rcases i3 c1 p mp with h2 | h2
   ·omega
   ·exact hkj q.1 h1.1 h1.2 (e ▸ h2.1)
/- a load and a call into which something is handed: what is handed in stands at the key 0, the load looks elsewhere -/
def ZoO:Op→Bool
 | .load _ _=>true
 | _=>false
def ZrP (hs:FuncId→Nat) (o:Op):Bool:=match Yx o with
 | some c=>hs c.1==1
 | none=>false
def Zm2:Op→Bool
 | .slice _ _ _ _ none=>true
 | _=>false
def ZrN (tt:Nat→Option TI) (hs:FuncId→Nat) (b:Bool) (x y:Op):Bool:=Zq3 tt hs x y||(b&&((ZoO x&&ZrP hs y)||(ZrP hs x&&ZoO y)||Zm2 x||Zm2 y))
theorem ZpJ {o:Op} {c:FuncId × List TypeId × List Operand} (h:Yx o=some c):∃args ts,o=.call ⟨.value (.func c.1),args,ts⟩∧c.2.2=args.toList:=by
 unfold Yx at h
 split at h
 ·rename_i f args ts
  simp only[A0] at h
  rw [←h]
  exact ⟨args,ts,rfl,rfl⟩
 ·simp at h
theorem ZpX {o:Op} (h:∀x∈o.operands,∀t,st.ev tt t x=st'.ev tt t x):stk tt S o st=stk tt S o st':=by
 unfold stk
 split
 ·rename_i t x
  rw [h x (by simp [Op.operands])]
 ·rename_i t x _ _ _
  rw [h x (by simp [Op.operands])]
 ·split
  ·rename_i c hc
   obtain ⟨args,ts,ho,e⟩:=ZpJ hc
   unfold hdC
   split
   ·cases hh:c.2.2.head? with
    | none=>rfl
    | some x=>
     have mx:x∈args.toList:=by rw [←e];exact List.mem_of_mem_head? hh
     simp only
     rw [h x (by rw [ho];simp [Op.operands,Call.operands];exact .inr (by simpa using mx))]
   ·rfl
  ·rfl
theorem Zfp [NW] {ops:Array Oper} {oi oj:Oper} {vi vj:SV} {ui uj:List (Nat × Ob)} (hap:oi.apart ops oj=true):stk tt S oj.op st=stk tt S oj.op ((st.put oi.dst vi).app ui)∧stk tt S oi.op ((st.put oj.dst vj).app uj)=stk tt S oi.op st:=by
 obtain ⟨a1,a2,a3⟩:=Oper.apart_spec hap
 exact ⟨ZpX (ZbN fun s ms=>(ZbS st oi.dst vi s fun t ht e=>a1 t ht (e ▸ ms)).symm),ZpX (ZbN fun s ms=>ZbS st oj.dst vj s fun t ht e=>a3 t ht (e ▸ ms))⟩
theorem ZmY [NW] {o:Oper} {v:SV} {u:List (Nat × Ob)} (ho:ZrP S.hd o.op=true) (hs:stk tt S o.op st=true) (h:Q5 tt S key o st v u):∀p∈u,p.1=0∨(key≤p.1∧p.1<key+16)∨p.2=Z4 (st.ob p.1):=by
 unfold ZrP at ho
 split at ho
 rotate_left
 ·simp at ho
 rename_i c hc
 have h1:S.hd c.1=1:=by simpa using ho
 unfold Q5 at h
 rw [hc] at h
 simp only[h1,Zaz] at h
 obtain ⟨v0,r,k,hh,l,res,h',hv,hk,hl,hs',hne,hn,rfl,rfl⟩:=h
 have h2:hdC tt 1 c.2.2.head? st=true:=by
  have e:stk tt S o.op st=hdC tt (S.hd c.1) c.2.2.head? st:=by
   unfold stk
   split
   ·rename_i hq;rw [hq] at hc;simp [Yx] at hc
   ·rename_i hq;rw [hq] at hc;simp [Yx] at hc
   ·rw [hc]
  rw [←h1,←e];exact hs
 have hv0:∃off,v0=.bp 0 off:=by
  unfold hdC at h2
  simp only at h2
  cases hx:c.2.2 with
  | nil=>rw [hx] at h2;simp at h2
  | cons x xs=>
   rw [hx] at h2 hv
   simp only[List.head?_cons] at h2
   have e0:∀ts:List TypeId,∃t q,evs tt st ts (x::xs)=st.ev tt t x::q:=fun ts=>by cases ts<;>exact ⟨_,_,rfl⟩
   obtain ⟨t,q,e0⟩:=e0 c.2.1
   rw [e0] at hv
   simp only[AI] at hv
   have hb:hdB (st.ev tt 0 x)=true:=h2
   have ht:∀t',hdB (st.ev tt t' x)=true→∃off,st.ev tt t x=.bp 0 off:=fun t' hb=>by
    cases x with
    | tmp s=>
     have hb':hdB (st.sl s)=true:=hb
     unfold hdB at hb'
     split at hb'
     ·rename_i k' off e;exact ⟨off,by show st.sl s=_;rw [e,of_decide_eq_true hb']⟩
     ·simp at hb'
    | const u=>
     exfalso
     have hb':hdB (cvT (tt t') u)=true:=hb
     unfold cvT at hb'
     split at hb'<;>first | (simp [hdB] at hb';done) | (split at hb'<;>simp [hdB] at hb')
    | func f=>simp [St.ev,hdB] at hb
    | global g=>simp [St.ev,hdB] at hb
   obtain ⟨off,e⟩:=ht 0 hb
   exact ⟨off,by rw [←hv.1,e]⟩
 obtain ⟨off,rfl⟩:=hv0
 have hkk:k=0:=by
  unfold ZeF at hk
  split at hk
  ·rename_i k' e
   simp only[SV.bp.injEq] at e
   obtain ⟨rfl,rfl⟩:=e
   split at hk
   ·rename_i t cs hb
    split at hk
    ·obtain ⟨_,_,e⟩:=A3.1 hk
     simp only[A8] at e
     exact e.1.symm
    ·simp at hk
   ·simp at hk
  ·rename_i e;simp at e
  ·simp at hk
 subst hkk
 intro p mp
 rcases A4.1 mp with mp | mp
 ·exact .inr (.inr (ZjV mp).2)
 ·rcases A7.1 mp with rfl | mp
  ·exact .inl rfl
  ·have:=(ZfE res key).2 p mp
   exact .inr (.inl (by omega))
theorem ZmM [NW] {o:Oper} {v:SV} {u:List (Nat × Ob)} (ho:ZoO o.op=true) (hl:∀x∈o.op.operands,∀t,st.ev tt t x=st'.ev tt t x) (hs:stk tt S o.op st=true) (hU:∀t x,svU U (st.ev tt t x)) (hob:∀k,U k→k≠0→st'.ob k=st.ob k∨st'.ob k=Z4 (st.ob k)):Q5 tt S key o st v u↔Q5 tt S key o st' v u:=by
 obtain ⟨dst,op,ty,pos,af,gd⟩:=o
 unfold ZoO at ho
 simp only at ho
 split at ho
 rotate_left
 ·simp at ho
 rename_i t x
 have e1:=hl x (by simp [Op.operands]) 0
 have hx:=hU 0 x
 have hs':ldB (st.ev tt 0 x)=true:=hs
 have key:Qa st (tt t) (st.ev tt 0 x)=Qa st' (tt t) (st'.ev tt 0 x):=by
  rw [←e1]
  unfold Qa
  split
  ·rename_i k off hv
   rw [hv] at hx hs'
   have hk0:k≠0:=fun e=>by subst e;simp [ldB] at hs'
   rcases hob k hx hk0 with h | h
   ·rw [h]
   ·rw [h]
    cases st.ob k<;>rfl
  ·rename_i k m i off hv
   rw [hv] at hx hs'
   have hk0:k≠0:=fun e=>by subst e;simp [ldB] at hs'
   rcases hob k hx hk0 with h | h
   ·rw [h]
   ·rw [h]
    cases st.ob k<;>rfl
  ·rfl
  ·rfl
  ·rfl
 show opE tt _ _ st=some (v,u)↔opE tt _ _ st'=some (v,u)
 simp only[opE,key]
theorem Zup [NW] {ops:List Oper} {o:Oper} {v:SV} {u:List (Nat × Ob)} (ho:ZoO o.op=true) (h:opR tt S ops key o st v u):u=[]:=by
 refine Zct h (fun h=>?_) id
 obtain ⟨dst,op,ty,pos,af,gd⟩:=o
 unfold ZoO at ho
 simp only at ho
 split at ho
 ·have h':opE tt key ⟨dst,.load _ _,ty,pos,af,gd⟩ st=some (v,u):=h
  exact YK h'
 ·simp at ho
theorem Zrm {ops:Array Oper} {o:Oper} {v:SV} {u:List (Nat × Ob)} (hl:∀s∈o.looksAt ops,st.sl s=st'.sl s) (h1:Q5 tt S key o st v u↔Q5 tt S key o st' v u) [NW]:opR tt S ops.toList key o st v u↔opR tt S ops.toList key o st' v u:=⟨Zgo (fun s ms=>(hl s ms).symm) h1.1,Zgo hl h1.2⟩
theorem ZjA [NW] {o:Oper} {v:SV} {u:List (Nat × Ob)} (ho:Zm2 o.op=true) (hs:stk tt S o.op st=true) (h:Q5 tt S key o st v u):u=[]∧∀{st':St},(∀x∈o.op.operands,∀t,st.ev tt t x=st'.ev tt t x)→Q5 tt S key o st' v u:=by
 obtain ⟨dst,op,ty,pos,af,gd⟩:=o
 unfold Zm2 at ho
 simp only at ho
 split at ho
 rotate_left
 ·simp at ho
 rename_i t x lo hi
 have hs':slB (st.ev tt 0 x)=true:=hs
 have h':opE tt key ⟨dst,.slice t x lo hi none,ty,pos,af,gd⟩ st=some (v,u):=h
 unfold slB at hs'
 split at hs'
 rotate_left
 ·simp at hs'
 rename_i y hy
 constructor
 ·simp only[opE] at h'
  rw [hy] at h'
  simp only[Qi] at h'
  obtain ⟨_,_,e⟩:=A3.1 h'
  simp only[A8] at e
  exact e.2.symm
 ·intro st' hl
  show opE tt key ⟨dst,.slice t x lo hi none,ty,pos,af,gd⟩ st'=some (v,u)
  have e1:=hl x (by simp [Op.operands]) 0
  have e2:lo.map (st.ev tt 0)=lo.map (st'.ev tt 0):=by
   cases lo with
   | none=>rfl
   | some l=>exact congrArg some (hl l (by simp [Op.operands]) 0)
  have e3:hi.map (st.ev tt 0)=hi.map (st'.ev tt 0):=by
   cases hi with
   | none=>rfl
   | some l=>exact congrArg some (hl l (by simp [Op.operands]) 0)
  rw [←h']
  simp only[opE,←e1,←e2,←e3,hy,Qi]
theorem ZAS [NW] {b:Bool} {ops:Array Oper} {oi oj:Oper} {ki kj:Nat} {vi vj:SV} {ui uj:List (Nat × Ob)} (hap:oi.apart ops oj=true) (hc:ZrN tt S.hd b oi.op oj.op=true) (hU:StU U st) (hki:∀k,ki≤k→k<ki+16→¬U k) (hkj:∀k,kj≤k→k<kj+16→¬U k) (hdis:ki+16≤kj∨kj+16≤ki)
  (hsi:b=true→stk tt S oi.op st=true) (hsj:b=true→stk tt S oj.op ((st.put oi.dst vi).app ui)=true) (h:opR tt S ops.toList ki oi st vi ui) (h':opR tt S ops.toList kj oj ((st.put oi.dst vi).app ui) vj uj):
  opR tt S ops.toList kj oj st vj uj∧opR tt S ops.toList ki oi ((st.put oj.dst vj).app uj) vi ui∧((((st.put oi.dst vi).app ui).put oj.dst vj).app uj)=((((st.put oj.dst vj).app uj).put oi.dst vi).app ui):=by
 by_cases hok:Zq3 tt S.hd oi.op oj.op=true
 ·exact comm hap hok hU hki hkj hdis h h'
 have hb:b=true∧(((ZoO oi.op=true∧ZrP S.hd oj.op=true)∨(ZrP S.hd oi.op=true∧ZoO oj.op=true))∨Zm2 oi.op=true∨Zm2 oj.op=true):=by
  unfold ZrN at hc
  rw [AL] at hc
  have:=hc.resolve_left hok
  simp only[AE,AL] at this
  obtain ⟨q1,q2⟩:=this
  exact ⟨q1,by rcases q2 with (q | q) | q;exact .inl q;exact .inr (.inl q);exact .inr (.inr q)⟩
 obtain ⟨hb,hc⟩:=hb
 obtain ⟨a1,a2,a3⟩:=Oper.apart_spec hap
 have hev:∀t x,svU U (st.ev tt t x):=fun t x=>ZAM hU t x
 have hlj:∀s∈oj.looksAt ops,st.sl s=((st.put oi.dst vi).app ui).sl s:=fun s ms=>(ZbS st oi.dst vi s fun t ht e=>a1 t ht (e ▸ ms)).symm
 have hli:∀s∈oi.looksAt ops,st.sl s=((st.put oj.dst vj).app uj).sl s:=fun s ms=>(ZbS st oj.dst vj s fun t ht e=>a3 t ht (e ▸ ms)).symm
 have hslots:(((st.put oi.dst vi).put oj.dst vj)).sl=(((st.put oj.dst vj).put oi.dst vi)).sl:=ZmW st _ _ _ _ fun t ht=>a2 t ht
 have e1:∀(s:St) (u:List (Nat × Ob)) (d:Option Nat) (v:SV),((s.app u).put d v)=((s.put d v).app u):=fun s u d v=>by cases d<;>rfl
 have eqs:ui=[]∨uj=[]→((((st.put oi.dst vi).app ui).put oj.dst vj).app uj)=((((st.put oj.dst vj).app uj).put oi.dst vi).app ui):=fun hn=>by
  rw [e1,e1]
  have hs:((st.put oi.dst vi).put oj.dst vj)=((st.put oj.dst vj).put oi.dst vi):=by
   have h2:((st.put oi.dst vi).put oj.dst vj).ob=((st.put oj.dst vj).put oi.dst vi).ob:=by simp only[QG]
   have h3:((st.put oi.dst vi).put oj.dst vj).n=((st.put oj.dst vj).put oi.dst vi).n:=by simp only[ZoF]
   generalize ((st.put oi.dst vi).put oj.dst vj)=s1 at hslots h2 h3
   generalize ((st.put oj.dst vj).put oi.dst vi)=s2 at hslots h2 h3
   cases s1;cases s2
   simp only at hslots h2 h3
   subst hslots h2 h3
   rfl
  rw [hs]
  rcases hn with rfl | rfl<;>rfl
 rcases hc with hc | hsl | hsl
 rotate_left
 ·-- the first is a slice that is only read
  have hs:=hsi hb
  have hn:ui=[]:=Zct h (fun h=>(ZjA hsl hs h).1) id
  subst hn
  have hA:opR tt S ops.toList kj oj st vj uj:=(Zb3 (U:=U) hlj (.inr (.inl (by show st.ob=(st.put oi.dst vi).ob;rw [QG])))).2 h'
  refine ⟨hA,Zgo (fun s ms=>(hli s ms).symm) (fun h=>(ZjA hsl hs h).2 (ZbN hli)) h,eqs (.inl rfl)⟩
 ·-- the second is one
  have hs:=(Zfp (tt:=tt) (S:=S) (st:=st) (vi:=vi) (ui:=ui) (vj:=vj) (uj:=uj) hap).1.trans (hsj hb)
  have hn:uj=[]:=Zct h' (fun h=>(ZjA hsl (hsj hb) h).1) id
  subst hn
  have hA:opR tt S ops.toList kj oj st vj []:=Zgo hlj (fun h=>(ZjA hsl (hsj hb) h).2 (fun x m t=>(ZbN hlj x m t).symm)) h'
  refine ⟨hA,?_,eqs (.inr rfl)⟩
  exact (Zb3 (U:=U) hli (.inr (.inl (by show st.ob=(st.put oj.dst vj).ob;rw [QG])))).1 h
 have box0:∀{u:List (Nat × Ob)} {q:Nat},(∀p∈u,p.1=0∨(q≤p.1∧p.1<q+16)∨p.2=Z4 (st.ob p.1))→(∀k,q≤k→k<q+16→¬U k)→∀k,U k→k≠0→Zk st.ob u k=st.ob k∨Zk st.ob u k=Z4 (st.ob k):=fun {u q} hu hq k hk hk0=>by
  have gen:∀(u:List (Nat × Ob)) (ob:Nat→Ob),(∀p∈u,p.1=0∨(q≤p.1∧p.1<q+16)∨p.2=Z4 (st.ob p.1))→(ob k=st.ob k∨ob k=Z4 (st.ob k))→(Zk ob u k=st.ob k∨Zk ob u k=Z4 (st.ob k)):=by
   intro u
   induction u with
   | nil=>intro ob _ h;exact h
   | cons p u ih=>
    intro ob hp h
    refine ih _ (fun x mx=>hp x (by simp [mx])) ?_
    by_cases hpk:k=p.1
    ·rcases hp p (by simp) with h1 | h1 | h1
     ·exact absurd (hpk.trans h1) hk0
     ·exact absurd (hpk ▸ hk) (hq p.1 h1.1 h1.2)
     ·right;rw [hpk,Zy];exact h1
    ·rw [ZI _ _ hpk];exact h
  exact gen u st.ob hu (.inl rfl)
 rcases hc with ⟨l1,l2⟩ | ⟨l1,l2⟩
 ·have hui:=Zup l1 h
  have hob1:st.ob=((st.put oi.dst vi).app ui).ob:=by
   subst hui
   show st.ob=(st.put oi.dst vi).ob
   rw [QG]
  have hA:=(Zb3 (U:=U) hlj (.inr (.inl hob1))).2 h'
  have hs:=(Zfp (tt:=tt) (S:=S) (st:=st) (vi:=vi) (ui:=ui) (vj:=vj) (uj:=uj) hap).1.trans (hsj hb)
  refine ⟨hA,?_,eqs (.inl hui)⟩
  refine Zct hA (fun hx=>?_) (fun e=>?_)
  ·refine (Zrm hli (ZmM (U:=U) l1 (ZbN hli) (hsi hb) hev fun k hk hk0=>?_)).1 h
   show Zk (st.put oj.dst vj).ob uj k=_∨Zk (st.put oj.dst vj).ob uj k=_
   rw [QG]
   exact box0 (ZmY l2 hs hx) hkj k hk hk0
  ·refine (Zb3 (U:=U) hli (.inr (.inl ?_))).1 h
   subst e
   show st.ob=(st.put oj.dst vj).ob
   rw [QG]
 ·have huj:=Zup l2 h'
  have hs:=(Zfp (tt:=tt) (S:=S) (st:=st) (vi:=vi) (ui:=ui) (vj:=vj) (uj:=uj) hap).1.trans (hsj hb)
  have hA:opR tt S ops.toList kj oj st vj uj:=by
   refine Zct h (fun hx=>?_) (fun e=>?_)
   ·refine (Zrm hlj (ZmM (U:=U) l2 (ZbN hlj) hs hev fun k hk hk0=>?_)).2 h'
    show Zk (st.put oi.dst vi).ob ui k=_∨Zk (st.put oi.dst vi).ob ui k=_
    rw [QG]
    exact box0 (ZmY l1 (hsi hb) hx) hki k hk hk0
   ·refine (Zb3 (U:=U) hlj (.inr (.inl ?_))).2 h'
    subst e
    show st.ob=(st.put oi.dst vi).ob
    rw [QG]
  refine ⟨hA,(Zb3 (U:=U) hli (.inr (.inl ?_))).1 h,eqs (.inr huj)⟩
  subst huj
  show st.ob=(st.put oj.dst vj).ob
  rw [QG]
end
end
section
open Go.RowKit
section
variable {P:Program} {J:World→Prop} {JF:Nat→Prop} {W:QK} {U:Nat→Prop} {key:Nat} {st st':St} {w w':World} {a:Act} {tt:Nat→Option TI} {hds:FuncId→Nat} {Q:Exit→Act→World→Prop}
def ZsX [NW] (W:QK) (N:Nat) (U:Nat→Prop) (st:St):Prop:=∃a w,Inv W U st a w∧a.tmps.size=N
theorem Zs5 [NW] (htt:MOk P J JF W tt) {N:Nat} {all:List Oper} {o:Oper} {v:SV} {u:List (Nat × Ob)} (h:opR tt (SC P J JF hds) all key o st v u) (hR:ZsX W N U st) (hkey:∀k,key≤k→k<key+16→¬U k) (hd:∀t,o.dst=some t→t<N∧(W.hv=none∨t≠0)):
  ZsX W N (Uk U key) ((st.put o.dst v).app u):=by
 obtain ⟨a,w,hI,hN⟩:=hR
 have hd':∀t,o.dst=some t→t<a.tmps.size∧(W.hv=none∨t≠0):=fun t ht=>hN ▸ hd t ht
 have und:v=.und∧u=[]→ZsX W N (Uk U key) ((st.put o.dst v).app u):=fun ⟨e1,e2⟩=>by
  subst e1 e2
  exact ⟨_,w,ZqU hI _ hd',by rw [Zb2];exact hN⟩
 have run:Q5 tt (SC P J JF hds) key o st v u→ZsX W N (Uk U key) ((st.put o.dst v).app u):=fun h=>by
  obtain ⟨⟨g,hH,hS⟩,hU,hdef,hh⟩:=hI
  have evals:∀(ts:List TypeId) (args:List Operand),ZH (SVR g w) (evs tt st ts args) (args.map a.eval)∧∀x∈evs tt st ts args,svU U x:=fun ts args=>by
   have he:args.map a.eval=(ZhJ ts args).map fun p=>a.eval p.2:=by
    have:=congrArg (List.map a.eval) (Zed ts args)
    rw [←this,Ai];rfl
   refine ⟨?_,fun x mx=>?_⟩
   ·rw [he]
    exact ZH.of_map _ _ fun p _=>(Zi6 htt.tt hS hU p.1 p.2).1
   ·obtain ⟨p,_,rfl⟩:=A6.1 mx
    exact (Zi6 htt.tt hS hU p.1 p.2).2
  cases hc:Yx o.op with
  | some c=>
   simp only[Q5,hc] at h
   obtain ⟨_,hcall⟩:=Zfw htt h hH hU hkey (evals c.2.1 c.2.2).1 (evals c.2.1 c.2.2).2
   obtain ⟨e,w',fr,⟨rv,_,g',t1,t2,t3,t4,t5,t6⟩,_⟩:=hcall []
   exact ⟨_,_,ZeE hS hU hdef hh hd' t1 t2 t3 t4 t5 t6,by rw [Zb2];exact hN⟩
  | none=>
   simp only[Q5,hc] at h
   cases hd2:YP o.op with
   | some c=>
    rw [hd2] at h
    simp only at h
    obtain ⟨fc,h1,_,h⟩:=h
    obtain ⟨cs,_,hcs⟩:=Zof h1 (hS c.1)
    obtain ⟨_,hcall⟩:=Zfw htt h hH hU hkey ((evals c.2.1 c.2.2).1.append hcs) (fun x mx=>by
     rcases A4.1 mx with m | m
     ·exact (evals c.2.1 c.2.2).2 x m
     ·obtain ⟨c,_,rfl⟩:=A6.1 m
      exact Y8 _)
    obtain ⟨e,w',fr,⟨rv,_,g',t1,t2,t3,t4,t5,t6⟩,_⟩:=hcall []
    exact ⟨_,_,ZeE hS hU hdef hh hd' t1 t2 t3 t4 t5 t6,by rw [Zb2];exact hN⟩
   | none=>
    rw [hd2] at h
    simp only at h
    obtain ⟨g',cv,w',_,t1,t2,t3,t4,t5,t6⟩:=ZmA (P:=P) (W:=W) (a:=a) htt.tt o h hH hS hU (hkey key (A9 _) (by omega))
    exact ⟨_,_,ZeE hS hU hdef hh hd' t1 t2 t3 t4 t5 t6,by rw [Zb2];exact hN⟩
 unfold opR at h
 split at h
 ·exact run h
 ·exact und h
 ·unfold gK at h
  split at h
  ·split at h
   ·exact run h
   ·exact und h
  ·split at h
   ·exact und h
   ·exact h.elim
theorem Zgu {S:Ctx} {b:Bool} {all:List Oper} {base i:Nat} {r:List Nat} {K:St→Prop} {o:Oper} (ho:all[i]?=some o):ZeD tt S b all base (i::r) K st=ifB b (stk tt S o.op st) (opG tt S all (base+16 * i) o (ZeD tt S b all base r K) st):=by simp only[ZeD,ho]
theorem ZqY [NW] {S:Ctx} {all:List Oper} {base:Nat} {K:St→Prop}:∀(r:List Oper) (i:Nat) (st:St),all.drop i=r→ZY tt S all (base+16 * i) r K st→ZeD tt S false all base (AJ i r.length) K st
 | [],_,_,_,h=>h
 | o::r,i,st,hr,h=>by
  have hi:all[i]?=some o:=by
   have:=congrArg (fun l=>l[0]?) hr
   simpa using this
  have hr':all.drop (i+1)=r:=by
   have:=congrArg List.tail hr
   simpa using this
  rw [Aj,AX,Zgu hi]
  obtain ⟨v,u,h1,h2⟩:=Zgn.1 h
  refine Zgn.2 ⟨v,u,h1,ZqY r (i+1) _ hr' ?_⟩
  rw [show base+16 * (i+1)=base+16 * i+16 by omega]
  exact h2
theorem Znp {b c:Bool} {P:Prop}:ifB b c P↔(b=true→c=true)∧P:=by
 cases b<;>simp [ifB]
theorem ZBq [NW] (htt:MOk P J JF W tt) {b:Bool} {ops:Array Oper} {N base i:Nat} {o:Oper} (ho:ops.toList[i]?=some o) (hN:∀o∈ops.toList,∀t,o.dst=some t→t<N∧(W.hv=none∨t≠0)) {K:St→Prop} {R2:List Nat}:∀(R1:List Nat) (U:Nat→Prop) (st:St),(R1++i::R2).Nodup→
  (∀j∈R1,∃oj,ops.toList[j]?=some oj∧oj.apart ops o=true∧ZrN tt hds b oj.op o.op=true)→(∀j∈R1++i::R2,∀k,base+16 * j≤k→k<base+16 * j+16→¬U k)→ZsX W N U st→
  ZeD tt (SC P J JF hds) b ops.toList base (R1++i::R2) K st→(b=true→stk tt (SC P J JF hds) o.op st=true)∧opG tt (SC P J JF hds) ops.toList (base+16 * i) o (ZeD tt (SC P J JF hds) b ops.toList base (R1++R2) K) st:=by
 intro R1
 induction R1 with
 | nil=>
  intro U st _ _ _ _ h
  rw [Ae,Zgu ho] at h
  exact Znp.1 h
 | cons j R1 ih=>
  intro U st hnd hcomp hk hR h
  obtain ⟨oj,hj,hap,hcl⟩:=hcomp j (by simp)
  rw [Ab,Zgu hj] at h
  obtain ⟨sj,h⟩:=Znp.1 h
  obtain ⟨vj,uj,h1,h2⟩:=Zgn.1 h
  have hkj:=hk j (by simp)
  have hki:=hk i (by simp)
  rw [Ab,Al] at hnd
  have hij:i≠j:=fun e=>hnd.1 (by simp [e])
  have hR1:=Zs5 htt h1 hR hkj (hN oj (Aa hj))
  obtain ⟨si,h3⟩:=ih (Uk U (base+16 * j)) _ hnd.2 (fun q mq=>hcomp q (by simp [mq])) (fun q mq k a b hU=>by
   rcases hU with hU | ⟨c,d⟩
   ·exact hk q (by simp;simp at mq;exact .inr mq) k a b hU
   ·have:q=j:=by omega
    subst this
    exact hnd.1 mq) hR1 h2
  obtain ⟨vi,ui,h4,h5⟩:=Zgn.1 h3
  obtain ⟨_,_,hIn,_⟩:=hR
  obtain ⟨c1,c2,c3⟩:=ZAS (tt:=tt) (S:=SC P J JF hds) (b:=b) hap hcl hIn.wf hkj hki (by omega) sj si h1 h4
  have e1:=(Zfp (tt:=tt) (S:=SC P J JF hds) (st:=st) (vi:=vj) (ui:=uj) (vj:=vi) (uj:=ui) hap).1
  have e2:=(Zfp (tt:=tt) (S:=SC P J JF hds) (st:=st) (vi:=vj) (ui:=uj) (vj:=vi) (uj:=ui) hap).2
  refine ⟨fun hb=>e1.trans (si hb),Zgn.2 ⟨vi,ui,c1,?_⟩⟩
  rw [Ab,Zgu hj]
  exact Znp.2 ⟨fun hb=>e2.trans (sj hb),Zgn.2 ⟨vj,uj,c2,c3 ▸ h5⟩⟩
def anc (ops:Array Oper):Nat→Nat→List Nat
 | 0,_=>[]
 | n+1,j=>match ops[j]? with
  | some o=>(o.after.toList.filter (Region.binds .any)).flatMap fun e=>e.on::anc ops n e.on
  | none=>[]
def Zmf (tt:Nat→Option TI) (hds:FuncId→Nat) (b:Bool) (ops:Array Oper) (i j:Nat):Bool:=!Nat.beq i j&&match ops[i]?,ops[j]? with
 | some oi,some oj=>(oi.after.toList.all fun e=>!Region.binds .any e||!Nat.beq e.on j)&&((anc ops ops.size j).contains i||(oi.apart ops oj&&ZrN tt hds b oi.op oj.op))
 | _,_=>true
def Zix (tt:Nat→Option TI) (hds:FuncId→Nat) (b:Bool) (ops:Array Oper):List Nat→Bool
 | []=>true
 | i::r=>r.all (Zmf tt hds b ops i)&&Zix tt hds b ops r
def elB (ops:Array Oper) (j:Nat):Bool:=match ops[j]? with
 | some oj=>oj.after.toList.all fun e=>!Region.binds .any e||(Nat.blt e.on ops.size&&!Nat.beq e.on j)
 | none=>true
def Zwg (ops:Array Oper):Bool:=(Ac ops.size).all (elB ops)
def Zql (tt:Nat→Option TI) (hds:FuncId→Nat) (ops:Array Oper):Bool:=Zix tt hds false ops (Ac ops.size)&&Zwg ops
def Zru (tt:Nat→Option TI) (hds:FuncId→Nat) (b:Bool) (ops:Array Oper) (l:List Nat):Bool:=Zix tt hds b ops l&&Zwg ops&&Nat.ble l.length ops.size&&l.all (Nat.blt · ops.size)&&(Ac ops.size).all l.contains
theorem ZpI {ops:Array Oper} (h:Zwg ops=true) (j:Nat):elB ops j=true:=by
 rcases Nat.lt_or_ge j ops.size with hj | hj
 ·exact AC.1 h j (by simpa using hj)
 ·unfold elB
  rw [Array.getElem?_eq_none hj]
theorem ZmE {b:Bool} {ops:Array Oper}:∀{l:List Nat},Zix tt hds b ops l=true→l.Pairwise fun i j=>Zmf tt hds b ops i j=true
 | [],_=>List.Pairwise.nil
 | i::r,h=>by
  simp only[Zix,AE,AC] at h
  exact List.Pairwise.cons h.1 (ZmE h.2)
theorem ZqD {i j:Nat} (h:(!Nat.beq i j)=true):i≠j:=fun e=>by subst e;simp at h
theorem ZjI {b:Bool} {ops:Array Oper} {i j:Nat} {oi oj:Oper} (h:Zmf tt hds b ops i j=true) (hi:ops[i]?=some oi) (hj:ops[j]?=some oj):(∀e∈oi.after,Region.binds .any e=true→e.on≠j)∧(i∈anc ops ops.size j∨(oi.apart ops oj=true∧ZrN tt hds b oi.op oj.op=true)):=by
 simp only[Zmf,hi,hj,AE,AC,AL] at h
 refine ⟨fun e me hb=>?_,h.2.2.imp (fun h=>by simpa using h) fun h=>h⟩
 have h1:=h.2.1 e (by simpa using me)
 rw [hb] at h1
 exact ZqD (h1.resolve_left (by simp))
theorem Zlf {ops:Array Oper} {listed:Array Bool} (hcl:∀i o,ops[i]?=some o→listed.getD i false=true→∀e∈o.after,Region.binds .any e=true→listed.getD e.on false=true):
  ∀(n j:Nat) (o:Oper),ops[j]?=some o→(∀e∈o.after,Region.binds .any e=true→listed.getD e.on false=true)→∀i∈anc ops n j,listed.getD i false=true
 | 0,j,o,_,_,i,mi=>by simp [anc] at mi
 | n+1,j,o,ho,he,i,mi=>by
  simp only[anc,ho,AY,List.mem_filter] at mi
  obtain ⟨e,⟨me,hb⟩,mi⟩:=mi
  have hl:=he e (by simpa using me) hb
  rcases A7.1 mi with rfl | mi
  ·exact hl
  ·cases ho':ops[e.on]? with
   | none=>cases n<;>simp [anc,ho'] at mi
   | some o'=>exact Zlf hcl n e.on o' ho' (fun e' me' hb'=>hcl e.on o' ho' hl e' me' hb') i mi
theorem ZrL [NW] (htt:MOk P J JF W tt) {b:Bool} {ops:Array Oper} {N base:Nat} (hN:∀o∈ops.toList,∀t,o.dst=some t→t<N∧(W.hv=none∨t≠0)) (hE:∀j,elB ops j=true) {K:St→Prop}
  (hQ:∀U' st' a' w',Inv W U' st' a' w'→(∀k,base+16 * ops.size≤k→¬U' k)→a'.tmps.size=N→K st'→Q .normal a' w'):
  ∀(fuel:Nat) (R:List Nat) (listed:Array Bool) (U:Nat→Prop) (st:St) (a:Act) (w:World),R.length≤fuel→R.Pairwise (fun i j=>Zmf tt hds b ops i j=true)→listed.size=ops.size→(∀i,i∈R↔(i<ops.size∧listed.getD i true=false))→
   (∀i o,ops[i]?=some o→listed.getD i false=true→∀e∈o.after,Region.binds .any e=true→listed.getD e.on false=true)→
   ZeD tt (SC P J JF hds) b ops.toList base R K st→Inv W U st a w→(∀j∈R,∀k,base+16 * j≤k→k<base+16 * j+16→¬U k)→(∀k,base+16 * ops.size≤k→¬U k)→a.tmps.size=N→wpAny P .any ops Q fuel listed a w:=by
 have hE':∀j oj,ops[j]?=some oj→∀e∈oj.after,Region.binds .any e=true→e.on<ops.size∧e.on≠j:=fun j oj hj e me hb=>by
  have h1:=hE j
  simp only[elB,hj,AC,AL,AE] at h1
  have h2:=h1 e (by simpa using me)
  rw [hb] at h2
  have h3:=h2.resolve_left (by simp)
  exact ⟨AD h3.1,ZqD h3.2⟩
 intro fuel
 induction fuel with
 | zero=>
  intro R listed U st a w hlen _ hsz hmem _ h hI _ hU hs
  have hR:R=[]:=List.eq_nil_of_length_eq_zero (by omega)
  subst hR
  refine ⟨?_,hQ U st a w hI hU hs h⟩
  rw [List.eq_nil_iff_forall_not_mem]
  intro i mi
  obtain ⟨h1,o,h2,_⟩:=mem_ready.1 mi
  exact absurd ((hmem i).2 ⟨(AM.1 h2).1,h1⟩) (by simp)
 | succ fuel ih=>
  intro R listed U st a w hlen hso hsz hmem hcl h hI hk hU hs
  refine ⟨fun hr=>?_,fun i mi=>?_⟩
  ·cases R with
   | nil=>exact hQ U st a w hI hU hs h
   | cons r0 R=>
    exfalso
    obtain ⟨m1,m2⟩:=(hmem r0).1 (by simp)
    have:r0∈Region.ready .any ops listed:=mem_ready.2 ⟨m2,ops[r0],by simp [m1],fun e me hb=>by
     have hlt:=hE' r0 ops[r0] (by simp [m1]) e me hb
     by_cases hl:listed.getD e.on true=false
     ·have mR:=(hmem e.on).2 ⟨hlt.1,hl⟩
      rcases A7.1 mR with e1 | mR
      ·exact absurd e1 hlt.2
      ·exact absurd rfl ((ZjI ((List.pairwise_cons.1 hso).1 _ mR) (oi:=ops[r0]) (oj:=ops[e.on]'hlt.1) (by simp [m1]) (by simp [hlt.1])).1 e me hb)
     ·have hlt2:e.on<listed.size:=by omega
      simp only[AA,hlt2,getElem?_pos,AS,Bool.not_eq_false] at hl ⊢
      exact hl⟩
    rw [hr] at this
    simp at this
  ·obtain ⟨i1,o,i2,i3⟩:=mem_ready.1 mi
   have hin:i<ops.size:=(AM.1 i2).1
   have miR:i∈R:=(hmem i).2 ⟨hin,i1⟩
   obtain ⟨R1,R2,rfl⟩:=List.append_of_mem miR
   have hnd:(R1++i::R2).Nodup:=hso.imp fun h=>by
    simp only[Zmf,AE] at h
    exact ZqD h.1
   have ho:ops.toList[i]?=some o:=by simpa using i2
   have hanc:=Zlf hcl ops.size i o i2 i3
   have hcomp:∀j∈R1,∃oj,ops.toList[j]?=some oj∧oj.apart ops o=true∧ZrN tt hds b oj.op o.op=true:=fun j mj=>by
    obtain ⟨j1,j2⟩:=(hmem j).1 (by simp [mj])
    have hji:=(List.pairwise_append.1 hso).2.2 j mj i (by simp)
    have hj:ops[j]?=some ops[j]:=by simp [j1]
    refine ⟨ops[j],by simp [j1],(ZjI hji hj i2).2.resolve_left fun ma=>?_⟩
    have:=hanc j ma
    have hlt:j<listed.size:=by omega
    simp only[AA,hlt,getElem?_pos,AS] at this j2
    rw [this] at j2;simp at j2
   have hfr:=(ZBq htt ho hN R1 U st hnd hcomp hk ⟨a,w,hI,hs⟩ h).2
   refine wpOp_mono ?_ (ZmK htt i2 hfr hI (hk i (by simp)) (fun t ht=>by rw [hs];exact hN o (Aa ho) t ht))
   rintro a' w' ⟨st',hI',hs',hK'⟩
   have hset:∀q,(listed.setIfInBounds i true).getD q true=if q=i then true else listed.getD q true:=fun q=>by
    by_cases e:q=i
    ·subst e;simp [AA,AZ,hsz,hin]
    ·simp [AA,AP (fun e':i=q=>e e'.symm),e]
   have hset':∀q,(listed.setIfInBounds i true).getD q false=if q=i then true else listed.getD q false:=fun q=>by
    by_cases e:q=i
    ·subst e;simp [AA,AZ,hsz,hin]
    ·simp [AA,AP (fun e':i=q=>e e'.symm),e]
   have hnotin:i∉R1++R2:=by
    rw [AT] at hnd
    intro m
    rcases A4.1 m with m | m
    ·exact hnd.2.2 i m i (by simp) rfl
    ·exact (Al.1 hnd.2.1).1 m
   refine ih (R1++R2) _ (Uk U (base+16 * i)) st' a' w' (by simp at hlen ⊢;omega) (hso.sublist (Af (AQ _) (List.sublist_cons_self i R2))) (by simp [hsz]) (fun q=>?_) (fun q oq hq hl e me hb=>?_) hK' hI' (fun q mq k c d hU'=>?_) (fun k hk' hU'=>?_) (by omega)
   ·rw [hset q]
    by_cases e:q=i
    ·subst e;simp only[if_true,Bool.true_eq_false,and_false,iff_false];exact hnotin
    ·rw [if_neg e,←hmem q];simp [e]
   ·rw [hset'] at hl ⊢
    by_cases e1:e.on=i
    ·simp [e1]
    ·rw [if_neg e1]
     by_cases e2:q=i
     ·subst e2
      rw [i2] at hq
      simp only[A0] at hq
      subst hq
      exact i3 e me hb
     ·rw [if_neg e2] at hl
      exact hcl q oq hq hl e me hb
   ·have mq':q∈R1++i::R2:=by simp at mq ⊢;rcases mq with mq | mq<;>simp [mq]
    rcases hU' with hU' | ⟨c',d'⟩
    ·exact hk q mq' k c d hU'
    ·have:q=i:=by omega
     subst this
     exact hnotin mq
   ·rcases hU' with hU' | ⟨c',d'⟩
    ·exact hU k hk' hU'
    ·omega
end
end
end Go.Proofs.YtekbmedphidcgaaGreatDoor
