/- Texts of this proof, joined: BOpsM, BOps9, BCall, BCall2, BReg, BDraw, BAny. What each holds is said at its theorems. -/
import Derived.Test.YtaafhjecikjhbaaGreatDoorFollowsQ4
import Derived.MapKept
import Derived.Orders
open Array renaming getD_eq_getD_getElem?→AE,getElem?_setIfInBounds_ne→Aa,getElem?_eq_some_iff→Ae,ext'→Ag,getElem?_setIfInBounds→Ak
open Bool renaming and_eq_true→AD,or_eq_true→AF
open List renaming mem_cons→A9,mem_append→AA,mem_map→AB,all_eq_true→AG,not_mem_nil→AK,mem_range'_1→AN,nodup_append→AP,range'→AR,mem_flatMap→AS,mem_of_getElem?→AU,map_congr_left→AW,cons_append→AY,nodup_cons→AZ,map_cons→Ac,flatMap_cons→Ah,range'_succ→Ai,mem_iff_getElem?→Aj,range→Al,map_nil→Am,length_eq_one_iff→An,mem_singleton→Ao,map_map→Aq,length_cons→Ar,mem_filterMap→As
open List.cons renaming injEq→AQ
open Nat renaming le_refl→AC,le_trans→AH,le_of_ble_eq_true→AI,zero_le→AL,lt_of_lt_of_le→AX
open Option renaming map_eq_some_iff→A4,bind_eq_some_iff→A6,map_some→AJ,map_none→AO,bind_some→AT,getD_some→Ad
open Option.some renaming injEq→A0
open Prod.mk renaming injEq→A5
set_option linter.unusedSimpArgs false
set_option linter.unusedVariables false
set_option maxRecDepth 1000000
set_option maxHeartbeats 4000000
namespace Go.Proofs.YtaafhjecikjhbaaGreatDoor
section
open Go.RowKit Go.MapKept
theorem ZnL {kk:PK}{d:TypeDesc}{k:Value}(hd:ZeB kk d=true) (hk:Zio kk k):IsKey d k:=by
 cases kk<;>cases d<;>simp [ZeB]at hd<;>cases k<;>simp_all [Zio,IsKey]
theorem ZvX {kk:PK}{a b:Value}(ha:Zio kk a) (hb:Zio kk b):vEq a b=true↔a=b:=by
 cases kk<;>cases a<;>simp [Zio]at ha<;>cases b<;>simp [Zio]at hb<;>simp_all [vEq,sEq]
theorem Zi5 [NW] {kk vk:PK}{d:TypeDesc}{k:Value}(hd:ZeB kk d=true) (hk:Zio kk k):∀(l:List MapEntry) (i:Nat),Zjw kk vk (l.map fun e=>(e.key,e.val))->
  (Instr.findNow d k l i=some none/\ZlL (l.map fun e=>(e.key,e.val)) k=none/\∀v,Zf3 (l.map fun e=>(e.key,e.val)) k v=(l.map fun e=>(e.key,e.val))++[(k,v)])\/
  ∃j e,Instr.findNow d k l i=some (some (i+j,e.val))/\l[j]?=some e/\e.key=k/\ZlL (l.map fun e=>(e.key,e.val)) k=some e.val/\Zio vk e.val/\∀v,Zf3 (l.map fun e=>(e.key,e.val)) k v=(l.modify j fun e=>{ e with key:=k,val:=v }).map fun e=>(e.key,e.val)
 | [],i,_=>.inl ⟨rfl,rfl,fun _=>rfl⟩
 |e::l,i,h=>by
  have he:=h (e.key,e.val) yG
  obtain ⟨r,hr,b⟩:=sameNow_of_keys (ZnL hd hk) (ZnL hd he.1)
  cases r with
  |true=>
   have c:=b.1 rfl
   have hv:vEq k e.key=true:=(ZvX hk he.1).2 c
   exact .inr ⟨0,e,by simp [Instr.findNow,hr],rfl,c.symm,by simp [ZlL,hv],he.2,fun v=>by simp [Zf3,hv]⟩
  |false=>
   have a:¬vEq k e.key=true:=fun q=>by have:=b.2 ((ZvX hk he.1).1 q);cases this
   rcases Zi5 hd hk l (i+1) (fun p m=>h p (by simp only[Ac,A9];exact .inr m)) with ⟨h1,h2,h3⟩|⟨j,e',h1,h2,h3,h4,h5,h6⟩
   .exact .inl ⟨by simp [Instr.findNow,hr,h1],by simp [ZlL,a,h2],fun v=>by simp [Zf3,a,h3]⟩
   .exact .inr ⟨j+1,e',by simp [Instr.findNow,hr,h1];omega,by simpa using h2,h3,by simp [ZlL,a,h4],h5,fun v=>by simp [Zf3,a,h6]⟩
section
variable {P:Program} {W:QO} {U:Nat->Prop} {key:Nat} {st:St} {g:Gh} {w w':World} {a:Act} {tt:Nat->Option TI}
theorem ZFj [NW] {vk:PK}{v:Value}(h:Zio vk v):AVR g w (avV v) v:=by
 cases vk<;>cases v<;>simp [Zio]at h<;>first|exact ⟨[],⟨rfl,rfl⟩,yG⟩|exact ⟨[],⟨rfl,rfl,h⟩,yG⟩
theorem ZGQ (v:Value):avU U (avV v):=by cases v<;>trivial
theorem Zqk [NW] {kk:PK}{x:SV}{v k:Value}(h:Zw7 kk x=some k) (hx:SVR g w x v):v=k/\Zio kk k:=by
 unfold Zw7 at h
 split at h
 .split at h<;>simp only[A0,reduceCtorEq]at h
  rename_i e;subst e h
  exact ⟨Zcg hx,rfl⟩
 .simp only[A0]at h;subst h
  exact ⟨(Zi7 hx).1,(Zi7 hx).2⟩
 .simp only[A0]at h;subst h
  exact ⟨Zgy hx,trivial⟩
 .simp at h
theorem Znv (htt:∀t i,tt t=some i->TOk P t i) {t:Nat}{kk vk:PK}(h:Ze1 kk vk (tt t)=true):TOk P t (.map kk vk):=by
 unfold Ze1 at h
 split at h
 .rename_i a b c
  simp only[AD,decide_eq_true_eq]at h
  rw [h.1,h.2]at c
  exact htt _ _ c
 .simp at h
theorem ZwQ [NW] {vk:PK}{zv:Value}(h:Zbc (Zfv vk) zv=true):AVR g w (Zfv vk) zv/\avU U (Zfv vk):=by
 refine ⟨ZfI h,?_⟩
 cases vk<;>trivial
theorem Zs8 [NW] (htt:∀t i,tt t=some i->TOk P t i) {t:Nat}{kk vk:PK}{kv:List (Value×Value)}{i v:SV}{vi:Value}{ok:Bool}{b c:Nat}{es:Array MapEntry}(hm:Ze1 kk vk (tt t)=true) (h:Ztc kk vk kv i ok=some v) (hi:SVR g w i vi) (hb:w.heap[b]?=some (.map es c)) (m:ZeS es=kv) (o:Zjw kk vk kv):
  ∃cv,(Instr.lookup t (.map (some b)) vi ok).run P w=.ok cv w/\SVR g w v cv/\svU U v:=by
 obtain ⟨kt,et,dk,dv,inf,zv,h1,h2,h3,h4,h5,h6,h7,h8⟩:=Znv htt hm
 unfold Ztc at h
 obtain ⟨k,hk,rfl⟩:=A4.1 h
 obtain ⟨rfl,d⟩:=Zqk hk hi
 subst m
 have hz:=ZwQ (g:=g) (w:=w) (U:=U) h8
 have q:(zeroValue et).run P w=.ok zv w:=ZjR h6 h7
 have key:∃r:Option (Nat×Value),(Instr.findKey kt vi es.toList).run P w=.ok r w/\(match r with|some p=>ZlL (ZeS es) vi=some p.2/\Zio vk p.2|none=>ZlL (ZeS es) vi=none):=by
  rcases Zi5 h3 d es.toList 0 o with ⟨f1,f2,_⟩|⟨j,e,f1,f2,f3,f4,f5,_⟩
  .exact ⟨none,run_findKey h2 f1,f2⟩
  .exact ⟨some _,run_findKey h2 f1,f4,f5⟩
 obtain ⟨r,hr,a⟩:=key
 have f:(Instr.checkKey es.isEmpty 10000 kt vi).run P w=.ok () w:=run_checkKey (P:=P) (w:=w) h2 (ZnL h3 d) es.isEmpty 9999
 have hg:(getObj b).run P w=.ok (.map es c) w:=by simp [getObj,Sem.run,hb]
 have l:∃rv rb,(Instr.lookup t (.map (some b)) vi ok).run P w=.ok (if ok then .tuple #[rv,.bool rb] else rv) w/\AVR g w (ZcA (ZeS es) vi (Zfv vk)) rv/\avU U (ZcA (ZeS es) vi (Zfv vk))/\Zfm (ZeS es) vi=rb:=by
  cases r with
  |none=>
   simp only at a
   refine ⟨zv,false,?_,by simp only[ZcA,a];exact hz.1,by simp only[ZcA,a];exact hz.2,by simp [Zfm,a]⟩
   unfold Instr.lookup
   simp only[Sem.run_bind,YV h1,Result.andThen_ok,hg,Sem.run_pure,f,hr,q]
  |some p=>
   simp only at a
   refine ⟨p.2,true,?_,by simp only[ZcA,a.1];exact ZFj a.2,by simp only[ZcA,a.1];exact ZGQ _,by simp [Zfm,a.1]⟩
   unfold Instr.lookup
   simp only[Sem.run_bind,YV h1,Result.andThen_ok,hg,Sem.run_pure,f,hr]
 obtain ⟨rv,rb,q1,q2,q3,q4⟩:=l
 refine ⟨_,q1,?_,?_⟩
 .cases ok with
  |true=>exact ⟨[rv,.bool rb],rfl,⟨_,rfl,q2⟩,⟨_,rfl,[],⟨by rw [q4],rfl⟩,yG⟩,trivial⟩
  |false=>exact ⟨_,rfl,q2⟩
 .cases ok with
  |true=>
   intro y my
   simp only[A9,AK,or_false]at my
   rcases my with rfl|rfl
   .intro z mz;simp at mz;subst mz;exact q3
   .intro z mz;simp at mz;subst mz;trivial
  |false=>intro z mz;simp at mz;subst mz;exact q3
theorem ZBU [NW] (htt:∀t i,tt t=some i->TOk P t i) (hI:HI W g st.ob w) {t:Nat}{x i v:SV}{vx vi:Value}{ok:Bool}(h:Zhi st (tt t) x i ok=some v) (hx:SVR g w x vx) (hi:SVR g w i vi):
  ∃cv,(Instr.lookup t vx vi ok).run P w=.ok cv w/\SVR g w v cv/\svU U v:=by
 unfold Zhi at h
 split at h
 .rename_i k
  split at h
  .rename_i kk vk kv hk
   split at h
   .rename_i hm
    have hv:=Zgz hx
    have ho:=hI.obs k
    rw [hk]at ho
    obtain ⟨b,es,c,h1,_,_,h4,h5,h6⟩:=ho
    rw [hv,h1]
    exact Zs8 htt hm h hi h4 h5 h6
   .simp at h
  .simp at h
 .rename_i kk vk kv
  split at h
  .rename_i hm
   obtain ⟨y,hy,hx⟩:=hx
   simp at hy;subst hy
   obtain ⟨L,⟨b,es,c,rfl,h4,h5,h6,_⟩,_⟩:=hx
   exact Zs8 htt hm h hi h4 h5 h6
  .simp at h
 .simp at h
theorem ZE9 [NW] (htt:∀t i,tt t=some i->TOk P t i) (hI:HI W g st.ob w) (hU:StU U st) (c:¬U key) {t:Nat}{r:SV×List (Nat×Ob)}(h:Zpj key (tt t)=some r) {s:Sem Next}(hs:s=(do pure (.value (<-Instr.makeMap t none)))):Fin P W U key st g w s r:=by
 unfold Zpj at h
 split at h
 .rename_i kk vk hti
  simp only[A0]at h;subst h
  have d:s.run P w=.ok (.value (.map (some w.heap.size))) (w.alloc (.map #[] 0)):=by
   subst hs
   have h0:(Instr.makeMap t none).run P w=.ok (.map (some w.heap.size)) (w.alloc (.map #[] 0)):=rfl
   simp only[Sem.run_bind,h0,Result.andThen_ok,Sem.run_pure]
  have hb:Below w.heap.size w (w.alloc (.map #[] 0)):=(Below.refl _ _).alloc (AC _) _
  have a:=heap_alloc_new w (.map #[] 0)
  obtain ⟨h1,h2⟩:=hI.turn (key:=key) (U:=U) (w':=w.alloc (.map #[] 0)) (v:=.map (some w.heap.size)) (O:=[w.heap.size]) (D:=[]) (o:=.map kk vk []) hU.ob c [] yG
   (hI.below.trans hb) hb.size (fun b f _=>hb.block b f) yG yG yG (fun b mb=>by
    simp at mb;subst mb
    exact ⟨.inl hI.below.size,_,_,a⟩)
   (fun _=>⟨w.heap.size,#[],0,by simp [Gh.turn,upd],by simp [Gh.turn,upd],by simp [Gh.turn,upd],a,rfl,fun _ m=>by simp at m⟩)
  have e:=ZjG (key:=key) (o:=.map kk vk []) hU [] trivial
  exact ⟨_,_,_,.inl d,h1,⟨_,rfl,⟨by simp [Gh.turn,upd],by simp [Value.oneCell']⟩⟩,h2,fun y my=>by simp at my;subst my;exact ZkK,e.1,e.2⟩
 .simp at h
theorem ZBH [NW] (htt:∀t i,tt t=some i->TOk P t i) {t:Nat}{kk vk:PK}{kv:List (Value×Value)}{k v:Value}{b c:Nat}{es:Array MapEntry}(hm:Ze1 kk vk (tt t)=true) (hk:Zio kk k) (hv:Zio vk v) (hb:w.heap[b]?=some (.map es c)) (x:ZeS es=kv) (d:Zjw kk vk kv):
  ∃f c',(Instr.mapUpdate t (.map (some b)) k v).run P w=.ok () { w with heap:=w.heap.setIfInBounds b (.map f c') }/\ZeS f=Zf3 kv k v/\Zjw kk vk (Zf3 kv k v):=by
 obtain ⟨kt,et,dk,dv,inf,zv,h1,h2,h3,h4,h5,h6,h7,h8⟩:=Znv htt hm
 subst x
 have g:(Instr.checkKey false 10000 kt k).run P w=.ok () w:=run_checkKey (P:=P) (w:=w) h2 (ZnL h3 hk) false 9999
 have hg:(getObj b).run P w=.ok (.map es c) w:=by simp [getObj,Sem.run,hb]
 have l:∀o,(setObj b o).run P w=.ok () { w with heap:=w.heap.setIfInBounds b o }:=fun o=>by simp [setObj,Sem.run,hb]
 have a:∀{kv:List (Value×Value)},Zjw kk vk kv->Zjw kk vk (Zf3 kv k v):=fun {kv}=>by
  induction kv with
  |nil=>intro _ p m;simp [Zf3]at m;subst m;exact ⟨hk,hv⟩
  |cons q r ih=>
   intro h p m
   simp only[Zf3]at m
   split at m
   .rcases A9.1 m with rfl|m
    .exact ⟨hk,hv⟩
    .exact h p (by simp [m])
   .rcases A9.1 m with rfl|m
    .exact h p yG
    .exact ih (fun q mq=>h q (by simp [mq])) p m
 rcases Zi5 h3 hk es.toList 0 d with ⟨f1,_,f2⟩|⟨j,e,f1,f2,f3,_,_,f4⟩
 .refine ⟨es.push { key:=k,val:=v,born:=c },c+1,?_,?_,a d⟩
  .have hf:=run_findKey (P:=P) (w:=w) h2 f1
   unfold Instr.mapUpdate
   simp only[Sem.run_bind,YV h1,Result.andThen_ok,hg,g,hf,l]
  .rw [show Zf3 (ZeS es) k v=_ from f2 v];simp [ZeS]
 .rw [Nat.zero_add]at f1
  have hf:=run_findKey (P:=P) (w:=w) h2 f1
  have hj:es[j]?=some e:=by simpa using f2
  have u:(Instr.keyThatStays k k).run P w=.ok k w:=run_keyThatStays (ZnL h3 hk)
  refine ⟨es.modify j fun e=>{ e with key:=k,val:=v },c,?_,?_,a d⟩
  .unfold Instr.mapUpdate
   simp only[Sem.run_bind,YV h1,Result.andThen_ok,hg,g,hf,l,hj,AJ,Ad,f3,u]
  .rw [show Zf3 (ZeS es) k v=_ from f4 v];simp [ZeS]
theorem ZE5 [NW] (htt:∀t i,tt t=some i->TOk P t i) (hI:HI W g st.ob w) (hU:StU U st) {t:Nat}{x i v:SV}{u:List (Nat×Ob)}{vx vi vv:Value}(h:ZxX st (tt t) x i v=some u) (hx:SVR g w x vx) (hi:SVR g w i vi) (hv:SVR g w v vv) {s:Sem Next}(hs:s=(do Instr.mapUpdate t vx vi vv;pure .skip)):Fin P W U key st g w s (.und,u):=by
 unfold ZxX at h
 split at h
 .rename_i k
  split at h
  .rename_i kk vk kv hk
   split at h
   .rename_i hm
    obtain ⟨a,ha,h⟩:=A6.1 h
    obtain ⟨b',o,rfl⟩:=A4.1 h
    obtain ⟨rfl,p⟩:=Zqk ha hi
    obtain ⟨rfl,y⟩:=Zqk o hv
    have z:=Zgz hx
    have ho:=hI.obs k
    rw [hk]at ho
    obtain ⟨b,es,c,h1,h2,h3,h4,h5,h6⟩:=ho
    obtain ⟨d,c',r1,r2,r3⟩:=ZBH (w:=w) htt hm p y h4 h5 h6
    have f:s.run P w=.ok .skip { w with heap:=w.heap.setIfInBounds b (.map d c') }:=by
     rw [hs,z,h1];simp only[Sem.run_bind,r1,Result.andThen_ok,Sem.run_pure]
    obtain ⟨q1,q2⟩:=heap_set (o':=.map d c') h4
    have hlt:b<w.heap.size:=(Ae.1 h4).1
    have j:({ w with heap:=w.heap.setIfInBounds b (.map d c') }:World).heap.size=w.heap.size:=by simp
    have l:W.heap.size<=b\/W.x b:=hI.oy k b (by simp [h2])
    have A:U k:=Classical.byContradiction fun hn=>by have:=hU.gone _ hn;rw [hk]at this;simp at this
    have B:∀b',b'<w.heap.size->¬g.own b'->({ w with heap:=w.heap.setIfInBounds b (.map d c') }:World).heap[b']?=w.heap[b']?:=fun b' _ hn=>q2 b' fun e=>hn (.inl ⟨k,by simp [h2,e]⟩)
    refine ⟨g,undef,_,.inr ⟨f,rfl⟩,?_,rfl,fun x u hx hu=>hu.move hx (fun _ _=>rfl) B (Qw.refl _ _) (Nat.le_of_eq j.symm),trivial,fun q=>?_,fun q hq=>?_⟩
    .refine hI.step (U:=U) (fun q=>q=k) ?_ rfl (fun b' _ hn=>q2 b' fun e=>hn k rfl (by simp [h2,e])) (fun q hq=>⟨ZO _ _ hq,rfl,rfl,rfl⟩) hU.ob (fun _ _=>rfl) (Qw.refl _ _) (fun q hq=>?_)
     .exact ⟨hI.below.os,hI.below.tape,hI.below.output,AH hI.below.size (Nat.le_of_eq j.symm),fun q hq hx=>by
       show (w.heap.setIfInBounds b (.map d c'))[q]?=_
       rw [q2 q (fun e=>by subst e;rcases l with h|h;omega;exact hx h)];exact hI.below.block q hq hx⟩
     .subst hq
      refine ⟨?_,hI.nodup q,fun b' m=>?_,hI.apart q⟩
      .simp only[Zl,ZF]
       exact ⟨b,d,c',h1,h2,h3,q1,r2,r3⟩
      .simp [h2,h3]at m
       subst m
       refine ⟨l.imp_right .inl,?_⟩
       simp only[Zl,ZF]
       exact ⟨_,_,q1⟩
    .simp only[Zl,upd]
     split
     .trivial
     .exact (hU.ob q).mono fun _=>.inl
    .simp only[Zl,upd]
     split
     .rename_i e;subst e;exact absurd (.inl A) hq
     .exact hU.gone q fun h=>hq (.inl h)
   .simp at h
  .simp at h
 .simp at h
theorem Zu7 [NW]:∀{cs:List AV}{l:List CT}{vs:List Value},ZjE.zBox cs=some l->ZI (AVR g w) cs vs->∃L,RCs w l vs L/\∀b∈L,¬g.own b
 | [],l,[],h,_=>by simp [ZjE.zBox]at h;subst h;exact ⟨[],⟨rfl,rfl⟩,yG⟩
 | [],_,_::_,_,h=>h.elim
 |_::_,_,[],_,h=>h.elim
 |x::r,l,v::vs,h,hr=>by
  cases x with
  |c x=>
   simp only[ZjE.zBox]at h
   obtain ⟨b,hb,rfl⟩:=A4.1 h
   obtain ⟨L,h1,h2⟩:=Zu7 hb hr.2
   obtain ⟨L0,h3,h4⟩:=hr.1
   refine ⟨L0++L,⟨v,vs,L0,L,rfl,rfl,h3,h1⟩,fun b mb=>?_⟩
   rcases AA.1 mb with m|m
   .exact h4 b m
   .exact h2 b m
  |_=>simp [ZjE.zBox]at h
theorem ZwJ {x:SV}{r:CT×List (Nat×Ob)}(h:ZjE st x=some r):(∀p∈r.2,p.2=Ob.gone/\∃t cs,st.ob p.1=.box t cs):=by
 unfold ZjE at h
 split at h
 .split at h
  .rename_i k _ t cs hk
   obtain ⟨l,_,rfl⟩:=A4.1 h
   intro p mp;simp at mp;subst mp
   exact ⟨rfl,t,cs,hk⟩
  .simp at h
 .simp only[A0]at h;subst h;intro p mp;simp at mp
 .simp at h
theorem ZCn [NW] {ob:Nat->Ob}(hI:HI W g ob w) {x:SV}{r:CT×List (Nat×Ob)}{v:Value}(h:ZjE st x=some r) (a:∀p∈r.2,ob p.1=st.ob p.1) (hx:SVR g w x v):
  ∃g1:Gh,HI W g1 (Zl ob r.2) w/\g1.val=g.val/\X0 g1 g/\∃L,RC w r.1 v L/\∀b∈L,¬g1.own b:=by
 unfold ZjE at h
 split at h
 .rename_i k
  split at h
  .rename_i t cs hk
   obtain ⟨l,hl,rfl⟩:=A4.1 h
   have c:ob k=.box t cs:=(a (k,.gone) yG).trans hk
   obtain ⟨g1,i1,i2,i3,b,vs,j1,j2,j3,j4,j5⟩:=ZyV hI c
   obtain ⟨L,l1,l2⟩:=Zu7 hl j5
   obtain ⟨b',e1,rfl⟩:=hx
   rw [j1]at e1
   simp at e1
   subst e1
   refine ⟨g1,i1,i2,i3,b::L,⟨b,vs,L,rfl,j3,rfl,j4,l1⟩,fun x mx=>?_⟩
   rcases A9.1 mx with rfl|mx
   .exact j2
   .exact fun hx=>l2 x mx (i3.own x hx)
  .simp at h
 .simp only[A0]at h;subst h
  obtain ⟨y,hy,hx⟩:=hx
  simp at hy;subst hy
  obtain ⟨L,h1,h2⟩:=hx
  exact ⟨g,hI,rfl,X0.refl _,L,h1,h2⟩
 .simp at h
theorem ZsO [NW]:∀{xs:List SV}{ob:Nat->Ob}{g:Gh}{r:List CT×List (Nat×Ob)}{vs:List Value},HI W g ob w->Zfe st xs=some r->(r.2.map (·.1)).Nodup->(∀p∈r.2,ob p.1=st.ob p.1)->ZI (SVR g w) xs vs->
  ∃g1:Gh,HI W g1 (Zl ob r.2) w/\g1.val=g.val/\X0 g1 g/\∃L,RCs w r.1 vs L/\∀b∈L,¬g1.own b
 | [],ob,g,r,vs,hI,h,_,_,hr=>by
  simp [Zfe]at h;subst h
  cases vs with
  |nil=>exact ⟨g,hI,rfl,X0.refl _,[],⟨rfl,rfl⟩,yG⟩
  |cons _ _=>exact hr.elim
 |x::xs,ob,g,r,[],hI,h,_,_,hr=>hr.elim
 |x::xs,ob,g,r,v::vs,hI,h,hn,hob,hr=>by
  simp only[Zfe]at h
  obtain ⟨a,ha,h⟩:=A6.1 h
  obtain ⟨b,hb,rfl⟩:=A4.1 h
  simp only[List.map_append,AP]at hn
  obtain ⟨n1,n2,n3⟩:=hn
  obtain ⟨g1,i1,i2,i3,L1,l1,l2⟩:=ZCn hI ha (fun p m=>hob p (by simp [m])) hr.1
  have c:∀p∈b.2,Zl ob a.2 p.1=st.ob p.1:=fun p mp=>by
   have d:∀q∈a.2,q.1≠p.1:=fun q mq=>n3 q.1 (AB.2 ⟨q,mq,rfl⟩) p.1 (AB.2 ⟨p,mp,rfl⟩)
   have:∀(u:List (Nat×Ob)) (ob:Nat->Ob),(∀q∈u,q.1≠p.1)->Zl ob u p.1=ob p.1:=by
    intro u
    induction u with
    |nil=>intro ob _;rfl
    |cons q u ih=>intro ob h;rw [Zl,ih _ fun z mz=>h z (by simp [mz])];exact ZO _ _ fun e=>h q yG e.symm
   rw [this _ _ d]
   exact hob p (by simp [mp])
  have f:ZI (SVR g1 w) xs vs:=hr.2.mono fun x u _ hx=>hx.less i2 i3
  obtain ⟨g2,k1,k2,k3,L2,m1,m2⟩:=ZsO i1 hb n2 c f
  refine ⟨g2,?_,k2.trans i2,k3.trans i3,L1++L2,⟨v,vs,L1,L2,rfl,rfl,l1,m1⟩,fun x mx=>?_⟩
  .rw [Yz];exact k1
  .rcases AA.1 mx with m|m
   .exact fun hx=>l2 x m (k3.own x hx)
   .exact m2 x m
theorem Zm6 [NW]:∀{xs:List SV}{r:List CT×List (Nat×Ob)},Zfe st xs=some r->∀p∈r.2,p.2=Ob.gone/\∃t cs,st.ob p.1=.box t cs
 | [],r,h=>by simp [Zfe]at h;subst h;intro p m;simp at m
 |x::xs,r,h=>by
  simp only[Zfe]at h
  obtain ⟨a,ha,h⟩:=A6.1 h
  obtain ⟨b,hb,rfl⟩:=A4.1 h
  intro p m
  rcases AA.1 m with m|m
  .exact ZwJ ha p m
  .exact Zm6 hb p m
theorem ZDJ [NW] (hI:HI W g st.ob w) (hU:StU U st) {f:FuncId}{xs:List SV}{vs:List Value}{r:List CT×List (Nat×Ob)}(h:Zfe st xs=some r) (hn:(r.2.map (·.1)).Nodup) (hr:ZI (SVR g w) xs vs) {s:Sem Next}(hs:s.run P w=.ok (.value (.func (.func f) #[] vs.toArray)) w):Fin P W U key st g w s (.p false [.c (.fn f r.1)],r.2):=by
 obtain ⟨g1,i1,i2,i3,L,l1,l2⟩:=ZsO hI h hn (fun _ _=>rfl) hr
 have hg:=Zm6 h
 have a:∀(u:List (Nat×Ob)) (ob:Nat->Ob) (k:Nat),(∀p∈u,p.2=Ob.gone)->Zl ob u k=ob k\/Zl ob u k=.gone:=by
  intro u
  induction u with
  |nil=>intro ob k _;exact .inl rfl
  |cons q u ih=>
   intro ob k h
   rw [Zl]
   rcases ih (upd ob q.1 q.2) k (fun p m=>h p (by simp [m])) with e|e
   .rw [e]
    by_cases hk:k=q.1
    .right;rw [hk,ZF];exact h q yG
    .left;exact ZO _ _ hk
   .exact .inr e
 refine ⟨g1,_,w,.inl hs,i1,⟨_,rfl,L,⟨vs,rfl,l1⟩,l2⟩,fun x u _ hx=>hx.less i2 i3,XZ _,fun k=>?_,fun k hk=>?_⟩
 .rcases a r.2 st.ob k (fun p m=>(hg p m).1) with e|e
  .rw [e];exact (hU.ob k).mono fun _=>.inl
  .rw [e];trivial
 .rcases a r.2 st.ob k (fun p m=>(hg p m).1) with e|e
  .rw [e];exact hU.gone k fun h=>hk (.inl h)
  .exact e
end
end
section
open Go.RowKit
section
variable {P:Program} {W:QO} {U:Nat->Prop} {key:Nat} {st:St} {g:Gh} {w w':World} {a:Act} {tt:Nat->Option TI}
theorem ZfU:∀(ts:List TypeId) (xs:List Operand),(Zjj ts xs).map (·.2)=xs
 |_,[]=>by cases ‹List TypeId›<;>rfl
 | [],x::xs=>by simp [Zjj,ZfU [] xs]
 |t::ts,x::xs=>by simp [Zjj,ZfU ts xs]
theorem Zxe [NW] (htt:∀t i,tt t=some i->TOk P t i) {t:Nat}{z:List AV}(h:ZnA (tt t)=some z):∃zv vs,(zeroValue t).run P w=.ok zv w/\zv.cells=(vs:List Value).toArray/\ZI (AVR g w) z vs/\X3 U z:=by
 unfold ZnA at h
 split at h<;>simp only[A0,reduceCtorEq]at h<;>subst h<;>rename_i a
 .obtain ⟨d,zv,i,h1,h2,h3,h4,h5,h6⟩:=htt t _ a
  have hr:AVR g w _ zv:=ZfI h6
  exact ⟨zv,[zv],ZjR h3 h4,by rw [ZpM hr.one],⟨hr,trivial⟩,fun y m=>by
   simp at m;subst m
   cases y<;>first|trivial|simp [Zbc]at h6⟩
 .obtain ⟨fields,i,zvs,h1,h2,h3,h4,h5,_⟩:=htt t _ a
  obtain ⟨q1,q2⟩:=ZiQ (g:=g) (w:=w) (U:=U) h5
  exact ⟨.agg zvs,zvs.toList,ZjR h2 h4,by simp [Value.cells],q1,q2⟩
 .obtain ⟨_,hm,_,_,j,h1,h2,h3⟩:=htt t _ a
  exact ⟨_,[.slice none 0 0],ZjR h1 h3,rfl,⟨rfl,trivial⟩,fun y m=>by simp at m;subst m;trivial⟩
theorem Zqd [NW] (htt:∀t i,tt t=some i->TOk P t i) (o:Oper) {r:SV×List (Nat×Ob)}(hr:opE tt key o st=some r) (hI:HI W g st.ob w) (hS:∀t,SVR g w (st.sl t) (a.tmps.getD t undef)) (hU:StU U st) (A:¬U key):
  Fin P W U key st g w (execOp a.eval o) r:=by
 have ev:=fun t x=>Zlm (P:=P) (a:=a) (g:=g) (w:=w) (U:=U) htt hS hU t x
 have j:∀{v:Option SV} {s:Sem Value},Zb0 v=some r->execOp a.eval o=(do pure (.value (<-s)))->(∀u,v=some u->∃cv,s.run P w=.ok cv w/\SVR g w u cv/\svU U u)->Fin P W U key st g w (execOp a.eval o) r:=fun {v s} hp he hv=>by
  obtain ⟨u,hu,rfl⟩:=A4.1 hp
  obtain ⟨cv,c1,c2,c3⟩:=hv u hu
  exact Zbf hI hU (by rw [he];simp only[Sem.run_bind,c1,Result.andThen_ok,Sem.run_pure]) c2 c3
 obtain ⟨dst,op,ty,pos,af,gd⟩:=o
 cases op with
 |move x=>
  simp only[opE,A0]at hr;subst hr
  exact Zbf hI hU rfl (ev ty x).1 (ev ty x).2
 |assign x=>
  simp only[opE,A0]at hr;subst hr
  exact Zbf hI hU rfl (ev ty x).1 (ev ty x).2
 |pick c x y=>
  simp only[opE]at hr
  split at hr
  .rename_i b hb
   simp only[A0]at hr;subst hr
   have hc:=(ev 0 c).1
   rw [hb]at hc
   obtain ⟨cv,c1,c2,c3⟩:=ZBk (P:=P) hc (ev ty x) (ev ty y)
   exact Zbf hI hU c1 c2 c3
  .simp at hr
 |alloc t=>
  simp only[opE]at hr
  obtain ⟨z,hz,rfl⟩:=A4.1 hr
  obtain ⟨zv,vs,h1,h2,h3,h4⟩:=Zxe (P:=P) (g:=g) (w:=w) (U:=U) htt hz
  exact ZAr hI hU A h3 h4 (by simp [execOp,Instr.alloc,h1,newVar,newRow,h2])
 |box t x=>
  simp only[opE]at hr
  split at hr
  .rename_i ag cs hx
   simp only[A0]at hr;subst hr
   have hv:=ev t x
   rw [hx]at hv
   obtain ⟨vs,h2,h3⟩:=PVR.cells hv.1
   exact ZAr hI hU A h3 hv.2 (by simp [execOp,Instr.box,newVar,newRow,h2])
  .simp at hr
 |build t G=>
  simp only[opE]at hr
  split at hr
  .rename_i fs n z B
   obtain ⟨cs,N,rfl⟩:=A4.1 hr
   obtain ⟨cv,c1,c2,c3⟩:=Zx3 (P:=P) htt hS hU B N
   exact Zbf hI hU (by simp only[execOp,Sem.run_bind,c1,Result.andThen_ok,Sem.run_pure]) c2 c3
  .simp at hr
 |buildSlice t len G=>
  simp only[opE]at hr
  split at hr
  .rename_i e m E z B
   obtain ⟨⟨xs,ks,d⟩,h1,hr⟩:=A6.1 hr
   split at hr
   .rename_i hc
    simp only[A0]at hr;subst hr
    exact ZCZ htt hI hS hU A B h1 hc.1 hc.2.1 hc.2.2.1 rfl
   .simp at hr
  .simp at hr
 |load t x=>exact j hr rfl fun u hu=>ZvA htt hI hU hu (ev 0 x).1
 |store t x v=>
  simp only[opE]at hr
  obtain ⟨u,hu,rfl⟩:=A4.1 hr
  have hx:=ev 0 x
  have hv:=ev t v
  unfold ZgA at hu
  split at hu
  .rename_i k off ag vs C p
   rw [C]at hx
   rw [p]at hv
   split at hu
   .rename_i tb cs hk
    split at hu
    .rename_i hc
     simp only[A0]at hu;subst hu
     exact Zx8 htt hI hU hk hc.1 hc.2.2 hx.1 hv.1 hv.2 hc.2.1 rfl
    .simp at hu
   .simp at hu
  .rename_i k m i off ag vs C p
   rw [C]at hx
   rw [p]at hv
   split at hu
   .rename_i e m' xs d hk
    obtain ⟨y,hy,hu⟩:=A6.1 hu
    cases hys:Zgx vs with
    |some ys=>
     rw [hys]at hu
     simp only[Zni]at hu
     split at hu
     .rename_i hc
      simp only[A0]at hu;subst hu
      obtain ⟨rfl,H,I,J,O⟩:=hc
      exact Zy6 htt hI hU hk yE hy hys H J hx.1 hv.1 I rfl
     .simp at hu
    |none=>
     rw [hys]at hu
     simp only[Zni]at hu
     obtain ⟨⟨zs,ks,dv⟩,Q,hu⟩:=A6.1 hu
     split at hu
     .rename_i hc
      simp only[A0]at hu;subst hu
      obtain ⟨rfl,H,I,J,O,R⟩:=hc
      exact ZwT htt hI hU hk yE hy Q R H J hv.2 hx.1 hv.1 I rfl
     .simp at hu
   .simp at hu
  .simp at hu
 |nilCheck x=>
  simp only[opE]at hr
  have hx:=ev 0 x
  split at hr<;>simp only[A0,reduceCtorEq]at hr<;>subst hr<;>rename_i he<;>rw [he]at hx
  .obtain ⟨b,_,hv⟩:=hx.1
   exact Zbf hI hU (cv:=a.eval x) (by simp [execOp,hv]) hx.1 hx.2
  .obtain ⟨b,_,_,_,hv⟩:=hx.1
   exact Zbf hI hU (cv:=a.eval x) (by simp [execOp,hv]) hx.1 hx.2
  .obtain ⟨b,_,_,_,hv,_⟩:=hx.1
   exact Zbf hI hU (cv:=a.eval x) (by simp [execOp,hv]) hx.1 hx.2
  .obtain ⟨b,_,_,hv,_⟩:=Zu0 hx.1
   exact Zbf hI hU (cv:=a.eval x) (by simp [execOp,hv]) hx.1 hx.2
 |binOp op t x y t'=>exact j hr rfl fun u hu=>ZAS htt hu (ev t x).1 (ev t y).1
 |unOp op t x=>exact j hr rfl fun u hu=>ZHQ hu (ev 0 x).1
 |convert s t x=>exact j hr rfl fun u hu=>ZzV htt hI hu (ev 0 x).1
 |makeSlice t n c=>
  simp only[opE]at hr
  have hn:=(ev 0 n).1
  have hc:=(ev 0 c).1
  unfold Ztj at hr
  split at hr
  .rename_i n' c' C p
   rw [C]at hn
   rw [p]at hc
   split at hr
   .rename_i e m E z B
    obtain ⟨ze,hz,hr⟩:=A6.1 hr
    split at hr
    .rename_i hq
     simp only[A0]at hr;subst hr
     obtain ⟨h0,rfl,h1⟩:=hq
     have e1:=Zcg hn
     have e2:=Zcg hc
     obtain ⟨n'',rfl⟩:=Int.eq_ofNat_of_zero_le h0
     simp only[Int.toNat_natCast]
     exact ZBN htt hI hU A B hz yE (by simp only[execOp,e1,e2])
    .simp at hr
   .simp at hr
  .simp at hr
 |slice t x lo hi mx=>
  cases mx with
  |some _=>simp [opE]at hr
  |none=>
   refine Zwz (vlo:=lo.map a.eval) (vhi:=hi.map a.eval) htt hI hU A hr (ev 0 x).1 ?_ ?_ rfl
   .cases lo with
    |none=>trivial
    |some y=>exact (ev 0 y).1
   .cases hi with
    |none=>trivial
    |some y=>exact (ev 0 y).1
 |fieldAddr t x f=>
  simp only[opE]at hr
  split at hr
  .rename_i fs n z B
   refine j hr rfl fun u hu=>?_
   obtain ⟨fi,hf,hu⟩:=A6.1 hu
   exact ZEg htt B hf hu (ev 0 x).1 (ev 0 x).2
  .simp at hr
 |field t x f=>
  simp only[opE]at hr
  split at hr
  .rename_i fs n z B
   exact j hr rfl fun u hu=>ZFq htt B hu (ev 0 x).1 (ev 0 x).2
  .simp at hr
 |indexAddr t x i=>
  simp only[opE]at hr
  split at hr
  .rename_i e m E z B
   exact j hr rfl fun u hu=>ZFl htt hI hU B hu (ev 0 x).1 (ev 0 x).2 (ev 0 i).1
  .simp at hr
 |index t x i=>exact j hr rfl fun u hu=>ZBj htt hu (ev 0 x).1 (ev 0 i).1
 |makeFunc fn first D=>
  cases fn with
  |func f=>
   simp only[opE]at hr
   split at hr
   .rename_i h0
    obtain ⟨q,hq,hr⟩:=A6.1 hr
    split at hr
    .rename_i hn
     simp only[A0]at hr;subst hr
     have hf:first=#[]:=by simpa using h0
     have L:ZI (SVR g w) (D.toList.map (st.ev tt 0)) (D.toList.map a.eval):=ZI.of_map _ _ fun x _=>(ev 0 x).1
     refine ZDJ hI hU hq hn L ?_
     have e1:(D.toList.map a.eval).toArray=D.map a.eval:=by apply Ag;simp
     rw [e1]
     simp [execOp,Instr.makeFunc,hf]
    .simp at hr
   .simp at hr
  |_=>simp [opE]at hr
 |makeMap t S=>
  cases S with
  |none=>
   simp only[opE]at hr
   exact ZE9 htt hI hU A hr rfl
  |some _=>simp [opE]at hr
 |lookup t x i ok=>exact j hr rfl fun u hu=>ZBU htt hI hu (ev 0 x).1 (ev 0 i).1
 |mapUpdate t x i v=>
  simp only[opE]at hr
  obtain ⟨u,hu,rfl⟩:=A4.1 hr
  exact ZE5 htt hI hU hu (ev 0 x).1 (ev 0 i).1 (ev 0 v).1 rfl
 |extract x i=>exact j hr rfl fun u hu=>ZFs hu (ev 0 x).1 (ev 0 x).2
 |call c=>
  obtain ⟨F,args,ts⟩:=c
  cases F with
  |builtin b=>
   simp only[opE]at hr
   have M:∀l:List TypeId,ts.toList=l->ts=l.toArray:=fun l h=>by rw [<-h]
   have T:∀v,evs tt st ts.toList args.toList=[v]->∃x,args=#[x]/\SVR g w v (a.eval x)/\svU U v:=fun v h=>by
    obtain ⟨args⟩:=args
    generalize ts.toList=l at h
    cases args with
    |nil=>cases l<;>simp [evs,Zjj]at h
    |cons x xs=>
     cases xs with
     |nil=>
      refine ⟨x,rfl,?_⟩
      cases l with
      |nil=>simp only[evs,Zjj,Ac,Am,AQ,and_true]at h;rw [<-h];exact ev _ _
      |cons t l=>cases l<;>(simp only[evs,Zjj,Ac,Am,AQ,and_true]at h;rw [<-h];exact ev _ _)
     |cons y ys=>cases l with
      |nil=>simp [evs,Zjj]at h
      |cons t l=>cases l<;>simp [evs,Zjj]at h
   have K:∀v u,evs tt st ts.toList args.toList=[v,u]->∃x y,args=#[x,y]/\(SVR g w v (a.eval x)/\svU U v)/\SVR g w u (a.eval y)/\svU U u:=fun v u h=>by
    obtain ⟨args⟩:=args
    have h2:=congrArg List.length h
    have h3:(evs tt st ts.toList args).length=args.length:=by
     have:=congrArg List.length (ZfU ts.toList args)
     simpa [evs]using this
    have h4:args.length=2:=by rw [<-h3];exact h2
    obtain ⟨x,y,rfl⟩:∃x y,args=[x,y]:=by
     match args,h4 with
     | [x,y],_=>exact ⟨x,y,rfl⟩
    refine ⟨x,y,rfl,?_⟩
    have h5:∃t1 t2,evs tt st ts.toList [x,y]=[st.ev tt t1 x,st.ev tt t2 y]:=by
     generalize ts.toList=l
     cases l with
     |nil=>exact ⟨0,0,rfl⟩
     |cons t1 l=>cases l with
      |nil=>exact ⟨t1,0,rfl⟩
      |cons t2 l=>exact ⟨t1,t2,by cases l<;>rfl⟩
    obtain ⟨t1,t2,h5⟩:=h5
    rw [h5]at h
    simp only[AQ,and_true]at h
    rw [<-h.1,<-h.2]
    exact ⟨ev _ _,ev _ _⟩
   unfold Zgq at hr
   split at hr
   .rename_i t _ v C p
    have e1:=M _ C
    obtain ⟨x,rfl,hx,_⟩:=T _ p
    exact j (s:=Builtin.len_ ts ty #[a.eval x]) hr (by simp [execOp,resolve,invoke,builtin]) fun u hu=>ZCY htt hI (by simp [e1]) hu hx
   .rename_i t u v1 v2 C p
    have e1:=M _ C
    obtain ⟨x,y,rfl,hx,hy⟩:=K _ _ p
    split at hr
    .rename_i he
     subst he
     exact ZEU htt hI hU A hr hx hy (ty:=ty) (by simp [execOp,resolve,invoke,builtin,e1])
    .simp at hr
   .rename_i v1 v2 p
    obtain ⟨x,y,rfl,hx,hy⟩:=K _ _ p
    refine j (s:=Builtin.max_ ts ty #[a.eval x,a.eval y]) hr (by simp [execOp,resolve,invoke,builtin]) fun u hu=>?_
    have:=ZAq (P:=P) (U:=U) (ts:=ts) (ty:=ty) hu hx.1 hy.1
    simpa using this
   .rename_i v1 v2 p
    obtain ⟨x,y,rfl,hx,hy⟩:=K _ _ p
    refine j (s:=Builtin.min_ ts ty #[a.eval x,a.eval y]) hr (by simp [execOp,resolve,invoke,builtin]) fun u hu=>?_
    have:=ZAq (P:=P) (U:=U) (ts:=ts) (ty:=ty) hu hx.1 hy.1
    simpa using this
   .simp at hr
  |value f=>simp [opE]at hr
  |invoke r m=>simp [opE]at hr
 |_=>simp [opE]at hr
end
end
section
open Go.RowKit
theorem ZeJ {α β:Type}{f h:α->List β}:∀{l:List α},(∀x∈l,f x=h x)->l.flatMap f=l.flatMap h
 | [],_=>rfl
 |x::l,hh=>by rw [Ah,Ah,hh x yG,ZeJ fun y m=>hh y (by simp [m])]
def ZhY (w:World) (z:Nat->Prop) (x:Bool×List CT) (v:Value):Prop:=
 (x.1=true/\∃(vs:List Value) (L:List Nat),v=.agg vs.toArray/\RCs w x.2 vs L/\∀b∈L,¬z b)\/(x.1=false/\∃(ct:CT) (L:List Nat),x.2=[ct]/\RC w ct v L/\∀b∈L,¬z b)
def OC (w:World) (B:Nat) (n:Nat->Prop):Bool×CT->Value->List Nat->Prop
 |(false,.sl e m xs),v,F=>0<m/\∃cs L,w.ownsV B e m v xs.length cs/\REs w m xs cs L/\F=v.ownBlock.toList++L/\∀b∈v.ownBlock.toList,n b
 |(false,.int k i),v,F=>RC w (.int k i) v []/\F=[]
 |(false,.bool b),v,F=>RC w (.bool b) v []/\F=[]
 |(false,.str s),v,F=>RC w (.str s) v []/\F=[]
 |(false,.ifc b),v,F=>RC w (.ifc b) v []/\F=[]
 |(false,.any),v,F=>RC w .any v []/\F=[]
 |(false,.pt _),_,_=>False
 |(false,.fn _ _),_,_=>False
 |(false,.mp _ _ _),_,_=>False
 |(false,.nl _ _),_,_=>False
 |(true,x),v,F=>F=[]/\∃L,RC w x v L/\∀b∈L,¬n b
def OCs (w:World) (B:Nat) (n:Nat->Prop):List (Bool×CT)->List Value->List Nat->Prop
 | [],vs,F=>vs=[]/\F=[]
 |x::r,vs,F=>∃v vs' F1 F2,vs=v::vs'/\F=F1++F2/\OC w B n x v F1/\OCs w B n r vs' F2
def OP (w:World) (B:Nat) (n:Nat->Prop) (x:RT) (v:Value) (F:List Nat):Prop:=
 (x.1=true/\∃vs:List Value,v=.agg vs.toArray/\OCs w B n x.2 vs F)\/(x.1=false/\∃ct,x.2=[ct]/\OC w B n ct v F)
def OPs (w:World) (B:Nat) (n:Nat->Prop):List RT->List Value->List Nat->Prop
 | [],vs,F=>vs=[]/\F=[]
 |x::r,vs,F=>∃v vs' F1 F2,vs=v::vs'/\F=F1++F2/\OP w B n x v F1/\OPs w B n r vs' F2
def ZhV (w:World) (B:Nat) (n:Nat->Prop) (res:List RT) (v:Value):Prop:=
 ∃(vs:List Value) (F:List Nat),OPs w B n res vs F/\Own w B F/\v=(if h:vs.toArray.size=1 then vs.toArray[0] else .tuple vs.toArray)
def ZaL (P : Program) (f : FuncId) : Prop := ∃ fn, P.funcs[f]? = some fn ∧ (fn.name == "runtime.NumGoroutine") = false ∧ fn.body.isNone = false
def Zm (P:Program) (J:World->Prop) (f:FuncId) (args:List (Bool×List CT)) (res:List RT):Prop:=
 ZaL P f/\∀(w:World) (z:Nat->Prop) (vs:List Value),J w->(∀b,z b->b<w.heap.size)->ZI (ZhY w z) args vs->Calls P f vs.toArray w fun e w'=>∃v n,e=.returned v/\ZhV w' w.heap.size n res v/\(∀b,z b->n b)/\Below w.heap.size w w'
def ZpK (w:World) (z:Nat->Prop) (q:Option Nat):ZgW->Value->Prop
 |.row e m xs,v=>ZbL xs=true/\0<m/\v.ownBlock=q/\∃cs,w.ownsV 0 e m v xs.length cs/\REs w m xs cs []
 |.box t cs,v=>∃b vs L,q=some b/\v=.pointer (some ⟨b,0,none⟩)/\w.heap[b]?=some (.cells (vs:List Value).toArray t (0,0))/\RCs w cs vs L/\∀a∈L,¬z a
def inQ (z:Nat->Prop) (q:Option Nat) (a:Nat):Prop:=z a\/q=some a
structure ZCK (q:Option Nat) (w w':World):Prop where
 os:w'.os=w.os
 tape:w'.tape=w.tape
 output:w'.output=w.output
 size:w.heap.size<=w'.heap.size
 block:∀k,k<w.heap.size->¬q=some k->w'.heap[k]?=w.heap[k]?
def XQ (P:Program) (J:World->Prop) (JF:Nat->Prop) (f:FuncId) (h:ZgW) (args:List (Bool×List CT)) (res:List RT) (h':ZgW):Prop:=
 ZaL P f/\∀(w:World) (z:Nat->Prop) (q:Option Nat) (v0:Value) (vs:List Value),J w->(∀b,q=some b->JF b)->(∀b,z b->b<w.heap.size/\¬q=some b)->ZpK w (inQ z q) q h v0->ZI (ZhY w (inQ z q)) args vs->
  Calls P f (v0::vs).toArray w fun e w'=>∃v n,e=.returned v/\ZhV w' w.heap.size n res v/\(∀b,inQ z q b->n b)/\ZpK w' n q h' v0/\ZCK q w w'
def Zpk (b:Nat):NB->Value
 |.box _ _=>.pointer (some ⟨b,0,none⟩)
 |.map _ _ _=>.map (some b)
def nbR (w:World) (n:Nat->Prop) (b:Nat):NB->Prop
 |.box t cs=>∃us L,w.heap[b]?=some (.cells (us:List Value).toArray t (0,0))/\RCs w cs us L/\∀x∈L,¬n x
 |.map kk vk kv=>∃es c,w.heap[b]?=some (.map es c)/\ZeS es=kv/\Zjw kk vk kv
def Zri (P:Program) (J:World->Prop) (f:FuncId) (args:List (Bool×List CT)) (nb:NB):Prop:=
 ZaL P f/\∀(w:World) (z:Nat->Prop) (vs:List Value),J w->(∀b,z b->b<w.heap.size)->ZI (ZhY w z) args vs->
  Calls P f vs.toArray w fun e w'=>∃(b:Nat) (n:Nat->Prop),e=.returned (Zpk b nb)/\w.heap.size<=b/\nbR w' n b nb/\n b/\(∀x,z x->n x)/\Below w.heap.size w w'
structure Zpm (w:World) (n:Nat->Prop) (t:Nat) (cs:List (Bool×CT)) (v:Value) (b:Nat) (us us2:List Value) (F:List Nat):Prop where
 val:v=.pointer (some ⟨b,0,none⟩)
 cell:w.heap[b]?=some (.cells us.toArray t (0,0))
 ocs:OCs w 0 n cs (us++us2) F
 own:Own w 0 (b::F)
def GVr:Option (Bool×List (Bool×CT))->List Value->List Value->Prop
 |none,vs,us=>vs=[]/\us=[]
 |some (true,cs),vs,us=>vs=[.agg us.toArray]/\us.length=cs.length
 |some (false,cs),vs,us=>vs=us/\us.length=1/\cs.length=1
structure ZuW (q:Nat->Prop) (w w':World):Prop where
 os:w'.os=w.os
 tape:w'.tape=w.tape
 output:w'.output=w.output
 size:w.heap.size<=w'.heap.size
 block:∀k,k<w.heap.size->¬q k->w'.heap[k]?=w.heap[k]?
def ZdQ (P:Program) (J:World->Prop) (JF:Nat->Prop) (f:FuncId) (t:Nat) (cs:List (Bool×CT)) (gv:Option (Bool×List (Bool×CT))) (args:List (Bool×List CT)) (res:List RT) (cs':List (Bool×CT)):Prop:=
 ZaL P f/\∀(w:World) (z q:Nat->Prop) (a:Value) (gs vs:List Value) (b:Nat) (us c:List Value) (F:List Nat),J w->q b->(∀x,q x->JF x/\x∈b::F)->(∀x,z x->x<w.heap.size/\¬q x/\x∉b::F)->
  us.length=cs.length->GVr gv gs c->Zpm w (fun x=>z x\/q x) t (cs++gvC gv) a b us c F->ZI (ZhY w fun x=>z x\/q x) args vs->
  Calls P f (a::(gs++vs)).toArray w fun e w'=>∃v n us' F',e=.returned v/\ZhV w' w.heap.size n res v/\(∀x,z x->n x)/\n b/\(∀x,n x->z x\/q x\/w.heap.size<=x)/\Zpm w' n t cs' a b us' [] F'/\(∀x∈F',x∈F\/w.heap.size<=x)/\ZuW q w w'
def ZE0 (P:Program) (J:World->Prop) (JF:Nat->Prop) (f:FuncId) (gv:Bool×List (Bool×CT)) (args:List (Bool×List CT)) (res:List RT):Prop:=
 ZaL P f/\∀(w:World) (z q:Nat->Prop) (gs vs us:List Value) (F:List Nat),J w->(∀x,q x->JF x/\x∈F)->(∀x,z x->x<w.heap.size/\¬q x/\x∉F)->
  GVr (some gv) gs us->OCs w 0 (fun x=>z x\/q x) gv.2 us F->Own w 0 F->ZI (ZhY w fun x=>z x\/q x) args vs->
  Calls P f (gs++vs).toArray w fun e w'=>∃v n rvs F',e=.returned v/\OPs w' 0 n res rvs F'/\Own w' 0 F'/\v=(if h:rvs.toArray.size=1 then rvs.toArray[0] else .tuple rvs.toArray)/\(∀x,z x->n x)/\(∀x,n x->z x\/q x\/w.heap.size<=x)/\(∀x∈F',x∈F\/w.heap.size<=x)/\ZuW q w w'
def SC (P:Program) (J:World->Prop) (JF:Nat->Prop) (hd:FuncId->Nat):Ctx:=⟨Zm P J,XQ P J JF,hd,Zri P J,ZdQ P J JF,ZE0 P J JF⟩
structure MOk (P:Program) (J:World->Prop) (JF:Nat->Prop) (W:QO) (tt:Nat->Option TI):Prop where
 tt:∀t i,tt t=some i->TOk P t i
 jb:∀w:World,Bel W w->J w
 jf:∀b,W.heap.size<=b->JF b
 xf:∀b,W.x b->JF b
section
variable {P:Program} {J:World->Prop} {W:QO} {U:Nat->Prop} {key:Nat} {st:St} {g:Gh} {w w':World} {a:Act} {tt:Nat->Option TI}
theorem MOk.at {JF:Nat->Prop}(h:MOk P J JF W tt) (hb:Bel W w):J w:=h.jb _ hb
def ZzH (ob:Nat->Ob):AV->Prop
 |.row k=>∃e m xs,ob k=.row e m xs 0
 |_=>True
theorem Zsp [NW] (hI:HI W g st.ob w) {x:AV}{ct:CT}{v:Value}(h:ZcM st x=some ct) (hx:AVR g w x v):∃L,RC w ct v L/\(ZzH st.ob x->∀b∈L,¬g.own b):=by
 cases x with
 |c y=>simp only[ZcM,A0]at h;subst h;obtain ⟨L,h1,h2⟩:=hx;exact ⟨L,h1,fun _=>h2⟩
 |row k=>
  simp only[ZcM]at h
  split at h
  .rename_i e m xs d hk
   simp only[A0]at h;subst h
   obtain ⟨hm,cs,L1,o1,o2,o3,o5⟩:=hI.deep hk
   obtain ⟨A,cap,L0,s1,s2,s3,s4,s5⟩:=Sl.row o1
   refine ⟨L0++L1,⟨A,cap,cs,L0,L1,by rw [hx.1,s1],s2,s3,rfl,hm,s4,o2⟩,?_⟩
   rintro ⟨e',m',xs',h0⟩ b mb
   rw [hk]at h0
   have hd:d=0:=by simp at h0;exact h0.2.2.2
   rcases AA.1 mb with m1|m1
   .rcases o5 with ⟨q,_⟩|⟨q,_⟩|⟨_,_,_,q⟩
    .omega
    .omega
    .exact q b (s5.subset m1)
   .exact o3 b m1
  .simp at h
 |nil e m=>
  simp only[ZcM]at h
  split at h
  .rename_i hm
   simp only[A0]at h;subst h
   exact ⟨[],⟨none,0,[],[],[],hx,yG,AL _,rfl,hm,Sl.zero,rfl,rfl⟩,yG⟩
  .simp at h
 |n y=>simp only[ZcM,A0]at h;subst h;obtain ⟨L,h1,h2⟩:=NR.toC hx;exact ⟨L,h1,fun _=>h2⟩
 |dead=>simp [ZcM]at h
theorem ZfH [NW] (hI:HI W g st.ob w):∀{xs:List AV}{cts:List CT}{vs:List Value},Xc st xs=some cts->ZI (AVR g w) xs vs->∃L,RCs w cts vs L/\((∀x∈xs,ZzH st.ob x)->∀b∈L,¬g.own b)
 | [],_,[],h,_=>by simp [Xc]at h;subst h;exact ⟨[],⟨rfl,rfl⟩,yG⟩
 | [],_,_::_,_,h=>h.elim
 |_::_,_,[],_,h=>h.elim
 |x::r,cts,v::vs,h,hr=>by
  simp only[Xc]at h
  obtain ⟨c1,h1,h⟩:=A6.1 h
  obtain ⟨c2,h2,rfl⟩:=A4.1 h
  obtain ⟨L1,a1,b1⟩:=Zsp hI h1 hr.1
  obtain ⟨L2,a2,b2⟩:=ZfH hI h2 hr.2
  refine ⟨L1++L2,⟨v,vs,L1,L2,rfl,rfl,a1,a2⟩,fun ho b mb=>?_⟩
  rcases AA.1 mb with m|m
  .exact b1 (ho x yG) b m
  .exact b2 (fun y my=>ho y (by simp [my])) b m
def ZwX (ob:Nat->Ob):SV->Prop
 |.p _ cs=>∀x∈cs,ZzH ob x
 |_=>True
theorem ZAp [NW] (hI:HI W g st.ob w) {x:SV}{r:Bool×List CT}{v:Value}(h:ZdU st x=some r) (hx:SVR g w x v) {z:Nat->Prop}(hz:(∀b,¬z b)\/(ZwX st.ob x/\∀b,z b->g.own b)):ZhY w z r v:=by
 cases x with
 |p ag cs=>
  simp only[ZdU]at h
  obtain ⟨l,hl,rfl⟩:=A4.1 h
  have av:∀{L:List Nat},((∀x∈cs,ZzH st.ob x)->∀b∈L,¬g.own b)->∀b∈L,¬z b:=fun hL b mb=>by
   rcases hz with hz|⟨h1,h2⟩
   .exact hz b
   .exact fun hb=>hL h1 b mb (h2 b hb)
  cases ag with
  |true=>
   obtain ⟨vs,rfl,h2⟩:=hx
   obtain ⟨L,hL,a⟩:=ZfH hI hl h2
   exact .inl ⟨rfl,vs,L,rfl,hL,av a⟩
  |false=>
   obtain ⟨y,rfl,h2⟩:=hx
   simp only[Xc]at hl
   obtain ⟨c1,h1,hl⟩:=A6.1 hl
   simp at hl;subst hl
   obtain ⟨L1,a1,b1⟩:=Zsp hI h1 h2
   exact .inr ⟨rfl,c1,L1,rfl,a1,av fun ho=>b1 (ho y yG)⟩
 |_=>simp [ZdU]at h
theorem ZbZ [NW] (hI:HI W g st.ob w) {z:Nat->Prop}:∀{xs:List SV}{l:List (Bool×List CT)}{vs:List Value},ZY st xs=some l->ZI (SVR g w) xs vs->((∀b,¬z b)\/((∀x∈xs,ZwX st.ob x)/\∀b,z b->g.own b))->ZI (ZhY w z) l vs
 | [],_,[],h,_,_=>by simp [ZY]at h;subst h;trivial
 | [],_,_::_,_,h,_=>h.elim
 |_::_,_,[],_,h,_=>h.elim
 |x::r,l,v::vs,h,hr,hz=>by
  simp only[ZY]at h
  obtain ⟨c1,h1,h⟩:=A6.1 h
  obtain ⟨c2,h2,rfl⟩:=A4.1 h
  exact ⟨ZAp hI h1 hr.1 (hz.imp id fun q=>⟨q.1 x yG,q.2⟩),ZbZ hI h2 hr.2 (hz.imp id fun q=>⟨fun y my=>q.1 y (by simp [my]),q.2⟩)⟩
theorem ZB0 {vs:List SV}{ob:Nat->Ob}(h:vs.all Zif=true):∀x∈vs,ZwX ob x:=fun x mx=>by
 have hx:=AG.1 h x mx
 cases x with
 |p ag cs=>
  intro y my
  have hy:=AG.1 hx y my
  cases y with
  |row k=>simp [ZbA]at hy
  |_=>trivial
 |_=>trivial
def CR (val:Nat->Value) (w:World) (n:Nat->Prop) (l:Bool) (lo hi:Nat):AV->Value->Prop
 |.row k,v=>lo<=k/\k<hi/\v=val k/\v.oneCell'=true
 |.c x,v=>∃L,RC w x v L/\∀b∈L,l=true/\¬n b
 |_,_=>False
structure ZsV (w:World) (B lo hi:Nat) (n:Nat->Prop) (up:List (Nat×Ob)) (F:List Nat) (val:Nat->Value) (O D:Nat->List Nat):Prop where
 le:lo<=hi
 at_:∀k,lo<=k->k<hi->∃e m xs cs,(∀ob,Zl ob up k=.row e m xs 2)/\0<m/\w.ownsV B e m (val k) xs.length cs/\REs w m xs cs (D k)/\O k=(val k).ownBlock.toList/\∀b∈O k,n b
 out:∀k,¬(lo<=k/\k<hi)->∀ob,Zl ob up k=ob k
 foot:F=(AR lo (hi - lo)).flatMap fun k=>O k++D k
theorem ZsV.join [NW] {B lo c hi:Nat}{n:Nat->Prop}{u1 u2:List (Nat×Ob)}{F1 F2:List Nat}{v1 v2:Nat->Value}{O1 O2 D1 D2:Nat->List Nat}(h1:ZsV w B lo c n u1 F1 v1 O1 D1) (h2:ZsV w B c hi n u2 F2 v2 O2 D2):
  ZsV w B lo hi n (u1++u2) (F1++F2) (fun k=>if k<c then v1 k else v2 k) (fun k=>if k<c then O1 k else O2 k) (fun k=>if k<c then D1 k else D2 k):=by
 have hl:=h1.le
 have hr:=h2.le
 refine ⟨yE,fun k a b=>?_,fun k hk ob=>?_,?_⟩
 .by_cases hk:k<c
  .obtain ⟨e,m,xs,cs,p1,p2⟩:=h1.at_ k a hk
   simp only[hk,if_true]
   exact ⟨e,m,xs,cs,fun ob=>by rw [Yz,h2.out k yE];exact p1 ob,p2⟩
  .obtain ⟨e,m,xs,cs,p1,p2⟩:=h2.at_ k yE b
   simp only[hk,if_false]
   exact ⟨e,m,xs,cs,fun ob=>by rw [Yz];exact p1 _,p2⟩
 .rw [Yz,h2.out k yE,h1.out k yE]
 .rw [h1.foot,h2.foot,show hi - lo=(c - lo)+(hi - c) by omega,<-List.range'_append_1,List.flatMap_append,show lo+(c - lo)=c by omega]
  congr 1
  .refine ZeJ fun k hk=>?_
   have:=(AN.1 hk).2
   simp [show k<c by omega]
  .refine ZeJ fun k hk=>?_
   have:=(AN.1 hk).1
   simp [show ¬k<c by omega]
theorem CR.mono {f e:Nat->Value}{n:Nat->Prop}{l:Bool}{lo hi g i:Nat}{x:AV}{v:Value}(h:CR f w n l lo hi x v) (hl:g<=lo) (hh:hi<=i) (hv:∀k,lo<=k->k<hi->e k=f k):CR e w n l g i x v:=by
 cases x with
 |row k=>obtain ⟨a,b,c,d⟩:=h;exact ⟨yE,yE,by rw [hv k a b];exact c,d⟩
 |c x=>exact h
 |n _=>exact h.elim
 |nil _ _=>exact h.elim
 |dead=>exact h.elim
theorem QE [NW] {B:Nat}{n:Nat->Prop}{l:Bool}:∀{cts:List (Bool×CT)}{vs:List Value}{F:List Nat}(key:Nat),OCs w B n cts vs F->(ZcZ cts=true->l=true)->∃c O D,ZsV w B key (ZG key cts).2.2 n (ZG key cts).2.1 F c O D/\ZI (CR c w n l key (ZG key cts).2.2) (ZG key cts).1 vs
 | [],vs,F,key,h,_=>by
  obtain ⟨rfl,rfl⟩:=h
  exact ⟨fun _=>undef,fun _=>[],fun _=>[],⟨AC _,fun k a b=>by simp [ZG]at b;omega,fun _ _ _=>rfl,by simp [ZG]⟩,trivial⟩
 |(true,x)::r,_,_,key,⟨v,vs,F1,F2,rfl,rfl,h1,h2⟩,hl=>by
  obtain ⟨rfl,L,h3,h4⟩:=h1
  obtain ⟨c,O,D,hb,hr⟩:=QE (l:=l) key h2 fun e=>hl (by simp [ZcZ])
  exact ⟨c,O,D,by simpa [ZG]using hb,⟨⟨L,h3,fun b mb=>⟨hl (by simp [ZcZ]),h4 b mb⟩⟩,hr⟩⟩
 |(false,.sl e m xs)::r,_,_,key,⟨v,vs,F1,F2,rfl,rfl,h1,h2⟩,hl=>by
  obtain ⟨hm,cs,L,o1,o2,rfl,o3⟩:=h1
  obtain ⟨c,O,D,hb,hr⟩:=QE (l:=l) (key+1) h2 fun e=>hl (by simpa [ZcZ]using e)
  have d:ZsV w B key (key+1) n [(key,.row e m xs 2)] (v.ownBlock.toList++L) (fun _=>v) (fun _=>v.ownBlock.toList) (fun _=>L):=
   ⟨yE,fun k a b=>⟨e,m,xs,cs,fun ob=>by simp [Zl,upd,show k=key by omega],hm,o1,o2,rfl,o3⟩,fun k hk ob=>by simp [Zl,upd,show ¬k=key by omega],yG⟩
  refine ⟨_,_,_,d.join hb,⟨?_,hr.mono fun x u _ hx=>hx.mono yE (AC _) fun k a b=>by simp [show ¬k<key+1 by omega]⟩⟩
  have hle:=hb.le
  obtain ⟨A,cap,hv⟩:=Zci o1
  exact ⟨AC _,by simp only[ZG];omega,yG,by simp [hv,Value.oneCell']⟩
 |(false,.int k i)::r,_,_,key,⟨v,vs,F1,F2,rfl,rfl,h1,h2⟩,hl=>by
  obtain ⟨h1,rfl⟩:=h1
  obtain ⟨c,O,D,hb,hr⟩:=QE (l:=l) key h2 fun e=>hl (by simpa [ZcZ]using e)
  exact ⟨c,O,D,by simpa [ZG]using hb,⟨⟨[],h1,yG⟩,hr⟩⟩
 |(false,.bool k)::r,_,_,key,⟨v,vs,F1,F2,rfl,rfl,h1,h2⟩,hl=>by
  obtain ⟨h1,rfl⟩:=h1
  obtain ⟨c,O,D,hb,hr⟩:=QE (l:=l) key h2 fun e=>hl (by simpa [ZcZ]using e)
  exact ⟨c,O,D,by simpa [ZG]using hb,⟨⟨[],h1,yG⟩,hr⟩⟩
 |(false,.str s)::r,_,_,key,⟨v,vs,F1,F2,rfl,rfl,h1,h2⟩,hl=>by
  obtain ⟨h1,rfl⟩:=h1
  obtain ⟨c,O,D,hb,hr⟩:=QE (l:=l) key h2 fun e=>hl (by simpa [ZcZ]using e)
  exact ⟨c,O,D,by simpa [ZG]using hb,⟨⟨[],h1,yG⟩,hr⟩⟩
 |(false,.ifc s)::r,_,_,key,⟨v,vs,F1,F2,rfl,rfl,h1,h2⟩,hl=>by
  obtain ⟨h1,rfl⟩:=h1
  obtain ⟨c,O,D,hb,hr⟩:=QE (l:=l) key h2 fun e=>hl (by simpa [ZcZ]using e)
  exact ⟨c,O,D,by simpa [ZG]using hb,⟨⟨[],h1,yG⟩,hr⟩⟩
 |(false,.any)::r,_,_,key,⟨v,vs,F1,F2,rfl,rfl,h1,h2⟩,hl=>by
  obtain ⟨h1,rfl⟩:=h1
  obtain ⟨c,O,D,hb,hr⟩:=QE (l:=l) key h2 fun e=>hl (by simpa [ZcZ]using e)
  exact ⟨c,O,D,by simpa [ZG]using hb,⟨⟨[],h1,yG⟩,hr⟩⟩
 |(false,.pt _)::r,_,_,key,⟨v,vs,F1,F2,rfl,rfl,h1,h2⟩,hl=>h1.elim
 |(false,.fn _ _)::r,_,_,key,⟨v,vs,F1,F2,rfl,rfl,h1,h2⟩,hl=>h1.elim
 |(false,.mp _ _ _)::r,_,_,key,⟨v,vs,F1,F2,rfl,rfl,h1,h2⟩,hl=>h1.elim
 |(false,.nl _ _)::r,_,_,key,⟨v,vs,F1,F2,rfl,rfl,h1,h2⟩,hl=>h1.elim
def PR (val:Nat->Value) (w:World) (n:Nat->Prop) (l:Bool) (lo hi:Nat) (x:Bool×List AV) (v:Value):Prop:=
 (x.1=true/\∃vs:List Value,v=.agg vs.toArray/\ZI (CR val w n l lo hi) x.2 vs)\/(x.1=false/\∃y,x.2=[y]/\CR val w n l lo hi y v)
theorem PR.mono [NW] {d c:Nat->Value}{n:Nat->Prop}{l:Bool}{lo hi e f:Nat}{x:Bool×List AV}{v:Value}(h:PR d w n l lo hi x v) (hl:e<=lo) (hh:hi<=f) (hv:∀k,lo<=k->k<hi->c k=d k):PR c w n l e f x v:=by
 rcases h with ⟨h1,vs,h2,h3⟩|⟨h1,y,h2,h3⟩
 .exact .inl ⟨h1,vs,h2,h3.mono fun a b _ g=>g.mono hl hh hv⟩
 .exact .inr ⟨h1,y,h2,h3.mono hl hh hv⟩
theorem Zh2 [NW] {B:Nat}{n:Nat->Prop}{l:Bool}:∀{d:List RT}{vs:List Value}{F:List Nat}(key:Nat),OPs w B n d vs F->(ZdV d=true->l=true)->∃c O D,ZsV w B key (ZA key d).2.2 n (ZA key d).2.1 F c O D/\ZI (PR c w n l key (ZA key d).2.2) (ZA key d).1 vs
 | [],vs,F,key,h,_=>by
  obtain ⟨rfl,rfl⟩:=h
  exact ⟨fun _=>undef,fun _=>[],fun _=>[],⟨AC _,fun k a b=>by simp [ZA]at b;omega,fun _ _ _=>rfl,by simp [ZA]⟩,trivial⟩
 |x::r,_,_,key,⟨v,vs,F1,F2,rfl,rfl,h1,h2⟩,hl=>by
  have f:ZcZ x.2=true->l=true:=fun e=>hl (by simp [ZdV,e])
  have j:ZdV r=true->l=true:=fun e=>hl (by simp [ZdV,e])
  have hx:∃c O D,ZsV w B key (ZG key x.2).2.2 n (ZG key x.2).2.1 F1 c O D/\PR c w n l key (ZG key x.2).2.2 (x.1,(ZG key x.2).1) v:=by
   rcases h1 with ⟨hx,us,rfl,hc⟩|⟨hx,ct,he,hc⟩
   .obtain ⟨c,O,D,hb,hr⟩:=QE key hc f
    exact ⟨c,O,D,hb,.inl ⟨hx,us,rfl,hr⟩⟩
   .obtain ⟨c,O,D,hb,hr⟩:=QE (cts:=x.2) (vs:=[v]) (F:=F1) key (by rw [he];exact ⟨v,[],F1,[],rfl,yG,hc,rfl,rfl⟩) f
    refine ⟨c,O,D,hb,.inr ⟨hx,?_⟩⟩
    generalize (ZG key x.2).1=l at hr
    cases l with
    |nil=>exact hr.elim
    |cons y l=>
     cases l with
     |nil=>exact ⟨y,rfl,hr.1⟩
     |cons _ _=>exact hr.2.elim
  obtain ⟨c,O,D,hb,hp⟩:=hx
  obtain ⟨val2,O2,D2,g,m⟩:=Zh2 (ZG key x.2).2.2 h2 j
  have i:=g.le
  have o:=hb.le
  refine ⟨_,_,_,hb.join g,⟨hp.mono (AC _) i fun k a b=>by simp [b],m.mono fun y u _ hy=>hy.mono o (AC _) fun k a b=>by simp [show ¬k<(ZG key x.2).2.2 by omega]⟩⟩
theorem Zgr {n:Nat}{G:Nat->List Nat}:∀{lo:Nat},((AR lo n).flatMap G).Nodup->(∀k,lo<=k->k<lo+n->(G k).Nodup)/\∀k j,lo<=k->k<lo+n->lo<=j->j<lo+n->k≠j->∀b∈G k,b∉G j:=by
 induction n with
 |zero=>intro lo _;exact ⟨fun k a b=>by omega,fun k j a b=>by omega⟩
 |succ n ih=>
  intro lo h
  rw [Ai,Ah,AP]at h
  obtain ⟨h1,h2,h3⟩:=h
  obtain ⟨i1,i2⟩:=ih h2
  have c:∀k,lo+1<=k->k<lo+1+n->∀b∈G k,b∈(AR (lo+1) n).flatMap G:=fun k a b x mx=>AS.2 ⟨k,AN.2 ⟨a,b⟩,mx⟩
  refine ⟨fun k a b=>?_,fun k j a b a' b' d x mx mj=>?_⟩
  .by_cases e:k=lo
   .subst e;exact h1
   .exact i1 k yE yE
  .by_cases e:k=lo
   .subst e
    exact h3 x mx x (c j yE yE x mj) rfl
   .by_cases e':j=lo
    .subst e'
     exact h3 x mj x (c k yE yE x mx) rfl
    .exact i2 k j yE yE yE yE d x mx mj
theorem Zh3 [NW] {ob:Nat->Ob}(hI:HI W g ob w) (I:∀k,obU U (ob k)) (N:∀k,¬U k->ob k=.gone) (V:∀k,key<=k->k<key+16->¬U k) {d:List RT}{v:Value}{n:Nat->Prop}(hr:ZhV w' w.heap.size n d v) (hn:(ZA key d).2.2<=key+16)
  (H:Nat->Prop) (X:∀k,H k->U k) (p:Nat->Ob) (A:ZdV d=true->∀b,g.own b->n b)
  (Y:Bel W w') (ae:w.heap.size<=w'.heap.size) (hw:∀b,b<w.heap.size->(∀k,H k->b∉g.O k)->w'.heap[b]?=w.heap[b]?)
  (aa:∀k,H k->obU (Uk U key) (p k)) (hH:∀g':Gh,(∀b,g'.own b->g.own b\/((∃k,b∈g'.O k)/\w.heap.size<=b/\n b))->(∀k,H k->g'.val k=g.val k/\g'.O k=g.O k/\g'.D k=g.D k)->∀k,H k->ObR g' w' k (p k)/\∀b∈g.O k++g.D k,Xp w' (p k) b):
  ∃g',HI W g' (fun k=>Zl (fun j=>open Classical in if H j then p j else ob j) (ZA key d).2.1 k) w'/\SVR g' w' (QW (ZA key d).1) v/\(∀x u,svU U x->SVR g w x u->SVR g' w' x u)/\svU (Uk U key) (QW (ZA key d).1)/\
   (∀k,obU (Uk U key) (Zl (fun j=>open Classical in if H j then p j else ob j) (ZA key d).2.1 k))/\∀k,¬Uk U key k->Zl (fun j=>open Classical in if H j then p j else ob j) (ZA key d).2.1 k=.gone:=by
 classical
 obtain ⟨vs,F,h1,hF,hv⟩:=hr
 obtain ⟨E,O,D,hB,hA⟩:=Zh2 (l:=ZdV d) key h1 id
 generalize (ZA key d).2.2=hi at *
 generalize (ZA key d).2.1=up at *
 generalize (ZA key d).1=xs at *
 have hle:=hB.le
 let T:Nat->Prop:=fun k=>key<=k/\k<hi
 have ab:∀k,T k->¬U k:=fun k hk=>V k hk.1 (by have:=hk.2;omega)
 let g':Gh:=⟨fun k=>if key<=k/\k<hi then E k else g.val k,fun k=>if key<=k/\k<hi then O k else g.O k,fun k=>if key<=k/\k<hi then D k else g.D k,g.Z⟩
 have gT:∀k,T k->g'.val k=E k/\g'.O k=O k/\g'.D k=D k:=fun k hk=>⟨if_pos hk,if_pos hk,if_pos hk⟩
 have gN:∀k,¬T k->g'.val k=g.val k/\g'.O k=g.O k/\g'.D k=g.D k:=fun k hk=>⟨if_neg hk,if_neg hk,if_neg hk⟩
 have af:∀k,H k->¬T k:=fun k hk ht=>ab k ht (X k hk)
 have hmemF:∀k,T k->∀b∈O k++D k,b∈F:=fun k hk b mb=>by
  rw [hB.foot]
  exact AS.2 ⟨k,AN.2 ⟨hk.1,by have:=hk.2;omega⟩,mb⟩
 have G:∀k,T k->∀b∈O k++D k,w.heap.size<=b:=fun k hk b mb=>hF.ge b (hmemF k hk b mb)
 have ac:=Zgr (hB.foot ▸ hF.nodup)
 have J:∀k,U k->g'.val k=g.val k:=fun k hk=>(gN k fun h=>ab k h hk).1
 have t:∀b,g'.own b->g.own b\/((∃k,b∈g'.O k)/\w.heap.size<=b/\n b):=fun b hb=>by
  rcases hb with ⟨k,mk⟩|hz
  .by_cases hk:T k
   .have P:=mk
    rw [(gT k hk).2.1]at P
    obtain ⟨e,m,ys,cs,_,_,_,_,_,p6⟩:=hB.at_ k hk.1 hk.2
    exact .inr ⟨⟨k,mk⟩,G k hk b (by simp [P]),p6 b P⟩
   .rw [(gN k hk).2.1]at mk;exact .inl (.inl ⟨k,mk⟩)
  .exact .inl (.inr hz)
 have K:Qw g g' w.heap.size:=.of (fun b hb=>(t b hb).imp id fun h=>h.2.1) fun j b mb=>by
  by_cases hj:T j
  .rw [(gT j hj).2.2]at mb
   exact .inr (G j hj b (by simp [mb]))
  .rw [(gN j hj).2.2]at mb;exact .inl (.inr ⟨j,mb⟩)
 have ag:∀b,b<w.heap.size->¬g.own b->w'.heap[b]?=w.heap[b]?:=fun b hb ah=>hw b hb fun k _ mk=>ah (.inl ⟨k,mk⟩)
 have Q:∀x u,svU U x->SVR g w x u->SVR g' w' x u:=fun x u hx hu=>hu.move hx J ag K ae
 have B:∀k,¬T k->Zl (fun j=>if H j then p j else ob j) up k=if H k then p k else ob k:=fun k hk=>hB.out k hk _
 have ai:HI W g' (Zl (fun j=>if H j then p j else ob j) up) w':=by
  refine hI.step (U:=U) (fun k=>T k\/H k) Y rfl (fun b aj hq=>hw b aj fun k hk=>hq k (.inr hk)) (fun k hk=>?_) I J K (fun k hk=>?_)
  .have k1:¬T k:=fun h=>hk (.inl h)
   have k2:¬H k:=fun h=>hk (.inr h)
   exact ⟨by rw [B k k1,if_neg k2],gN k k1⟩
  .by_cases a:T k
   .obtain ⟨e1,e2,e3⟩:=gT k a
    obtain ⟨e,m,ys,cs,p1,p2,p3,p4,p5,_⟩:=hB.at_ k a.1 a.2
    rw [p1,e2,e3]
    refine ⟨⟨p2,cs,D k,?_,p4,.inl ⟨rfl,by rw [e1,e2];exact p5,e3⟩⟩,ac.1 k a.1 (by have:=a.2;omega),fun b mb=>?_,fun j hj b mb mj=>?_⟩
    .rw [e1];exact ZiX p3 (AL _)
    .exact ⟨.inl (AH hI.below.size (G k a b mb)),hF.plain b (hmemF k a b mb)⟩
    .by_cases f:T j
     .rw [(gT j f).2.1,(gT j f).2.2]at mj
      exact ac.2 k j a.1 (by have:=a.2;omega) f.1 (by have:=f.2;omega) hj b mb mj
     .rw [(gN j f).2.1,(gN j f).2.2]at mj
      have:=hI.lt j b mj
      have:=G k a b mb
      omega
   .have C:H k:=hk.resolve_left a
    obtain ⟨e1,e2,e3⟩:=gN k a
    obtain ⟨q1,q2⟩:=hH g' t (fun j hj=>gN j (af j hj)) k C
    rw [B k a,if_pos C,e2,e3]
    refine ⟨q1,hI.nodup k,fun b mb=>⟨(hI.plain k b mb).1,q2 b mb⟩,fun j hj b mb mj=>?_⟩
    by_cases f:T j
    .rw [(gT j f).2.1,(gT j f).2.2]at mj
     have:=hI.lt k b mb
     have:=G j f b mj
     omega
    .rw [(gN j f).2.1,(gN j f).2.2]at mj
     exact hI.apart k j hj b mb mj
 have R:∀x u,CR E w' n (ZdV d) key hi x u->AVR g' w' x u/\avU (Uk U key) x:=fun x u h=>by
  cases x with
  |row k=>
   obtain ⟨c1,c2,c3,c4⟩:=h
   exact ⟨⟨by rw [(gT k ⟨c1,c2⟩).1];exact c3,c4⟩,.inr ⟨c1,yE⟩⟩
  |c x=>
   obtain ⟨L,h1,h2⟩:=h
   refine ⟨⟨L,h1,fun b mb o=>?_⟩,trivial⟩
   rcases t b o with o|o
   .exact (h2 b mb).2 (A (h2 b mb).1 b o)
   .exact (h2 b mb).2 o.2.2
  |n _=>exact h.elim
  |nil _ _=>exact h.elim
  |dead=>exact h.elim
 have ad:∀(ys:List AV) (us:List Value),ZI (CR E w' n (ZdV d) key hi) ys us->ZI (AVR g' w') ys us/\X3 (Uk U key) ys:=fun ys us h=>by
  induction ys generalizing us with
  |nil=>cases us with
   |nil=>exact ⟨trivial,fun _ m=>by simp at m⟩
   |cons _ _=>exact h.elim
  |cons y ys ih=>cases us with
   |nil=>exact h.elim
   |cons u us=>
    obtain ⟨i1,i2⟩:=ih us h.2
    refine ⟨⟨(R y u h.1).1,i1⟩,fun z mz=>?_⟩
    rcases A9.1 mz with rfl|mz
    .exact (R z u h.1).2
    .exact i2 z mz
 have S:∀(y:Bool×List AV) (u:Value),PR E w' n (ZdV d) key hi y u->PVR g' w' y.1 y.2 u/\X3 (Uk U key) y.2:=fun y u h=>by
  rcases h with ⟨h1,us,rfl,h3⟩|⟨h1,z,h2,h3⟩
  .obtain ⟨i1,i2⟩:=ad _ _ h3
   exact ⟨by rw [h1];exact ⟨us,rfl,i1⟩,i2⟩
  .obtain ⟨i1,i2⟩:=R z u h3
   exact ⟨by rw [h1];exact ⟨z,h2,i1⟩,by rw [h2];intro q mq;simp at mq;subst mq;exact i2⟩
 have M:SVR g' w' (QW xs) v/\svU (Uk U key) (QW xs):=by
  have A:=hA.len
  by_cases hl:xs.length=1
  .obtain ⟨x,rfl⟩:=An.1 hl
   cases vs with
   |nil=>simp at A
   |cons u us=>
    cases us with
    |cons _ _=>simp at A
    |nil=>
     have ak:v=u:=by rw [hv];rfl
     rw [ak]
     exact S x u hA.1
  .have al:¬vs.toArray.size=1:=by simp;omega
   rw [dif_neg al]at hv
   have e:QW xs=.tup xs:=by
    cases xs with
    |nil=>rfl
    |cons x xs=>cases xs with
     |nil=>simp at hl
     |cons _ _=>rfl
   rw [e]
   refine ⟨⟨vs,hv,hA.mono fun y u _ h=>(S y u h).1⟩,fun y my=>?_⟩
   obtain ⟨i,am⟩:=Aj.1 my
   obtain ⟨u,_,hu⟩:=hA.at am
   exact (S y u hu).2
 refine ⟨g',ai,M.1,Q,M.2,fun k=>?_,fun k hk=>?_⟩
 .by_cases a:T k
  .obtain ⟨e,m,ys,cs,p1,_⟩:=hB.at_ k a.1 a.2
   rw [p1];trivial
  .rw [B k a]
   split
   .rename_i C;exact aa k C
   .exact (I k).mono fun _=>.inl
 .have a:¬T k:=fun a=>hk (.inr ⟨a.1,by have:=a.2;omega⟩)
  have C:¬H k:=fun h=>hk (.inl (X k h))
  rw [B k a,if_neg C]
  exact N k fun h=>hk (.inl h)
theorem Zie [NW] (st:St):∀(ks:List Nat) {g:Gh}{ob:Nat->Ob},HI W g ob w->(∀k,ob k=st.ob k\/ob k=Yq (st.ob k))->∃g1:Gh,HI W g1 (Zl ob (ZK st ks)) w/\g1.val=g.val/\X0 g1 g/\∀k,Zl ob (ZK st ks) k=(if k∈ks then Yq (st.ob k) else ob k)
 | [],g,ob,hI,_=>⟨g,hI,rfl,X0.refl _,fun k=>by simp [ZK,Zl]⟩
 |k::r,g,ob,hI,hob=>by
  have b:Yq (ob k)=Yq (st.ob k):=by
   rcases hob k with h|h
   .rw [h]
   .rw [h];cases st.ob k<;>rfl
  obtain ⟨g1,h1,h2,h3,_⟩:=Zj0 hI k
  rw [b]at h1
  have a:∀j,upd ob k (Yq (st.ob k)) j=st.ob j\/upd ob k (Yq (st.ob k)) j=Yq (st.ob j):=fun j=>by
   by_cases hj:j=k
   .subst hj;right;rw [ZF]
   .rw [ZO _ _ hj];exact hob j
  obtain ⟨g2,i1,i2,i3,i4⟩:=Zie st r h1 a
  refine ⟨g2,i1,i2.trans h2,i3.trans h3,fun j=>?_⟩
  show Zl (upd ob k (Yq (st.ob k))) (ZK st r) j=_
  rw [i4 j]
  by_cases hj:j=k
  .subst hj;simp [upd]
  .simp [hj,upd]
theorem ZpH {st st':St}(h:∀k,st'.ob k=st.ob k\/st'.ob k=Yq (st.ob k)) (x:SV):ZdU st' x=ZdU st x:=by
 have h1:∀y:AV,ZcM st' y=ZcM st y:=fun y=>by
  cases y with
  |row k=>
   simp only[ZcM]
   rcases h k with e|e
   .rw [e]
   .rw [e];cases st.ob k<;>rfl
  |_=>rfl
 have h2:∀ys:List AV,Xc st' ys=Xc st ys:=fun ys=>by
  induction ys with
  |nil=>rfl
  |cons y ys ih=>simp only[Xc,h1,ih]
 cases x<;>simp [ZdU,h2]
theorem Zc6 [NW] {st st':St}(h:∀k,st'.ob k=st.ob k\/st'.ob k=Yq (st.ob k)):∀xs:List SV,ZY st' xs=ZY st xs
 | []=>rfl
 |x::r=>by simp only[ZY];rw [ZpH h x,Zc6 h r]
theorem ZnX {k:Nat}:∀{cs:List AV},AV.row k∈cs->k∈ZiO cs
 | [],h=>by simp at h
 |x::r,h=>by
  rcases A9.1 h with rfl|h
  .simp [ZiO]
  .have:=ZnX h
   cases x<;>simp [ZiO,this]
theorem ZnE [NW] {k:Nat}{a:Bool}{cs:List AV}:∀{vs:List SV},SV.p a cs∈vs->AV.row k∈cs->k∈ZJ vs
 | [],h,_=>by simp at h
 |x::r,h,hk=>by
  rcases A9.1 h with rfl|h
  .simp [ZJ,ZnX hk]
  .have:=ZnE h hk
   cases x<;>simp [ZJ,this]
end
end
section
open Go.RowKit
def Zaq (S:Ctx) (f:FuncId) (n key:Nat) (st:St) (vs:List SV) (v:SV) (u:List (Nat×Ob)):Prop:=
 match n with
 |0=>∃l res,ZY st vs=some l/\S.r f l res/\(!ZdV res||vs.all Zif)=true/\(ZA key res).2.2<=key+16/\v=QW (ZA key res).1/\u=(ZA key res).2.1
 |1=>∃v0 r k h l res h',vs=v0::r/\Zgk st v0=some (k,h)/\ZY st r=some l/\S.h f h l res h'/\(ZJ r).all (fun j=>j != k)=true/\(ZA key res).2.2<=key+16/\v=QW (ZA key res).1/\u=ZK st (ZJ r)++((k,YT h')::(ZA key res).2.1)
 |3=>∃l nb,ZY st vs=some l/\S.b f l nb/\v=ZHP key nb/\u=ZK st (ZJ vs)++[(key,Zyw nb)]
 |4=>∃l res,ZY st (vs.map nlS)=some l/\S.r f l res/\(!ZdV res||(vs.map nlS).all Zif)=true/\(ZA key res).2.2<=key+16/\v=QW (ZA key res).1/\u=(ZA key res).2.1
 |5=>∃v0 r kh gh l res cs',vs=v0::r/\ZdP st v0=some kh/\ZiW st (r.take 0)=some gh/\ZY st (r.drop 0)=some l/\S.o f kh.2.1 kh.2.2.1 gh.1 l res cs'/\(kh.2.2.2++gh.2).Nodup/\(ZJ (r.drop 0)).all (Zix (kh.2.2.2++gh.2))=true/\(ZA key res).2.2=key/\(ZG key cs').2.2<=key+16/\v=QW (ZA key res).1/\u=ZK st (ZJ (r.drop 0))++(YD (kh.2.2.2++gh.2)++((kh.1,.box kh.2.1 (ZG key cs').1)::(ZG key cs').2.1))
 |6=>∃v0 r kh gh l res cs',vs=v0::r/\ZdP st v0=some kh/\ZiW st (r.take 1)=some gh/\ZY st (r.drop 1)=some l/\S.o f kh.2.1 kh.2.2.1 gh.1 l res cs'/\(kh.2.2.2++gh.2).Nodup/\(ZJ (r.drop 1)).all (Zix (kh.2.2.2++gh.2))=true/\(ZA key res).2.2=key/\(ZG key cs').2.2<=key+16/\v=QW (ZA key res).1/\u=ZK st (ZJ (r.drop 1))++(YD (kh.2.2.2++gh.2)++((kh.1,.box kh.2.1 (ZG key cs').1)::(ZG key cs').2.1))
 |7=>∃v0 r gv ks l res,vs=v0::r/\ZiW st [v0]=some (some gv,ks)/\ZY st r=some l/\S.g f gv l res/\ks.Nodup/\(ZJ r).all (Zix ks)=true/\(ZA key res).2.2<=key+16/\v=QW (ZA key res).1/\u=ZK st (ZJ r)++(YD ks++(ZA key res).2.1)
 |_=>∃l res,ZY st vs=some l/\S.r f l res/\(ZA key res).2.2<=key+16/\v=QW (ZA key res).1/\u=ZK st (ZJ vs)++(ZA key res).2.1
theorem Zmf {S:Ctx}{f:FuncId}{n key:Nat}{d:Option Nat}{K:St->Prop}{st:St}{vs:List SV}:spK S f n key d K st vs↔∃v u,Zaq S f n key st vs v u/\K ((st.put d v).app u):=by
 rcases n with _|_|_|_|_|_|_|_|n
 .simp only[spK,Zaq]
  constructor
  .intro h
   unfold YA at h
   split at h
   .rename_i l hl
    obtain ⟨a,h1,h2,h3,h4⟩:=h
    exact ⟨_,_,⟨l,a,hl,h1,h2,h3,rfl,rfl⟩,h4⟩
   .exact h.elim
  .rintro ⟨v,u,⟨l,a,hl,h1,h2,h3,rfl,rfl⟩,h4⟩
   rw [hl]
   exact ⟨a,h1,h2,h3,h4⟩
 .simp only[spK,Zaq]
  constructor
  .intro h
   cases vs with
   |nil=>exact h.elim
   |cons v0 r=>
    simp only[Zvn]at h
    unfold YA at h
    split at h
    .rename_i kh hk
     split at h
     .rename_i l hl
      obtain ⟨a,h',h1,h2,h3,h4⟩:=h
      exact ⟨_,_,⟨v0,r,kh.1,kh.2,l,a,h',rfl,hk,hl,h1,h2,h3,rfl,rfl⟩,h4⟩
     .exact h.elim
    .exact h.elim
  .rintro ⟨v,u,⟨v0,r,k,hh,l,a,h',rfl,hk,hl,h1,h2,h3,rfl,rfl⟩,h4⟩
   simp only[Zvn,hk,hl,YA]
   exact ⟨a,h',h1,h2,h3,h4⟩
 .simp only[spK,Zaq]
  constructor
  .intro h
   unfold YA at h
   split at h
   .rename_i l hl
    obtain ⟨a,h1,h3,h4⟩:=h
    exact ⟨_,_,⟨l,a,hl,h1,h3,rfl,rfl⟩,h4⟩
   .exact h.elim
  .rintro ⟨v,u,⟨l,a,hl,h1,h3,rfl,rfl⟩,h4⟩
   rw [hl]
   exact ⟨a,h1,h3,h4⟩
 .simp only[spK,Zaq]
  constructor
  .intro h
   unfold YA at h
   split at h
   .rename_i l hl
    obtain ⟨nb,h1,h4⟩:=h
    exact ⟨_,_,⟨l,nb,hl,h1,rfl,rfl⟩,h4⟩
   .exact h.elim
  .rintro ⟨v,u,⟨l,nb,hl,h1,rfl,rfl⟩,h4⟩
   rw [hl]
   exact ⟨nb,h1,h4⟩
 .simp only[spK,Zaq]
  constructor
  .intro h
   unfold YA at h
   split at h
   .rename_i l hl
    obtain ⟨a,h1,h2,h3,h4⟩:=h
    exact ⟨_,_,⟨l,a,hl,h1,h2,h3,rfl,rfl⟩,h4⟩
   .exact h.elim
  .rintro ⟨v,u,⟨l,a,hl,h1,h2,h3,rfl,rfl⟩,h4⟩
   rw [hl]
   exact ⟨a,h1,h2,h3,h4⟩
 .simp only[spK,Zaq]
  constructor
  .intro h
   cases vs with
   |nil=>exact h.elim
   |cons v0 r=>
    simp only[ZlA]at h
    unfold YA at h
    split at h
    .rename_i kh hk
     split at h
     .rename_i gh hg
      split at h
      .rename_i l hl
       obtain ⟨a,b,h1,h2,h3,h4,h5,h6⟩:=h
       exact ⟨_,_,⟨v0,r,kh,gh,l,a,b,rfl,hk,hg,hl,h1,h2,h3,h4,h5,rfl,rfl⟩,h6⟩
      .exact h.elim
     .exact h.elim
    .exact h.elim
  .rintro ⟨v,u,⟨v0,r,kh,gh,l,a,b,rfl,hk,hg,hl,h1,h2,h3,h4,h5,rfl,rfl⟩,h6⟩
   simp only[ZlA,hk,hg,hl,YA]
   exact ⟨a,b,h1,h2,h3,h4,h5,h6⟩
 .simp only[spK,Zaq]
  constructor
  .intro h
   cases vs with
   |nil=>exact h.elim
   |cons v0 r=>
    simp only[ZlA]at h
    unfold YA at h
    split at h
    .rename_i kh hk
     split at h
     .rename_i gh hg
      split at h
      .rename_i l hl
       obtain ⟨a,b,h1,h2,h3,h4,h5,h6⟩:=h
       exact ⟨_,_,⟨v0,r,kh,gh,l,a,b,rfl,hk,hg,hl,h1,h2,h3,h4,h5,rfl,rfl⟩,h6⟩
      .exact h.elim
     .exact h.elim
    .exact h.elim
  .rintro ⟨v,u,⟨v0,r,kh,gh,l,a,b,rfl,hk,hg,hl,h1,h2,h3,h4,h5,rfl,rfl⟩,h6⟩
   simp only[ZlA,hk,hg,hl,YA]
   exact ⟨a,b,h1,h2,h3,h4,h5,h6⟩
 .simp only[spK,Zaq]
  constructor
  .intro h
   cases vs with
   |nil=>exact h.elim
   |cons v0 r=>
    simp only[Zvp]at h
    unfold YA at h
    split at h
    .rename_i gh hg
     split at h
     .rename_i l hl
      obtain ⟨gv,a,h1,h2,h3,h4,h5,h6⟩:=h
      obtain ⟨g1,g2⟩:=gh
      simp only at h1 h2 h3 h4 h5 h6
      subst h1
      exact ⟨_,_,⟨v0,r,gv,g2,l,a,rfl,hg,hl,h2,h3,h4,h5,rfl,rfl⟩,h6⟩
     .exact h.elim
    .exact h.elim
  .rintro ⟨v,u,⟨v0,r,gv,ks,l,a,rfl,hg,hl,h2,h3,h4,h5,rfl,rfl⟩,h6⟩
   simp only[Zvp,hg,hl,YA]
   exact ⟨gv,a,rfl,h2,h3,h4,h5,h6⟩
 .simp only[spK,Zaq]
  constructor
  .intro h
   unfold YA at h
   split at h
   .rename_i l hl
    obtain ⟨a,h1,h3,h4⟩:=h
    exact ⟨_,_,⟨l,a,hl,h1,h3,rfl,rfl⟩,h4⟩
   .exact h.elim
  .rintro ⟨v,u,⟨l,a,hl,h1,h3,rfl,rfl⟩,h4⟩
   rw [hl]
   exact ⟨a,h1,h3,h4⟩
section
variable {P:Program} {J:World->Prop} {JF:Nat->Prop} {W:QO} {U:Nat->Prop} {key:Nat} {st:St} {g:Gh} {w w':World} {a:Act} {tt:Nat->Option TI} {hd:FuncId->Nat}
def Zvr [NW] (W:QO) (U:Nat->Prop) (key:Nat) (st:St) (g:Gh) (w:World) (v:SV) (u:List (Nat×Ob)) (cv:Value) (w':World):Prop:=
 ∃g',HI W g' (Zl st.ob u) w'/\SVR g' w' v cv/\(∀x c,svU U x->SVR g w x c->SVR g' w' x c)/\svU (Uk U key) v/\(∀k,obU (Uk U key) (Zl st.ob u k))/\∀k,¬Uk U key k->Zl st.ob u k=.gone
theorem HI.ownlt [NW] {ob:Nat->Ob}(hI:HI W g ob w) {b:Nat}(h:g.own b):b<w.heap.size:=by
 rcases h with ⟨k,mk⟩|hz
 .exact hI.lt k b (by simp [mk])
 .rw [hI.gz]at hz
  exact AX (hI.zx b hz).1 hI.below.size
theorem ZrE {ks:List Nat}{ob:Nat->Ob}(a:∀k,obU U (st.ob k)) (h:∀k,ob k=(if k∈ks then Yq (st.ob k) else st.ob k)):∀k,obU U (ob k):=fun k=>by
 rw [h k]
 have:=a k
 split
 .cases hk:st.ob k<;>simp only[Yq]<;>first|trivial|(rw [hk]at this;exact this)
 .exact this
theorem ZmL [NW] {vs:List SV}{l:List (Bool×List CT)}{st1:St}(h:∀k,st1.ob k=(if k∈ZJ vs then Yq (st.ob k) else st.ob k)) (hl:ZY st vs=some l):∀x∈vs,ZwX st1.ob x:=by
 have key:∀(cs:List AV) (l:List CT),Xc st cs=some l->(∀k,AV.row k∈cs->k∈ZJ vs)->∀y∈cs,ZzH st1.ob y:=by
  intro cs
  induction cs with
  |nil=>intro l _ _ y my;simp at my
  |cons c cs ih=>
   intro l hl hk y my
   simp only[Xc]at hl
   obtain ⟨c1,h1,hl⟩:=A6.1 hl
   obtain ⟨c2,h2,_⟩:=A4.1 hl
   rcases A9.1 my with rfl|my
   .cases y with
    |row k=>
     simp only[ZcM]at h1
     split at h1
     .rename_i e m xs d a
      exact ⟨e,m,xs,by rw [h k,if_pos (hk k yG),a];rfl⟩
     .simp at h1
    |_=>trivial
   .exact ih c2 h2 (fun k mk=>hk k (by simp [mk])) y my
 have all:∀(xs:List SV) (l:List (Bool×List CT)),ZY st xs=some l->(∀x∈xs,x∈vs)->∀x∈xs,ZwX st1.ob x:=by
  intro xs
  induction xs with
  |nil=>intro l _ _ x mx;simp at mx
  |cons x xs ih=>
   intro l hl hm y my
   simp only[ZY]at hl
   obtain ⟨c1,h1,hl⟩:=A6.1 hl
   obtain ⟨c2,h2,_⟩:=A4.1 hl
   rcases A9.1 my with rfl|my
   .cases y with
    |p ag cs=>
     simp only[ZdU]at h1
     obtain ⟨l1,h3,_⟩:=A4.1 h1
     exact key cs l1 h3 (fun k mk=>ZnE (hm (.p ag cs) yG) mk)
    |_=>trivial
   .exact ih c2 h2 (fun z mz=>hm z (by simp [mz])) y my
 exact all vs l hl (fun _ h=>h)
theorem ZFV {k:Nat}{inst:∀j,Decidable (j=k)}(ob:Nat->Ob) (o:Ob):(fun j=>@ite _ (j=k) (inst j) o (ob j))=upd ob k o:=by
 funext j
 simp only[upd]
 split<;>rfl
theorem Zjf [NW] (htt:MOk P J JF W tt) {f:FuncId}{vs:List SV}{a:List Value}{v:SV}{u:List (Nat×Ob)}(h:Zaq (SC P J JF hd) f 0 key st vs v u) (hH:HI W g st.ob w) (hU:StU U st) (c:∀k,key<=k->k<key+16->¬U k) (j:ZI (SVR g w) vs a) (hvU:∀x∈vs,svU U x):
  ZaL P f/\Calls P f a.toArray w fun e w'=>∃cv,e=.returned cv/\Zvr W U key st g w v u cv w':=by
 obtain ⟨l,o,hl,hs,d,hn,rfl,rfl⟩:=h
 obtain ⟨hc,hC⟩:=hs
 refine ⟨hc,?_⟩
 by_cases m:ZdV o=true
 .have p:∀x∈vs,ZwX st.ob x:=ZB0 (by simpa [m]using d)
  refine (hC w g.own a (htt.at hH.below) (fun b hb=>hH.ownlt hb) (ZbZ hH hl j (.inr ⟨p,fun _ h=>h⟩))).mono ?_
  rintro e w' ⟨cv,n,rfl,hr,hz,hb⟩
  obtain ⟨g',t1,t2,t3,t4,t5,t6⟩:=Zh3 hH hU.ob hU.gone c hr hn (fun _=>False) (fun _ h=>h.elim) (fun _=>.gone) (fun _ b hb=>hz b hb) (hH.below.trans hb) hb.size (fun b i _=>hb.block b i) (fun _ h=>h.elim) (fun _ _ _ _ h=>h.elim)
  simp only[if_false]at t1 t5 t6
  exact ⟨cv,rfl,g',t1,t2,t3,t4,t5,t6⟩
 .refine (hC w (fun _=>False) a (htt.at hH.below) (fun b hb=>hb.elim) (ZbZ hH hl j (.inl fun _ h=>h))).mono ?_
  rintro e w' ⟨cv,n,rfl,hr,hz,hb⟩
  obtain ⟨g',t1,t2,t3,t4,t5,t6⟩:=Zh3 hH hU.ob hU.gone c hr hn (fun _=>False) (fun _ h=>h.elim) (fun _=>.gone) (fun h=>absurd h m) (hH.below.trans hb) hb.size (fun b i _=>hb.block b i) (fun _ h=>h.elim) (fun _ _ _ _ h=>h.elim)
  simp only[if_false]at t1 t5 t6
  exact ⟨cv,rfl,g',t1,t2,t3,t4,t5,t6⟩
theorem ZAa [NW] {x:AV}{v:Value}(h:AVR g w x v):AVR g w (nlA x) v:=by
 cases x with
 |nil e m=>exact ⟨[],⟨h,rfl⟩,yG⟩
 |_=>exact h
theorem Zve [NW]:∀{xs:List AV}{vs:List Value},ZI (AVR g w) xs vs->ZI (AVR g w) (xs.map nlA) vs
 | [],[],_=>trivial
 | [],_::_,h=>h.elim
 |_::_,[],h=>h.elim
 |_::_,_::_,h=>⟨ZAa h.1,Zve h.2⟩
theorem ZD9 [NW] {x:SV}{v:Value}(h:SVR g w x v):SVR g w (nlS x) v:=by
 cases x with
 |p a cs=>
  cases a with
  |true=>obtain ⟨vs,h1,h2⟩:=h;exact ⟨vs,h1,Zve h2⟩
  |false=>obtain ⟨y,rfl,h2⟩:=h;exact ⟨_,rfl,ZAa h2⟩
 |_=>exact h
theorem ZvO [NW]:∀{xs:List SV}{vs:List Value},ZI (SVR g w) xs vs->ZI (SVR g w) (xs.map nlS) vs
 | [],[],_=>trivial
 | [],_::_,h=>h.elim
 |_::_,[],h=>h.elim
 |_::_,_::_,h=>⟨ZD9 h.1,ZvO h.2⟩
theorem ZAl {x:SV}(h:svU U x):svU U (nlS x):=by
 cases x with
 |p a cs=>
  intro y my
  obtain ⟨z,mz,rfl⟩:=AB.1 my
  have hz:=h z mz
  cases z<;>first|exact hz|trivial
 |_=>exact h
theorem Zx6 [NW] (hI:HI W g st.ob w) {x:AV}{ct:Bool×CT}{ks:List Nat}{v:Value}(h:ZfC st x=some (ct,ks)) (hx:AVR g w x v):OC w 0 g.own ct v (g.F ks)/\∀k∈ks,∃e m xs,st.ob k=.row e m xs 2:=by
 cases x with
 |c y=>
  obtain ⟨L,h1,h2⟩:=hx
  cases y<;>simp only[ZfC,A0,A5,reduceCtorEq]at h<;>obtain ⟨rfl,rfl⟩:=h
  .exact ⟨⟨⟨h1.1,rfl⟩,by simp [Gh.F]⟩,yG⟩
  .exact ⟨⟨⟨h1.1,rfl⟩,by simp [Gh.F]⟩,yG⟩
  .exact ⟨⟨⟨h1.1,rfl,h1.2.2⟩,by simp [Gh.F]⟩,yG⟩
  .exact ⟨⟨by simp [Gh.F],L,h1,h2⟩,yG⟩
 |row k=>
  simp only[ZfC]at h
  split at h
  .rename_i e m xs d hk
   split at h
   .rename_i hd
    subst hd
    simp only[A0,A5]at h
    obtain ⟨rfl,rfl⟩:=h
    have ho:=hI.obs k
    rw [hk]at ho
    obtain ⟨hm,cs,L,o1,o2,o3⟩:=ho
    rcases o3 with ⟨_,q1,q2⟩|⟨q,_⟩|⟨q,_⟩
    .refine ⟨⟨hm,cs,L,by rw [hx.1];exact o1,o2,by simp [Gh.F,q1,q2,hx.1],fun b mb=>.inl ⟨k,by rw [q1,<-hx.1];exact mb⟩⟩,fun j mj=>?_⟩
     simp only[Ao]at mj
     subst mj
     exact ⟨e,m,xs,hk⟩
    .omega
    .omega
   .simp at h
  .simp at h
 |nil e m=>
  simp only[ZfC]at h
  split at h
  .rename_i hm
   simp only[A0,A5]at h
   obtain ⟨rfl,rfl⟩:=h
   have hv:v=.slice none 0 0:=hx
   subst hv
   exact ⟨⟨hm,[],[],ZfQ _ _ _ _,⟨rfl,rfl⟩,by simp [Gh.F,Value.ownBlock],by simp [Value.ownBlock]⟩,yG⟩
  .simp at h
 |n _=>simp [ZfC]at h
 |dead=>simp [ZfC]at h
theorem Zih [NW] (hI:HI W g st.ob w):∀{xs:List AV}{cts:List (Bool×CT)}{ks:List Nat}{vs:List Value},Y5 st xs=some (cts,ks)->ZI (AVR g w) xs vs->OCs w 0 g.own cts vs (g.F ks)/\∀k∈ks,∃e m xs,st.ob k=.row e m xs 2
 | [],_,_,[],h,_=>by simp [Y5]at h;obtain ⟨rfl,rfl⟩:=h;exact ⟨⟨rfl,by simp [Gh.F]⟩,yG⟩
 | [],_,_,_::_,_,h=>h.elim
 |_::_,_,_,[],_,h=>h.elim
 |x::r,cts,ks,v::vs,h,hr=>by
  simp only[Y5]at h
  obtain ⟨⟨c1,k1⟩,h1,h⟩:=A6.1 h
  obtain ⟨⟨c2,k2⟩,h2,h⟩:=A4.1 h
  simp only[A5]at h
  obtain ⟨rfl,rfl⟩:=h
  obtain ⟨a1,a2⟩:=Zx6 hI h1 hr.1
  obtain ⟨b1,b2⟩:=Zih hI h2 hr.2
  exact ⟨⟨v,vs,_,_,rfl,by simp [Gh.F],a1,b1⟩,fun k mk=>(AA.1 mk).elim (a2 k) (b2 k)⟩
theorem OC.low {n m:Nat->Prop}{B:Nat}{x:Bool×CT}{v:Value}{F:List Nat}(h:OC w B n x v F) (h1:∀b,m b->n b) (h2:∀b∈F,n b->m b):OC w B m x v F:=by
 obtain ⟨l,c⟩:=x
 cases l with
 |true=>obtain ⟨e,L,q1,q2⟩:=h;exact ⟨e,L,q1,fun b mb hm=>q2 b mb (h1 b hm)⟩
 |false=>
  cases c with
  |sl e k xs=>
   obtain ⟨q1,cs,L,q2,q3,q4,q5⟩:=h
   exact ⟨q1,cs,L,q2,q3,q4,fun b mb=>h2 b (by rw [q4];simp only[AA];exact .inl mb) (q5 b mb)⟩
  |_=>exact h
theorem OCs.low {n m:Nat->Prop}{B:Nat}:∀{cts:List (Bool×CT)}{vs:List Value}{F:List Nat},OCs w B n cts vs F->(∀b,m b->n b)->(∀b∈F,n b->m b)->OCs w B m cts vs F
 | [],_,_,h,_,_=>h
 |_::_,_,_,⟨v,vs,F1,F2,e1,e2,h3,h4⟩,h1,h2=>⟨v,vs,F1,F2,e1,e2,h3.low h1 fun b mb=>h2 b (by simp [e2,mb]),h4.low h1 fun b mb=>h2 b (by simp [e2,mb])⟩
theorem ZhK {st st':St}:∀{xs:List AV}{cts:List (Bool×CT)}{ks:List Nat},Y5 st xs=some (cts,ks)->(∀j∈ks,st'.ob j=st.ob j)->Y5 st' xs=some (cts,ks)
 | [],_,_,h,_=>h
 |x::r,cts,ks,h,hk=>by
  simp only[Y5]at h ⊢
  obtain ⟨⟨c1,k1⟩,h1,h⟩:=A6.1 h
  obtain ⟨⟨c2,k2⟩,h2,h⟩:=A4.1 h
  simp only[A5]at h
  obtain ⟨rfl,rfl⟩:=h
  have e1:ZfC st' x=some (c1,k1):=by
   cases x with
   |row k=>
    simp only[ZfC]at h1 ⊢
    split at h1
    .rename_i e m xs d a
     split at h1
     .rename_i hd
      simp only[A0,A5]at h1
      obtain ⟨rfl,rfl⟩:=h1
      rw [hk k yG,a]
      simp [hd]
     .simp at h1
    .simp at h1
   |c y=>cases y<;>exact h1
   |nil e m=>exact h1
   |n _=>exact h1
   |dead=>exact h1
  rw [e1,ZhK h2 fun j mj=>hk j (by simp [mj])]
  rfl
theorem ZrO [NW] {a:Nat->Value}{n:Nat->Prop}{l:Bool}{lo hi:Nat}{g':Gh}{V:Nat->Prop}{xs:List (Bool×List AV)}{vs:List Value}{v:Value}(hA:ZI (PR a w' n l lo hi) xs vs) (hv:v=(if h:vs.toArray.size=1 then vs.toArray[0] else .tuple vs.toArray))
  (c:∀x u,CR a w' n l lo hi x u->AVR g' w' x u/\avU V x):SVR g' w' (QW xs) v/\svU V (QW xs):=by
 have f:∀(ys:List AV) (us:List Value),ZI (CR a w' n l lo hi) ys us->ZI (AVR g' w') ys us/\X3 V ys:=fun ys us h=>by
  induction ys generalizing us with
  |nil=>cases us with
   |nil=>exact ⟨trivial,fun _ m=>by simp at m⟩
   |cons _ _=>exact h.elim
  |cons y ys ih=>cases us with
   |nil=>exact h.elim
   |cons u us=>
    obtain ⟨i1,i2⟩:=ih us h.2
    refine ⟨⟨(c y u h.1).1,i1⟩,fun z mz=>?_⟩
    rcases A9.1 mz with rfl|mz
    .exact (c z u h.1).2
    .exact i2 z mz
 have d:∀(y:Bool×List AV) (u:Value),PR a w' n l lo hi y u->PVR g' w' y.1 y.2 u/\X3 V y.2:=fun y u h=>by
  rcases h with ⟨h1,us,rfl,h3⟩|⟨h1,z,h2,h3⟩
  .obtain ⟨i1,i2⟩:=f _ _ h3
   exact ⟨by rw [h1];exact ⟨us,rfl,i1⟩,i2⟩
  .obtain ⟨i1,i2⟩:=c z u h3
   exact ⟨by rw [h1];exact ⟨z,h2,i1⟩,by rw [h2];intro q mq;simp at mq;subst mq;exact i2⟩
 have b:=hA.len
 by_cases hl:xs.length=1
 .obtain ⟨x,rfl⟩:=An.1 hl
  cases vs with
  |nil=>simp at b
  |cons u us=>
   cases us with
   |cons _ _=>simp at b
   |nil=>
    have g:v=u:=by rw [hv];rfl
    rw [g]
    exact d x u hA.1
 .have j:¬vs.toArray.size=1:=by simp;omega
  rw [dif_neg j]at hv
  have e:QW xs=.tup xs:=by
   cases xs with
   |nil=>rfl
   |cons x xs=>cases xs with
    |nil=>simp at hl
    |cons _ _=>rfl
  rw [e]
  refine ⟨⟨vs,hv,hA.mono fun y u _ h=>(d y u h).1⟩,fun y my=>?_⟩
  obtain ⟨i,k⟩:=Aj.1 my
  obtain ⟨u,_,hu⟩:=hA.at k
  exact (d y u hu).2
theorem Zt3 {v:SV}{kh:Nat×Nat×List (Bool×CT)×List Nat}(h:ZdP st v=some kh):∃ds,v=.bp kh.1 0/\st.ob kh.1=.box kh.2.1 ds/\Y5 st ds=some (kh.2.2.1,kh.2.2.2)/\kh.2.2.2.Nodup:=by
 unfold ZdP at h
 split at h
 .rename_i k
  split at h
  .rename_i t ds hk
   obtain ⟨x,hx,h⟩:=A6.1 h
   split at h
   .rename_i a
    simp only[A0]at h
    subst h
    exact ⟨ds,rfl,hk,hx,a⟩
   .simp at h
  .simp at h
 .simp at h
theorem Ziv {st:St}:∀{xs ys:List AV}{c1 c2:List (Bool×CT)}{k1 k2:List Nat},Y5 st xs=some (c1,k1)->Y5 st ys=some (c2,k2)->Y5 st (xs++ys)=some (c1++c2,k1++k2)
 | [],ys,c1,c2,k1,k2,h,h'=>by simp [Y5]at h;obtain ⟨rfl,rfl⟩:=h;exact h'
 |x::r,ys,c1,c2,k1,k2,h,h'=>by
  simp only[Y5,AY]at h ⊢
  obtain ⟨⟨c3,k3⟩,h1,h⟩:=A6.1 h
  obtain ⟨⟨c4,k4⟩,h2,h⟩:=A4.1 h
  simp only[A5]at h
  obtain ⟨rfl,rfl⟩:=h
  rw [h1,Ziv h2 h']
  simp
theorem Zi8 {st:St}:∀{xs:List AV}{c:List (Bool×CT)}{k:List Nat},Y5 st xs=some (c,k)->xs.length=c.length
 | [],_,_,h=>by simp [Y5]at h;simp [h.1]
 |x::r,_,_,h=>by
  simp only[Y5]at h
  obtain ⟨⟨c3,k3⟩,h1,h⟩:=A6.1 h
  obtain ⟨⟨c4,k4⟩,h2,h⟩:=A4.1 h
  simp only[A5]at h
  obtain ⟨rfl,rfl⟩:=h
  simp [Zi8 h2]
theorem ZrP [NW] {vs:List SV}{b:List Value}{gv:Option (Bool×List (Bool×CT))}{ks:List Nat}(h:ZiW st vs=some (gv,ks)) (hv:ZI (SVR g w) vs b):∃ds,Y5 st ds=some (gvC gv,ks)/\∃us,ZI (AVR g w) ds us/\GVr gv b us:=by
 unfold ZiW at h
 split at h
 .simp only[A0,A5]at h
  obtain ⟨rfl,rfl⟩:=h
  cases b with
  |nil=>exact ⟨[],rfl,[],trivial,rfl,rfl⟩
  |cons _ _=>exact hv.elim
 .rename_i a xs
  obtain ⟨x,hx,h⟩:=A4.1 h
  simp only[A5]at h
  obtain ⟨rfl,rfl⟩:=h
  cases b with
  |nil=>exact hv.elim
  |cons c cr=>
   cases cr with
   |cons _ _=>exact hv.2.elim
   |nil=>
    have hl:=Zi8 hx
    cases a with
    |true=>
     obtain ⟨us,rfl,h2⟩:=hv.1
     exact ⟨xs,hx,us,h2,rfl,by rw [<-h2.len,hl]⟩
    |false=>
     obtain ⟨y,rfl,h2⟩:=hv.1
     exact ⟨[y],hx,[c],⟨h2,trivial⟩,rfl,rfl,by rw [<-hl];rfl⟩
 .simp at h
theorem ZjT [NW] (htt:MOk P J JF W tt) {f:FuncId}(N:Nat) {vs:List SV}{ah:List Value}{v:SV}{u:List (Nat×Ob)}(h:∃v0 r kh gh l Q B,vs=v0::r/\ZdP st v0=some kh/\ZiW st (r.take N)=some gh/\ZY st (r.drop N)=some l/\ZdQ P J JF f kh.2.1 kh.2.2.1 gh.1 l Q B/\(kh.2.2.2++gh.2).Nodup/\(ZJ (r.drop N)).all (Zix (kh.2.2.2++gh.2))=true/\(ZA key Q).2.2=key/\(ZG key B).2.2<=key+16/\v=QW (ZA key Q).1/\u=ZK st (ZJ (r.drop N))++(YD (kh.2.2.2++gh.2)++((kh.1,.box kh.2.1 (ZG key B).1)::(ZG key B).2.1))) (hH:HI W g st.ob w) (hU:StU U st) (a2:∀k,key<=k->k<key+16->¬U k) (a3:ZI (SVR g w) vs ah) (_hvU:∀x∈vs,svU U x):
  ZaL P f/\Calls P f ah.toArray w fun e w'=>∃cv,e=.returned cv/\Zvr W U key st g w v u cv w':=by
 classical
 obtain ⟨v0,r0,⟨k,t,cs,a4⟩,⟨gv,a5⟩,l,Q,B,rfl,hk,hg,hl,hs,a6,a7,bx,hn,rfl,rfl⟩:=h
 obtain ⟨ds,rfl,X,ai,_⟩:=Zt3 hk
 simp only at hs a7 X ai a6 ⊢
 generalize hr0:r0.drop N=r at *
 obtain ⟨hc,hC⟩:=hs
 refine ⟨hc,?_⟩
 cases ah with
 |nil=>exact a3.elim
 |cons c0 cr=>
 obtain ⟨bz,Y⟩:=a3
 have b0:ZI (SVR g w) r (cr.drop N):=hr0 ▸ Y.drop N
 obtain ⟨aj,b1,b2⟩:=ZrP hg (Y.take N)
 have hx:Y5 st (ds++aj)=some (cs++gvC gv,a4++a5):=Ziv ai b1
 generalize hks0:a4++a5=ks at *
 have b3:cr=cr.take N++cr.drop N:=(List.take_append_drop _ _).symm
 obtain ⟨g1,i1,i2,i3,i4⟩:=Zie st (ZJ r) hH (fun k=>.inl rfl)
 let st1:St:=⟨st.sl,Zl st.ob (ZK st (ZJ r)),st.n⟩
 have K:∀k,st1.ob k=(if k∈ZJ r then Yq (st.ob k) else st.ob k):=i4
 have ak:∀k,st1.ob k=st.ob k\/st1.ob k=Yq (st.ob k):=fun k=>by
  rw [K k];split
  .exact .inr rfl
  .exact .inl rfl
 have b4:ZY st1 r=some l:=by rw [Zc6 ak];exact hl
 have a8:=ZmL (st1:=st1) K hl
 have b5:∀j,st.ob j≠.gone->U j:=fun j hg=>Classical.byContradiction fun hn=>hg (hU.gone j hn)
 have R:∀j,obU U (st1.ob j):=ZrE hU.ob K
 have M:∀j,¬U j->st1.ob j=.gone:=fun j hj=>by
  have e:=hU.gone j hj
  rcases ak j with h|h<;>rw [h,e]<;>rfl
 have a9:SVR g1 w (.bp k 0) c0:=bz.less i2 i3
 have ba:ZI (SVR g1 w) r (cr.drop N):=b0.mono fun x c _ hx=>hx.less i2 i3
 have b6:∀j∈ks,j∉ZJ r:=fun j hj hm=>by
  have:=AG.1 a7 j hm
  simp [Zix,hj]at this
 have al:st1.ob k=.box t ds:=by
  rcases ak k with h|h
  .rw [h,X]
  .rw [h,X];rfl
 have b7:Y5 st1 (ds++aj)=some (cs++gvC gv,ks):=ZhK hx fun j hj=>by rw [K j,if_neg (b6 j hj)]
 have ho:=i1.obs k
 rw [show Zl st.ob (ZK st (ZJ r)) k=.box t ds from al]at ho
 obtain ⟨b,us,h1,h2,h3,h4,h5⟩:=ho
 obtain ⟨b',h6,h7⟩:=a9
 have b8:b'=b:=by rw [h6]at h1;simpa using h1
 subst b8
 obtain ⟨am,b9,ca⟩:=b2
 have bb:ZI (AVR g1 w) aj am:=b9.mono fun x c _ hx=>AVR.less hx i2 i3
 obtain ⟨bc,G⟩:=Zih (st:=st1) i1 b7 (h5.append bb)
 have bd:us.length=cs.length:=by rw [<-h5.len,Zi8 ai]
 have aa:k∉ks:=fun m=>by
  obtain ⟨e,m',xs,hr⟩:=G k m
  rw [al]at hr;simp at hr
 have be:U k:=b5 k (by rw [X];simp)
 have ab:∀j∈ks,U j:=fun j hj=>Classical.byContradiction fun hn=>by
  obtain ⟨e,m',xs,hr⟩:=G j hj
  rw [M j hn]at hr;simp at hr
 let F:=g1.F ks
 let q:Nat->Prop:=fun x=>g1.own x/\x∈b'::F
 let z:Nat->Prop:=fun x=>g1.own x/\x∉b'::F
 have S:(fun x=>z x\/q x)=g1.own:=funext fun x=>propext ⟨fun h=>h.elim And.left And.left,fun h=>by
  by_cases hm:x∈b'::F
  .exact .inr ⟨h,hm⟩
  .exact .inl ⟨h,hm⟩⟩
 have H:∀x∈F,∃j∈ks,x∈g1.O j++g1.D j:=fun x mx=>ZgR mx
 have cb:b'∉F:=fun m=>by
  obtain ⟨j,hj,mj⟩:=H _ m
  exact i1.apart k j (fun e=>aa (e ▸ hj)) b' (by simp [h2]) mj
 have d:∀x∈b'::F,(W.heap.size<=x\/W.x x\/W.y x)/\∃cc e,w.heap[x]?=some (.cells cc e (0,0)):=fun x mx=>by
  rcases A9.1 mx with rfl|mx
  .have:=i1.plain k x (by simp [h2])
   rw [show Zl st.ob (ZK st (ZJ r)) k=.box t ds from al]at this
   exact this
  .obtain ⟨j,hj,mj⟩:=H x mx
   obtain ⟨e,m',xs,hr⟩:=G j hj
   have:=i1.plain j x mj
   rw [show Zl st.ob (ZK st (ZJ r)) j=.row e m' xs 2 from hr]at this
   exact this
 have an:Zpm w (fun x=>z x\/q x) t (cs++gvC gv) c0 b' us am F:=⟨h7,h4,by rw [S];exact bc,⟨AZ.2 ⟨cb,i1.nodupF a6⟩,fun _ _=>AL _,fun x mx=>(d x mx).2⟩⟩
 have ao:ZI (ZhY w fun x=>z x\/q x) l (cr.drop N):=by rw [S];exact ZbZ (st:=st1) i1 b4 ba (.inr ⟨a8,fun _ h=>h⟩)
 have cd:q b':=⟨.inl ⟨k,by simp [h2]⟩,yG⟩
 have bf:∀x,q x->x=b'\/∃j∈ks,x∈g1.O j:=fun x hx=>by
  rcases A9.1 hx.2 with h|mx
  .exact .inl h
  .obtain ⟨j,hj,mj⟩:=H x mx
   rcases AA.1 mj with m1|m1
   .exact .inr ⟨j,hj,m1⟩
   .rcases hx.1 with ⟨j',bg⟩|hz
    .by_cases e:j=j'
     .subst e
      exact absurd rfl ((AP.1 (i1.nodup j)).2.2 x bg x m1)
     .exact absurd (by simp [bg]:x∈g1.O j'++g1.D j') (i1.apart j j' e x mj)
    .exact absurd hz (i1.nz mj)
 have bh:∀x,q x->W.heap.size<=x\/W.x x:=fun x hx=>by
  rcases bf x hx with rfl|⟨j,_,mj⟩
  .exact i1.oy k x (by simp [h2])
  .exact i1.oy j x mj
 rw [b3]
 refine (hC w z q c0 (cr.take N) (cr.drop N) b' us am F (htt.at hH.below) cd (fun x hx=>⟨(bh x hx).elim (htt.jf x) (htt.xf x),hx.2⟩) (fun x hx=>⟨i1.ownlt hx.1,fun h=>hx.2 h.2,hx.2⟩) bd ca an ao).mono ?_
 rintro e w' ⟨cv,n,bi,F',rfl,hr,bj,ce,cf,T,ap,C⟩
 have bk:Bel W w':=⟨C.os.trans hH.below.os,C.tape.trans hH.below.tape,C.output.trans hH.below.output,AH hH.below.size C.size,fun i hi hx=>by
  rw [C.block i (AX hi hH.below.size) fun cg=>?_]
  .exact hH.below.block i hi hx
  .rcases bh i cg with h|h
   .omega
   .exact hx h⟩
 obtain ⟨aq,O,D,hB,hA⟩:=QE (l:=true) key (by simpa using T.ocs) (fun _=>rfl)
 obtain ⟨rvs,RF,bl,hRF,ch⟩:=hr
 obtain ⟨bm,O0,D0,hB0,bn⟩:=Zh2 (l:=true) key bl (fun _=>rfl)
 rw [bx]at bn
 generalize (ZG key B).2.2=hi at *
 generalize (ZG key B).2.1=up at *
 generalize (ZG key B).1=I at *
 generalize (ZA key Q).1=rxs at *
 have hle:=hB.le
 have ar:∀j,(key<=j/\j<hi)->¬U j:=fun j hj=>a2 j hj.1 yE
 let g':Gh:=⟨fun j=>if key<=j/\j<hi then aq j else g1.val j,fun j=>if key<=j/\j<hi then O j else if j∈ks then [] else g1.O j,fun j=>if key<=j/\j<hi then D j else if j∈ks then [] else g1.D j,g1.Z⟩
 have gT:∀j,(key<=j/\j<hi)->g'.val j=aq j/\g'.O j=O j/\g'.D j=D j:=fun j hj=>⟨if_pos hj,if_pos hj,if_pos hj⟩
 have gK:∀j∈ks,g'.O j=[]/\g'.D j=[]:=fun j hj=>by
  have hn:¬(key<=j/\j<hi):=fun h=>ar j h (ab j hj)
  exact ⟨by simp only[g',if_neg hn,if_pos hj],by simp only[g',if_neg hn,if_pos hj]⟩
 have gV:∀j,¬(key<=j/\j<hi)->g'.val j=g1.val j:=fun j hj=>if_neg hj
 have gN:∀j,¬(key<=j/\j<hi)->j∉ks->g'.O j=g1.O j/\g'.D j=g1.D j:=fun j hj hk=>⟨by simp only[g',if_neg hj,if_neg hk],by simp only[g',if_neg hj,if_neg hk]⟩
 have hmemF:∀j,(key<=j/\j<hi)->∀x∈O j++D j,x∈F':=fun j hj x mx=>by
  rw [hB.foot]
  exact AS.2 ⟨j,AN.2 ⟨hj.1,yE⟩,mx⟩
 have ac:=(AZ.1 T.own.nodup)
 have ad:=Zgr (hB.foot ▸ ac.2)
 have ae:∀j,U j->g'.val j=g1.val j:=fun j hj=>gV j fun h=>ar j h hj
 have hkT:¬(key<=k/\k<hi):=fun h=>ar k h be
 have au:∀x∈F,g1.low x:=fun x mx=>by
  obtain ⟨j,_,mj⟩:=H x mx
  rcases AA.1 mj with m1|m1
  .exact .inl (.inl ⟨j,m1⟩)
  .exact .inr ⟨j,m1⟩
 have bo:∀j,(key<=j/\j<hi)->∀x∈O j,n x:=fun j hj x mx=>by
  obtain ⟨_,_,_,_,_,_,_,_,_,p6⟩:=hB.at_ j hj.1 hj.2
  exact p6 x mx
 have av:∀x,g'.own x->g1.own x\/w.heap.size<=x:=fun x hx=>by
  rcases hx with ⟨j,mj⟩|hz
  .by_cases hj:key<=j/\j<hi
   .rw [(gT j hj).2.1]at mj
    rcases cf x (bo j hj x mj) with h|h|h
    .exact .inl h.1
    .exact .inl h.1
    .exact .inr h
   .by_cases a:j∈ks
    .rw [(gK j a).1]at mj;simp at mj
    .rw [(gN j hj a).1]at mj;exact .inl (.inl ⟨j,mj⟩)
  .exact .inl (.inr hz)
 have af:Qw g1 g' w.heap.size:=.of av fun j x mj=>by
  by_cases hj:key<=j/\j<hi
  .rw [(gT j hj).2.2]at mj
   exact (ap x (hmemF j hj x (by simp [mj]))).imp (au x) id
  .by_cases a:j∈ks
   .rw [(gK j a).2]at mj;simp at mj
   .rw [(gN j hj a).2]at mj;exact .inl (.inr ⟨j,mj⟩)
 have ci:∀x,x<w.heap.size->¬g1.own x->w'.heap[x]?=w.heap[x]?:=fun x hx cj=>C.block x hx fun hq=>cj hq.1
 have aw:∀x c,svU U x->SVR g1 w x c->SVR g' w' x c:=fun x c hx hc=>hc.move hx ae ci af C.size
 have V:∀x,g'.own x->n x:=fun x hx=>by
  rcases hx with ⟨j,mj⟩|hz
  .by_cases hj:key<=j/\j<hi
   .rw [(gT j hj).2.1]at mj;exact bo j hj x mj
   .by_cases a:j∈ks
    .rw [(gK j a).1]at mj;simp at mj
    .rw [(gN j hj a).1]at mj
     by_cases e:j=k
     .subst e
      rw [h2]at mj
      simp only[Ao]at mj
      rw [mj];exact ce
     .refine bj x ⟨.inl ⟨j,mj⟩,fun m=>?_⟩
      rcases A9.1 m with rfl|m
      .exact i1.apart k j (fun h=>e h.symm) x (by simp [h2]) (by simp [mj])
      .obtain ⟨i,ax,mi⟩:=H x m
       exact i1.apart i j (fun h=>a (h ▸ ax)) x mi (by simp [mj])
  .refine bj x ⟨.inr hz,fun m=>?_⟩
   rcases A9.1 m with rfl|m
   .exact i1.nz (k:=k) (by simp [h2]) hz
   .obtain ⟨i,_,mi⟩:=H x m
    exact i1.nz mi hz
 have bq:∀x c,CR aq w' n true key hi x c->AVR g' w' x c/\avU (Uk U key) x:=fun x c h=>by
  cases x with
  |row j=>
   obtain ⟨c1,c2,c3,c4⟩:=h
   exact ⟨⟨by rw [(gT j ⟨c1,c2⟩).1];exact c3,c4⟩,.inr ⟨c1,yE⟩⟩
  |c y=>
   obtain ⟨L,h1,h2⟩:=h
   exact ⟨⟨L,h1,fun x mx o=>(h2 x mx).2 (V x o)⟩,trivial⟩
  |n _=>exact h.elim
  |nil _ _=>exact h.elim
  |dead=>exact h.elim
 have br:∀x c,CR bm w' n true key key x c->AVR g' w' x c/\avU (Uk U key) x:=fun x c h=>by
  cases x with
  |row j=>obtain ⟨c1,c2,_⟩:=h;omega
  |c y=>
   obtain ⟨L,h1,h2⟩:=h
   exact ⟨⟨L,h1,fun x mx o=>(h2 x mx).2 (V x o)⟩,trivial⟩
  |n _=>exact h.elim
  |nil _ _=>exact h.elim
  |dead=>exact h.elim
 obtain ⟨ay,az⟩:=ZrO bn ch br
 have ag:ZI (AVR g' w') I bi/\X3 (Uk U key) I:=⟨hA.mono fun x c _ h=>(bq x c h).1,fun x mx=>by
  obtain ⟨i,ax⟩:=Aj.1 mx
  obtain ⟨c,_,ck⟩:=hA.at ax
  exact (bq x c ck).2⟩
 let ob2:Nat->Ob:=upd (Zl st1.ob (YD ks)) k (.box t I)
 have a0:Zl st.ob (ZK st (ZJ r)++(YD ks++((k,.box t I)::up)))=Zl ob2 up:=by rw [Yz,Yz];rfl
 have bs:∀j,ob2 j=if j=k then .box t I else if j∈ks then .gone else st1.ob j:=fun j=>by
  show upd (Zl st1.ob (YD ks)) k (.box t I) j=_
  unfold upd
  split
  .rfl
  .exact Ze0 ks st1.ob j
 have E:∀j,¬(key<=j/\j<hi)->Zl ob2 up j=if j=k then .box t I else if j∈ks then .gone else st1.ob j:=fun j hj=>by rw [hB.out j hj];exact bs j
 have bt:∀j,(key<=j/\j<hi)->b'∉O j++D j:=fun j hj m=>ac.1 (hmemF j hj b' m)
 have cl:HI W g' (Zl ob2 up) w':=by
  refine i1.step (U:=U) (fun j=>(key<=j/\j<hi)\/j∈ks\/j=k) bk rfl (fun x hx hq=>C.block x hx fun bu=>?_) (fun j hj=>?_) R ae af (fun j hj=>?_)
  .rcases bf x bu with rfl|⟨j,hj,mj⟩
   .exact hq k (.inr (.inr rfl)) (by simp [h2])
   .exact hq j (.inr (.inl hj)) mj
  .have j1:¬(key<=j/\j<hi):=fun h=>hj (.inl h)
   have j2:j∉ks:=fun h=>hj (.inr (.inl h))
   have j3:¬j=k:=fun h=>hj (.inr (.inr h))
   exact ⟨by rw [E j j1,if_neg j3,if_neg j2],gV j j1,(gN j j1 j2).1,(gN j j1 j2).2⟩
  .by_cases hT:key<=j/\j<hi
   .obtain ⟨e1,e2,e3⟩:=gT j hT
    obtain ⟨e,m,ys,bv,p1,p2,p3,p4,p5,_⟩:=hB.at_ j hT.1 hT.2
    rw [p1,e2,e3]
    refine ⟨⟨p2,bv,D j,?_,p4,.inl ⟨rfl,by rw [e1,e2];exact p5,e3⟩⟩,ad.1 j hT.1 yE,fun x mx=>?_,fun i a1 x mx mi=>?_⟩
    .rw [e1];exact ZiX p3 (AL _)
    .refine ⟨?_,T.own.plain x (by simp [hmemF j hT x mx])⟩
     rcases ap x (hmemF j hT x mx) with h|h
     .exact (d x (by simp [h])).1
     .exact .inl (AH hH.below.size h)
    .by_cases p:key<=i/\i<hi
     .rw [(gT i p).2.1,(gT i p).2.2]at mi
      exact ad.2 j i hT.1 yE p.1 yE a1 x mx mi
     .by_cases A:i∈ks
      .rw [(gK i A).1,(gK i A).2]at mi;simp at mi
      .rw [(gN i p A).1,(gN i p A).2]at mi
       rcases ap x (hmemF j hT x mx) with h|h
       .obtain ⟨i',cm,cn⟩:=H x h
        exact i1.apart i' i (by rintro rfl;exact A cm) x cn mi
       .have:=i1.lt i x mi;omega
   .by_cases a:j∈ks
    .obtain ⟨e2,e3⟩:=gK j a
     rw [E j hT,if_neg (fun h:j=k=>aa (h ▸ a)),if_pos a,e2,e3]
     exact ⟨⟨e2,e3⟩,yG,yG,yG⟩
    .obtain rfl:j=k:=by
      rcases hj with h|h|h
      .exact absurd h hT
      .exact absurd h a
      .exact h
     obtain ⟨e2,e3⟩:=gN j hT a
     rw [E j hT,if_pos rfl,e2,e3,h2,h3]
     refine ⟨⟨b',bi,by rw [gV j hT];exact h1,by rw [e2,h2],by rw [e3,h3],T.cell,ag.1⟩,yG,fun x mx=>?_,fun i a1 x mx mi=>?_⟩
     .simp at mx;subst mx
      exact ⟨(d x yG).1,_,_,T.cell⟩
     .simp at mx;subst mx
      by_cases p:key<=i/\i<hi
      .rw [(gT i p).2.1,(gT i p).2.2]at mi;exact bt i p mi
      .by_cases A:i∈ks
       .rw [(gK i A).1,(gK i A).2]at mi;simp at mi
       .rw [(gN i p A).1,(gN i p A).2]at mi
        exact i1.apart j i a1 x (by simp [h2]) mi
 refine ⟨cv,rfl,g',?_,ay,fun x c hx hc=>aw x c hx (hc.less i2 i3),az,fun j=>?_,fun j hj=>?_⟩
 .rw [a0];exact cl
 .rw [a0]
  by_cases hT:key<=j/\j<hi
  .obtain ⟨e,m,ys,bv,p1,_⟩:=hB.at_ j hT.1 hT.2
   rw [p1];trivial
  .rw [E j hT]
   split
   .exact ag.2
   .split
    .trivial
    .exact (R j).mono fun _=>.inl
 .have hT:¬(key<=j/\j<hi):=fun h=>hj (.inr ⟨h.1,yE⟩)
  have a:j∉ks:=fun h=>hj (.inl (ab j h))
  have bw:¬j=k:=fun h=>hj (.inl (h ▸ be))
  rw [a0,E j hT,if_neg bw,if_neg a]
  exact M j fun h=>hj (.inl h)
theorem ZqO [NW] (htt:MOk P J JF W tt) {f:FuncId}{vs:List SV}{R:List Value}{v:SV}{u:List (Nat×Ob)}(h:Zaq (SC P J JF hd) f 7 key st vs v u) (hH:HI W g st.ob w) (hU:StU U st) (ag:∀k,key<=k->k<key+16->¬U k) (ah:ZI (SVR g w) vs R) (_hvU:∀x∈vs,svU U x):
  ZaL P f/\Calls P f R.toArray w fun e w'=>∃cv,e=.returned cv/\Zvr W U key st g w v u cv w':=by
 classical
 obtain ⟨v0,r,gv,ks,l,S,rfl,hg,hl,hs,a0,a1,hn,rfl,rfl⟩:=h
 obtain ⟨hc,hC⟩:=hs
 refine ⟨hc,?_⟩
 cases R with
 |nil=>exact ah.elim
 |cons c0 cr=>
 obtain ⟨a2,a3⟩:=ah
 obtain ⟨ds,hx,us,a4,a5⟩:=ZrP hg (show ZI (SVR g w) [v0] [c0] from ⟨a2,trivial⟩)
 obtain ⟨g1,i1,i2,i3,i4⟩:=Zie st (ZJ r) hH (fun k=>.inl rfl)
 let st1:St:=⟨st.sl,Zl st.ob (ZK st (ZJ r)),st.n⟩
 have p:∀k,st1.ob k=(if k∈ZJ r then Yq (st.ob k) else st.ob k):=i4
 have ai:∀k,st1.ob k=st.ob k\/st1.ob k=Yq (st.ob k):=fun k=>by
  rw [p k];split
  .exact .inr rfl
  .exact .inl rfl
 have a6:ZY st1 r=some l:=by rw [Zc6 ai];exact hl
 have aj:=ZmL (st1:=st1) p hl
 have C:∀j,obU U (st1.ob j):=ZrE hU.ob p
 have t:∀j,¬U j->st1.ob j=.gone:=fun j hj=>by
  have e:=hU.gone j hj
  rcases ai j with h|h<;>rw [h,e]<;>rfl
 have ak:ZI (SVR g1 w) r cr:=a3.mono fun x c _ hx=>hx.less i2 i3
 have a7:∀j∈ks,j∉ZJ r:=fun j hj hm=>by
  have:=AG.1 a1 j hm
  simp [Zix,hj]at this
 have a8:Y5 st1 ds=some (gv.2,ks):=ZhK hx fun j hj=>by rw [p j,if_neg (a7 j hj)]
 have al:ZI (AVR g1 w) ds us:=a4.mono fun x c _ hx=>AVR.less hx i2 i3
 obtain ⟨am,E⟩:=Zih (st:=st1) i1 a8 al
 have K:∀j∈ks,U j:=fun j hj=>Classical.byContradiction fun hn=>by
  obtain ⟨e,m',xs,hr⟩:=E j hj
  rw [t j hn]at hr;simp at hr
 let F:=g1.F ks
 let q:Nat->Prop:=fun x=>g1.own x/\x∈F
 let z:Nat->Prop:=fun x=>g1.own x/\x∉F
 have G:(fun x=>z x\/q x)=g1.own:=funext fun x=>propext ⟨fun h=>h.elim And.left And.left,fun h=>by
  by_cases hm:x∈F
  .exact .inr ⟨h,hm⟩
  .exact .inl ⟨h,hm⟩⟩
 have B:∀x∈F,∃j∈ks,x∈g1.O j++g1.D j:=fun x mx=>ZgR mx
 have b:∀x∈F,(W.heap.size<=x\/W.x x\/W.y x)/\∃a9 e,w.heap[x]?=some (.cells a9 e (0,0)):=fun x mx=>by
  obtain ⟨j,hj,mj⟩:=B x mx
  obtain ⟨e,m',xs,hr⟩:=E j hj
  have:=i1.plain j x mj
  rw [show Zl st.ob (ZK st (ZJ r)) j=.row e m' xs 2 from hr]at this
  exact this
 have T:ZI (ZhY w fun x=>z x\/q x) l cr:=by rw [G];exact ZbZ (st:=st1) i1 a6 ak (.inr ⟨aj,fun _ h=>h⟩)
 have an:∀x,q x->∃j∈ks,x∈g1.O j:=fun x hx=>by
  obtain ⟨j,hj,mj⟩:=B x hx.2
  rcases AA.1 mj with m1|m1
  .exact ⟨j,hj,m1⟩
  .rcases hx.1 with ⟨j',ao⟩|hz
   .by_cases e:j=j'
    .subst e
     exact absurd rfl ((AP.1 (i1.nodup j)).2.2 x ao x m1)
    .exact absurd (by simp [ao]:x∈g1.O j'++g1.D j') (i1.apart j j' e x mj)
   .exact absurd hz (i1.nz mj)
 have ap:∀x,q x->W.heap.size<=x\/W.x x:=fun x hx=>by
  obtain ⟨j,_,mj⟩:=an x hx
  exact i1.oy j x mj
 refine (hC w z q [c0] cr us F (htt.at hH.below) (fun x hx=>⟨(ap x hx).elim (htt.jf x) (htt.xf x),hx.2⟩) (fun x hx=>⟨i1.ownlt hx.1,fun h=>hx.2 h.2,hx.2⟩) a5 (by rw [G];exact am) ⟨i1.nodupF a0,fun _ _=>AL _,fun x mx=>(b x mx).2⟩ T).mono ?_
 rintro e w' ⟨cv,n,rvs,F',rfl,aq,ar,ba,au,bb,V,d⟩
 have av:Bel W w':=⟨d.os.trans hH.below.os,d.tape.trans hH.below.tape,d.output.trans hH.below.output,AH hH.below.size d.size,fun i hi hx=>by
  rw [d.block i (AX hi hH.below.size) fun bc=>?_]
  .exact hH.below.block i hi hx
  .rcases ap i bc with h|h
   .omega
   .exact hx h⟩
 obtain ⟨X,O,D,hB,hA⟩:=Zh2 (l:=true) key aq (fun _=>rfl)
 generalize (ZA key S).2.2=hi at *
 generalize (ZA key S).2.1=up at *
 generalize (ZA key S).1=rxs at *
 have hle:=hB.le
 have aw:∀j,(key<=j/\j<hi)->¬U j:=fun j hj=>ag j hj.1 yE
 let g':Gh:=⟨fun j=>if key<=j/\j<hi then X j else g1.val j,fun j=>if key<=j/\j<hi then O j else if j∈ks then [] else g1.O j,fun j=>if key<=j/\j<hi then D j else if j∈ks then [] else g1.D j,g1.Z⟩
 have gT:∀j,(key<=j/\j<hi)->g'.val j=X j/\g'.O j=O j/\g'.D j=D j:=fun j hj=>⟨if_pos hj,if_pos hj,if_pos hj⟩
 have gK:∀j∈ks,g'.O j=[]/\g'.D j=[]:=fun j hj=>by
  have hn:¬(key<=j/\j<hi):=fun h=>aw j h (K j hj)
  exact ⟨by simp only[g',if_neg hn,if_pos hj],by simp only[g',if_neg hn,if_pos hj]⟩
 have gV:∀j,¬(key<=j/\j<hi)->g'.val j=g1.val j:=fun j hj=>if_neg hj
 have gN:∀j,¬(key<=j/\j<hi)->j∉ks->g'.O j=g1.O j/\g'.D j=g1.D j:=fun j hj hk=>⟨by simp only[g',if_neg hj,if_neg hk],by simp only[g',if_neg hj,if_neg hk]⟩
 have hmemF:∀j,(key<=j/\j<hi)->∀x∈O j++D j,x∈F':=fun j hj x mx=>by
  rw [hB.foot]
  exact AS.2 ⟨j,AN.2 ⟨hj.1,yE⟩,mx⟩
 have M:=Zgr (hB.foot ▸ ar.nodup)
 have N:∀j,U j->g'.val j=g1.val j:=fun j hj=>gV j fun h=>aw j h hj
 have Y:∀x∈F,g1.low x:=fun x mx=>by
  obtain ⟨j,_,mj⟩:=B x mx
  rcases AA.1 mj with m1|m1
  .exact .inl (.inl ⟨j,m1⟩)
  .exact .inr ⟨j,m1⟩
 have ax:∀j,(key<=j/\j<hi)->∀x∈O j,n x:=fun j hj x mx=>by
  obtain ⟨_,_,_,_,_,_,_,_,_,p6⟩:=hB.at_ j hj.1 hj.2
  exact p6 x mx
 have aa:∀x,g'.own x->g1.own x\/w.heap.size<=x:=fun x hx=>by
  rcases hx with ⟨j,mj⟩|hz
  .by_cases hj:key<=j/\j<hi
   .rw [(gT j hj).2.1]at mj
    rcases bb x (ax j hj x mj) with h|h|h
    .exact .inl h.1
    .exact .inl h.1
    .exact .inr h
   .by_cases a:j∈ks
    .rw [(gK j a).1]at mj;simp at mj
    .rw [(gN j hj a).1]at mj;exact .inl (.inl ⟨j,mj⟩)
  .exact .inl (.inr hz)
 have Q:Qw g1 g' w.heap.size:=.of aa fun j x mj=>by
  by_cases hj:key<=j/\j<hi
  .rw [(gT j hj).2.2]at mj
   exact (V x (hmemF j hj x (by simp [mj]))).imp (Y x) id
  .by_cases a:j∈ks
   .rw [(gK j a).2]at mj;simp at mj
   .rw [(gN j hj a).2]at mj;exact .inl (.inr ⟨j,mj⟩)
 have bd:∀x,x<w.heap.size->¬g1.own x->w'.heap[x]?=w.heap[x]?:=fun x hx be=>d.block x hx fun hq=>be hq.1
 have ab:∀x c,svU U x->SVR g1 w x c->SVR g' w' x c:=fun x c hx hc=>hc.move hx N bd Q d.size
 have ac:∀x,g'.own x->n x:=fun x hx=>by
  rcases hx with ⟨j,mj⟩|hz
  .by_cases hj:key<=j/\j<hi
   .rw [(gT j hj).2.1]at mj;exact ax j hj x mj
   .by_cases a:j∈ks
    .rw [(gK j a).1]at mj;simp at mj
    .rw [(gN j hj a).1]at mj
     refine au x ⟨.inl ⟨j,mj⟩,fun m=>?_⟩
     obtain ⟨i,bf,mi⟩:=B x m
     exact i1.apart i j (fun h=>a (h ▸ bf)) x mi (by simp [mj])
  .refine au x ⟨.inr hz,fun m=>?_⟩
   obtain ⟨i,_,mi⟩:=B x m
   exact i1.nz mi hz
 have bg:∀x c,CR X w' n true key hi x c->AVR g' w' x c/\avU (Uk U key) x:=fun x c h=>by
  cases x with
  |row j=>
   obtain ⟨c1,c2,c3,c4⟩:=h
   exact ⟨⟨by rw [(gT j ⟨c1,c2⟩).1];exact c3,c4⟩,.inr ⟨c1,yE⟩⟩
  |c y=>
   obtain ⟨L,h1,h2⟩:=h
   exact ⟨⟨L,h1,fun x mx o=>(h2 x mx).2 (ac x o)⟩,trivial⟩
  |n _=>exact h.elim
  |nil _ _=>exact h.elim
  |dead=>exact h.elim
 obtain ⟨ad,ae⟩:=ZrO hA ba bg
 have af:Zl st.ob (ZK st (ZJ r)++(YD ks++up))=Zl (Zl st1.ob (YD ks)) up:=by rw [Yz,Yz]
 have A:∀j,¬(key<=j/\j<hi)->Zl (Zl st1.ob (YD ks)) up j=if j∈ks then .gone else st1.ob j:=fun j hj=>by rw [hB.out j hj];exact Ze0 ks st1.ob j
 have bh:HI W g' (Zl (Zl st1.ob (YD ks)) up) w':=by
  refine i1.step (U:=U) (fun j=>(key<=j/\j<hi)\/j∈ks) av rfl (fun x hx hq=>d.block x hx fun ay=>?_) (fun j hj=>?_) C N Q (fun j hj=>?_)
  .obtain ⟨j,hj,mj⟩:=an x ay
   exact hq j (.inr hj) mj
  .have j1:¬(key<=j/\j<hi):=fun h=>hj (.inl h)
   have j2:j∉ks:=fun h=>hj (.inr h)
   exact ⟨by rw [A j j1,if_neg j2],gV j j1,(gN j j1 j2).1,(gN j j1 j2).2⟩
  .by_cases hT:key<=j/\j<hi
   .obtain ⟨e1,e2,e3⟩:=gT j hT
    obtain ⟨e,m,ys,az,p1,p2,p3,p4,p5,_⟩:=hB.at_ j hT.1 hT.2
    rw [p1,e2,e3]
    refine ⟨⟨p2,az,D j,?_,p4,.inl ⟨rfl,by rw [e1,e2];exact p5,e3⟩⟩,M.1 j hT.1 yE,fun x mx=>?_,fun i bi x mx mi=>?_⟩
    .rw [e1];exact ZiX p3 (AL _)
    .refine ⟨?_,ar.plain x (hmemF j hT x mx)⟩
     rcases V x (hmemF j hT x mx) with h|h
     .exact (b x h).1
     .exact .inl (AH hH.below.size h)
    .by_cases H:key<=i/\i<hi
     .rw [(gT i H).2.1,(gT i H).2.2]at mi
      exact M.2 j i hT.1 yE H.1 yE bi x mx mi
     .by_cases I:i∈ks
      .rw [(gK i I).1,(gK i I).2]at mi;simp at mi
      .rw [(gN i H I).1,(gN i H I).2]at mi
       rcases V x (hmemF j hT x mx) with h|h
       .obtain ⟨i',bj,bk⟩:=B x h
        exact i1.apart i' i (by rintro rfl;exact I bj) x bk mi
       .have:=i1.lt i x mi;omega
   .have a:j∈ks:=hj.resolve_left hT
    obtain ⟨e2,e3⟩:=gK j a
    rw [A j hT,if_pos a,e2,e3]
    exact ⟨⟨e2,e3⟩,yG,yG,yG⟩
 refine ⟨cv,rfl,g',?_,ad,fun x c hx hc=>ab x c hx (hc.less i2 i3),ae,fun j=>?_,fun j hj=>?_⟩
 .rw [af];exact bh
 .rw [af]
  by_cases hT:key<=j/\j<hi
  .obtain ⟨e,m,ys,az,p1,_⟩:=hB.at_ j hT.1 hT.2
   rw [p1];trivial
  .rw [A j hT]
   split
   .trivial
   .exact (C j).mono fun _=>.inl
 .have hT:¬(key<=j/\j<hi):=fun h=>hj (.inr ⟨h.1,yE⟩)
  have a:j∉ks:=fun h=>hj (.inl (K j h))
  rw [af,A j hT,if_neg a]
  exact t j fun h=>hj (.inl h)
theorem Zg2 [NW] (htt:MOk P J JF W tt) {f:FuncId}{n:Nat}{vs:List SV}{I:List Value}{v:SV}{u:List (Nat×Ob)}(h:Zaq (SC P J JF hd) f n key st vs v u) (hH:HI W g st.ob w) (hU:StU U st) (B:∀k,key<=k->k<key+16->¬U k) (E:ZI (SVR g w) vs I) (R:∀x∈vs,svU U x):
  ZaL P f/\Calls P f I.toArray w fun e w'=>∃cv,e=.returned cv/\Zvr W U key st g w v u cv w':=by
 unfold Zaq at h
 split at h
 .exact Zjf htt (f:=f) (vs:=vs) h hH hU B E R
 .obtain ⟨v0,r,k,hh,l,N,h',rfl,hk,hl,hs,a0,hn,rfl,rfl⟩:=h
  obtain ⟨hc,hC⟩:=hs
  refine ⟨hc,?_⟩
  cases I with
  |nil=>exact E.elim
  |cons c0 cr=>
  obtain ⟨a1,a2⟩:=E
  obtain ⟨g1,i1,i2,i3,i4⟩:=Zie st (ZJ r) hH (fun k=>.inl rfl)
  let st1:St:=⟨st.sl,Zl st.ob (ZK st (ZJ r)),st.n⟩
  have a:∀k,st1.ob k=(if k∈ZJ r then Yq (st.ob k) else st.ob k):=i4
  have F:∀k,st1.ob k=st.ob k\/st1.ob k=Yq (st.ob k):=fun k=>by
   rw [a k];split
   .exact .inr rfl
   .exact .inl rfl
  have S:ZY st1 r=some l:=by rw [Zc6 F];exact hl
  have G:=ZmL (st1:=st1) a hl
  have a3:k∉ZJ r:=fun hm=>by
   have:=AG.1 a0 k hm
   simp at this
  have ap:st1.ob k=st.ob k:=by rw [a k,if_neg a3]
  have a4:st.ob k≠.gone->U k:=fun hg=>Classical.byContradiction fun hn=>hg (hU.gone k hn)
  have A:∀j,obU U (st1.ob j):=ZrE hU.ob a
  have z:∀j,¬U j->st1.ob j=.gone:=fun j hj=>by
   have e:=hU.gone j hj
   rcases F j with h|h<;>rw [h,e]<;>rfl
  have ag:SVR g1 w v0 c0:=a1.less i2 i3
  have aq:ZI (SVR g1 w) r cr:=a2.mono fun x c _ hx=>hx.less i2 i3
  have aj:∃q:Option Nat,ZpK w (inQ (fun b=>g1.own b/\¬q=some b) q) q hh c0/\g1.O k=q.toList/\g1.D k=[]/\c0=g1.val k/\st.ob k≠.gone:=by
   unfold Zgk at hk
   split at hk
   .rename_i k'
    split at hk
    .rename_i t cs K
     split at hk
     .rename_i a5
      obtain ⟨l',a6,e⟩:=A4.1 hk
      simp only[A5]at e
      obtain ⟨rfl,rfl⟩:=e
      have ho:=i1.obs k'
      rw [show Zl st.ob (ZK st (ZJ r)) k'=.box t cs from ap.trans K]at ho
      obtain ⟨b,vs,h1,h2,h3,h4,h5⟩:=ho
      obtain ⟨b',h6,h7⟩:=ag
      have hb:b'=b:=by rw [h6]at h1;simpa using h1
      subst hb
      have ar:Xc st1 cs=some l':=by
       have:=ZpH F (.p true cs)
       simp only[ZdU,a6]at this
       obtain ⟨x,hx,Q⟩:=A4.1 this
       simp only[A5,true_and]at Q
       rw [hx,Q]
      obtain ⟨L,hL,a7⟩:=ZfH (st:=st1) i1 ar h5
      refine ⟨some b',⟨b',vs,L,rfl,h7,h4,hL,fun x mx hx=>?_⟩,by simp [h2],h3,by rw [h7,h6],by rw [K];simp⟩
      refine a7 (fun y my=>?_) x mx ?_
      .have:=AG.1 a5 y my
       cases y<;>simp [ZbA]at this<;>trivial
      .rcases hx with hx|hx
       .exact hx.1
       .simp only[A0]at hx
        subst hx
        exact .inl ⟨k',by simp [h2]⟩
     .simp at hk
    .simp at hk
   .rename_i k'
    split at hk
    .rename_i e m xs d K
     split at hk
     .rename_i au
      simp only[A0,A5]at hk
      obtain ⟨rfl,rfl⟩:=hk
      have ho:=i1.obs k'
      rw [show Zl st.ob (ZK st (ZJ r)) k'=.row e m xs d from ap.trans K]at ho
      obtain ⟨hm,cs,L,h1,h2,h3⟩:=ho
      obtain rfl:=Zhr h2 au.2
      obtain ⟨x,av,Q⟩:=ag
      simp only[AQ,and_true]at av
      subst av
      rcases h3 with ⟨_,h3,h4⟩|⟨h3,_⟩|⟨h3,_⟩
      .exact ⟨(g1.val k').ownBlock,⟨au.2,hm,by rw [Q.1],cs,by rw [Q.1];exact h1,h2⟩,h3,h4,Q.1,by rw [K];simp⟩
      .omega
      .omega
     .simp at hk
    .simp at hk
   .simp at hk
  obtain ⟨q,a8,H,Y,ak,a9⟩:=aj
  have al:=a4 a9
  have ba:∀b,q=some b->g1.own b:=fun b hb=>.inl ⟨k,by simp [H,hb]⟩
  have aw:∀b,g1.own b->inQ (fun b=>g1.own b/\¬q=some b) q b:=fun b hb=>by
   by_cases aa:q=some b
   .exact .inr aa
   .exact .inl ⟨hb,aa⟩
  have am:ZI (ZhY w (inQ (fun b=>g1.own b/\¬q=some b) q)) l cr:=ZbZ (st:=st1) i1 S aq (.inr ⟨G,fun b hb=>by
   rcases hb with hb|hb
   .exact hb.1
   .exact ba b hb⟩)
  have bb:∀b,q=some b->JF b:=fun b hb=>by
   rcases i1.oy k b (by simp [H,hb]) with h|h
   .exact htt.jf b h
   .exact htt.xf b h
  refine (hC w _ q c0 cr (htt.at hH.below) bb (fun b hb=>⟨i1.ownlt hb.1,hb.2⟩) a8 am).mono ?_
  rintro e w' ⟨cv,n,rfl,hr,hz,ab,M⟩
  have C:Bel W w':=⟨M.os.trans hH.below.os,M.tape.trans hH.below.tape,M.output.trans hH.below.output,AH hH.below.size M.size,fun i hi hx=>by
   rw [M.block i (AX hi hH.below.size) fun bc=>?_]
   .exact hH.below.block i hi hx
   .rcases i1.oy k i (by simp [H,bc]) with h|h
    .omega
    .exact hx h⟩
  obtain ⟨g',t1,t2,t3,t4,t5,t6⟩:=Zh3 i1 A z B hr hn (fun j=>j=k) (fun j hj=>by rw [hj];exact al) (fun _=>YT h') (fun _ b hb=>hz b (aw b hb)) C M.size
   (fun b hb bd=>M.block b hb fun aa=>bd k rfl (by simp [H,aa]))
   (fun j _=>by
    cases h' with
    |row e m xs=>trivial
    |box t cs=>intro y my;simp only[AB]at my;obtain ⟨x,_,rfl⟩:=my;trivial)
   (fun g' ho be j hj=>by
    subst hj
    obtain ⟨e1,e2,e3⟩:=be j rfl
    have an:∀b,¬n b->¬g'.own b:=fun b ac K=>by
     rcases ho b K with h|h
     .exact ac (hz b (aw b h))
     .exact ac h.2.2
    cases h' with
    |row e m xs=>
     obtain ⟨p1,p2,p3,cs,p4,p5⟩:=ab
     refine ⟨⟨p2,cs,[],by rw [e1,<-ak];exact p4,p5,.inl ⟨rfl,by rw [e2,H,e1,<-ak,p3],by rw [e3,Y]⟩⟩,fun b mb=>?_⟩
     rw [H,Y]at mb
     simp at mb
     rcases p4.2 with ⟨h0,_⟩|⟨gg,o,cap,cur,hv,_,bf,_⟩
     .rw [h0]at p3;simp [Value.ownBlock]at p3;rw [<-p3]at mb;simp at mb
     .rw [hv]at p3;simp only[Value.ownBlock]at p3;rw [mb]at p3;simp at p3;subst p3;exact ⟨_,_,bf⟩
    |box t cs=>
     obtain ⟨b,vs,L,p1,p2,p3,p4,p5⟩:=ab
     refine ⟨⟨b,vs,by rw [e1,<-ak];exact p2,by rw [e2,H,p1];rfl,by rw [e3,Y],p3,p4.avr fun x mx=>an x (p5 x mx)⟩,fun x mx=>?_⟩
     rw [H,Y,p1]at mx
     simp at mx
     subst mx
     exact ⟨_,_,p3⟩)
  have T:Zl st.ob (ZK st (ZJ r)++((k,YT h')::(ZA key N).2.1))=Zl (upd (Zl st.ob (ZK st (ZJ r))) k (YT h')) (ZA key N).2.1:=by rw [Yz];rfl
  have ao:=ZFV (k:=k) (inst:=fun j=>Classical.propDecidable (j=k)) (Zl st.ob (ZK st (ZJ r))) (YT h')
  have ax:HI W g' (Zl (upd (Zl st.ob (ZK st (ZJ r))) k (YT h')) (ZA key N).2.1) w':=ao ▸ t1
  have ay:∀j,obU (Uk U key) (Zl (upd (Zl st.ob (ZK st (ZJ r))) k (YT h')) (ZA key N).2.1 j):=ao ▸ t5
  have az:∀j,¬Uk U key j->Zl (upd (Zl st.ob (ZK st (ZJ r))) k (YT h')) (ZA key N).2.1 j=.gone:=ao ▸ t6
  rw [<-T]at ax ay az
  exact ⟨cv,rfl,g',ax,t2,fun x c hx hc=>t3 x c hx (hc.less i2 i3),t4,ay,az⟩
 .obtain ⟨l,nb,hl,hs,rfl,rfl⟩:=h
  obtain ⟨hc,hC⟩:=hs
  refine ⟨hc,?_⟩
  obtain ⟨g1,i1,i2,i3,i4⟩:=Zie st (ZJ vs) hH (fun k=>.inl rfl)
  let st1:St:=⟨st.sl,Zl st.ob (ZK st (ZJ vs)),st.n⟩
  have a:∀k,st1.ob k=(if k∈ZJ vs then Yq (st.ob k) else st.ob k):=i4
  have F:∀k,st1.ob k=st.ob k\/st1.ob k=Yq (st.ob k):=fun k=>by
   rw [a k];split
   .exact .inr rfl
   .exact .inl rfl
  have S:ZY st1 vs=some l:=by rw [Zc6 F];exact hl
  have G:=ZmL (st1:=st1) a hl
  have A:∀j,obU U (st1.ob j):=ZrE hU.ob a
  have z:∀j,¬U j->st1.ob j=.gone:=fun j hj=>by
   have e:=hU.gone j hj
   rcases F j with h|h<;>rw [h,e]<;>rfl
  have V:ZI (SVR g1 w) vs I:=E.mono fun x c _ hx=>hx.less i2 i3
  refine (hC w g1.own I (htt.at hH.below) (fun b hb=>i1.ownlt hb) (ZbZ (st:=st1) i1 S V (.inr ⟨G,fun _ h=>h⟩))).mono ?_
  rintro e w' ⟨b,n,rfl,hb,ad,ac,hz,C⟩
  have al:¬U key:=B key (AC _) yE
  let g':Gh:=⟨fun k=>if k=key then Zpk b nb else g1.val k,fun k=>if k=key then [b] else g1.O k,fun k=>if k=key then [] else g1.D k,g1.Z⟩
  have ah:∀k,U k->g'.val k=g1.val k:=fun k hk=>if_neg fun (e:k=key)=>al (e ▸ hk)
  have X:∀x,g'.own x->g1.own x\/x=b:=fun x hx=>by
   rcases hx with ⟨k,mk⟩|hx
   .simp only[g']at mk
    split at mk
    .exact .inr (by simpa using mk)
    .exact .inl (.inl ⟨k,mk⟩)
   .exact .inl (.inr hx)
  have ai:Qw g1 g' w.heap.size:=.of (fun x hx=>(X x hx).imp id fun (e:x=b)=>by rw [e];exact hb) fun j x mx=>by
   simp only[g']at mx
   split at mx
   .simp at mx
   .exact .inl (.inr ⟨j,mx⟩)
  have an:∀x,¬n x->¬g'.own x:=fun x mx hx=>mx (by
   rcases X x hx with h|h
   .exact hz x h
   .rw [h];exact ac)
  have T:Zl st.ob (ZK st (ZJ vs)++[(key,Zyw nb)])=upd (Zl st.ob (ZK st (ZJ vs))) key (Zyw nb):=by rw [Yz];rfl
  have ae:g'.val key=Zpk b nb:=if_pos rfl
  have af:Xp w' (Zyw nb) b:=by
   cases nb with
   |box t cs=>obtain ⟨us,L,p1,_⟩:=ad;exact ⟨_,_,p1⟩
   |map kk vk kv=>obtain ⟨es,c,p1,_⟩:=ad;exact ⟨_,_,p1⟩
  refine ⟨_,rfl,g',?_,?_,fun x c hx hc=>(hc.less i2 i3).move hx ah (fun b hb _=>C.block b hb) ai C.size,?_,fun k=>?_,fun k hk=>?_⟩
  .rw [T]
   refine i1.step (U:=U) (fun k=>k=key) (hH.below.trans C) rfl (fun b hb _=>C.block b hb) (fun k hk=>⟨ZO _ _ hk,if_neg hk,if_neg hk,if_neg hk⟩) A ah ai (fun k hk=>?_)
   subst hk
   have e1:g'.O k=[b]:=if_pos rfl
   have e2:g'.D k=[]:=if_pos rfl
   rw [ZF,e1,e2]
   refine ⟨?_,yG,fun x mx=>?_,fun j hj x mx mj=>?_⟩
   .cases nb with
    |box t cs=>obtain ⟨us,L,p1,p2,p3⟩:=ad;exact ⟨b,us,ae,e1,e2,p1,p2.avr fun x mx=>an x (p3 x mx)⟩
    |map kk vk kv=>obtain ⟨es,c,p1,p2⟩:=ad;exact ⟨b,es,c,ae,e1,e2,p1,p2⟩
   .simp at mx;subst mx;exact ⟨.inl (AH hH.below.size hb),af⟩
   .simp at mx;subst mx
    have e3:g'.O j=g1.O j:=if_neg fun e=>hj e.symm
    have e4:g'.D j=g1.D j:=if_neg fun e=>hj e.symm
    rw [e3,e4]at mj
    have:=i1.lt j x mj
    omega
  .cases nb with
   |box t cs=>exact ⟨b,ae,rfl⟩
   |map kk vk kv=>exact ⟨.row key,rfl,ae.symm,rfl⟩
  .cases nb with
   |box t cs=>exact .inr ⟨AC _,yE⟩
   |map kk vk kv=>intro y my;simp at my;subst my;exact .inr ⟨AC _,yE⟩
  .rw [T]
   by_cases hk:k=key
   .subst hk;rw [ZF]
    cases nb with
    |box t cs=>intro y my;simp only[AB]at my;obtain ⟨x,_,rfl⟩:=my;trivial
    |map kk vk kv=>trivial
   .rw [ZO _ _ hk];exact (A k).mono fun _=>.inl
  .have bg:¬k=key:=fun e=>hk (.inr ⟨yE,yE⟩)
   rw [T,ZO _ _ bg]
   exact z k fun h=>hk (.inl h)
 .exact Zjf htt (f:=f) (vs:=vs.map nlS) h hH hU B (ZvO E) (fun x hx=>by
   obtain ⟨y,my,rfl⟩:=AB.1 hx
   exact ZAl (R y my))
 .exact ZjT htt (f:=f) 0 (vs:=vs) h hH hU B E R
 .exact ZjT htt (f:=f) 1 (vs:=vs) h hH hU B E R
 .exact ZqO htt (f:=f) (vs:=vs) h hH hU B E R
 .obtain ⟨l,N,hl,hs,hn,rfl,rfl⟩:=h
  obtain ⟨hc,hC⟩:=hs
  refine ⟨hc,?_⟩
  obtain ⟨g1,i1,i2,i3,i4⟩:=Zie st (ZJ vs) hH (fun k=>.inl rfl)
  let st1:St:=⟨st.sl,Zl st.ob (ZK st (ZJ vs)),st.n⟩
  have a:∀k,st1.ob k=(if k∈ZJ vs then Yq (st.ob k) else st.ob k):=i4
  have F:∀k,st1.ob k=st.ob k\/st1.ob k=Yq (st.ob k):=fun k=>by
   rw [a k];split
   .exact .inr rfl
   .exact .inl rfl
  have S:ZY st1 vs=some l:=by rw [Zc6 F];exact hl
  have G:=ZmL (st1:=st1) a hl
  have A:∀j,obU U (st1.ob j):=ZrE hU.ob a
  have z:∀j,¬U j->st1.ob j=.gone:=fun j hj=>by
   have e:=hU.gone j hj
   rcases F j with h|h<;>rw [h,e]<;>rfl
  have V:ZI (SVR g1 w) vs I:=E.mono fun x c _ hx=>hx.less i2 i3
  refine (hC w g1.own I (htt.at hH.below) (fun b hb=>i1.ownlt hb) (ZbZ (st:=st1) i1 S V (.inr ⟨G,fun _ h=>h⟩))).mono ?_
  rintro e w' ⟨cv,n,rfl,hr,hz,hb⟩
  obtain ⟨g',t1,t2,t3,t4,t5,t6⟩:=Zh3 i1 A z B hr hn (fun _=>False) (fun _ h=>h.elim) (fun _=>.gone) (fun _ b hb=>hz b hb) (hH.below.trans hb) hb.size (fun b ab _=>hb.block b ab) (fun _ h=>h.elim) (fun _ _ _ _ h=>h.elim)
  simp only[if_false,<-Yz]at t1 t5 t6
  exact ⟨cv,rfl,g',t1,t2,fun x c hx hc=>t3 x c hx (hc.less i2 i3),t4,t5,t6⟩
end
end
section
open Go.RowKit
section
variable {P:Program} {J:World->Prop} {JF:Nat->Prop} {W:QO} {U:Nat->Prop} {key:Nat} {st:St} {w w':World} {a:Act} {tt:Nat->Option TI} {hs:FuncId->Nat} {Q:Exit->Act->World->Prop}
theorem Zdy (a:Act) (d:Option Nat) (v:Value):(a.put d v).tmps.size=a.tmps.size:=by cases d<;>simp [Act.put]
theorem ZgC [NW] {g g':Gh}{d:Option Nat}{v:SV}{u:List (Nat×Ob)}{cv:Value}(hS:∀t,SVR g w (st.sl t) (a.tmps.getD t undef)) (hU:StU U st) (b:a.defers=[]) (hh:∀v,W.hv=some v->a.tmps.getD 0 undef=v) (hd:∀t,d=some t->t<a.tmps.size/\(W.hv=none\/t≠0))
  (h1:HI W g' (Zl st.ob u) w') (h2:SVR g' w' v cv) (h3:∀x c,svU U x->SVR g w x c->SVR g' w' x c) (h4:svU (Uk U key) v) (h5:∀k,obU (Uk U key) (Zl st.ob u k)) (h6:∀k,¬Uk U key k->Zl st.ob u k=.gone):
  Inv W (Uk U key) ((st.put d v).app u) (a.put d cv) w':=by
 cases d with
 |none=>
  refine ⟨⟨g',h1,fun t=>h3 _ _ (hU.sl t) (hS t)⟩,⟨fun t=>(hU.sl t).mono fun _=>.inl,h5,h6⟩,b,hh⟩
 |some d=>
  have f:=(hd d rfl).1
  refine ⟨⟨g',h1,fun t=>?_⟩,⟨fun t=>?_,h5,h6⟩,b,fun u hu=>?_⟩
  .show SVR g' w' (upd st.sl d v t) ((a.tmps.setIfInBounds d cv).getD t undef)
   by_cases ht:t=d
   .subst ht
    rw [ZF]
    simpa [AE,Ak,f]using h2
   .rw [ZO _ _ ht]
    have:(a.tmps.setIfInBounds d cv).getD t undef=a.tmps.getD t undef:=by
     simp [AE,Aa (fun e:d=t=>ht e.symm)]
    rw [this]
    exact h3 _ _ (hU.sl t) (hS t)
  .show svU (Uk U key) (upd st.sl d v t)
   by_cases ht:t=d
   .subst ht;rw [ZF];exact h4
   .rw [ZO _ _ ht];exact (hU.sl t).mono fun _=>.inl
  .show (a.tmps.setIfInBounds d cv).getD 0 undef=u
   have i:d≠0:=by
    rcases (hd d rfl).2 with h|h
    .rw [h]at hu;simp at hu
    .exact h
   rw [<-hh u hu]
   simp [AE,Aa i]
theorem Zs0 [NW] {g:Gh}{x:SV}{v:Value}{fc:FuncId×List CT}(a:ZpY x=some fc) (hs:SVR g w x v):∃cs:List Value,v=.func (.func fc.1) #[] cs.toArray/\ZI (SVR g w) (fc.2.map ZlB) cs:=by
 unfold ZpY at a
 split at a
 .rename_i f es
  simp only[A0]at a
  subst a
  obtain ⟨y,hy,hs⟩:=hs
  simp at hy;subst hy
  obtain ⟨L,⟨vs,h1,h2⟩,h3⟩:=hs
  refine ⟨vs,h1,?_⟩
  have:=h2.avr (g:=g) h3
  have b:∀(es:List CT) (vs:List Value),ZI (AVR g w) (es.map AV.c) vs->ZI (SVR g w) (es.map ZlB) vs:=by
   intro es
   induction es with
   |nil=>intro vs h;cases vs with
    |nil=>trivial
    |cons _ _=>exact h.elim
   |cons e es ih=>intro vs h;cases vs with
    |nil=>exact h.elim
    |cons v vs=>exact ⟨⟨_,rfl,h.1⟩,ih vs h.2⟩
  exact b _ _ this
 .rename_i f
  simp only[A0]at a
  subst a
  exact ⟨[],hs,trivial⟩
 .simp at a
theorem ZpT [NW] (htt:MOk P J JF W tt) {o:Oper}{K:St->Prop}(h:opS tt (SC P J JF hs) key o K st) (hI:Inv W U st a w) (hkey:∀k,key<=k->k<key+16->¬U k) (hd:∀t,o.dst=some t->t<a.tmps.size/\(W.hv=none\/t≠0)):
  o.wp P a w (fun a' w'=>∃st',Inv W (Uk U key) st' a' w'/\a'.tmps.size=a.tmps.size/\K st') Q:=by
 obtain ⟨⟨g,hH,hS⟩,hU,hdef,hh⟩:=hI
 have evals:∀(args:Array Operand) (ts:Array TypeId),ZI (SVR g w) (evs tt st ts.toList args.toList) (args.toList.map a.eval)/\∀x∈evs tt st ts.toList args.toList,svU U x:=fun args ts=>by
  have he:args.toList.map a.eval=(Zjj ts.toList args.toList).map fun p=>a.eval p.2:=by
   have:=congrArg (List.map a.eval) (ZfU ts.toList args.toList)
   rw [<-this,Aq];rfl
  refine ⟨?_,fun x mx=>?_⟩
  .rw [he]
   exact ZI.of_map _ _ fun p _=>(Zlm htt.tt hS hU p.1 p.2).1
  .obtain ⟨p,_,rfl⟩:=AB.1 mx
   exact (Zlm htt.tt hS hU p.1 p.2).2
 have arm:∀(f:FuncId) (n:Nat) (vs:List SV) (cvs:List Value),spK (SC P J JF hs) f n key o.dst K st vs->ZI (SVR g w) vs cvs->(∀x∈vs,svU U x)->(ZaL P f->(execOp a.eval o).run P w=.ok (.enter f cvs.toArray) w)->
   o.wp P a w (fun a' w'=>∃st',Inv W (Uk U key) st' a' w'/\a'.tmps.size=a.tmps.size/\K st') Q:=fun f n vs cvs h hargs hargU hrun=>by
  obtain ⟨v,u,hr,hK⟩:=Zmf.1 h
  obtain ⟨hc,hcall⟩:=Zg2 htt hr hH hU hkey hargs hargU
  unfold Oper.wp
  rw [hrun hc,Oper.upon_enter]
  refine hcall.mono ?_
  rintro e w' ⟨cv,rfl,g',t1,t2,t3,t4,t5,t6⟩
  exact ⟨_,ZgC hS hU hdef hh hd t1 t2 t3 t4 t5 t6,Zdy _ _ _,hK⟩
 unfold opS at h
 split at h
 .rename_i c hc
  obtain ⟨f,l1,l2⟩:=c
  have hop:∃args ts,o.op=.call ⟨.value (.func f),args,ts⟩/\l1=ts.toList/\l2=args.toList:=by
   unfold Xd at hc
   split at hc
   .rename_i f' args ts he
    simp only[A0,A5]at hc
    obtain ⟨rfl,rfl,rfl⟩:=hc
    exact ⟨args,ts,he,rfl,rfl⟩
   .simp at hc
  obtain ⟨args,ts,hop,rfl,rfl⟩:=hop
  refine arm f _ _ _ h (evals args ts).1 (evals args ts).2 ?_
  rintro ⟨fn,f1,f2,f3⟩
  have f2' : ¬ fn.name = "runtime.NumGoroutine" := by simpa using f2
  have f3':¬fn.body=none:=fun e=>by rw [e]at f3;simp at f3
  have e1:(args.toList.map a.eval).toArray=args.map a.eval:=by
   apply Ag
   simp
  rw [e1]
  simp [execOp,hop,resolve,Act.eval,Deferred.ofValue,invoke,callFunc,program,Sem.run,f1,f2',f3']
 .split at h
  .rename_i c hc
   obtain ⟨s,l1,l2⟩:=c
   have hop:∃args ts,o.op=.call ⟨.value (.tmp s),args,ts⟩/\l1=ts.toList/\l2=args.toList:=by
    unfold XD at hc
    split at hc
    .rename_i s' args ts he
     simp only[A0,A5]at hc
     obtain ⟨rfl,rfl,rfl⟩:=hc
     exact ⟨args,ts,he,rfl,rfl⟩
    .simp at hc
   obtain ⟨args,ts,hop,rfl,rfl⟩:=hop
   unfold YA at h
   split at h
   .rename_i fc hfc
    obtain ⟨_,h⟩:=h
    have hval:=Zs0 hfc (hS s)
    obtain ⟨cs,hv',hcs⟩:=hval
    have hv:a.eval (.tmp s)=.func (.func fc.1) #[] cs.toArray:=hv'
    refine arm fc.1 0 _ (args.toList.map a.eval++cs) h ((evals args ts).1.append hcs) (fun x mx=>?_) ?_
    .rcases AA.1 mx with m|m
     .exact (evals args ts).2 x m
     .obtain ⟨c,_,rfl⟩:=AB.1 m
      exact XZ _
    .rintro ⟨fn,f1,f2,f3⟩
     have f2' : ¬ fn.name = "runtime.NumGoroutine" := by simpa using f2
     have f3':¬fn.body=none:=fun e=>by rw [e]at f3;simp at f3
     have e1:(args.toList.map a.eval++cs).toArray=args.map a.eval++cs.toArray:=by
      apply Ag
      simp
     rw [e1]
     simp [execOp,hop,resolve,hv,Deferred.ofValue,invoke,callFunc,program,Sem.run,f1,f2',f3']
   .exact h.elim
  .unfold YA at h
   split at h
   .rename_i r hr
    obtain ⟨g',cv,w',hrun,t1,t2,t3,t4,t5,t6⟩:=Zqd (P:=P) (W:=W) (a:=a) htt.tt o hr hH hS hU (hkey key (AC _) yE)
    unfold Oper.wp
    rcases hrun with hrun|⟨hrun,rfl⟩
    .rw [hrun]
     exact ⟨_,ZgC hS hU hdef hh hd t1 t2 t3 t4 t5 t6,Zdy _ _ _,h⟩
    .rw [hrun]
     exact ⟨_,ZgC hS hU hdef hh hd t1 t2 t3 t4 t5 t6,Zdy _ _ _,h⟩
   .exact h.elim
theorem Zvq [NW] (hI:Inv W U st a w) (d:Option Nat) (hd:∀t,d=some t->t<a.tmps.size/\(W.hv=none\/t≠0)):Inv W (Uk U key) (st.put d .und) (a.put d undef) w:=by
 obtain ⟨⟨g,hH,hS⟩,hU,b,hh⟩:=hI
 exact ZgC (u:=[]) (key:=key) hS hU b hh hd hH rfl (fun _ _ _ h=>h) trivial (fun k=>(hU.ob k).mono fun _=>.inl) (fun k hk=>hU.gone k fun h=>hk (.inl h))
theorem Zpi [NW] (htt:MOk P J JF W tt) {d:Array Oper}{i:Nat}{o:Oper}{K:St->Prop}(ho:d[i]?=some o) (h:opG tt (SC P J JF hs) d.toList key o K st) (hI:Inv W U st a w) (u:∀k,key<=k->k<key+16->¬U k) (hd:∀t,o.dst=some t->t<a.tmps.size/\(W.hv=none\/t≠0)):
  wpOp P d Q i (fun a' w'=>∃st',Inv W (Uk U key) st' a' w'/\a'.tmps.size=a.tmps.size/\K st') a w:=by
 have skip:K (st.put o.dst .und)->∃st',Inv W (Uk U key) st' (a.put o.dst undef) w/\(a.put o.dst undef).tmps.size=a.tmps.size/\K st':=fun hK=>⟨_,Zvq hI _ hd,Zdy _ _ _,hK⟩
 unfold wpOp
 simp only[ho]
 unfold opG Zbl at h
 cases hg:o.guard with
 |none=>
  rw [hg]at h
  rw [if_pos (by simp [Region.wanted,hg])]
  exact .inl (ZpT htt h hI u hd)
 |some jw=>
  obtain ⟨j,f⟩:=jw
  rw [hg]at h
  simp only at h
  cases hj:(d.toList[j]?).bind (·.dst) with
  |none=>
   rw [hj]at h
   have l:(d[j]?).bind (·.dst)=none:=by simpa using hj
   rw [if_neg (by simp [Region.wanted,hg,yielded,l])]
   exact skip h
  |some t=>
   rw [hj]at h
   have l:(d[j]?).bind (·.dst)=some t:=by simpa using hj
   obtain ⟨⟨g,hH,hS⟩,hU,x,hh⟩:=hI
   have m:=hS t
   simp only at h
   unfold gK at h
   split at h
   .rename_i hb
    have:∃b,st.sl t=.p false [.c (.bool b)]:=by
     unfold ZaR at hb
     split at hb
     .rename_i b he;exact ⟨b,he⟩
     .simp at hb
    obtain ⟨b,v⟩:=this
    rw [v]at m h
    have hv:=Zgy m
    have hy:yielded d a.tmps j=some b:=by
     unfold yielded
     rw [l,AT]
     have:a.tmps[t]?=some (.bool b):=by
      rw [AE]at hv
      cases he:a.tmps[t]? with
      |none=>rw [he]at hv;simp [undef]at hv
      |some q=>rw [he]at hv;simpa using hv
     rw [this]
    by_cases hw:(b==f)=true
    .rw [if_pos (show (Qx (.p false [.c (.bool b)])==f)=true from hw)]at h
     rw [if_pos (by simpa [Region.wanted,hg,hy]using hw)]
     exact .inl (ZpT htt h ⟨⟨g,hH,hS⟩,hU,x,hh⟩ u hd)
    .rw [if_neg (show ¬(Qx (.p false [.c (.bool b)])==f)=true from hw)]at h
     rw [if_neg (by simpa [Region.wanted,hg,hy]using hw)]
     exact skip h
   .split at h
    .rename_i hu
     have v:st.sl t=.und:=by
      unfold ZsB at hu
      split at hu
      .rename_i he;exact he
      .simp at hu
     rw [v]at m
     have e:a.tmps.getD t undef=undef:=m
     have hy:yielded d a.tmps j=none:=by
      unfold yielded
      rw [l,AT]
      rw [AE]at e
      cases he:a.tmps[t]? with
      |none=>rfl
      |some q=>rw [he]at e;simp at e;rw [e];rfl
     rw [if_neg (by simp [Region.wanted,hg,hy])]
     exact skip h
    .exact h.elim
theorem Zo0 [NW] (htt:MOk P J JF W tt) {b:Array Oper}{N:Nat}(hN:∀o∈b.toList,∀t,o.dst=some t->t<N/\(W.hv=none\/t≠0)) {K:St->Prop}:∀(r:List Oper) (i key:Nat) (U:Nat->Prop) (st:St) (a:Act) (w:World),b.toList.drop i=r->Yn tt (SC P J JF hs) b.toList key r K st->Inv W U st a w->(∀k,key<=k->¬U k)->a.tmps.size=N->
  (∀U' st' a' w',Inv W U' st' a' w'->(∀k,key+16*r.length<=k->¬U' k)->a'.tmps.size=N->K st'->Q .normal a' w')->wpOps P b Q (AR i r.length) a w
 | [],i,key,U,st,a,w,_,h,hI,hk,hs,hQ=>hQ U st a w hI (by simpa using hk) hs h
 |o::r,i,key,U,st,a,w,hr,h,hI,hk,hs,hQ=>by
  have hi:b.toList[i]?=some o:=by
   have:=congrArg (fun l=>l[0]?) hr
   simpa using this
  have d:b.toList.drop (i+1)=r:=by
   have:=congrArg List.tail hr
   simpa using this
  rw [Ar,Ai,wpOps_cons]
  refine wpOp_mono ?_ (Zpi htt (by simpa using hi) h hI (fun k a _=>hk k a) (fun t ht=>by rw [hs];exact hN o (AU hi) t ht))
  rintro a' w' ⟨st',e,hs',f⟩
  refine Zo0 htt hN r (i+1) (key+16) _ st' a' w' d f e (fun k c hU=>?_) yE (fun U' g a2 w2 h1 h2 h3 h4=>hQ U' g a2 w2 h1 (fun k c=>h2 k (by simp at c;omega)) h3 h4)
  rcases hU with hU|hU
  .exact hk k yE hU
  .omega
end
end
section
open Go.RowKit
def ZAg:Option TI->Bool
 |some (.slice _ _ _ z)=>z.all Zkx
 |_=>false
def cls (tt:Nat->Option TI) (hs:FuncId->Nat):Op->Nat
 |.move _=>0
 |.assign _=>0
 |.pick _ _ _=>0
 |.build _ _=>0
 |.nilCheck _=>0
 |.binOp _ _ _ _ _=>0
 |.unOp _ _ _=>0
 |.convert _ t _=>if ZdI (tt t)=true then 1 else 0
 |.slice t _ lo hi _=>if ZdI (tt t)=true then 0 else if lo.isSome&&hi.isNone then 4 else 3
 |.fieldAddr _ _ _=>0
 |.field _ _ _=>0
 |.index _ _ _=>0
 |.extract _ _=>0
 |.alloc _=>1
 |.box _ _=>1
 |.load _ _=>1
 |.makeMap _ _=>1
 |.lookup _ _ _ _=>1
 |.makeSlice _ _ _=>1
 |.indexAddr _ _ _=>1
 |.buildSlice t _ ps=>if ps.size=0\/ZAg (tt t)=true then 2 else 3
 |.call ⟨.builtin .len,_,_⟩=>1
 |.call ⟨.builtin .max,_,_⟩=>0
 |.call ⟨.builtin .min,_,_⟩=>0
 |.call ⟨.value (.func f),_,_⟩=>if hs f=0\/hs f=4 then 1 else 4
 |_=>4
section
variable {P:Program} {W:QO} {U:Nat->Prop} {key:Nat} {st st':St} {w w':World} {a:Act} {tt:Nat->Option TI} {S:Ctx} {Q:Exit->Act->World->Prop}
def ZaF (tt:Nat->Option TI) (S:Ctx) (key:Nat) (o:Oper) (st:St) (v:SV) (u:List (Nat×Ob)):Prop:=
 match Xd o.op with
 |some c=>Zaq S c.1 (S.hd c.1) key st (evs tt st c.2.1 c.2.2) v u
 |none=>match XD o.op with
  |some c=>∃fc,ZpY (st.sl c.1)=some fc/\S.hd fc.1=0/\Zaq S fc.1 0 key st (evs tt st c.2.1 c.2.2++fc.2.map ZlB) v u
  |none=>opE tt key o st=some (v,u)
def opR (tt:Nat->Option TI) (S:Ctx) (all:List Oper) (key:Nat) (o:Oper) (st:St) (v:SV) (u:List (Nat×Ob)):Prop:=
 match Zbl all o with
 |none=>ZaF tt S key o st v u
 |some (none,_)=>v=.und/\u=[]
 |some (some t,want)=>gK (st.sl t) want (ZaF tt S key o st v u) (v=.und/\u=[])
theorem Zu2 [NW] {o:Oper}{K:St->Prop}:opS tt S key o K st↔∃v u,ZaF tt S key o st v u/\K ((st.put o.dst v).app u):=by
 cases hc:Xd o.op with
 |some c=>
  simp only[opS,ZaF,hc]
  exact Zmf
 |none=>
  simp only[opS,ZaF,hc]
  cases hd:XD o.op with
  |some c=>
   simp only
   constructor
   .intro h
    unfold YA at h
    split at h
    .rename_i fc a
     obtain ⟨h0,h⟩:=h
     obtain ⟨v,u,h1,h2⟩:=Zmf.1 h
     exact ⟨v,u,⟨fc,a,h0,h1⟩,h2⟩
    .exact h.elim
   .rintro ⟨v,u,⟨fc,a,h0,h1⟩,h2⟩
    rw [a]
    exact ⟨h0,Zmf.2 ⟨v,u,h1,h2⟩⟩
  |none=>
   simp only
   constructor
   .intro h
    unfold YA at h
    split at h
    .rename_i r hr
     exact ⟨r.1,r.2,hr,h⟩
    .exact h.elim
   .rintro ⟨v,u,h1,h2⟩
    rw [h1]
    exact h2
theorem Zid [NW] {all:List Oper}{o:Oper}{K:St->Prop}:opG tt S all key o K st↔∃v u,opR tt S all key o st v u/\K ((st.put o.dst v).app u):=by
 have skip:K (st.put o.dst .und)↔∃v u,(v=SV.und/\u=[])/\K ((st.put o.dst v).app u):=by
  constructor
  .intro h;exact ⟨.und,[],⟨rfl,rfl⟩,h⟩
  .rintro ⟨v,u,⟨rfl,rfl⟩,h⟩;exact h
 cases hg:Zbl all o with
 |none=>simp only[opG,opR,hg];exact Zu2
 |some q=>
  obtain ⟨q,a⟩:=q
  cases q with
  |none=>simp only[opG,opR,hg];exact skip
  |some t=>
   simp only[opG,opR,hg,gK]
   by_cases h1:ZaR (st.sl t)=true
   .by_cases h2:(Qx (st.sl t)==a)=true
    .simp only[h1,h2,if_true];exact Zu2
    .simp only[h1,h2,if_true,if_false];exact skip
   .by_cases h2:ZsB (st.sl t)=true
    .simp only[h1,h2,if_true,if_false];exact skip
    .simp only[h1,h2,if_false];simp
theorem ZeC [NW] {ts:List TypeId}{xs:List Operand}(h:∀x∈xs,∀t,st.ev tt t x=st'.ev tt t x):evs tt st ts xs=evs tt st' ts xs:=by
 unfold evs
 refine AW fun p hp=>h p.2 ?_ p.1
 rw [<-ZfU ts xs]
 exact AB.2 ⟨p,hp,rfl⟩
def Wk (st st':St) (U:Nat->Prop):Prop:=∀k,U k->st'.ob k=st.ob k\/st'.ob k=Yq (st.ob k)
theorem Wk.of (h:∀k,U k->st.ob k=st'.ob k):Wk st st' U:=fun k hk=>.inl (h k hk).symm
theorem Zhx (a:Wk st st' U):∀{xs:List AV},X3 U xs->Xc st xs=Xc st' xs
 | [],_=>rfl
 |x::r,h=>by
  have hx:ZcM st x=ZcM st' x:=by
   cases x with
   |row k=>
    simp only[ZcM]
    rcases a k (h (.row k) yG) with e|e
    .rw [e]
    .rw [e];cases st.ob k<;>rfl
   |_=>rfl
  have hr:=Zhx a (xs:=r) (fun y m=>h y (by simp [m]))
  simp only[Xc,hx,hr]
theorem Ze4 [NW] (a:Wk st st' U):∀{xs:List SV},(∀x∈xs,svU U x)->ZY st xs=ZY st' xs
 | [],_=>rfl
 |x::r,h=>by
  have hx:ZdU st x=ZdU st' x:=by
   cases x with
   |p ag cs=>simp only[ZdU,Zhx a (h (.p ag cs) yG)]
   |_=>rfl
  have hr:=Ze4 a (xs:=r) (fun y m=>h y (by simp [m]))
  simp only[ZY,hx,hr]
theorem ZtB (a:Wk st st' U) {t:Option TI}{x:SV}(hx:svU U x):QI st t x=QI st' t x:=by
 cases x with
 |bp k off=>
  simp only[QI]
  rcases a k hx with e|e
  .rw [e]
  .rw [e];cases st.ob k<;>rfl
 |rp k m i off=>
  simp only[QI]
  rcases a k hx with e|e
  .rw [e]
  .rw [e];cases st.ob k<;>rfl
 |p ag cs=>cases ag with
  |true=>rfl
  |false=>cases cs with
   |nil=>rfl
   |cons y r=>cases r<;>cases y<;>first|rfl|(rename_i z;cases z<;>rfl)|(rename_i z _ _;cases z<;>rfl)
 |_=>rfl
theorem Zxh (a:Wk st st' U) {t:Option TI}{x:SV}(hx:svU U x):ZoK st t x=ZoK st' t x:=by
 unfold ZoK
 split<;>try rfl
 rename_i k
 rcases a k (hx (.row k) yG) with e|e
 .rw [e]
 .rw [e];cases st.ob k<;>rfl
theorem Zqn (a:Wk st st' U) {m:Nat}{x i:SV}(hx:svU U x):Zar st m x i=Zar st' m x i:=by
 unfold Zar
 split<;>try rfl
 rename_i k _ _
 rcases a k (hx (.row k) yG) with e|e
 .rw [e]
 .rw [e];cases st.ob k<;>rfl
theorem ZxF (a:st.ob=st'.ob) (x:SV):ZjE st x=ZjE st' x:=by
 unfold ZjE
 rw [a]
theorem Zn5 [NW] (a:st.ob=st'.ob):∀xs:List SV,Zfe st xs=Zfe st' xs
 | []=>rfl
 |x::r=>by simp only[Zfe,ZxF a x,Zn5 a r]
theorem Zuo (a:Wk st st' U) {t:Option TI}{x i:SV}{ok:Bool}(hx:svU U x):Zhi st t x i ok=Zhi st' t x i ok:=by
 unfold Zhi
 split<;>try rfl
 rename_i k
 rcases a k (hx (.row k) yG) with e|e
 .rw [e]
 .rw [e];cases st.ob k<;>rfl
theorem ZtF (a:Wk st st' U) {x:SV}(hx:svU U x):ZiE st x=ZiE st' x:=by
 unfold ZiE
 split<;>try rfl
 rename_i k
 rcases a k (hx (.row k) yG) with e|e
 .rw [e]
 .rw [e];cases st.ob k<;>rfl
theorem ZtI [NW] (a:Wk st st' U) {s t:Nat}{x:SV}(hx:svU U x):Zg5 tt st s t x=Zg5 tt st' s t x:=by
 unfold Zg5
 rw [ZtF a hx]
def Mk (st st':St) (U:Nat->Prop):Prop:=∀k,U k->st'.ob k=st.ob k\/st'.ob k=.gone
theorem ZlD (c:Mk st st' U):∀{xs:List AV}{r:List CT},X3 U xs->Xc st' xs=some r->Xc st xs=some r
 | [],_,_,h=>h
 |x::xs,r,hu,h=>by
  simp only[Xc]at h ⊢
  obtain ⟨a,h1,h⟩:=A6.1 h
  obtain ⟨b,h2,rfl⟩:=A4.1 h
  have hx:ZcM st x=some a:=by
   cases x with
   |row k=>
    simp only[ZcM]at h1 ⊢
    rcases c k (hu (.row k) yG) with e|e
    .rwa [e]at h1
    .rw [e]at h1;simp at h1
   |_=>exact h1
  rw [hx,AT,ZlD c (fun y m=>hu y (by simp [m])) h2]
  rfl
theorem ZhR [NW] (c:Mk st st' U):∀{xs:List SV}{r:List (Bool×List CT)},(∀x∈xs,svU U x)->ZY st' xs=some r->ZY st xs=some r
 | [],_,_,h=>h
 |x::xs,r,hu,h=>by
  simp only[ZY]at h ⊢
  obtain ⟨a,h1,h⟩:=A6.1 h
  obtain ⟨b,h2,rfl⟩:=A4.1 h
  have hx:ZdU st x=some a:=by
   cases x with
   |p ag cs=>
    simp only[ZdU]at h1 ⊢
    obtain ⟨l,h3,rfl⟩:=A4.1 h1
    rw [ZlD c (hu (.p ag cs) yG) h3]
    rfl
   |_=>exact h1
  rw [hx,AT,ZhR c (fun y m=>hu y (by simp [m])) h2]
  rfl
theorem ZtO (a:Mk st st' U) {t:Option TI}{x r:SV}(hx:svU U x) (h:QI st' t x=some r):QI st t x=some r:=by
 cases x with
 |bp k off=>
  simp only[QI]at h ⊢
  rcases a k hx with e|e
  .rwa [e]at h
  .rw [e]at h;simp at h
 |rp k m i off=>
  simp only[QI]at h ⊢
  rcases a k hx with e|e
  .rwa [e]at h
  .rw [e]at h;simp at h
 |p ag cs=>cases ag with
  |true=>exact h
  |false=>cases cs with
   |nil=>exact h
   |cons y r=>cases r<;>cases y<;>first|exact h|(rename_i z;cases z<;>exact h)|(rename_i z _ _;cases z<;>exact h)
 |_=>exact h
theorem Zwa (a:Mk st st' U) {t:Option TI}{x r:SV}(hx:svU U x) (h:ZoK st' t x=some r):ZoK st t x=some r:=by
 unfold ZoK at h ⊢
 split at h<;>try exact h
 rename_i k
 rcases a k (hx (.row k) yG) with e|e
 .rwa [e]at h
 .rw [e]at h;simp at h
theorem ZqL (a:Mk st st' U) {m:Nat}{x i r:SV}(hx:svU U x) (h:Zar st' m x i=some r):Zar st m x i=some r:=by
 unfold Zar at h ⊢
 split at h<;>try exact h
 rename_i k _ _
 rcases a k (hx (.row k) yG) with e|e
 .rwa [e]at h
 .rw [e]at h;simp at h
theorem Zun (a:Mk st st' U) {t:Option TI}{x i r:SV}{ok:Bool}(hx:svU U x) (h:Zhi st' t x i ok=some r):Zhi st t x i ok=some r:=by
 unfold Zhi at h ⊢
 split at h<;>try exact h
 rename_i k
 rcases a k (hx (.row k) yG) with e|e
 .rwa [e]at h
 .rw [e]at h;simp at h
theorem ZuN (a:Mk st st' U) {x r:SV}(hx:svU U x) (h:ZiE st' x=some r):ZiE st x=some r:=by
 unfold ZiE at h ⊢
 split at h<;>try exact h
 rename_i k
 rcases a k (hx (.row k) yG) with e|e
 .rwa [e]at h
 .rw [e]at h;simp at h
theorem ZvJ (h:st.ob=st'.ob):∀xs:List AV,ZdF st xs=ZdF st' xs
 | []=>rfl
 |x::r=>by
  have e:avT st x=avT st' x:=by
   cases x with
   |row k=>simp only[avT,h]
   |c y=>cases y<;>rfl
   |_=>rfl
  simp only[ZdF,e,ZvJ h r]
theorem Zwd (h:st.ob=st'.ob) (t:Option TI) (x v:SV):ZgA st t x v=ZgA st' t x v:=by
 unfold ZgA
 split
 .rw [h]
 .rw [h]
  split
  .rename_i vs _ _ _ _ _ _
   cases Zgx vs with
   |some ys=>rfl
   |none=>simp only[Zni,ZvJ h]
  .rfl
 .rfl
theorem ZoW [NW] {o:Oper}{sl a:Nat->SV}{ob:Nat->Ob}{n n':Nat}(hl:∀x∈o.op.operands,∀t,St.ev tt ⟨sl,ob,n⟩ t x=St.ev tt ⟨a,ob,n'⟩ t x):opE tt key o ⟨sl,ob,n⟩=opE tt key o ⟨a,ob,n'⟩:=by
 obtain ⟨dst,op,ty,pos,af,gd⟩:=o
 cases op with
 |build t d=>
  have hp:∀fs z,d.toList.map (ZgG tt ⟨sl,ob,n⟩ fs z)=d.toList.map (ZgG tt ⟨a,ob,n'⟩ fs z):=fun fs z=>AW fun p hp=>by
   have:=hl p.2 (by simp [Op.operands];exact ⟨p.1,by simpa using hp⟩) 0
   unfold ZgG
   split
   .rfl
   .rw [this]
  simp only[opE,hp]
 |buildSlice t len d=>
  have hp:∀e,(d.toList.map fun p=>St.ev tt ⟨sl,ob,n⟩ e p.2)=d.toList.map fun p=>St.ev tt ⟨a,ob,n'⟩ e p.2:=fun e=>AW fun p hp=>hl p.2 (by simp [Op.operands];exact ⟨p.1,by simpa using hp⟩) e
  have he:∀m l,Xy ⟨sl,ob,n⟩ m l=Xy ⟨a,ob,n'⟩ m l:=fun m l=>by
   have h1:∀x,avT ⟨sl,ob,n⟩ x=avT ⟨a,ob,n'⟩ x:=fun x=>by cases x<;>rfl
   have h2:∀xs,ZdF ⟨sl,ob,n⟩ xs=ZdF ⟨a,ob,n'⟩ xs:=fun xs=>by
    induction xs with
    |nil=>rfl
    |cons x xs ih=>simp only[ZdF,h1,ih]
   induction l with
   |nil=>rfl
   |cons x xs ih=>cases x<;>simp only[Xy,h2,ih]
  have hz:∀ks,ZK ⟨sl,ob,n⟩ ks=ZK ⟨a,ob,n'⟩ ks:=fun ks=>by
   induction ks with
   |nil=>rfl
   |cons k r ih=>simp only[ZK,ih]
  simp only[opE,hp,he,hz]
 |slice t x lo hi mx=>
  simp only[Op.operands]at hl
  cases mx with
  |some _=>rfl
  |none=>
   have hx:=fun t=>hl x yG t
   cases lo with
   |none=>cases hi with
    |none=>simp only[opE,hx,AO];rfl
    |some h=>have hh:=fun t=>hl h yG t;simp only[opE,hx,hh,AO,AJ];rfl
   |some l=>
    have q:=fun t=>hl l yG t
    cases hi with
    |none=>simp only[opE,hx,q,AO,AJ];rfl
    |some h=>have hh:=fun t=>hl h yG t;simp only[opE,hx,q,hh,AJ];rfl
 |call c=>
  obtain ⟨g,args,ts⟩:=c
  cases g with
  |builtin b=>
   have:=ZeC (tt:=tt) (st:=⟨sl,ob,n⟩) (st':=⟨a,ob,n'⟩) (ts:=ts.toList) (xs:=args.toList) (fun x m t=>hl x (by simp [Op.operands,Call.operands];simpa using m) t)
   simp only[opE,this]
   unfold Zgq
   split<;>rfl
  |value f=>rfl
  |invoke r m=>rfl
 |move x=>have:=fun t=>hl x (by simp [Op.operands]) t;simp only[opE,this]
 |assign x=>have:=fun t=>hl x (by simp [Op.operands]) t;simp only[opE,this]
 |pick c x y=>have h1:=fun t=>hl c (by simp [Op.operands]) t;have h2:=fun t=>hl x (by simp [Op.operands]) t;have h3:=fun t=>hl y (by simp [Op.operands]) t;simp only[opE,h1,h2,h3]
 |alloc t=>rfl
 |box t x=>have:=fun t=>hl x (by simp [Op.operands]) t;simp only[opE,this]
 |load t x=>have:=fun t=>hl x (by simp [Op.operands]) t;simp only[opE,this];rfl
 |store t x v=>have h1:=fun t=>hl x (by simp [Op.operands]) t;have h2:=fun t=>hl v (by simp [Op.operands]) t;simp only[opE,h1,h2];rw [Zwd (st:=⟨sl,ob,n⟩) (st':=⟨a,ob,n'⟩) rfl]
 |nilCheck x=>have:=fun t=>hl x (by simp [Op.operands]) t;simp only[opE,this]
 |binOp op t x y t'=>have h1:=fun t=>hl x (by simp [Op.operands]) t;have h2:=fun t=>hl y (by simp [Op.operands]) t;simp only[opE,h1,h2]
 |unOp op t x=>have:=fun t=>hl x (by simp [Op.operands]) t;simp only[opE,this]
 |convert s t x=>have:=fun t=>hl x (by simp [Op.operands]) t;simp only[opE,this];rfl
 |makeFunc fn first j=>
  cases fn with
  |func f=>
   have hc:j.toList.map (St.ev tt ⟨sl,ob,n⟩ 0)=j.toList.map (St.ev tt ⟨a,ob,n'⟩ 0):=AW fun x hx=>hl x (by simp [Op.operands];exact .inr (by simpa using hx)) 0
   simp only[opE,hc,Zn5 (st:=⟨sl,ob,n⟩) (st':=⟨a,ob,n'⟩) rfl]
  |_=>rfl
 |makeMap t r=>cases r<;>rfl
 |lookup t x i ok=>have h1:=fun t=>hl x (by simp [Op.operands]) t;have h2:=fun t=>hl i (by simp [Op.operands]) t;simp only[opE,h1,h2];rfl
 |mapUpdate t x i v=>have h1:=fun t=>hl x (by simp [Op.operands]) t;have h2:=fun t=>hl i (by simp [Op.operands]) t;have h3:=fun t=>hl v (by simp [Op.operands]) t;simp only[opE,h1,h2,h3];rfl
 |makeSlice t x y=>have h1:=fun t=>hl x (by simp [Op.operands]) t;have h2:=fun t=>hl y (by simp [Op.operands]) t;simp only[opE,h1,h2]
 |fieldAddr t x f=>have:=fun t=>hl x (by simp [Op.operands]) t;simp only[opE,this]
 |field t x f=>have:=fun t=>hl x (by simp [Op.operands]) t;simp only[opE,this]
 |indexAddr t x y=>have h1:=fun t=>hl x (by simp [Op.operands]) t;have h2:=fun t=>hl y (by simp [Op.operands]) t;simp only[opE,h1,h2];rfl
 |index t x y=>have h1:=fun t=>hl x (by simp [Op.operands]) t;have h2:=fun t=>hl y (by simp [Op.operands]) t;simp only[opE,h1,h2]
 |extract x i=>have:=fun t=>hl x (by simp [Op.operands]) t;simp only[opE,this]
 |_=>rfl
theorem Zvo (sl:Nat->SV) (ob ob':Nat->Ob) (n n' t:Nat) (x:Operand):St.ev tt ⟨sl,ob,n⟩ t x=St.ev tt ⟨sl,ob',n'⟩ t x:=by cases x<;>rfl
theorem Zz3 {st st':St}(h:∀k,U k->st.ob k=st'.ob k) {x:AV}(hx:avU U x):avT st x=avT st' x:=by
 cases x with
 |row k=>simp only[avT];rw [h k hx]
 |c x=>cases x<;>rfl
 |nil e m=>rfl
 |n x=>rfl
 |dead=>rfl
theorem Zpc [NW] {st st':St}(h:∀k,U k->st.ob k=st'.ob k):∀{xs:List AV},X3 U xs->ZdF st xs=ZdF st' xs
 | [],_=>rfl
 |x::r,hx=>by simp only[ZdF];rw [Zz3 h (hx x yG),Zpc h fun y m=>hx y (by simp [m])]
theorem Zll [NW] {st st':St}{m:Nat}(h:∀k,U k->st.ob k=st'.ob k):∀{xs:List SV},(∀v∈xs,svU U v)->Xy st m xs=Xy st' m xs
 | [],_=>rfl
 |.p a cs::r,hx=>by
  simp only[Xy]
  rw [Zpc h (hx (.p a cs) yG),Zll h fun v mv=>hx v (by simp [mv])]
 |.any::r,_=>rfl
 |.und::r,_=>rfl
 |.tup _::r,_=>rfl
 |.bp _ _::r,_=>rfl
 |.rp _ _ _ _::r,_=>rfl
 |.ep _ _::r,_=>rfl
 |.fn _::r,_=>rfl
theorem Zxf {x:AV}{ct:CT}{ks:List Nat}{d:Nat}(h:avT st x=some (ct,ks,d)) (hx:avU U x):∀k∈ks,U k:=by
 intro k mk
 cases x with
 |c y=>cases y<;>simp only[avT,A0,A5]at h<;>(rw [<-h.2.1]at mk;simp at mk)
 |nil e m=>
  simp only[avT]at h
  split at h<;>simp only[A0,A5,reduceCtorEq]at h
  rw [<-h.2.1]at mk;simp at mk
 |row j=>
  simp only[avT]at h
  split at h
  .split at h<;>simp only[A0,A5]at h
   .rw [<-h.2.1]at mk;simp at mk
   .rw [<-h.2.1]at mk;simp at mk;subst mk;exact hx
  .simp at h
 |n x=>simp [avT]at h
 |dead=>simp [avT]at h
theorem ZnC [NW]:∀{xs:List AV}{cts:List CT}{ks:List Nat}{d:Nat},ZdF st xs=some (cts,ks,d)->X3 U xs->∀k∈ks,U k
 | [],_,_,_,h,_,k,mk=>by simp only[ZdF,A0,A5]at h;rw [<-h.2.1]at mk;simp at mk
 |x::r,_,_,_,h,hu,k,mk=>by
  simp only[ZdF]at h
  obtain ⟨⟨c1,k1,d1⟩,h1,h⟩:=A6.1 h
  obtain ⟨⟨c2,k2,d2⟩,h2,h⟩:=A4.1 h
  simp only[A5]at h
  rw [<-h.2.1]at mk
  rcases AA.1 mk with mk|mk
  .exact Zxf h1 (hu x yG) k mk
  .exact ZnC h2 (fun y my=>hu y (by simp [my])) k mk
theorem ZgB [NW] {m:Nat}:∀{xs:List SV}{es:List (List CT)}{ks:List Nat}{d:Nat},Xy st m xs=some (es,ks,d)->(∀v∈xs,svU U v)->∀k∈ks,U k
 | [],_,_,_,h,_,k,mk=>by simp only[Xy,A0,A5]at h;rw [<-h.2.1]at mk;simp at mk
 |x::r,_,_,_,h,hu,k,mk=>by
  cases x with
  |p a cs=>
   simp only[Xy]at h
   split at h
   .obtain ⟨⟨c1,k1,d1⟩,h1,h⟩:=A6.1 h
    obtain ⟨⟨c2,k2,d2⟩,h2,h⟩:=A4.1 h
    simp only[A5]at h
    rw [<-h.2.1]at mk
    rcases AA.1 mk with mk|mk
    .exact ZnC h1 (hu (.p a cs) yG) k mk
    .exact ZgB h2 (fun v mv=>hu v (by simp [mv])) k mk
   .simp at h
  |_=>simp [Xy]at h
theorem Zsa {st st':St}{ks:List Nat}(h:∀k∈ks,st.ob k=st'.ob k):ZK st ks=ZK st' ks:=by
 induction ks with
 |nil=>rfl
 |cons k r ih=>simp only[ZK,h k yG,ih fun j mj=>h j (by simp [mj])]
theorem Zn3 {ks:List Nat}{p:Nat×Ob}(h:p∈ZK st ks):p.1∈ks/\p.2=Yq (st.ob p.1):=by
 induction ks with
 |nil=>simp [ZK]at h
 |cons k r ih=>
  simp only[ZK,A9]at h
  rcases h with rfl|h
  .exact ⟨yG,rfl⟩
  .exact ⟨by simp [(ih h).1],(ih h).2⟩
theorem Zmb [NW] {hs:FuncId->Nat}{o:Oper}{sl:Nat->SV}{ob ob':Nat->Ob}{n n':Nat}(h:cls tt hs o.op=0\/(cls tt hs o.op<=3/\(∀k,U k->ob k=ob' k)/\∀t x,svU U (St.ev tt ⟨sl,ob,n⟩ t x))\/(cls tt hs o.op<=1/\Wk ⟨sl,ob,n⟩ ⟨sl,ob',n'⟩ U/\∀t x,svU U (St.ev tt ⟨sl,ob,n⟩ t x))):opE tt key o ⟨sl,ob,n⟩=opE tt key o ⟨sl,ob',n'⟩:=by
 have he:=fun t x=>Zvo (tt:=tt) sl ob ob' n n' t x
 have q:cls tt hs o.op<=3:=by rcases h with h|h|h<;>omega
 have j:cls tt hs o.op=0\/(Wk ⟨sl,ob,n⟩ ⟨sl,ob',n'⟩ U/\∀t x,svU U (St.ev tt ⟨sl,ob',n'⟩ t x)):=by
  rcases h with h|h|h
  .exact .inl h
  .exact .inr ⟨fun k hk=>.inl (h.2.1 k hk).symm,fun t x=>he t x ▸ h.2.2 t x⟩
  .exact .inr ⟨h.2.1,fun t x=>he t x ▸ h.2.2 t x⟩
 obtain ⟨dst,op,ty,pos,af,gd⟩:=o
 cases op with
 |build t d=>
  have hp:∀fs z,d.toList.map (ZgG tt ⟨sl,ob,n⟩ fs z)=d.toList.map (ZgG tt ⟨sl,ob',n'⟩ fs z):=fun fs z=>AW fun p hp=>by
   unfold ZgG
   split
   .rfl
   .rw [he]
  simp only[opE,hp]
 |buildSlice t len d=>
  have hc:2<=cls tt hs (.buildSlice t len d):=by simp only[cls];split<;>omega
  have h':(∀k,U k->ob k=ob' k)/\∀t x,svU U (St.ev tt ⟨sl,ob,n⟩ t x):=by
   rcases h with h|h|h
   .simp only at h;omega
   .exact h.2
   .simp only at h;omega
  obtain ⟨h1,h2⟩:=h'
  simp only[opE,he]
  split
  .rename_i e m _ z _
   have hu:∀v∈d.toList.map (fun p=>St.ev tt ⟨sl,ob',n'⟩ e p.2),svU U v:=fun v mv=>by obtain ⟨p,_,rfl⟩:=AB.1 mv;rw [<-he];exact h2 _ _
   rw [Zll (U:=U) (st:=⟨sl,ob,n⟩) (st':=⟨sl,ob',n'⟩) h1 hu]
   cases hel:Xy ⟨sl,ob',n'⟩ m (d.toList.map fun p=>St.ev tt ⟨sl,ob',n'⟩ e p.2) with
   |none=>rfl
   |some a=>
    have hk:=ZgB (U:=U) hel hu
    have:=Zsa (st:=⟨sl,ob,n⟩) (st':=⟨sl,ob',n'⟩) (ks:=a.2.1) (fun k mk=>h1 k (hk k mk))
    simp only[AT,this]
  .rfl
 |load t x=>
  obtain ⟨h1,h2⟩:=j.resolve_left (by simp [cls])
  simp only[opE,he]
  rw [ZtB (U:=U) (st:=⟨sl,ob,n⟩) (st':=⟨sl,ob',n'⟩) h1 (h2 0 x)]
 |indexAddr t x y=>
  obtain ⟨h1,h2⟩:=j.resolve_left (by simp [cls])
  simp only[opE,he]
  split
  .rw [Zqn (U:=U) (st:=⟨sl,ob,n⟩) (st':=⟨sl,ob',n'⟩) h1 (h2 0 x)]
  .rfl
 |call c=>
  obtain ⟨u,args,ts⟩:=c
  cases u with
  |builtin b=>
   have A:evs tt ⟨sl,ob,n⟩ ts.toList args.toList=evs tt ⟨sl,ob',n'⟩ ts.toList args.toList:=ZeC fun x _ t=>he t x
   simp only[opE,A]
   unfold Zgq
   split
   .rename_i t _ v he1 B
    obtain ⟨h1,h2⟩:=j.resolve_left (by simp [cls])
    have hu:svU U v:=by
     have hm:v∈evs tt ⟨sl,ob',n'⟩ ts.toList args.toList:=by simp [B]
     obtain ⟨p,_,rfl⟩:=AB.1 hm
     exact h2 _ _
    rw [Zxh (U:=U) (st:=⟨sl,ob,n⟩) (st':=⟨sl,ob',n'⟩) h1 hu]
   .simp [cls]at q
   .rfl
   .rfl
   .rfl
  |value f=>rfl
  |invoke r m=>rfl
 |store t x v=>simp [cls]at q
 |makeFunc fn first caps=>simp [cls]at q
 |mapUpdate t x i v=>simp [cls]at q
 |makeMap t r=>cases r<;>rfl
 |lookup t x i ok=>
  obtain ⟨h1,h2⟩:=j.resolve_left (by simp [cls])
  simp only[opE,he]
  rw [Zuo (U:=U) (st:=⟨sl,ob,n⟩) (st':=⟨sl,ob',n'⟩) h1 (h2 0 x)]
 |convert s t x=>
  simp only[opE,he]
  by_cases w:ZdI (tt t)=true
  .obtain ⟨h1,h2⟩:=j.resolve_left (by simp [cls,w])
   rw [ZtI (U:=U) (st:=⟨sl,ob,n⟩) (st':=⟨sl,ob',n'⟩) h1 (h2 0 x)]
  .have e:∀st:St,Zg5 tt st s t (St.ev tt ⟨sl,ob',n'⟩ 0 x)=Zs1 (tt s) (tt t) (St.ev tt ⟨sl,ob',n'⟩ 0 x):=fun st=>by
    unfold Zg5
    rw [if_neg (by simp [w])]
   rw [e,e]
 |slice t x lo hi mx=>
  cases mx with
  |some _=>rfl
  |none=>
   by_cases g:ZdI (tt t)=true
   .have C:Zct (tt t)=false:=by
     unfold ZdI at g
     split at g
     .rename_i e;rw [e];rfl
     .simp at g
    have hu:∀l h v,ZaJ ⟨sl,ob,n⟩ key (tt t) l h v=ZaJ ⟨sl,ob',n'⟩ key (tt t) l h v:=fun l h v=>by
     unfold ZaJ
     split
     .simp [C]
     .rfl
     .rfl
    cases lo<;>cases hi<;>simp only[opE,he,AO,AJ,hu]
   .have hc:2<cls tt hs (.slice t x lo hi none):=by simp only[cls];rw [if_neg g];split<;>omega
    have h':(∀k,U k->ob k=ob' k)/\∀t x,svU U (St.ev tt ⟨sl,ob,n⟩ t x):=by
     rcases h with h|h|h
     .simp only at h;omega
     .exact h.2
     .simp only at h;omega
    obtain ⟨h1,h2⟩:=h'
    have hu:∀l h v,svU U v->ZaJ ⟨sl,ob,n⟩ key (tt t) l h v=ZaJ ⟨sl,ob',n'⟩ key (tt t) l h v:=fun l h v hv=>by
     unfold ZaJ
     split
     .rename_i k
      have hk:U k:=hv (.row k) yG
      simp only[h1 k hk]
     .rfl
     .rfl
    simp only[opE,he]
    exact hu _ _ _ (he 0 x ▸ h2 0 x)
 |_=>first|rfl|simp only[opE,he]
theorem Zev {x y:Option SV}{r:SV×List (Nat×Ob)}(h:∀v,x=some v->y=some v) (hx:Zb0 x=some r):Zb0 y=some r:=by
 obtain ⟨v,h1,rfl⟩:=A4.1 hx
 rw [h v h1]
 rfl
theorem ZzD [NW] {hs:FuncId->Nat}{o:Oper}{sl:Nat->SV}{ob ob':Nat->Ob}{n n':Nat}{r:SV×List (Nat×Ob)}(hc:cls tt hs o.op<=1) (a:Mk ⟨sl,ob,n⟩ ⟨sl,ob',n'⟩ U) (hu:∀t x,svU U (St.ev tt ⟨sl,ob,n⟩ t x)) (h:opE tt key o ⟨sl,ob',n'⟩=some r):opE tt key o ⟨sl,ob,n⟩=some r:=by
 have he:=fun t x=>Zvo (tt:=tt) sl ob ob' n n' t x
 by_cases h0:cls tt hs o.op=0
 .rw [Zmb (U:=U) (n':=n') (ob':=ob') (.inl h0)];exact h
 obtain ⟨dst,op,ty,pos,af,gd⟩:=o
 cases op with
 |load t x=>
  simp only[opE,he]at h ⊢
  exact Zev (fun v hv=>ZtO a (he 0 x ▸ hu 0 x) hv) h
 |indexAddr t x y=>
  simp only[opE,he]at h ⊢
  split at h
  .exact Zev (fun v hv=>ZqL a (he 0 x ▸ hu 0 x) hv) h
  .simp at h
 |lookup t x i ok=>
  simp only[opE,he]at h ⊢
  exact Zev (fun v hv=>Zun a (he 0 x ▸ hu 0 x) hv) h
 |convert s t x=>
  simp only[opE,he]at h ⊢
  refine Zev (fun v hv=>?_) h
  unfold Zg5 at hv ⊢
  split at hv
  .rename_i hb
   rw [if_pos hb]
   exact ZuN a (he 0 x ▸ hu 0 x) hv
  .rename_i hb
   rw [if_neg hb]
   exact hv
 |call c=>
  obtain ⟨d,args,ts⟩:=c
  cases d with
  |builtin b=>
   have e:evs tt ⟨sl,ob,n⟩ ts.toList args.toList=evs tt ⟨sl,ob',n'⟩ ts.toList args.toList:=ZeC fun x _ t=>he t x
   simp only[opE,e]at h ⊢
   unfold Zgq at h ⊢
   split at h
   .rename_i t _ v he1 g
    have j:svU U v:=by
     have hm:v∈evs tt ⟨sl,ob',n'⟩ ts.toList args.toList:=by simp [g]
     obtain ⟨p,_,rfl⟩:=AB.1 hm
     rw [<-he];exact hu _ _
    exact Zev (fun w hw=>Zwa a j hw) h
   .simp [cls]at hc
   .exact h
   .exact h
   .exact h
  |value f=>exact h
  |invoke r m=>exact h
 |slice t x lo hi mx=>simp only[cls]at hc h0;split at hc<;>rename_i hq<;>simp [hq]at h0<;>(split at hc<;>omega)
 |buildSlice t len parts=>simp only[cls]at hc;split at hc<;>omega
 |store t x v=>simp [cls]at hc
 |makeFunc fn first caps=>simp [cls]at hc
 |mapUpdate t x i v=>simp [cls]at hc
 |makeMap t r=>cases r<;>exact h
 |_=>first|exact h|(simp only[opE,he]at h ⊢;exact h)
theorem Xa:∀(cts:List (Bool×CT)) (key:Nat),key<=(ZG key cts).2.2/\∀p∈(ZG key cts).2.1,key<=p.1/\p.1<(ZG key cts).2.2
 | [],key=>by simp [ZG]
 |(true,x)::r,key=>Xa r key
 |(false,ct)::r,key=>by
  cases ct with
  |sl e m xs=>
   obtain ⟨h1,h2⟩:=Xa r (key+1)
   refine ⟨by simp only[ZG];omega,fun p hp=>?_⟩
   simp only[ZG,A9]at hp ⊢
   rcases hp with rfl|hp
   .exact ⟨AC _,by simp only;omega⟩
   .have:=h2 p hp;omega
  |int k n=>exact Xa r key
  |bool b=>exact Xa r key
  |str s=>exact Xa r key
  |ifc s=>exact Xa r key
  |any=>exact Xa r key
  |nl a b=>exact Xa r key
  |pt s=>exact Xa r key
  |fn f s=>exact Xa r key
  |mp a b s=>exact Xa r key
theorem ZhP [NW]:∀(a:List RT) (key:Nat),key<=(ZA key a).2.2/\∀p∈(ZA key a).2.1,key<=p.1/\p.1<(ZA key a).2.2
 | [],key=>by simp [ZA]
 |x::r,key=>by
  obtain ⟨h1,h2⟩:=Xa x.2 key
  obtain ⟨h3,h4⟩:=ZhP r (ZG key x.2).2.2
  refine ⟨by simp only[ZA];omega,fun p hp=>?_⟩
  simp only[ZA,AA]at hp ⊢
  rcases hp with hp|hp
  .have:=h2 p hp;omega
  .have:=h4 p hp;omega
theorem Xj {v:Option SV}{r:SV×List (Nat×Ob)}(h:Zb0 v=some r):r.2=[]:=by
 obtain ⟨u,_,rfl⟩:=A4.1 h;rfl
theorem Zy4 [NW] {hs:FuncId->Nat}{o:Oper}{r:SV×List (Nat×Ob)}(hU:∀t x,svU U (st.ev tt t x)) (h:opE tt key o st=some r):(cls tt hs o.op=0->r.2=[])/\(cls tt hs o.op<=2->∀p∈r.2,key<=p.1/\p.1<key+16)/\(cls tt hs o.op<=3->∀p∈r.2,(key<=p.1/\p.1<key+16)\/(U p.1/\p.2=Yq (st.ob p.1))):=by
 have nil:r.2=[]->(cls tt hs o.op=0->r.2=[])/\(cls tt hs o.op<=2->∀p∈r.2,key<=p.1/\p.1<key+16)/\(cls tt hs o.op<=3->∀p∈r.2,(key<=p.1/\p.1<key+16)\/(U p.1/\p.2=Yq (st.ob p.1))):=fun e=>⟨fun _=>e,fun _ p hp=>by simp [e]at hp,fun _ p hp=>by simp [e]at hp⟩
 obtain ⟨dst,op,ty,pos,af,gd⟩:=o
 cases op with
 |move x=>simp only[opE,A0]at h;exact nil (by rw [<-h])
 |assign x=>simp only[opE,A0]at h;exact nil (by rw [<-h])
 |pick c x y=>
  simp only[opE]at h
  split at h
  .simp only[A0]at h;exact nil (by rw [<-h])
  .simp at h
 |alloc t=>
  simp only[opE]at h
  obtain ⟨z,_,rfl⟩:=A4.1 h
  exact ⟨fun e=>by simp [cls]at e,fun _ p hp=>by simp at hp;subst hp;simp,fun _ p hp=>by simp at hp;subst hp;simp⟩
 |box t x=>
  simp only[opE]at h
  split at h
  .simp only[A0]at h
   subst h
   exact ⟨fun e=>by simp [cls]at e,fun _ p hp=>by simp at hp;subst hp;simp,fun _ p hp=>by simp at hp;subst hp;simp⟩
  .simp at h
 |build t a=>
  simp only[opE]at h
  split at h
  .obtain ⟨cs,_,rfl⟩:=A4.1 h;exact nil rfl
  .simp at h
 |buildSlice t len a=>
  simp only[opE]at h
  split at h
  .obtain ⟨⟨xs,ks,d⟩,h1,h⟩:=A6.1 h
   split at h
   .simp only[A0]at h
    subst h
    rename_i e0 _ _ z q l
    have hu:∀v∈a.toList.map (fun p=>st.ev tt e0 p.2),svU U v:=fun v mv=>by obtain ⟨p,_,rfl⟩:=AB.1 mv;exact hU _ _
    have hk:=ZgB (U:=U) h1 hu
    refine ⟨fun e=>by simp only[cls]at e;split at e<;>simp at e,fun e p hp=>?_,fun e p hp=>?_⟩
    .by_cases hs:a.size=0
     .have:a=#[]:=by simpa using hs
      subst this
      simp [Xy]at h1
      obtain ⟨_,rfl,_⟩:=h1
      simp [ZK]at hp;subst hp;simp
     .by_cases hf:ZAg (tt t)=true
      .have hz:z.all Zkx=true:=by rw [q]at hf;exact hf
       have u:ks=[]:=by
        have h3:=l.2.2.2
        rw [hz]at h3
        simpa using h3
       subst u
       simp [ZK]at hp;subst hp;simp
      .simp [cls,hs,hf]at e
    .rcases AA.1 hp with hp|hp
     .obtain ⟨p1,p2⟩:=Zn3 hp
      exact .inr ⟨hk _ p1,p2⟩
     .simp at hp;subst hp;simp
   .simp at h
  .simp at h
 |load t x=>exact nil (Xj h)
 |store t x v=>exact ⟨fun e=>by simp [cls]at e,fun e=>by simp [cls]at e,fun e=>by simp [cls]at e⟩
 |makeFunc fn first caps=>exact ⟨fun e=>by simp [cls]at e,fun e=>by simp [cls]at e,fun e=>by simp [cls]at e⟩
 |mapUpdate t x i v=>exact ⟨fun e=>by simp [cls]at e,fun e=>by simp [cls]at e,fun e=>by simp [cls]at e⟩
 |lookup t x i ok=>exact nil (Xj h)
 |makeMap t r=>
  cases r with
  |none=>
   simp only[opE,Zpj]at h
   split at h
   .simp only[A0]at h
    subst h
    exact ⟨fun e=>by simp [cls]at e,fun _ p hp=>by simp at hp;subst hp;simp,fun _ p hp=>by simp at hp;subst hp;simp⟩
   .simp at h
  |some _=>simp [opE]at h
 |nilCheck x=>
  simp only[opE]at h
  split at h<;>simp only[A0,reduceCtorEq]at h<;>exact nil (by rw [<-h])
 |binOp op t x y t'=>exact nil (Xj h)
 |unOp op t x=>exact nil (Xj h)
 |convert s t x=>exact nil (Xj h)
 |makeSlice t n c=>
  simp only[opE,Ztj]at h
  split at h
  .split at h
   .obtain ⟨ze,_,h⟩:=A6.1 h
    split at h
    .simp only[A0]at h
     subst h
     exact ⟨fun e=>by simp [cls]at e,fun _ p hp=>by simp at hp;subst hp;simp,fun _ p hp=>by simp at hp;subst hp;simp⟩
    .simp at h
   .simp at h
  .simp at h
 |slice t x lo hi mx=>
  cases mx with
  |some _=>simp [opE]at h
  |none=>
   by_cases g:ZdI (tt t)=true
   .have w:Zct (tt t)=false:=by
     unfold ZdI at g
     split at g
     .rename_i e;rw [e];rfl
     .simp at g
    refine nil ?_
    simp only[opE,ZaJ]at h
    split at h
    .simp [w]at h
    .obtain ⟨v,_,rfl⟩:=A4.1 h;rfl
    .simp at h
   .have hc:3<=cls tt hs (.slice t x lo hi none):=by simp only[cls];rw [if_neg g];split<;>omega
    refine ⟨fun e=>by simp only at e;omega,fun e=>by simp only at e;omega,fun e p hp=>?_⟩
    have A:∀d,mvS d (lo.map (st.ev tt 0)) (hi.map (st.ev tt 0))=false:=fun d=>by
     cases lo with
     |none=>rfl
     |some _=>cases hi with
      |none=>simp [cls,g]at e
      |some _=>rfl
    simp only[opE,ZaJ]at h
    split at h
    .rename_i k hv
     have hk:U k:=by
      have:=hU 0 x
      rw [hv]at this
      exact this (.row k) yG
     split at h
     .split at h
      .rename_i B
       split at h
       .rw [A,if_neg yG]at h
        obtain ⟨_,_,h⟩:=A6.1 h
        obtain ⟨_,_,rfl⟩:=A4.1 h
        simp at hp
        subst hp
        exact .inr ⟨hk,by rw [B];rfl⟩
       .simp at h
      .simp at h
     .simp at h
    .obtain ⟨v,_,rfl⟩:=A4.1 h
     simp at hp
    .simp at h
 |fieldAddr t x f=>
  simp only[opE]at h
  split at h
  .exact nil (Xj h)
  .simp at h
 |field t x f=>
  simp only[opE]at h
  split at h
  .exact nil (Xj h)
  .simp at h
 |indexAddr t x i=>
  simp only[opE]at h
  split at h
  .exact nil (Xj h)
  .simp at h
 |index t x i=>exact nil (Xj h)
 |extract x i=>exact nil (Xj h)
 |call c=>
  obtain ⟨j,args,ts⟩:=c
  cases j with
  |builtin b=>
   simp only[opE,Zgq]at h
   split at h
   .exact nil (Xj h)
   .exact ⟨fun e=>by simp [cls]at e,fun e=>by simp [cls]at e,fun e=>by simp [cls]at e⟩
   .exact nil (Xj h)
   .exact nil (Xj h)
   .simp at h
  |value f=>simp [opE]at h
  |invoke r m=>simp [opE]at h
 |_=>simp [opE]at h
theorem ZbP {hs:FuncId->Nat}{o:Op}{c:FuncId×List TypeId×List Operand}(h:Xd o=some c):cls tt hs o=if hs c.1=0\/hs c.1=4 then 1 else 4:=by
 unfold Xd at h
 split at h
 .simp only[A0]at h;rw [<-h];rfl
 .simp at h
theorem Znc {o:Op}{c:Nat×List TypeId×List Operand}(h:XD o=some c):∃args ts,o=.call ⟨.value (.tmp c.1),args,ts⟩/\c.2.1=ts.toList/\c.2.2=args.toList:=by
 unfold XD at h
 split at h
 .rename_i s args ts
  simp only[A0]at h
  rw [<-h]
  exact ⟨args,ts,rfl,rfl,rfl⟩
 .simp at h
theorem Zhp [NW] {hs:FuncId->Nat}{o:Op}{c:Nat×List TypeId×List Operand}(h:XD o=some c):cls tt hs o=4:=by
 obtain ⟨args,ts,rfl,_⟩:=Znc h
 rfl
theorem Zn2 [NW] (hU:∀t x,svU U (st.ev tt t x)) {all:List Oper}{o:Oper}{v:SV}{u:List (Nat×Ob)}(h:opR tt S all key o st v u):(cls tt S.hd o.op=0->u=[])/\(cls tt S.hd o.op<=2->∀p∈u,key<=p.1/\p.1<key+16)/\(cls tt S.hd o.op<=3->∀p∈u,(key<=p.1/\p.1<key+16)\/(U p.1/\p.2=Yq (st.ob p.1))):=by
 have nil:u=[]->(cls tt S.hd o.op=0->u=[])/\(cls tt S.hd o.op<=2->∀p∈u,key<=p.1/\p.1<key+16)/\(cls tt S.hd o.op<=3->∀p∈u,(key<=p.1/\p.1<key+16)\/(U p.1/\p.2=Yq (st.ob p.1))):=fun e=>⟨fun _=>e,fun _ p hp=>by simp [e]at hp,fun _ p hp=>by simp [e]at hp⟩
 have b:ZaF tt S key o st v u->(cls tt S.hd o.op=0->u=[])/\(cls tt S.hd o.op<=2->∀p∈u,key<=p.1/\p.1<key+16)/\(cls tt S.hd o.op<=3->∀p∈u,(key<=p.1/\p.1<key+16)\/(U p.1/\p.2=Yq (st.ob p.1))):=fun h=>by
  unfold ZaF at h
  split at h
  .rename_i c hc
   by_cases h0:S.hd c.1=0\/S.hd c.1=4
   .have h':∃a,(ZA key a).2.2<=key+16/\u=(ZA key a).2.1:=by
     rcases h0 with h0|h0
     .rw [h0]at h
      obtain ⟨l,a,_,_,_,h3,_,e⟩:=h
      exact ⟨a,h3,e⟩
     .rw [h0]at h
      obtain ⟨l,a,_,_,_,h3,_,e⟩:=h
      exact ⟨a,h3,e⟩
    obtain ⟨a,h3,rfl⟩:=h'
    have hp:∀p∈(ZA key a).2.1,key<=p.1/\p.1<key+16:=fun p hp=>by
     have:=(ZhP a key).2 p hp
     omega
    exact ⟨fun e=>by rw [ZbP hc,if_pos h0]at e;simp at e,fun _=>hp,fun _ p m=>.inl (hp p m)⟩
   .refine ⟨fun e=>by rw [ZbP hc,if_neg h0]at e;simp at e,fun e=>by rw [ZbP hc,if_neg h0]at e;simp at e,fun e=>by rw [ZbP hc,if_neg h0]at e;simp at e⟩
  .split at h
   .rename_i c hc
    have h4:=Zhp (tt:=tt) (hs:=S.hd) hc
    exact ⟨fun e=>by rw [h4]at e;simp at e,fun e=>by rw [h4]at e;simp at e,fun e=>by rw [h4]at e;simp at e⟩
   .exact Zy4 hU h
 unfold opR at h
 split at h
 .exact b h
 .exact nil h.2
 .unfold gK at h
  split at h
  .split at h
   .exact b h
   .exact nil h.2
  .split at h
   .exact nil h.2
   .exact h.elim
theorem Zc7 (h:st.ob=st'.ob):∀ks:List Nat,ZK st ks=ZK st' ks
 | []=>rfl
 |k::r=>by simp only[ZK,Zc7 h r,h]
theorem ZF8 (s:SV):svU (fun _=>True) s:=by
 cases s<;>first|trivial|(intro y my;cases y<;>trivial)|(intro y my z mz;cases z<;>trivial)
theorem ZwR [NW] (h:st.ob=st'.ob) (v:SV):Zgk st v=Zgk st' v:=by
 have ha:∀cs,Xc st cs=Xc st' cs:=fun cs=>Zhx (U:=fun _=>True) (fun k _=>.inl (by rw [h])) (fun x _=>by cases x<;>trivial)
 unfold Zgk
 split
 .rw [h]
  split
  .rw [ha]
  .rfl
 .rw [h]
 .rfl
theorem Zk0 (h:st.ob=st'.ob):∀xs:List AV,Y5 st xs=Y5 st' xs
 | []=>rfl
 |x::r=>by
  have e:ZfC st x=ZfC st' x:=by
   cases x with
   |row k=>simp only[ZfC,h]
   |c y=>cases y<;>rfl
   |_=>rfl
  simp only[Y5,e,Zk0 h r]
theorem Zp7 (h:st.ob=st'.ob) (v:SV):ZdP st v=ZdP st' v:=by
 unfold ZdP
 split
 .rw [h]
  split
  .rw [Zk0 h]
  .rfl
 .rfl
theorem Zrb (h:st.ob=st'.ob) (vs:List SV):ZiW st vs=ZiW st' vs:=by
 unfold ZiW
 split
 .rfl
 .rw [Zk0 h]
 .rfl
theorem Zng [NW] (h:st.ob=st'.ob) {f:FuncId}{n:Nat}{vs:List SV}{v:SV}{u:List (Nat×Ob)}:Zaq S f n key st vs v u↔Zaq S f n key st' vs v u:=by
 have hs:∀xs,ZY st xs=ZY st' xs:=fun xs=>Ze4 (U:=fun _=>True) (fun k _=>.inl (by rw [h])) (fun x _=>ZF8 x)
 unfold Zaq
 split
 .simp only[hs]
 .simp only[hs,ZwR h,Zc7 h]
 .simp only[hs,Zc7 h]
 .simp only[hs]
 .simp only[hs,Zp7 h,Zrb h,Zc7 h]
 .simp only[hs,Zp7 h,Zrb h,Zc7 h]
 .simp only[hs,Zrb h,Zc7 h]
 .simp only[hs,Zc7 h]
theorem ZwC [NW] {o:Oper}{v:SV}{u:List (Nat×Ob)}(hl:∀x∈o.op.operands,∀t,st.ev tt t x=st'.ev tt t x)
  (a:cls tt S.hd o.op=0\/st.ob=st'.ob\/(∀t x,svU U (st.ev tt t x))/\((cls tt S.hd o.op<=3/\∀k,U k->st.ob k=st'.ob k)\/(cls tt S.hd o.op<=1/\Wk st st' U))):ZaF tt S key o st v u↔ZaF tt S key o st' v u:=by
 cases hc:Xd o.op with
 |some c=>
  simp only[ZaF,hc]
  have l:∃args ts,o.op=.call ⟨.value (.func c.1),args,ts⟩/\c.2.1=ts.toList/\c.2.2=args.toList:=by
   unfold Xd at hc
   split at hc
   .rename_i f args ts he
    simp only[A0]at hc
    rw [<-hc]
    exact ⟨args,ts,he,rfl,rfl⟩
   .simp at hc
  obtain ⟨args,ts,ho,e1,e2⟩:=l
  have d:evs tt st c.2.1 c.2.2=evs tt st' c.2.1 c.2.2:=ZeC fun x m t=>hl x (by rw [ho];rw [e2]at m;simp [Op.operands,Call.operands];exact .inr (by simpa using m)) t
  rw [<-d]
  rcases a with e|a|⟨hu,a⟩
  .rw [ZbP hc]at e
   split at e<;>simp at e
  .exact Zng a
  .have g:cls tt S.hd o.op<=3:=by rcases a with h|h<;>omega
   have j:Wk st st' U:=by
    rcases a with h|h
    .exact .of h.2
    .exact h.2
   have h0:S.hd c.1=0\/S.hd c.1=4:=by
    rw [ZbP hc]at g
    split at g
    .assumption
    .simp at g
   have b:∀x∈evs tt st c.2.1 c.2.2,svU U x:=fun x hx=>by
    obtain ⟨p,_,rfl⟩:=AB.1 hx
    exact hu _ _
   rcases h0 with h0|h0
   .have i:ZY st (evs tt st c.2.1 c.2.2)=ZY st' (evs tt st c.2.1 c.2.2):=Ze4 (U:=U) j b
    rw [h0]
    simp only[Zaq,i]
   .have i:ZY st ((evs tt st c.2.1 c.2.2).map nlS)=ZY st' ((evs tt st c.2.1 c.2.2).map nlS):=Ze4 (U:=U) j (fun x hx=>by
     obtain ⟨y,my,rfl⟩:=AB.1 hx
     exact ZAl (b y my))
    rw [h0]
    simp only[Zaq,i]
 |none=>
  simp only[ZaF,hc]
  have:opE tt key o st=opE tt key o st':=by
   obtain ⟨sl,ob,n⟩:=st
   obtain ⟨q,ob',n'⟩:=st'
   have s1:opE tt key o ⟨q,ob',n'⟩=opE tt key o ⟨sl,ob',n⟩:=ZoW fun x m t=>by
    rw [<-hl x m t];exact Zvo _ _ _ _ _ _ _
   rw [s1]
   rcases a with hc|a|⟨hu,⟨hc,a⟩|⟨hc,a⟩⟩
   .exact Zmb (U:=U) (.inl hc)
   .simp only at a;subst a;rfl
   .exact Zmb (U:=U) (.inr (.inl ⟨hc,a,hu⟩))
   .exact Zmb (U:=U) (.inr (.inr ⟨hc,a,hu⟩))
  cases hd:XD o.op with
  |none=>simp only[this]
  |some c=>
   simp only
   obtain ⟨args,ts,ho,e1,e2⟩:=Znc hd
   have d:evs tt st c.2.1 c.2.2=evs tt st' c.2.1 c.2.2:=ZeC fun x m t=>hl x (by rw [ho];rw [e2]at m;simp [Op.operands,Call.operands];exact .inr (by simpa using m)) t
   have w:st.sl c.1=st'.sl c.1:=hl (.tmp c.1) (by rw [ho];simp [Op.operands,Call.operands]) 0
   have h4:=Zhp (tt:=tt) (hs:=S.hd) hd
   rcases a with h0|h0|⟨_,⟨h0,_⟩|⟨h0,_⟩⟩
   .omega
   .rw [d,w]
    constructor
    .rintro ⟨fc,f1,f2,f3⟩;exact ⟨fc,f1,f2,(Zng h0).1 f3⟩
    .rintro ⟨fc,f1,f2,f3⟩;exact ⟨fc,f1,f2,(Zng h0).2 f3⟩
   .omega
   .omega
theorem Zah [NW] {a:Array Oper}{o:Oper}{v:SV}{u:List (Nat×Ob)}(hl:∀s∈o.looksAt a,st.sl s=st'.sl s)
  (b:cls tt S.hd o.op=0\/st.ob=st'.ob\/(∀t x,svU U (st.ev tt t x))/\((cls tt S.hd o.op<=3/\∀k,U k->st.ob k=st'.ob k)\/(cls tt S.hd o.op<=1/\Wk st st' U))):opR tt S a.toList key o st v u↔opR tt S a.toList key o st' v u:=by
 have c:∀x∈o.op.operands,∀t,st.ev tt t x=st'.ev tt t x:=fun x m t=>by
  cases x with
  |tmp s=>exact hl s (by
    unfold Oper.looksAt
    refine AA.2 (.inl (As.2 ⟨.tmp s,by simpa using m,rfl⟩)))
  |_=>rfl
 have h1:=ZwC (S:=S) (key:=key) (v:=v) (u:=u) c b
 unfold opR
 cases hg:Zbl a.toList o with
 |none=>exact h1
 |some q=>
  obtain ⟨q,want⟩:=q
  cases q with
  |none=>rfl
  |some t=>
   have ht:st.sl t=st'.sl t:=hl t (by
    unfold Zbl at hg
    split at hg
    .simp at hg
    .rename_i g d
     simp only[A0,A5]at hg
     unfold Oper.looksAt
     refine AA.2 (.inr ?_)
     rw [d]
     have:(a[g.1]?).bind (·.dst)=some t:=by simpa using hg.1
     simp [this])
   simp only[gK,ht,h1]
theorem ZHD [NW] (hU:StU U st) (t:Nat) (x:Operand):svU U (st.ev tt t x):=by
 cases x with
 |tmp s=>exact hU.sl s
 |const v=>
  show svU U (cvT (tt t) v)
  unfold cvT
  split
  .exact XZ _
  .exact XZ _
  .split
   .exact XZ _
   .trivial
  .split
   .intro y m;simp at m;subst m;trivial
   .trivial
  .trivial
 |global _=>trivial
 |func _=>trivial
theorem Qq [NW]:∀{u:List (Nat×Ob)}{ob:Nat->Ob}{k:Nat},(∀p∈u,p.1≠k)->Zl ob u k=ob k
 | [],_,_,_=>rfl
 |p::r,ob,k,h=>by
  rw [Zl,Qq fun q m=>h q (by simp [m])]
  exact ZO _ _ fun e=>h p yG e.symm
theorem Zk6 [NW]:∀{u:List (Nat×Ob)}{ob ob':Nat->Ob}{k:Nat},(∃p∈u,p.1=k)->Zl ob u k=Zl ob' u k
 | [],_,_,_,h=>by simp at h
 |p::r,ob,ob',k,h=>by
  rw [Zl,Zl]
  by_cases hr:∃q∈r,q.1=k
  .exact Zk6 hr
  .have hn:∀q∈r,q.1≠k:=fun q m e=>hr ⟨q,m,e⟩
   rw [Qq hn,Qq hn]
   obtain ⟨q,mq,e⟩:=h
   rcases A9.1 mq with rfl|mq
   .rw [<-e,ZF,ZF]
   .exact absurd e (hn q mq)
theorem ZsR [NW] {u1 u2:List (Nat×Ob)}{ob:Nat->Ob}(h:∀p∈u1,∀q∈u2,p.1≠q.1):Zl (Zl ob u1) u2=Zl (Zl ob u2) u1:=by
 funext k
 by_cases h1:∃p∈u1,p.1=k
 .obtain ⟨p,mp,rfl⟩:=h1
  rw [Qq fun q mq e=>h p mp q mq e.symm]
  exact Zk6 ⟨p,mp,rfl⟩
 .have hn:∀q∈u1,q.1≠k:=fun q m e=>h1 ⟨q,m,e⟩
  rw [Qq (ob:=Zl ob u2) hn]
  by_cases h2:∃p∈u2,p.1=k
  .exact Zk6 h2
  .have a:∀q∈u2,q.1≠k:=fun q m e=>h2 ⟨q,m,e⟩
   rw [Qq a,Qq a,Qq hn]
theorem ZdD [NW] (st:St) (d:Option Nat) (v:SV) (s:Nat) (h:∀t,d=some t->s≠t):(st.put d v).sl s=st.sl s:=by
 cases d with
 |none=>rfl
 |some t=>exact ZO _ _ (h t rfl)
theorem XW (st:St) (d:Option Nat) (v:SV):(st.put d v).ob=st.ob:=by cases d<;>rfl
theorem Zmn (st:St) (d:Option Nat) (v:SV):(st.put d v).n=st.n:=by cases d<;>rfl
theorem ZpA (st:St) (d e:Option Nat) (v u:SV) (h:∀t,d=some t->e≠some t):((st.put d v).put e u).sl=((st.put e u).put d v).sl:=by
 cases d with
 |none=>rfl
 |some t=>cases e with
  |none=>rfl
  |some s=>
   have a:t≠s:=fun e=>h t rfl (e ▸ rfl)
   funext k
   show upd (upd st.sl t v) s u k=upd (upd st.sl s u) t v k
   unfold upd
   by_cases h1:k=s
   .by_cases h2:k=t
    .exact absurd (h2.symm.trans h1) a
    .have b:¬s=t:=fun e=>a e.symm
     simp [h1,b]
   .simp [h1]
def Zxj (tt:Nat->Option TI):Op->Bool
 |.slice t _ (some _) none none=>!ZdI (tt t)
 |.call ⟨.builtin .append,_,_⟩=>true
 |_=>false
theorem Zic [NW] {a:Array Oper}{o:Oper}{v:SV}{u:List (Nat×Ob)}(hl:∀s∈o.looksAt a,st.sl s=st'.sl s) (h1:ZaF tt S key o st' v u->ZaF tt S key o st v u) (h:opR tt S a.toList key o st' v u):opR tt S a.toList key o st v u:=by
 unfold opR at h ⊢
 cases hg:Zbl a.toList o with
 |none=>rw [hg]at h;exact h1 h
 |some q=>
  obtain ⟨q,want⟩:=q
  rw [hg]at h
  cases q with
  |none=>exact h
  |some t=>
   have ht:st.sl t=st'.sl t:=hl t (by
    unfold Zbl at hg
    split at hg
    .simp at hg
    .rename_i g c
     simp only[A0,A5]at hg
     unfold Oper.looksAt
     refine AA.2 (.inr ?_)
     rw [c]
     have:(a[g.1]?).bind (·.dst)=some t:=by simpa using hg.1
     simp [this])
   simp only[gK,ht]at h ⊢
   split at h
   .rename_i hb
    rw [if_pos hb]
    split at h
    .rename_i b;rw [if_pos b];exact h1 h
    .rename_i b;rw [if_neg b];exact h
   .rename_i hb
    rw [if_neg hb]
    exact h
theorem Zbv {a:Array Oper}{o:Oper}(hl:∀s∈o.looksAt a,st.sl s=st'.sl s):∀x∈o.op.operands,∀t,st.ev tt t x=st'.ev tt t x:=fun x m t=>by
 cases x with
 |tmp s=>exact hl s (by
   unfold Oper.looksAt
   refine AA.2 (.inl (As.2 ⟨.tmp s,by simpa using m,rfl⟩)))
 |_=>rfl
theorem Zxq [NW] {o:Oper}{v:SV}{u:List (Nat×Ob)}(hl:∀x∈o.op.operands,∀t,st.ev tt t x=st'.ev tt t x) (a:cls tt S.hd o.op<=1) (hu:∀t x,svU U (st.ev tt t x)) (d:Mk st st' U) (h:ZaF tt S key o st' v u):ZaF tt S key o st v u:=by
 cases hc:Xd o.op with
 |some c=>
  simp only[ZaF,hc]at h ⊢
  have g:∃args ts,o.op=.call ⟨.value (.func c.1),args,ts⟩/\c.2.1=ts.toList/\c.2.2=args.toList:=by
   unfold Xd at hc
   split at hc
   .rename_i f args ts he
    simp only[A0]at hc
    rw [<-hc]
    exact ⟨args,ts,he,rfl,rfl⟩
   .simp at hc
  obtain ⟨args,ts,ho,e1,e2⟩:=g
  have i:evs tt st c.2.1 c.2.2=evs tt st' c.2.1 c.2.2:=ZeC fun x m t=>hl x (by rw [ho];rw [e2]at m;simp [Op.operands,Call.operands];exact .inr (by simpa using m)) t
  rw [<-i]at h
  have h0:S.hd c.1=0\/S.hd c.1=4:=by
   rw [ZbP hc]at a
   split at a
   .assumption
   .simp at a
  have b:∀x∈evs tt st c.2.1 c.2.2,svU U x:=fun x hx=>by
   obtain ⟨p,_,rfl⟩:=AB.1 hx
   exact hu _ _
  rcases h0 with h0|h0
  .rw [h0]at h ⊢
   simp only[Zaq]at h ⊢
   obtain ⟨al,e,h1,h2⟩:=h
   exact ⟨al,e,ZhR d b h1,h2⟩
  .rw [h0]at h ⊢
   simp only[Zaq]at h ⊢
   obtain ⟨al,e,h1,h2⟩:=h
   exact ⟨al,e,ZhR d (fun x hx=>by
    obtain ⟨y,my,rfl⟩:=AB.1 hx
    exact ZAl (b y my)) h1,h2⟩
 |none=>
  simp only[ZaF,hc]at h ⊢
  cases hd:XD o.op with
  |some c=>have h4:=Zhp (tt:=tt) (hs:=S.hd) hd;omega
  |none=>
   rw [hd]at h
   simp only at h ⊢
   obtain ⟨sl,ob,n⟩:=st
   obtain ⟨j,ob',n'⟩:=st'
   have s1:opE tt key o ⟨j,ob',n'⟩=opE tt key o ⟨sl,ob',n⟩:=ZoW fun x m t=>by
    rw [<-hl x m t];exact Zvo _ _ _ _ _ _ _
   rw [s1]at h
   exact ZzD a d hu h
theorem ZCo {o:Op}(h:Zxj tt o=true):(∃t x lo,o=.slice t x (some lo) none none/\ZdI (tt t)=false)\/∃args ts,o=.call ⟨.builtin .append,args,ts⟩:=by
 unfold Zxj at h
 split at h
 .exact .inl ⟨_,_,_,rfl,by simpa using h⟩
 .exact .inr ⟨_,_,rfl⟩
 .simp at h
theorem Zzr [NW] {s:SV}{a:List (List CT)×List Nat×Nat}(hs:svU U s) (h:Zgo st s=some a):∀k∈a.2.1,U k:=by
 unfold Zgo at h
 split at h
 .simp only[A0]at h;rw [<-h];simp
 .split at h
  .split at h
   .simp at h
   .simp only[A0]at h
    rw [<-h]
    intro k hk
    simp only[A9,AK,or_false]at hk
    subst hk
    exact hs (.row _) yG
  .simp at h
 .simp at h
theorem ZyZ [NW] {fl:Bool}{s:SV}{a:List (List CT)×List Nat×Nat}(hs:svU U s) (h:Zgi st fl s=some a):∀k∈a.2.1,U k:=by
 unfold Zgi at h
 split at h
 .simp only[A0]at h;rw [<-h];simp
 .simp only[A0]at h;rw [<-h];simp
 .split at h
  .split at h
   .simp only[A0]at h;rw [<-h];simp
   .simp only[A0]at h
    rw [<-h]
    intro k hk
    simp only[A9,AK,or_false]at hk
    subst hk
    exact hs (.row _) yG
  .simp at h
 .simp at h
theorem Zwx [NW] {t:Option TI}{s x:SV}(hs:svU U s) (hx:svU U x) (a:∀k,U k->st.ob k=st'.ob k):ZoC st key t s x=ZoC st' key t s x:=by
 have e1:Zgo st s=Zgo st' s:=by
  unfold Zgo
  split
  .rfl
  .rename_i k
   rw [a k (hs (.row k) yG)]
  .rfl
 have e2:∀fl,Zgi st fl x=Zgi st' fl x:=fun fl=>by
  unfold Zgi
  split
  .rfl
  .rfl
  .rename_i k
   rw [a k (hx (.row k) yG)]
  .rfl
 have e3:∀e m,ZnD st e m s=ZnD st' e m s:=fun e m=>by
  unfold ZnD
  split
  .rename_i k
   rw [a k (hs (.row k) yG)]
  .rfl
  .rfl
 have e4:∀m,ZlE st m x=ZlE st' m x:=fun m=>by
  unfold ZlE
  split
  .rename_i k
   rw [a k (hx (.row k) yG)]
  .rfl
  .rfl
  .rfl
 unfold ZoC
 split
 .simp only[e1,e2,e3,e4]
 .rfl
theorem Zv1 {ts:List TypeId}{vs:List SV}{r:SV×List (Nat×Ob)}(h:Zgq tt st key .append ts vs=some r):∃t s x,ts=[t,t]/\vs=[s,x]/\ZoC st key (tt t) s x=some r:=by
 match ts,vs,h with
 | [t,u],[s,x],h=>
  simp only[Zgq]at h
  split at h
  .rename_i e;subst e;exact ⟨t,s,x,rfl,rfl,h⟩
  .simp at h
 | [],_,h=>simp [Zgq]at h
 | [_],_,h=>simp [Zgq]at h
 |_::_::_::_,_,h=>simp [Zgq]at h
 | [_,_],[],h=>simp [Zgq]at h
 | [_,_],[_],h=>simp [Zgq]at h
 | [_,_],_::_::_::_,h=>simp [Zgq]at h
theorem ZBY [NW] {o:Oper}{v:SV}{u:List (Nat×Ob)}(hm:Zxj tt o.op=true) (hU:∀t x,svU U (st.ev tt t x)) (h:ZaF tt S key o st v u):(∀p∈u,(key<=p.1/\p.1<key+16)\/(U p.1/\(p.2=st.ob p.1\/p.2=.gone))):=by
 obtain ⟨g,op,ty,i,af,gd⟩:=o
 obtain ⟨t,x,lo,ho,hs⟩|⟨args,ts,ho⟩:=ZCo hm
 rotate_left
 .simp only at ho
  subst ho
  have h':Zgq tt st key .append ts.toList (evs tt st ts.toList args.toList)=some (v,u):=h
  obtain ⟨t,s,x,_,he,h'⟩:=Zv1 h'
  have c:svU U s/\svU U x:=by
   have d:∀y∈evs tt st ts.toList args.toList,svU U y:=fun y my=>by
    obtain ⟨p,_,rfl⟩:=AB.1 my
    exact hU _ _
   exact ⟨d s (by rw [he];simp),d x (by rw [he];simp)⟩
  unfold ZoC at h'
  split at h'
  .obtain ⟨a,h1,h'⟩:=A6.1 h'
   obtain ⟨b,h2,h'⟩:=A6.1 h'
   split at h'
   .simp only[A0,A5]at h'
    rw [<-h'.2]
    intro p hp
    rcases AA.1 hp with hp|hp
    .obtain ⟨k,mk,rfl⟩:=AB.1 hp
     refine .inr ⟨?_,.inr rfl⟩
     rcases AA.1 mk with mk|mk
     .exact Zzr c.1 h1 k mk
     .exact ZyZ c.2 h2 k mk
    .simp only[A9,AK,or_false]at hp
     subst hp
     exact .inl ⟨AC _,by simp only;omega⟩
   .simp at h'
  .simp at h'
 simp only at ho
 subst ho
 have h':opE tt key ⟨g,.slice t x (some lo) none none,ty,i,af,gd⟩ st=some (v,u):=h
 simp only[opE,ZaJ,AJ,AO]at h'
 intro p hp
 split at h'
 .rename_i k hv
  have hk:U k:=by
   have:=hU 0 x
   rw [hv]at this
   exact this (.row k) yG
  split at h'
  .split at h'
   .rename_i j
    split at h'
    .split at h'
     .obtain ⟨l,_,e⟩:=A4.1 h'
      simp only[A5]at e
      rw [<-e.2]at hp
      simp only[A9,AK,or_false]at hp
      rcases hp with rfl|rfl
      .exact .inr ⟨hk,.inr rfl⟩
      .exact .inl ⟨AC _,by simp only;omega⟩
     .rename_i f
      obtain ⟨_,_,h'⟩:=A6.1 h'
      obtain ⟨_,_,e⟩:=A4.1 h'
      simp only[A5]at e
      rw [<-e.2]at hp
      simp only[A9,AK,or_false]at hp
      subst hp
      refine .inr ⟨hk,.inl ?_⟩
      simp only[mvS]at f
      split at f
      .rename_i hd;rw [j,hd]
      .simp at f
    .simp at h'
   .simp at h'
  .simp at h'
 .obtain ⟨_,_,e⟩:=A4.1 h'
  simp only[A5]at e
  rw [<-e.2]at hp
  simp at hp
 .simp at h'
theorem ZB4 [NW] {o:Oper}{v:SV}{u:List (Nat×Ob)}(hm:Zxj tt o.op=true) (hl:∀x∈o.op.operands,∀t,st.ev tt t x=st'.ev tt t x) (hU:∀t x,svU U (st'.ev tt t x)) (b:∀k,U k->st.ob k=st'.ob k) (h:ZaF tt S key o st' v u):ZaF tt S key o st v u:=by
 obtain ⟨c,op,ty,d,af,gd⟩:=o
 obtain ⟨t,x,lo,ho,hs⟩|⟨args,ts,ho⟩:=ZCo hm
 rotate_left
 .simp only at ho
  subst ho
  have h':Zgq tt st' key .append ts.toList (evs tt st' ts.toList args.toList)=some (v,u):=h
  show Zgq tt st key .append ts.toList (evs tt st ts.toList args.toList)=some (v,u)
  have e:evs tt st ts.toList args.toList=evs tt st' ts.toList args.toList:=ZeC fun x m t=>hl x (by simpa [Op.operands,Call.operands]using m) t
  have a:∀y∈evs tt st' ts.toList args.toList,svU U y:=fun y my=>by
   obtain ⟨p,_,rfl⟩:=AB.1 my
   exact hU _ _
  obtain ⟨t,s,x,et,he,h'⟩:=Zv1 h'
  rw [e,he,et]
  rw [he]at a
  show (if t=t then ZoC st key (tt t) s x else none)=_
  rw [if_pos rfl,Zwx (a s yG) (a x yG) b,h']
 simp only at ho
 subst ho
 have h':opE tt key ⟨c,.slice t x (some lo) none none,ty,d,af,gd⟩ st'=some (v,u):=h
 show opE tt key ⟨c,.slice t x (some lo) none none,ty,d,af,gd⟩ st=some (v,u)
 have e1:=hl x (by simp [Op.operands]) 0
 have e2:=hl lo (by simp [Op.operands]) 0
 simp only[opE,AJ,AO,e1,e2]at h' ⊢
 rw [<-h']
 have hx:=hU 0 x
 unfold ZaJ
 split
 .rename_i k hv
  rw [hv]at hx
  have hk:U k:=hx (.row k) yG
  simp only[b k hk]
 .rfl
 .rfl
theorem Za5 [NW] {a:List Oper}{o:Oper}{v:SV}{u:List (Nat×Ob)}{C:Prop}(h:opR tt S a key o st v u) (h1:ZaF tt S key o st v u->C) (h2:u=[]->C):C:=by
 unfold opR at h
 split at h
 .exact h1 h
 .exact h2 h.2
 .unfold gK at h
  split at h
  .split at h
   .exact h1 h
   .exact h2 h.2
  .split at h
   .exact h2 h.2
   .exact h.elim
def Zu8 (tt:Nat->Option TI) (hs:FuncId->Nat) (x y:Op):Bool:=cls tt hs x==0||cls tt hs y==0||(Nat.ble (cls tt hs x) 2&&Nat.ble (cls tt hs y) 2)||(Nat.ble (cls tt hs x) 1&&Nat.ble (cls tt hs y) 3)||(Nat.ble (cls tt hs x) 3&&Nat.ble (cls tt hs y) 1)||(Zxj tt x&&Nat.ble (cls tt hs y) 1)
theorem comm [NW] {c:Array Oper}{oi oj:Oper}{ki kj:Nat}{vi vj:SV}{ui uj:List (Nat×Ob)}(G:oi.apart c oj=true) (hc:Zu8 tt S.hd oi.op oj.op=true) (hU:StU U st) (m:∀k,ki<=k->k<ki+16->¬U k) (j:∀k,kj<=k->k<kj+16->¬U k) (hdis:ki+16<=kj\/kj+16<=ki)
  (h:opR tt S c.toList ki oi st vi ui) (h':opR tt S c.toList kj oj ((st.put oi.dst vi).app ui) vj uj):
  opR tt S c.toList kj oj st vj uj/\opR tt S c.toList ki oi ((st.put oj.dst vj).app uj) vi ui/\((((st.put oi.dst vi).app ui).put oj.dst vj).app uj)=((((st.put oj.dst vj).app uj).put oi.dst vi).app ui):=by
 obtain ⟨a1,a2,a3⟩:=Oper.apart_spec G
 have b:∀t x,svU U (st.ev tt t x):=fun t x=>ZHD hU t x
 obtain ⟨i1,i2,i3⟩:=Zn2 (U:=U) b h
 have l:(∀p∈ui,∀q∈uj,p.1≠q.1)->((((st.put oi.dst vi).app ui).put oj.dst vj).app uj)=((((st.put oj.dst vj).app uj).put oi.dst vi).app ui):=fun H=>by
  have o:((((st.put oi.dst vi).app ui).put oj.dst vj).app uj).sl=((((st.put oj.dst vj).app uj).put oi.dst vi).app ui).sl:=by
   have e1:∀(s:St) (u:List (Nat×Ob)) (d:Option Nat) (v:SV),((s.app u).put d v).sl=(s.put d v).sl:=fun s u d v=>by cases d<;>rfl
   show (((st.put oi.dst vi).app ui).put oj.dst vj).sl=(((st.put oj.dst vj).app uj).put oi.dst vi).sl
   rw [e1,e1]
   exact ZpA st _ _ _ _ fun t ht=>a2 t ht
  have i:((((st.put oi.dst vi).app ui).put oj.dst vj).app uj).ob=((((st.put oj.dst vj).app uj).put oi.dst vi).app ui).ob:=by
   show Zl (((st.put oi.dst vi).app ui).put oj.dst vj).ob uj=Zl (((st.put oj.dst vj).app uj).put oi.dst vi).ob ui
   rw [XW,XW]
   show Zl (Zl (st.put oi.dst vi).ob ui) uj=Zl (Zl (st.put oj.dst vj).ob uj) ui
   rw [XW,XW]
   exact ZsR H
  have hn:((((st.put oi.dst vi).app ui).put oj.dst vj).app uj).n=((((st.put oj.dst vj).app uj).put oi.dst vi).app ui).n:=by
   show (((st.put oi.dst vi).app ui).put oj.dst vj).n=(((st.put oj.dst vj).app uj).put oi.dst vi).n
   rw [Zmn,Zmn]
   show (st.put oi.dst vi).n=(st.put oj.dst vj).n
   rw [Zmn,Zmn]
  generalize ((((st.put oi.dst vi).app ui).put oj.dst vj).app uj)=s1 at o i hn ⊢
  generalize ((((st.put oj.dst vj).app uj).put oi.dst vi).app ui)=s2 at o i hn ⊢
  cases s1;cases s2
  simp only at o i hn
  subst o i hn
  rfl
 by_cases A:Zxj tt oi.op=true/\cls tt S.hd oj.op<=1
 .obtain ⟨hm,hj⟩:=A
  have B:∀p∈ui,(ki<=p.1/\p.1<ki+16)\/(U p.1/\(p.2=st.ob p.1\/p.2=.gone)):=Za5 h (fun h=>ZBY hm b h) fun e p hp=>by rw [e]at hp;simp at hp
  have I:Mk st ((st.put oi.dst vi).app ui) U:=fun k hk=>by
   show Zl (st.put oi.dst vi).ob ui k=st.ob k\/Zl (st.put oi.dst vi).ob ui k=.gone
   rw [XW]
   have z:∀(u:List (Nat×Ob)) (ob:Nat->Ob),(∀p∈u,(ki<=p.1/\p.1<ki+16)\/(U p.1/\(p.2=st.ob p.1\/p.2=.gone)))->(ob k=st.ob k\/ob k=.gone)->(Zl ob u k=st.ob k\/Zl ob u k=.gone):=by
    intro u
    induction u with
    |nil=>intro ob _ h;exact h
    |cons p u ih=>
     intro ob hp h
     refine ih _ (fun x mx=>hp x (by simp [mx])) ?_
     by_cases g:k=p.1
     .rcases hp p yG with h1|h1
      .exact absurd (g ▸ hk) (m p.1 h1.1 h1.2)
      .rw [g,ZF];exact h1.2
     .rw [ZO _ _ g];exact h
   exact z ui st.ob B (.inl rfl)
  have C:∀s∈oj.looksAt c,st.sl s=((st.put oi.dst vi).app ui).sl s:=fun s ms=>(ZdD st oi.dst vi s fun t ht e=>a1 t ht (e ▸ ms)).symm
  have hA:opR tt S c.toList kj oj st vj uj:=Zic C (Zxq (Zbv C) hj b I) h'
  obtain ⟨_,j2,_⟩:=Zn2 (U:=U) b hA
  have D:∀s∈oi.looksAt c,((st.put oj.dst vj).app uj).sl s=st.sl s:=fun s ms=>ZdD st oj.dst vj s fun t ht e=>a3 t ht (e ▸ ms)
  have J:∀k,U k->((st.put oj.dst vj).app uj).ob k=st.ob k:=fun k hk=>by
   show Zl (st.put oj.dst vj).ob uj k=st.ob k
   rw [XW]
   exact Qq fun p mp e=>j p.1 (j2 yE p mp).1 (j2 yE p mp).2 (e ▸ hk)
  refine ⟨hA,Zic D (ZB4 hm (Zbv D) b J) h,l fun p mp q mq e=>?_⟩
  have h2:=j2 yE q mq
  rcases B p mp with h1|h1
  .omega
  .exact j q.1 h2.1 h2.2 (e ▸ h1.1)
 have a:cls tt S.hd oi.op=0\/cls tt S.hd oj.op=0\/(cls tt S.hd oi.op<=2/\cls tt S.hd oj.op<=2)\/(cls tt S.hd oi.op<=1/\cls tt S.hd oj.op<=3)\/(cls tt S.hd oi.op<=3/\cls tt S.hd oj.op<=1):=by
  unfold Zu8 at hc
  simp only[AF,beq_iff_eq,AD]at hc
  rcases hc with ((((hc|hc)|hc)|hc)|hc)|hc
  .exact .inl hc
  .exact .inr (.inl hc)
  .exact .inr (.inr (.inl ⟨AI hc.1,AI hc.2⟩))
  .exact .inr (.inr (.inr (.inl ⟨AI hc.1,AI hc.2⟩)))
  .exact .inr (.inr (.inr (.inr ⟨AI hc.1,AI hc.2⟩)))
  .exact absurd ⟨hc.1,AI hc.2⟩ A
 have f:∀{u:List (Nat×Ob)} {q:Nat},(∀p∈u,q<=p.1/\p.1<q+16)->(∀k,q<=k->k<q+16->¬U k)->∀k,U k->st.ob k=Zl st.ob u k:=fun hu hq k hk=>(Qq fun p mp e=>hq p.1 (hu p mp).1 (hu p mp).2 (e ▸ hk)).symm
 have y:∀{u:List (Nat×Ob)} {q:Nat},(∀p∈u,(q<=p.1/\p.1<q+16)\/(U p.1/\p.2=Yq (st.ob p.1)))->(∀k,q<=k->k<q+16->¬U k)->∀k,U k->Zl st.ob u k=st.ob k\/Zl st.ob u k=Yq (st.ob k):=fun {u q} hu hq k hk=>by
  have z:∀(u:List (Nat×Ob)) (ob:Nat->Ob),(∀p∈u,(q<=p.1/\p.1<q+16)\/(U p.1/\p.2=Yq (st.ob p.1)))->(ob k=st.ob k\/ob k=Yq (st.ob k))->(Zl ob u k=st.ob k\/Zl ob u k=Yq (st.ob k)):=by
   intro u
   induction u with
   |nil=>intro ob _ h;exact h
   |cons p u ih=>
    intro ob hp h
    refine ih _ (fun x mx=>hp x (by simp [mx])) ?_
    by_cases g:k=p.1
    .rcases hp p yG with h1|h1
     .exact absurd (g ▸ hk) (hq p.1 h1.1 h1.2)
     .right;rw [g,ZF];exact h1.2
    .rw [ZO _ _ g];exact h
  exact z u st.ob hu (.inl rfl)
 have hA:opR tt S c.toList kj oj st vj uj:=by
  refine (Zah (U:=U) (st:=st) (st':=(st.put oi.dst vi).app ui) (fun s ms=>(ZdD st oi.dst vi s fun t ht e=>a1 t ht (e ▸ ms)).symm) ?_).2 h'
  show cls tt S.hd oj.op=0\/st.ob=Zl (st.put oi.dst vi).ob ui\/_/\((cls tt S.hd oj.op<=3/\∀k,U k->st.ob k=Zl (st.put oi.dst vi).ob ui k)\/(cls tt S.hd oj.op<=1/\∀k,U k->Zl (st.put oi.dst vi).ob ui k=st.ob k\/Zl (st.put oi.dst vi).ob ui k=Yq (st.ob k)))
  rw [XW]
  rcases a with a|a|⟨c1,c2⟩|⟨c1,c2⟩|⟨c1,c2⟩
  .right;left;rw [i1 a];rfl
  .left;exact a
  .right;right;exact ⟨b,.inl ⟨yE,f (i2 c1) m⟩⟩
  .right;right;exact ⟨b,.inl ⟨c2,f (i2 yE) m⟩⟩
  .right;right;exact ⟨b,.inr ⟨c2,y (i3 c1) m⟩⟩
 obtain ⟨E,w,F⟩:=Zn2 (U:=U) b hA
 refine ⟨hA,?_,?_⟩
 .refine (Zah (U:=U) (st:=st) (st':=(st.put oj.dst vj).app uj) (fun s ms=>(ZdD st oj.dst vj s fun t ht e=>a3 t ht (e ▸ ms)).symm) ?_).1 h
  show cls tt S.hd oi.op=0\/st.ob=Zl (st.put oj.dst vj).ob uj\/_/\((cls tt S.hd oi.op<=3/\∀k,U k->st.ob k=Zl (st.put oj.dst vj).ob uj k)\/(cls tt S.hd oi.op<=1/\∀k,U k->Zl (st.put oj.dst vj).ob uj k=st.ob k\/Zl (st.put oj.dst vj).ob uj k=Yq (st.ob k)))
  rw [XW]
  rcases a with a|a|⟨c1,c2⟩|⟨c1,c2⟩|⟨c1,c2⟩
  .left;exact a
  .right;left;rw [E a];rfl
  .right;right;exact ⟨b,.inl ⟨yE,f (w c2) j⟩⟩
  .right;right;exact ⟨b,.inr ⟨c1,y (F c2) j⟩⟩
  .right;right;exact ⟨b,.inl ⟨c1,f (w yE) j⟩⟩
 .rcases a with a|a|⟨c1,c2⟩|⟨c1,c2⟩|⟨c1,c2⟩
  .exact l fun p mp=>by rw [i1 a]at mp;simp at mp
  .exact l fun p mp q mq=>by rw [E a]at mq;simp at mq
  .refine l fun p mp q mq e=>?_
   have:=i2 c1 p mp
   have:=w c2 q mq
   omega
  .refine l fun p mp q mq e=>?_
   have h1:=i2 yE p mp
   rcases F c2 q mq with h2|h2
   .omega
   .exact m p.1 h1.1 h1.2 (e ▸ h2.1)
  .refine l fun p mp q mq e=>?_
   have h1:=w yE q mq
   rcases i3 c1 p mp with h2|h2
   .omega
   .exact j q.1 h1.1 h1.2 (e ▸ h2.1)
/- a load and a call into which something is handed: what is handed in stands at the key 0, the load looks elsewhere -/
def Zip:Op->Bool
 |.load _ _=>true
 |_=>false
def Zxr (hs:FuncId->Nat) (o:Op):Bool:=match Xd o with
 |some c=>hs c.1==1
 |none=>false
def Zp1:Op->Bool
 |.slice _ _ _ _ none=>true
 |_=>false
def ZqV:Op->Bool
 |.indexAddr _ _ _=>true
 |_=>false
def Zw3 (tt:Nat->Option TI) (hs:FuncId->Nat) (b:Bool) (all:List Oper) (x y:Op):Bool:=Zu8 tt hs x y||(b&&((!Znw all all&&((Zip x&&Zxr hs y)||(Zxr hs x&&Zip y)))||Zp1 x||Zp1 y||((Zip x||ZqV x)&&Y0 all y)||(Y0 all x&&(Zip y||ZqV y))))
theorem Zr4 {o:Op}{c:FuncId×List TypeId×List Operand}(h:Xd o=some c):∃args ts,o=.call ⟨.value (.func c.1),args,ts⟩/\c.2.2=args.toList:=by
 unfold Xd at h
 split at h
 .rename_i f args ts
  simp only[A0]at h
  rw [<-h]
  exact ⟨args,ts,rfl,rfl⟩
 .simp at h
theorem Zsk {all:List Oper}{o:Op}(hn:st.n=st'.n) (h:∀x∈o.operands,∀t,st.ev tt t x=st'.ev tt t x):stk tt S all o st=stk tt S all o st':=by
 unfold stk
 split
 .rename_i t x
  rw [h x (by simp [Op.operands]),hn]
 .rename_i t x w
  rw [h x (by simp [Op.operands]),hn]
 .rename_i t x _ _ _
  rw [h x (by simp [Op.operands])]
 .split
  .rename_i c hc
   obtain ⟨args,ts,ho,e⟩:=Zr4 hc
   unfold hdC
   split
   .cases hh:c.2.2.head? with
    |none=>rfl
    |some x=>
     have mx:x∈args.toList:=by rw [<-e];exact List.mem_of_mem_head? hh
     simp only
     rw [h x (by rw [ho];simp [Op.operands,Call.operands];exact .inr (by simpa using mx))]
   .rfl
  .rfl
theorem ZeO [NW] {a:Array Oper}{oi oj:Oper}{vi vj:SV}{ui uj:List (Nat×Ob)}(b:oi.apart a oj=true):stk tt S a.toList oj.op st=stk tt S a.toList oj.op ((st.put oi.dst vi).app ui)/\stk tt S a.toList oi.op ((st.put oj.dst vj).app uj)=stk tt S a.toList oi.op st:=by
 obtain ⟨a1,a2,a3⟩:=Oper.apart_spec b
 exact ⟨Zsk (Zmn st oi.dst vi).symm (Zbv fun s ms=>(ZdD st oi.dst vi s fun t ht e=>a1 t ht (e ▸ ms)).symm),Zsk (Zmn st oj.dst vj) (Zbv fun s ms=>ZdD st oj.dst vj s fun t ht e=>a3 t ht (e ▸ ms))⟩
theorem Zo6 [NW] {all:List Oper}{o:Oper}{v:SV}{u:List (Nat×Ob)}(ho:Zxr S.hd o.op=true) (hs:stk tt S all o.op st=true) (h:ZaF tt S key o st v u):∀p∈u,p.1=0\/(key<=p.1/\p.1<key+16)\/p.2=Yq (st.ob p.1):=by
 unfold Zxr at ho
 split at ho
 rotate_left
 .simp at ho
 rename_i c hc
 have h1:S.hd c.1=1:=by simpa using ho
 unfold ZaF at h
 rw [hc]at h
 simp only[h1,Zaq]at h
 obtain ⟨v0,r,k,hh,l,b,h',hv,hk,hl,hs',hne,hn,rfl,rfl⟩:=h
 have h2:hdC tt 1 c.2.2.head? st=true:=by
  have e:stk tt S all o.op st=hdC tt (S.hd c.1) c.2.2.head? st:=by
   unfold stk
   split
   .rename_i hq;rw [hq]at hc;simp [Xd]at hc
   .rename_i hq;rw [hq]at hc;simp [Xd]at hc
   .rename_i hq;rw [hq]at hc;simp [Xd]at hc
   .rw [hc]
  rw [<-h1,<-e];exact hs
 have d:∃off,v0=.bp 0 off:=by
  unfold hdC at h2
  simp only at h2
  cases hx:c.2.2 with
  |nil=>rw [hx]at h2;simp at h2
  |cons x xs=>
   rw [hx]at h2 hv
   simp only[List.head?_cons]at h2
   have e0:∀ts:List TypeId,∃t q,evs tt st ts (x::xs)=st.ev tt t x::q:=fun ts=>by cases ts<;>exact ⟨_,_,rfl⟩
   obtain ⟨t,q,e0⟩:=e0 c.2.1
   rw [e0]at hv
   simp only[AQ]at hv
   have hb:hdB (st.ev tt 0 x)=true:=h2
   have ht:∀t',hdB (st.ev tt t' x)=true->∃off,st.ev tt t x=.bp 0 off:=fun t' hb=>by
    cases x with
    |tmp s=>
     have a:hdB (st.sl s)=true:=hb
     unfold hdB at a
     split at a
     .rename_i k' off e;exact ⟨off,by show st.sl s=_;rw [e,of_decide_eq_true a]⟩
     .simp at a
    |const u=>
     exfalso
     have a:hdB (cvT (tt t') u)=true:=hb
     unfold cvT at a
     split at a<;>first|(simp [hdB]at a;done)|(split at a<;>simp [hdB]at a)
    |func f=>simp [St.ev,hdB]at hb
    |global g=>simp [St.ev,hdB]at hb
   obtain ⟨off,e⟩:=ht 0 hb
   exact ⟨off,by rw [<-hv.1,e]⟩
 obtain ⟨off,rfl⟩:=d
 have i:k=0:=by
  unfold Zgk at hk
  split at hk
  .rename_i k' e
   simp only[SV.bp.injEq]at e
   obtain ⟨rfl,rfl⟩:=e
   split at hk
   .rename_i t cs hb
    split at hk
    .obtain ⟨_,_,e⟩:=A4.1 hk
     simp only[A5]at e
     exact e.1.symm
    .simp at hk
   .simp at hk
  .rename_i e;simp at e
  .simp at hk
 subst i
 intro p mp
 rcases AA.1 mp with mp|mp
 .exact .inr (.inr (Zn3 mp).2)
 .rcases A9.1 mp with rfl|mp
  .exact .inl rfl
  .have:=(ZhP b key).2 p mp
   exact .inr (.inl yE)
theorem Zpg [NW] {all:List Oper}(hm:Znw all all=false) {o:Oper}{v:SV}{u:List (Nat×Ob)}(ho:Zip o.op=true) (hl:∀x∈o.op.operands,∀t,st.ev tt t x=st'.ev tt t x) (hs:stk tt S all o.op st=true) (hU:∀t x,svU U (st.ev tt t x)) (c:∀k,U k->k≠0->st'.ob k=st.ob k\/st'.ob k=Yq (st.ob k)):ZaF tt S key o st v u↔ZaF tt S key o st' v u:=by
 obtain ⟨dst,op,ty,pos,af,gd⟩:=o
 unfold Zip at ho
 simp only at ho
 split at ho
 rotate_left
 .simp at ho
 rename_i t x
 have e1:=hl x (by simp [Op.operands]) 0
 have hx:=hU 0 x
 have a:ldB (st.ev tt 0 x)=true:=by
  have h1:ldX (Znw all all) st.n (st.ev tt 0 x)=true:=hs
  rw [hm]at h1
  exact h1
 have key:QI st (tt t) (st.ev tt 0 x)=QI st' (tt t) (st'.ev tt 0 x):=by
  rw [<-e1]
  unfold QI
  split
  .rename_i k off hv
   rw [hv]at hx a
   have b:k≠0:=fun e=>by subst e;simp [ldB]at a
   rcases c k hx b with h|h
   .rw [h]
   .rw [h]
    cases st.ob k<;>rfl
  .rename_i k m i off hv
   rw [hv]at hx a
   have b:k≠0:=fun e=>by subst e;simp [ldB]at a
   rcases c k hx b with h|h
   .rw [h]
   .rw [h]
    cases st.ob k<;>rfl
  .rfl
  .rfl
  .rfl
 show opE tt _ _ st=some (v,u)↔opE tt _ _ st'=some (v,u)
 simp only[opE,key]
theorem Zud [NW] {a:List Oper}{o:Oper}{v:SV}{u:List (Nat×Ob)}(ho:Zip o.op=true) (h:opR tt S a key o st v u):u=[]:=by
 refine Za5 h (fun h=>?_) id
 obtain ⟨b,op,ty,c,af,gd⟩:=o
 unfold Zip at ho
 simp only at ho
 split at ho
 .have h':opE tt key ⟨b,.load _ _,ty,c,af,gd⟩ st=some (v,u):=h
  exact Xj h'
 .simp at ho
theorem Zmd {a:Array Oper}{o:Oper}{v:SV}{u:List (Nat×Ob)}(hl:∀s∈o.looksAt a,st.sl s=st'.sl s) (h1:ZaF tt S key o st v u↔ZaF tt S key o st' v u) [NW]:opR tt S a.toList key o st v u↔opR tt S a.toList key o st' v u:=⟨Zic (fun s ms=>(hl s ms).symm) h1.1,Zic hl h1.2⟩
theorem Zl9 [NW] {all:List Oper}{o:Oper}{v:SV}{u:List (Nat×Ob)}(ho:Zp1 o.op=true) (hs:stk tt S all o.op st=true) (h:ZaF tt S key o st v u):u=[]/\∀{st':St},(∀x∈o.op.operands,∀t,st.ev tt t x=st'.ev tt t x)->ZaF tt S key o st' v u:=by
 obtain ⟨b,op,ty,c,af,gd⟩:=o
 unfold Zp1 at ho
 simp only at ho
 split at ho
 rotate_left
 .simp at ho
 rename_i t x lo hi
 have a:slB (st.ev tt 0 x)=true:=hs
 have h':opE tt key ⟨b,.slice t x lo hi none,ty,c,af,gd⟩ st=some (v,u):=h
 unfold slB at a
 split at a
 rotate_left
 .simp at a
 rename_i y hy
 constructor
 .simp only[opE]at h'
  rw [hy]at h'
  simp only[ZaJ]at h'
  obtain ⟨_,_,e⟩:=A4.1 h'
  simp only[A5]at e
  exact e.2.symm
 .intro st' hl
  show opE tt key ⟨b,.slice t x lo hi none,ty,c,af,gd⟩ st'=some (v,u)
  have e1:=hl x (by simp [Op.operands]) 0
  have e2:lo.map (st.ev tt 0)=lo.map (st'.ev tt 0):=by
   cases lo with
   |none=>rfl
   |some l=>exact congrArg some (hl l (by simp [Op.operands]) 0)
  have e3:hi.map (st.ev tt 0)=hi.map (st'.ev tt 0):=by
   cases hi with
   |none=>rfl
   |some l=>exact congrArg some (hl l (by simp [Op.operands]) 0)
  rw [<-h']
  simp only[opE,<-e1,<-e2,<-e3,hy,ZaJ]
theorem Zrc {all:List Oper}{o:Oper}:∀{l:List Oper},o∈l->Y0 all o.op=true->Znw all l=true
 | [],m,_=>by simp at m
 |x::l,m,h=>by
  unfold Znw
  rcases A9.1 m with rfl|m
  .rw [h];rfl
  .rw [Zrc m h];cases Y0 all x.op<;>rfl
theorem ZyR [NW] {a:List Oper}{o:Oper}{v:SV}{u:List (Nat×Ob)}(ho:(Zip o.op||ZqV o.op)=true) (h:opR tt S a key o st v u):u=[]:=by
 rw [AF]at ho
 rcases ho with ho|ho
 .exact Zud ho h
 refine Za5 h (fun h=>?_) id
 obtain ⟨b,op,ty,c,af,gd⟩:=o
 unfold ZqV at ho
 simp only at ho
 split at ho
 .have h':opE tt key ⟨b,.indexAddr _ _ _,ty,c,af,gd⟩ st=some (v,u):=h
  simp only[opE]at h'
  split at h'
  .exact Xj h'
  .simp at h'
 .simp at ho
theorem Zyo [NW] {all:List Oper}(hm:Znw all all=true) {o:Oper}{v:SV}{u:List (Nat×Ob)}{kb t1 t2:Nat}{c1 c2:List AV}(ho:(Zip o.op||ZqV o.op)=true) (hl:∀x∈o.op.operands,∀t,st.ev tt t x=st'.ev tt t x) (hs:stk tt S all o.op st=true)
  (hk:st.n<=kb) (hb:st.ob kb=.box t1 c1) (b:st'.ob kb=.box t2 c2) (a:∀k,k≠kb->st'.ob k=st.ob k):ZaF tt S key o st v u↔ZaF tt S key o st' v u:=by
 obtain ⟨dst,op,ty,pos,af,gd⟩:=o
 rw [AF]at ho
 rcases ho with ho|ho
 .unfold Zip at ho
  simp only at ho
  split at ho
  rotate_left
  .simp at ho
  rename_i t x
  have e1:=hl x (by simp [Op.operands]) 0
  have c:ldN st.n (st.ev tt 0 x)=true:=by
   have h1:ldX (Znw all all) st.n (st.ev tt 0 x)=true:=hs
   rw [hm]at h1
   exact h1
  have key:QI st (tt t) (st.ev tt 0 x)=QI st' (tt t) (st'.ev tt 0 x):=by
   rw [<-e1]
   unfold QI
   split
   .rename_i k off hv
    rw [hv]at c
    have h1:k<st.n:=by simpa [ldN]using c
    rw [a k yE]
   .rename_i k m i off hv
    by_cases e:k=kb
    .subst e
     rw [hb,b]
    .rw [a k e]
   .rfl
   .rfl
   .rfl
  show opE tt _ _ st=some (v,u)↔opE tt _ _ st'=some (v,u)
  simp only[opE,key]
 .unfold ZqV at ho
  simp only at ho
  split at ho
  rotate_left
  .simp at ho
  rename_i t x i
  have e1:=hl x (by simp [Op.operands]) 0
  have e2:=hl i (by simp [Op.operands]) 0
  have key:∀m,Zar st m (st.ev tt 0 x) (st.ev tt 0 i)=Zar st' m (st'.ev tt 0 x) (st'.ev tt 0 i):=fun m=>by
   rw [<-e1,<-e2]
   unfold Zar
   split
   .rfl
   .rename_i k _ j _ _
    by_cases e:k=kb
    .subst e
     rw [hb,b]
    .rw [a k e]
   .rfl
  show opE tt _ _ st=some (v,u)↔opE tt _ _ st'=some (v,u)
  simp only[opE,key]
theorem Zzk [NW] {all:List Oper}{o:Oper}{v:SV}{u:List (Nat×Ob)}(ho:Y0 all o.op=true) (hs:stk tt S all o.op st=true) (h:ZaF tt S key o st v u):∃(kb t:Nat) (c1 c2:List AV),st.n<=kb/\st.ob kb=.box t c1/\u=[(kb,.box t c2)]:=by
 obtain ⟨a,op,ty,c,af,gd⟩:=o
 unfold Y0 at ho
 simp only at ho
 split at ho
 rotate_left
 .simp at ho
 rename_i t x w
 have h1:stY (stX all x) st.n (st.ev tt 0 x)=true:=hs
 rw [ho]at h1
 have h2:stB st.n (st.ev tt 0 x)=true:=h1
 have h':opE tt key ⟨a,.store t x w,ty,c,af,gd⟩ st=some (v,u):=h
 simp only[opE]at h'
 obtain ⟨u',h3,h4⟩:=A4.1 h'
 simp only[A5]at h4
 obtain ⟨_,rfl⟩:=h4
 unfold stB at h2
 split at h2
 rotate_left
 .simp at h2
 rename_i k off hv
 rw [hv]at h3
 have hk:st.n<=k:=by simpa using h2
 unfold ZgA at h3
 split at h3
 .rename_i k' off' b vs e1 e2
  simp only[SV.bp.injEq]at e1
  obtain ⟨rfl,rfl⟩:=e1
  split at h3
  .rename_i tb cs hb
   split at h3
   .simp only[A0]at h3
    exact ⟨k,tb,cs,_,hk,hb,h3.symm⟩
   .simp at h3
  .simp at h3
 .rename_i e1 _
  simp at e1
 .simp at h3
theorem ZGE [NW] {b:Bool}{c:Array Oper}{oi oj:Oper}{ki kj:Nat}{vi vj:SV}{ui uj:List (Nat×Ob)}(j:oi.apart c oj=true) (hc:Zw3 tt S.hd b c.toList oi.op oj.op=true) (N:oi∈c.toList) (O:oj∈c.toList) (hU:StU U st) (I:∀k,ki<=k->k<ki+16->¬U k) (J:∀k,kj<=k->k<kj+16->¬U k) (K:ki+16<=kj\/kj+16<=ki)
  (w:b=true->stk tt S c.toList oi.op st=true) (l:b=true->stk tt S c.toList oj.op ((st.put oi.dst vi).app ui)=true) (h:opR tt S c.toList ki oi st vi ui) (h':opR tt S c.toList kj oj ((st.put oi.dst vi).app ui) vj uj):
  opR tt S c.toList kj oj st vj uj/\opR tt S c.toList ki oi ((st.put oj.dst vj).app uj) vi ui/\((((st.put oi.dst vi).app ui).put oj.dst vj).app uj)=((((st.put oj.dst vj).app uj).put oi.dst vi).app ui):=by
 by_cases L:Zu8 tt S.hd oi.op oj.op=true
 .exact comm j L hU I J K h h'
 have hb:b=true/\((Znw c.toList c.toList=false/\((Zip oi.op=true/\Zxr S.hd oj.op=true)\/(Zxr S.hd oi.op=true/\Zip oj.op=true)))\/Zp1 oi.op=true\/Zp1 oj.op=true\/((Zip oi.op||ZqV oi.op)=true/\Y0 c.toList oj.op=true)\/(Y0 c.toList oi.op=true/\(Zip oj.op||ZqV oj.op)=true)):=by
  unfold Zw3 at hc
  rw [AF]at hc
  have:=hc.resolve_left L
  rw [AD]at this
  obtain ⟨q1,q2⟩:=this
  refine ⟨q1,?_⟩
  rw [AF,AF,AF,AF,AD,AD (Zip oi.op||ZqV oi.op),AD (Y0 c.toList oi.op),AF,AD,AD,Bool.not_eq_true']at q2
  rcases q2 with (((q|q)|q)|q)|q
  .exact .inl q
  .exact .inr (.inl q)
  .exact .inr (.inr (.inl q))
  .exact .inr (.inr (.inr (.inl q)))
  .exact .inr (.inr (.inr (.inr q)))
 obtain ⟨hb,hc⟩:=hb
 obtain ⟨a1,a2,a3⟩:=Oper.apart_spec j
 have M:∀t x,svU U (st.ev tt t x):=fun t x=>ZHD hU t x
 have g:∀s∈oj.looksAt c,st.sl s=((st.put oi.dst vi).app ui).sl s:=fun s ms=>(ZdD st oi.dst vi s fun t ht e=>a1 t ht (e ▸ ms)).symm
 have i:∀s∈oi.looksAt c,st.sl s=((st.put oj.dst vj).app uj).sl s:=fun s ms=>(ZdD st oj.dst vj s fun t ht e=>a3 t ht (e ▸ ms)).symm
 have f:(((st.put oi.dst vi).put oj.dst vj)).sl=(((st.put oj.dst vj).put oi.dst vi)).sl:=ZpA st _ _ _ _ fun t ht=>a2 t ht
 have e1:∀(s:St) (u:List (Nat×Ob)) (d:Option Nat) (v:SV),((s.app u).put d v)=((s.put d v).app u):=fun s u d v=>by cases d<;>rfl
 have o:ui=[]\/uj=[]->((((st.put oi.dst vi).app ui).put oj.dst vj).app uj)=((((st.put oj.dst vj).app uj).put oi.dst vi).app ui):=fun hn=>by
  rw [e1,e1]
  have hs:((st.put oi.dst vi).put oj.dst vj)=((st.put oj.dst vj).put oi.dst vi):=by
   have h2:((st.put oi.dst vi).put oj.dst vj).ob=((st.put oj.dst vj).put oi.dst vi).ob:=by simp only[XW]
   have h3:((st.put oi.dst vi).put oj.dst vj).n=((st.put oj.dst vj).put oi.dst vi).n:=by simp only[Zmn]
   generalize ((st.put oi.dst vi).put oj.dst vj)=s1 at f h2 h3
   generalize ((st.put oj.dst vj).put oi.dst vi)=s2 at f h2 h3
   cases s1;cases s2
   simp only at f h2 h3
   subst f h2 h3
   rfl
  rw [hs]
  rcases hn with rfl|rfl<;>rfl
 rcases hc with ⟨hm,hc⟩|y|y|⟨l1,l2⟩|⟨l1,l2⟩
 rotate_left
 ·-- the first is a slice that is only read
  have hs:=w hb
  have hn:ui=[]:=Za5 h (fun h=>(Zl9 y hs h).1) id
  subst hn
  have hA:opR tt S c.toList kj oj st vj uj:=(Zah (U:=U) g (.inr (.inl (by show st.ob=(st.put oi.dst vi).ob;rw [XW])))).2 h'
  refine ⟨hA,Zic (fun s ms=>(i s ms).symm) (fun h=>(Zl9 y hs h).2 (Zbv i)) h,o (.inl rfl)⟩
 ·-- the second is one
  have hs:=(ZeO (tt:=tt) (S:=S) (st:=st) (vi:=vi) (ui:=ui) (vj:=vj) (uj:=uj) j).1.trans (l hb)
  have hn:uj=[]:=Za5 h' (fun h=>(Zl9 y (l hb) h).1) id
  subst hn
  have hA:opR tt S c.toList kj oj st vj []:=Zic g (fun h=>(Zl9 y (l hb) h).2 (fun x m t=>(Zbv g x m t).symm)) h'
  refine ⟨hA,?_,o (.inr rfl)⟩
  exact (Zah (U:=U) i (.inr (.inl (by show st.ob=(st.put oj.dst vj).ob;rw [XW])))).1 h
 ·-- what is read beside a store into a new box
  have F:=Zrc O l2
  have z:=ZyR l1 h
  have A:st.ob=((st.put oi.dst vi).app ui).ob:=by
   subst z
   show st.ob=(st.put oi.dst vi).ob
   rw [XW]
  have hA:=(Zah (U:=U) g (.inr (.inl A))).2 h'
  have hs:=(ZeO (tt:=tt) (S:=S) (st:=st) (vi:=vi) (ui:=ui) (vj:=vj) (uj:=uj) j).1.trans (l hb)
  refine ⟨hA,?_,o (.inl z)⟩
  refine Za5 hA (fun hx=>?_) (fun e=>?_)
  .obtain ⟨kb,t,c1,c2,hk,G,hu⟩:=Zzk l2 hs hx
   subst hu
   refine (Zmd i (Zyo (kb:=kb) F l1 (Zbv i) (w hb) hk G (t2:=t) (c2:=c2) ?_ fun k H=>?_)).1 h
   .exact ZF _ _ _
   .show upd (st.put oj.dst vj).ob kb _ k=_
    rw [ZO _ _ H,XW]
  .refine (Zah (U:=U) i (.inr (.inl ?_))).1 h
   subst e
   show st.ob=(st.put oj.dst vj).ob
   rw [XW]
 .have F:=Zrc N l1
  have B:=ZyR l2 h'
  have hs:=(ZeO (tt:=tt) (S:=S) (st:=st) (vi:=vi) (ui:=ui) (vj:=vj) (uj:=uj) j).1.trans (l hb)
  have hA:opR tt S c.toList kj oj st vj uj:=by
   refine Za5 h (fun hx=>?_) (fun e=>?_)
   .obtain ⟨kb,t,c1,c2,hk,G,hu⟩:=Zzk l1 (w hb) hx
    subst hu
    refine (Zmd g (Zyo (kb:=kb) F l2 (Zbv g) hs hk G (t2:=t) (c2:=c2) ?_ fun k H=>?_)).2 h'
    .exact ZF _ _ _
    .show upd (st.put oi.dst vi).ob kb _ k=_
     rw [ZO _ _ H,XW]
   .refine (Zah (U:=U) g (.inr (.inl ?_))).2 h'
    subst e
    show st.ob=(st.put oi.dst vi).ob
    rw [XW]
  refine ⟨hA,(Zah (U:=U) i (.inr (.inl ?_))).1 h,o (.inr B)⟩
  subst B
  show st.ob=(st.put oj.dst vj).ob
  rw [XW]
 have E:∀{u:List (Nat×Ob)} {q:Nat},(∀p∈u,p.1=0\/(q<=p.1/\p.1<q+16)\/p.2=Yq (st.ob p.1))->(∀k,q<=k->k<q+16->¬U k)->∀k,U k->k≠0->Zl st.ob u k=st.ob k\/Zl st.ob u k=Yq (st.ob k):=fun {u q} hu hq k hk C=>by
  have P:∀(u:List (Nat×Ob)) (ob:Nat->Ob),(∀p∈u,p.1=0\/(q<=p.1/\p.1<q+16)\/p.2=Yq (st.ob p.1))->(ob k=st.ob k\/ob k=Yq (st.ob k))->(Zl ob u k=st.ob k\/Zl ob u k=Yq (st.ob k)):=by
   intro u
   induction u with
   |nil=>intro ob _ h;exact h
   |cons p u ih=>
    intro ob hp h
    refine ih _ (fun x mx=>hp x (by simp [mx])) ?_
    by_cases D:k=p.1
    .rcases hp p yG with h1|h1|h1
     .exact absurd (D.trans h1) C
     .exact absurd (D ▸ hk) (hq p.1 h1.1 h1.2)
     .right;rw [D,ZF];exact h1
    .rw [ZO _ _ D];exact h
  exact P u st.ob hu (.inl rfl)
 rcases hc with ⟨l1,l2⟩|⟨l1,l2⟩
 .have z:=Zud l1 h
  have A:st.ob=((st.put oi.dst vi).app ui).ob:=by
   subst z
   show st.ob=(st.put oi.dst vi).ob
   rw [XW]
  have hA:=(Zah (U:=U) g (.inr (.inl A))).2 h'
  have hs:=(ZeO (tt:=tt) (S:=S) (st:=st) (vi:=vi) (ui:=ui) (vj:=vj) (uj:=uj) j).1.trans (l hb)
  refine ⟨hA,?_,o (.inl z)⟩
  refine Za5 hA (fun hx=>?_) (fun e=>?_)
  .refine (Zmd i (Zpg (U:=U) hm l1 (Zbv i) (w hb) M fun k hk C=>?_)).1 h
   show Zl (st.put oj.dst vj).ob uj k=_\/Zl (st.put oj.dst vj).ob uj k=_
   rw [XW]
   exact E (Zo6 l2 hs hx) J k hk C
  .refine (Zah (U:=U) i (.inr (.inl ?_))).1 h
   subst e
   show st.ob=(st.put oj.dst vj).ob
   rw [XW]
 .have B:=Zud l2 h'
  have hs:=(ZeO (tt:=tt) (S:=S) (st:=st) (vi:=vi) (ui:=ui) (vj:=vj) (uj:=uj) j).1.trans (l hb)
  have hA:opR tt S c.toList kj oj st vj uj:=by
   refine Za5 h (fun hx=>?_) (fun e=>?_)
   .refine (Zmd g (Zpg (U:=U) hm l2 (Zbv g) hs M fun k hk C=>?_)).2 h'
    show Zl (st.put oi.dst vi).ob ui k=_\/Zl (st.put oi.dst vi).ob ui k=_
    rw [XW]
    exact E (Zo6 l1 (w hb) hx) I k hk C
   .refine (Zah (U:=U) g (.inr (.inl ?_))).2 h'
    subst e
    show st.ob=(st.put oi.dst vi).ob
    rw [XW]
  refine ⟨hA,(Zah (U:=U) i (.inr (.inl ?_))).1 h,o (.inr B)⟩
  subst B
  show st.ob=(st.put oj.dst vj).ob
  rw [XW]
end
end
section
open Go.RowKit
section
variable {P:Program} {J:World->Prop} {JF:Nat->Prop} {W:QO} {U:Nat->Prop} {key:Nat} {st st':St} {w w':World} {a:Act} {tt:Nat->Option TI} {hds:FuncId->Nat} {Q:Exit->Act->World->Prop}
def Zyq [NW] (W:QO) (N:Nat) (U:Nat->Prop) (st:St):Prop:=∃a w,Inv W U st a w/\a.tmps.size=N
theorem Zy0 [NW] (htt:MOk P J JF W tt) {N:Nat}{all:List Oper}{o:Oper}{v:SV}{u:List (Nat×Ob)}(h:opR tt (SC P J JF hds) all key o st v u) (hR:Zyq W N U st) (d:∀k,key<=k->k<key+16->¬U k) (hd:∀t,o.dst=some t->t<N/\(W.hv=none\/t≠0)):
  Zyq W N (Uk U key) ((st.put o.dst v).app u):=by
 obtain ⟨a,w,hI,hN⟩:=hR
 have i:∀t,o.dst=some t->t<a.tmps.size/\(W.hv=none\/t≠0):=fun t ht=>hN ▸ hd t ht
 have j:v=.und/\u=[]->Zyq W N (Uk U key) ((st.put o.dst v).app u):=fun ⟨e1,e2⟩=>by
  subst e1 e2
  exact ⟨_,w,Zvq hI _ i,by rw [Zdy];exact hN⟩
 have l:ZaF tt (SC P J JF hds) key o st v u->Zyq W N (Uk U key) ((st.put o.dst v).app u):=fun h=>by
  obtain ⟨⟨g,hH,hS⟩,hU,f,hh⟩:=hI
  have evals:∀(ts:List TypeId) (args:List Operand),ZI (SVR g w) (evs tt st ts args) (args.map a.eval)/\∀x∈evs tt st ts args,svU U x:=fun ts args=>by
   have he:args.map a.eval=(Zjj ts args).map fun p=>a.eval p.2:=by
    have:=congrArg (List.map a.eval) (ZfU ts args)
    rw [<-this,Aq];rfl
   refine ⟨?_,fun x mx=>?_⟩
   .rw [he]
    exact ZI.of_map _ _ fun p _=>(Zlm htt.tt hS hU p.1 p.2).1
   .obtain ⟨p,_,rfl⟩:=AB.1 mx
    exact (Zlm htt.tt hS hU p.1 p.2).2
  cases hc:Xd o.op with
  |some c=>
   simp only[ZaF,hc]at h
   obtain ⟨_,b⟩:=Zg2 htt h hH hU d (evals c.2.1 c.2.2).1 (evals c.2.1 c.2.2).2
   obtain ⟨e,w',fr,⟨rv,_,g',t1,t2,t3,t4,t5,t6⟩,_⟩:=b []
   exact ⟨_,_,ZgC hS hU f hh i t1 t2 t3 t4 t5 t6,by rw [Zdy];exact hN⟩
  |none=>
   simp only[ZaF,hc]at h
   cases hd2:XD o.op with
   |some c=>
    rw [hd2]at h
    simp only at h
    obtain ⟨fc,h1,_,h⟩:=h
    obtain ⟨cs,_,q⟩:=Zs0 h1 (hS c.1)
    obtain ⟨_,b⟩:=Zg2 htt h hH hU d ((evals c.2.1 c.2.2).1.append q) (fun x mx=>by
     rcases AA.1 mx with m|m
     .exact (evals c.2.1 c.2.2).2 x m
     .obtain ⟨c,_,rfl⟩:=AB.1 m
      exact XZ _)
    obtain ⟨e,w',fr,⟨rv,_,g',t1,t2,t3,t4,t5,t6⟩,_⟩:=b []
    exact ⟨_,_,ZgC hS hU f hh i t1 t2 t3 t4 t5 t6,by rw [Zdy];exact hN⟩
   |none=>
    rw [hd2]at h
    simp only at h
    obtain ⟨g',cv,w',_,t1,t2,t3,t4,t5,t6⟩:=Zqd (P:=P) (W:=W) (a:=a) htt.tt o h hH hS hU (d key (AC _) yE)
    exact ⟨_,_,ZgC hS hU f hh i t1 t2 t3 t4 t5 t6,by rw [Zdy];exact hN⟩
 unfold opR at h
 split at h
 .exact l h
 .exact j h
 .unfold gK at h
  split at h
  .split at h
   .exact l h
   .exact j h
  .split at h
   .exact j h
   .exact h.elim
theorem Zik {S:Ctx}{b:Bool}{all:List Oper}{base i:Nat}{r:List Nat}{K:St->Prop}{o:Oper}(ho:all[i]?=some o):Zgs tt S b all base (i::r) K st=ifB b (stk tt S all o.op st) (opG tt S all (base+16*i) o (Zgs tt S b all base r K) st):=by simp only[Zgs,ho]
theorem ZvE [NW] {S:Ctx}{all:List Oper}{base:Nat}{K:St->Prop}:∀(r:List Oper) (i:Nat) (st:St),all.drop i=r->Yn tt S all (base+16*i) r K st->Zgs tt S false all base (AR i r.length) K st
 | [],_,_,_,h=>h
 |o::r,i,st,hr,h=>by
  have hi:all[i]?=some o:=by
   have:=congrArg (fun l=>l[0]?) hr
   simpa using this
  have a:all.drop (i+1)=r:=by
   have:=congrArg List.tail hr
   simpa using this
  rw [Ar,Ai,Zik hi]
  obtain ⟨v,u,h1,h2⟩:=Zid.1 h
  refine Zid.2 ⟨v,u,h1,ZvE r (i+1) _ a ?_⟩
  rw [show base+16*(i+1)=base+16*i+16 by omega]
  exact h2
theorem Zqs {b c:Bool}{P:Prop}:ifB b c P↔(b=true->c=true)/\P:=by
 cases b<;>simp [ifB]
theorem ZHR [NW] (htt:MOk P J JF W tt) {b:Bool}{f:Array Oper}{N base i:Nat}{o:Oper}(ho:f.toList[i]?=some o) (hN:∀o∈f.toList,∀t,o.dst=some t->t<N/\(W.hv=none\/t≠0)) {K:St->Prop}{R2:List Nat}:∀(R1:List Nat) (U:Nat->Prop) (st:St),(R1++i::R2).Nodup->
  (∀j∈R1,∃oj,f.toList[j]?=some oj/\oj.apart f o=true/\Zw3 tt hds b f.toList oj.op o.op=true)->(∀j∈R1++i::R2,∀k,base+16*j<=k->k<base+16*j+16->¬U k)->Zyq W N U st->
  Zgs tt (SC P J JF hds) b f.toList base (R1++i::R2) K st->(b=true->stk tt (SC P J JF hds) f.toList o.op st=true)/\opG tt (SC P J JF hds) f.toList (base+16*i) o (Zgs tt (SC P J JF hds) b f.toList base (R1++R2) K) st:=by
 intro R1
 induction R1 with
 |nil=>
  intro U st _ _ _ _ h
  rw [List.nil_append,Zik ho]at h
  exact Zqs.1 h
 |cons j R1 ih=>
  intro U st l g hk hR h
  obtain ⟨oj,hj,m,u⟩:=g j yG
  rw [AY,Zik hj]at h
  obtain ⟨sj,h⟩:=Zqs.1 h
  obtain ⟨vj,uj,h1,h2⟩:=Zid.1 h
  have p:=hk j yG
  have v:=hk i yG
  rw [AY,AZ]at l
  have hij:i≠j:=fun e=>l.1 (by simp [e])
  have w:=Zy0 htt h1 hR p (hN oj (AU hj))
  obtain ⟨si,h3⟩:=ih (Uk U (base+16*j)) _ l.2 (fun q mq=>g q (by simp [mq])) (fun q mq k a b hU=>by
   rcases hU with hU|⟨c,d⟩
   .exact hk q (by simp;simp at mq;exact .inr mq) k a b hU
   .have:q=j:=by omega
    subst this
    exact l.1 mq) w h2
  obtain ⟨vi,ui,h4,h5⟩:=Zid.1 h3
  obtain ⟨_,_,x,_⟩:=hR
  obtain ⟨c1,c2,c3⟩:=ZGE (tt:=tt) (S:=SC P J JF hds) (b:=b) m u (AU hj) (AU ho) x.wf p v yE sj si h1 h4
  have e1:=(ZeO (tt:=tt) (S:=SC P J JF hds) (st:=st) (vi:=vj) (ui:=uj) (vj:=vi) (uj:=ui) m).1
  have e2:=(ZeO (tt:=tt) (S:=SC P J JF hds) (st:=st) (vi:=vj) (ui:=uj) (vj:=vi) (uj:=ui) m).2
  refine ⟨fun hb=>e1.trans (si hb),Zid.2 ⟨vi,ui,c1,?_⟩⟩
  rw [AY,Zik hj]
  exact Zqs.2 ⟨fun hb=>e2.trans (sj hb),Zid.2 ⟨vj,uj,c2,c3 ▸ h5⟩⟩
def anc (ops:Array Oper):Nat->Nat->List Nat
 |0,_=>[]
 |n+1,j=>match ops[j]? with
  |some o=>(o.after.toList.filter (Region.binds .any)).flatMap fun e=>e.on::anc ops n e.on
  |none=>[]
def ZpC (tt:Nat->Option TI) (hds:FuncId->Nat) (b:Bool) (ops:Array Oper) (i j:Nat):Bool:=!Nat.beq i j&&match ops[i]?,ops[j]? with
 |some oi,some oj=>(oi.after.toList.all fun e=>!Region.binds .any e||!Nat.beq e.on j)&&((anc ops ops.size j).contains i||(oi.apart ops oj&&Zw3 tt hds b ops.toList oi.op oj.op))
 |_,_=>true
def ZkB (tt:Nat->Option TI) (hds:FuncId->Nat) (b:Bool) (ops:Array Oper):List Nat->Bool
 | []=>true
 |i::r=>r.all (ZpC tt hds b ops i)&&ZkB tt hds b ops r
def elB (ops:Array Oper) (j:Nat):Bool:=match ops[j]? with
 |some oj=>oj.after.toList.all fun e=>!Region.binds .any e||(Nat.blt e.on ops.size&&!Nat.beq e.on j)
 |none=>true
def ZDF (ops:Array Oper):Bool:=(Al ops.size).all (elB ops)
def ZuE (tt:Nat->Option TI) (hds:FuncId->Nat) (ops:Array Oper):Bool:=ZkB tt hds false ops (Al ops.size)&&ZDF ops
def Zvm (tt:Nat->Option TI) (hds:FuncId->Nat) (b:Bool) (ops:Array Oper) (l:List Nat):Bool:=ZkB tt hds b ops l&&ZDF ops&&Nat.ble l.length ops.size&&l.all (Nat.blt · ops.size)&&(Al ops.size).all l.contains
theorem Zr3 {a:Array Oper}(h:ZDF a=true) (j:Nat):elB a j=true:=by
 rcases Nat.lt_or_ge j a.size with hj|hj
 .exact AG.1 h j (by simpa using hj)
 .unfold elB
  rw [Array.getElem?_eq_none hj]
theorem Zp3 {b:Bool}{a:Array Oper}:∀{l:List Nat},ZkB tt hds b a l=true->l.Pairwise fun i j=>ZpC tt hds b a i j=true
 | [],_=>List.Pairwise.nil
 |i::r,h=>by
  simp only[ZkB,AD,AG]at h
  exact List.Pairwise.cons h.1 (Zp3 h.2)
theorem Zuw {i j:Nat}(h:(!Nat.beq i j)=true):i≠j:=fun e=>by subst e;simp at h
theorem ZnT {b:Bool}{a:Array Oper}{i j:Nat}{oi oj:Oper}(h:ZpC tt hds b a i j=true) (hi:a[i]?=some oi) (hj:a[j]?=some oj):(∀e∈oi.after,Region.binds .any e=true->e.on≠j)/\(i∈anc a a.size j\/(oi.apart a oj=true/\Zw3 tt hds b a.toList oi.op oj.op=true)):=by
 simp only[ZpC,hi,hj,AD,AG,AF]at h
 refine ⟨fun e me hb=>?_,h.2.2.imp (fun h=>by simpa using h) fun h=>h⟩
 have h1:=h.2.1 e (by simpa using me)
 rw [hb]at h1
 exact Zuw (h1.resolve_left yG)
theorem Zn4 {b:Array Oper}{a:Array Bool}(c:∀i o,b[i]?=some o->a.getD i false=true->∀e∈o.after,Region.binds .any e=true->a.getD e.on false=true):
  ∀(n j:Nat) (o:Oper),b[j]?=some o->(∀e∈o.after,Region.binds .any e=true->a.getD e.on false=true)->∀i∈anc b n j,a.getD i false=true
 |0,j,o,_,_,i,mi=>by simp [anc]at mi
 |n+1,j,o,ho,he,i,mi=>by
  simp only[anc,ho,AS,List.mem_filter]at mi
  obtain ⟨e,⟨me,hb⟩,mi⟩:=mi
  have hl:=he e (by simpa using me) hb
  rcases A9.1 mi with rfl|mi
  .exact hl
  .cases ho':b[e.on]? with
   |none=>cases n<;>simp [anc,ho']at mi
   |some o'=>exact Zn4 c n e.on o' ho' (fun e' d f=>c e.on o' ho' hl e' d f) i mi
theorem ZxP [NW] (htt:MOk P J JF W tt) {b:Bool}{g:Array Oper}{N base:Nat}(hN:∀o∈g.toList,∀t,o.dst=some t->t<N/\(W.hv=none\/t≠0)) (hE:∀j,elB g j=true) {K:St->Prop}
  (hQ:∀U' st' a' w',Inv W U' st' a' w'->(∀k,base+16*g.size<=k->¬U' k)->a'.tmps.size=N->K st'->Q .normal a' w'):
  ∀(p:Nat) (R:List Nat) (f:Array Bool) (U:Nat->Prop) (st:St) (a:Act) (w:World),R.length<=p->R.Pairwise (fun i j=>ZpC tt hds b g i j=true)->f.size=g.size->(∀i,i∈R↔(i<g.size/\f.getD i true=false))->
   (∀i o,g[i]?=some o->f.getD i false=true->∀e∈o.after,Region.binds .any e=true->f.getD e.on false=true)->
   Zgs tt (SC P J JF hds) b g.toList base R K st->Inv W U st a w->(∀j∈R,∀k,base+16*j<=k->k<base+16*j+16->¬U k)->(∀k,base+16*g.size<=k->¬U k)->a.tmps.size=N->wpAny P .any g Q p f a w:=by
 have L:∀j oj,g[j]?=some oj->∀e∈oj.after,Region.binds .any e=true->e.on<g.size/\e.on≠j:=fun j oj hj e me hb=>by
  have h1:=hE j
  simp only[elB,hj,AG,AF,AD]at h1
  have h2:=h1 e (by simpa using me)
  rw [hb]at h2
  have h3:=h2.resolve_left yG
  exact ⟨AI h3.1,Zuw h3.2⟩
 intro p
 induction p with
 |zero=>
  intro R f U st a w B _ y l _ h hI _ hU hs
  have hR:R=[]:=List.eq_nil_of_length_eq_zero yE
  subst hR
  refine ⟨?_,hQ U st a w hI hU hs h⟩
  rw [List.eq_nil_iff_forall_not_mem]
  intro i mi
  obtain ⟨h1,o,h2,_⟩:=mem_ready.1 mi
  exact absurd ((l i).2 ⟨(Ae.1 h2).1,h1⟩) yG
 |succ p ih=>
  intro R f U st a w B z y l F h hI hk hU hs
  refine ⟨fun hr=>?_,fun i mi=>?_⟩
  .cases R with
   |nil=>exact hQ U st a w hI hU hs h
   |cons r0 R=>
    exfalso
    obtain ⟨m1,m2⟩:=(l r0).1 yG
    have:r0∈Region.ready .any g f:=mem_ready.2 ⟨m2,g[r0],by simp [m1],fun e me hb=>by
     have x:=L r0 g[r0] (by simp [m1]) e me hb
     by_cases hl:f.getD e.on true=false
     .have mR:=(l e.on).2 ⟨x.1,hl⟩
      rcases A9.1 mR with e1|mR
      .exact absurd e1 x.2
      .exact absurd rfl ((ZnT ((List.pairwise_cons.1 z).1 _ mR) (oi:=g[r0]) (oj:=g[e.on]'x.1) (by simp [m1]) (by simp [x.1])).1 e me hb)
     .have G:e.on<f.size:=by omega
      simp only[AE,G,getElem?_pos,Ad,Bool.not_eq_false]at hl ⊢
      exact hl⟩
    rw [hr]at this
    simp at this
  .obtain ⟨i1,o,i2,i3⟩:=mem_ready.1 mi
   have C:i<g.size:=(Ae.1 i2).1
   have M:i∈R:=(l i).2 ⟨C,i1⟩
   obtain ⟨R1,R2,rfl⟩:=List.append_of_mem M
   have A:(R1++i::R2).Nodup:=z.imp fun h=>by
    simp only[ZpC,AD]at h
    exact Zuw h.1
   have ho:g.toList[i]?=some o:=by simpa using i2
   have H:=Zn4 F g.size i o i2 i3
   have D:∀j∈R1,∃oj,g.toList[j]?=some oj/\oj.apart g o=true/\Zw3 tt hds b g.toList oj.op o.op=true:=fun j mj=>by
    obtain ⟨j1,j2⟩:=(l j).1 (by simp [mj])
    have O:=(List.pairwise_append.1 z).2.2 j mj i yG
    have hj:g[j]?=some g[j]:=by simp [j1]
    refine ⟨g[j],by simp [j1],(ZnT O hj i2).2.resolve_left fun ma=>?_⟩
    have:=H j ma
    have x:j<f.size:=by omega
    simp only[AE,x,getElem?_pos,Ad]at this j2
    rw [this]at j2;simp at j2
   have S:=(ZHR htt ho hN R1 U st A D hk ⟨a,w,hI,hs⟩ h).2
   refine wpOp_mono ?_ (Zpi htt i2 S hI (hk i yG) (fun t ht=>by rw [hs];exact hN o (AU ho) t ht))
   rintro a' w' ⟨st',T,hs',V⟩
   have I:∀q,(f.setIfInBounds i true).getD q true=if q=i then true else f.getD q true:=fun q=>by
    by_cases e:q=i
    .subst e;simp [AE,Ak,y,C]
    .simp [AE,Aa (fun e':i=q=>e e'.symm),e]
   have E:∀q,(f.setIfInBounds i true).getD q false=if q=i then true else f.getD q false:=fun q=>by
    by_cases e:q=i
    .subst e;simp [AE,Ak,y,C]
    .simp [AE,Aa (fun e':i=q=>e e'.symm),e]
   have v:i∉R1++R2:=by
    rw [AP]at A
    intro m
    rcases AA.1 m with m|m
    .exact A.2.2 i m i yG rfl
    .exact (AZ.1 A.2.1).1 m
   refine ih (R1++R2) _ (Uk U (base+16*i)) st' a' w' (by simp at B ⊢;omega) (z.sublist (List.Sublist.append (List.Sublist.refl _) (List.sublist_cons_self i R2))) (by simp [y]) (fun q=>?_) (fun q oq hq hl e me hb=>?_) V T (fun q mq k c d u=>?_) (fun k X u=>?_) yE
   .rw [I q]
    by_cases e:q=i
    .subst e;simp only[if_true,Bool.true_eq_false,and_false,iff_false];exact v
    .rw [if_neg e,<-l q];simp [e]
   .rw [E]at hl ⊢
    by_cases e1:e.on=i
    .simp [e1]
    .rw [if_neg e1]
     by_cases e2:q=i
     .subst e2
      rw [i2]at hq
      simp only[A0]at hq
      subst hq
      exact i3 e me hb
     .rw [if_neg e2]at hl
      exact F q oq hq hl e me hb
   .have Y:q∈R1++i::R2:=by simp at mq ⊢;rcases mq with mq|mq<;>simp [mq]
    rcases u with u|⟨c',d'⟩
    .exact hk q Y k c d u
    .have:q=i:=by omega
     subst this
     exact v mq
   .rcases u with u|⟨c',d'⟩
    .exact hU k X u
    .omega
end
end
end Go.Proofs.YtaafhjecikjhbaaGreatDoor
