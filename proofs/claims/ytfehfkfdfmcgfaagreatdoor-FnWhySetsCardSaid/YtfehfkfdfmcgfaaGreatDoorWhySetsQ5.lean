/- Texts of this proof, joined: BOps4, BOps5, BOps6, BOps7, BOps8, BFrz, BOpsM, BOps9, BCall, BCall2, BReg. What each holds is said at its theorems. -/
import Derived.Test.YtfehfkfdfmcgfaaGreatDoorWhySetsQ4
import Derived.Laws.Tables
import Derived.Great.BuildSlice
import Derived.MapKept
set_option linter.unusedSimpArgs false
set_option linter.unusedVariables false
open Array renaming getD_eq_getD_getElem?→AL,ext'→Aj,getElem?_eq_some_iff→B1,getElem?_setIfInBounds_ne→B3
open Bool renaming and_eq_true→AT
open List renaming mem_append→A3,mem_cons→A8,mem_flatMap→A9,mem_map→AE,nodup_append→AF,flatMap_cons→AG,nil_sublist→AH,range'→AI,replicate→AJ,drop_append→AN,drop_of_length_le→AO,nodup_cons→AQ,eq_nil_of_length_eq_zero→AR,singleton_append→AS,all_eq_true→AW,mem_range'_1→AX,nil_append→Aa,flatMap_append→Ab,append_nil→Ac,range'_succ→Ad,map_cons→Ai,getElem?_eq_some_iff→Ak,take_length_add_append→Al,drop_take→Am,length_cons→An,take_left'→Ao,replicate_succ→Ap,flatten_cons→Aq,map_append→Ar,map_map→As,all_cons→Au,sublist_append_right→Av,take_succ_cons→Aw,cons_append→Ax,drop_succ_cons→Ay,drop_append_of_le_length→Az,map_nil→B2
open List.Sublist renaming refl→AB,append→AD
open List.cons renaming injEq→AU
open Nat renaming le_refl→A7,add_mul→AA,zero_le→AC,le_trans→AK,add_assoc→AM,add_sub_cancel_left→AP,mul_le_mul_right→AY,le_add_right→AZ,lt_of_lt_of_le→Af,zero_add→Ag,mul_le_mul→At
open Option renaming map_eq_some_iff→A4,bind_eq_some_iff→A6,map_some→Ae,bind_some→Ah
open Option.some renaming injEq→A0
open Prod.mk renaming injEq→A5
namespace Go.Proofs.YtfehfkfdfmcgfaaGreatDoor
section
open Go.RowKit
theorem ZfC {α:Type} (l:List α) (off:Nat) (vs:List α) (h:off+vs.length≤l.length):(splice l off vs).length=l.length:=by
 simp [splice];omega
theorem ZpP {α:Type} (l:List α) (n:Nat) (v:α) (r:List α) (h:n+(r.length+1)≤l.length):splice (l.set n v) (n+1) r=splice l n (v::r):=by
 unfold splice
 have e1:(l.set n v).take (n+1)=l.take n++[v]:=by
  rw [List.take_succ_eq_append_getElem (by simp;omega)]
  simp [List.take_set_of_le]
 have e2:(l.set n v).drop (n+1+r.length)=l.drop (n+(v::r).length):=by
  rw [List.drop_set_of_lt (by omega)]
  congr 1
  simp;omega
 rw [e1,e2];simp
theorem Zoa [NW] (off:Nat):∀(vs:List Value) (k:Nat) (cells:Array Value),off+k+vs.length≤cells.size→
  (vs.zipIdx k).foldl (fun (cs:Array Value) (p:Value × Nat)=>cs.setIfInBounds (off+p.2) p.1) cells=(splice cells.toList (off+k) vs).toArray
 | [],k,cells,h=>by simp [splice]
 | v::r,k,cells,h=>by
  rw [List.zipIdx_cons,List.foldl_cons,Zoa off r (k+1) _ (by simp at h ⊢;omega)]
  have:=ZpP cells.toList (off+k) v r (by simpa using h)
  rw [←this]
  simp [AM]
theorem Zl2 [NW] (off:Nat) (v:Value) (vs:List Value) (hv:v.cells=vs.toArray) (cells:Array Value) (h:off+vs.length≤cells.size):
  v.cells.zipIdx.foldl (fun cs (c,j)=>cs.setIfInBounds (off+j) c) cells=(splice cells.toList off vs).toArray:=by
 have:=Zoa off vs 0 cells (by simpa using h)
 rw [hv,←Array.foldl_toList]
 simpa using this
section
variable {P:Program} {W:Zaa} {U:Nat→Prop} {key:Nat} {st:St} {g:Gh} {w:World} {a:Act} {tt:Nat→Option TI}
theorem ZL.splice {α β:Type} {R:α→β→Prop} {l vs:List α} {r us:List β} (h:ZL R l r) (h':ZL R vs us) (off:Nat):ZL R (splice l off vs) (splice r off us):=by
 unfold Go.Proofs.YtfehfkfdfmcgfaaGreatDoor.splice
 rw [h'.len]
 exact (h.take _).append (h'.append (h.drop _))
theorem Zkl {l vs:List AV} (h:Qn U l) (h':Qn U vs) (off:Nat):Qn U (splice l off vs):=by
 intro y m
 unfold splice at m
 rcases A3.1 m with m | m
 ·exact h y (List.mem_of_mem_take m)
 ·rcases A3.1 m with m | m
  ·exact h' y m
  ·exact h y (List.mem_of_mem_drop m)
theorem ZsQ [NW] {place:Nat→Option (Nat × Nat)} {fs:List FI} (hp:∀i fi,fs[i]?=some fi→place i=some (fi.off,fi.size)):
  ∀{parts:List (Nat × SV)} {ps:List (Nat × Value)} {cs cs':List AV} {vs:List Value},ZiY fs cs parts=some cs'→ZL (fun p q=>p.1=q.1∧SVR g w p.2 q.2∧svU U p.2) parts ps→ZL (AVR g w) cs vs→Qn U cs→
   ∃vs':List Value,Instr.fill place vs.toArray ps=some vs'.toArray∧ZL (AVR g w) cs' vs'∧Qn U cs'
 | [],[],cs,cs',vs,h,_,hr,hu=>by simp [ZiY] at h;subst h;exact ⟨vs,rfl,hr,hu⟩
 | [],_::_,_,_,_,_,h,_,_=>h.elim
 | _::_,[],_,_,_,_,h,_,_=>h.elim
 | (i,s)::r,(j,v)::ps,cs,cs',vs,h,⟨⟨e,hs,hsu⟩,hps⟩,hr,hu=>by
  simp only at e hs hsu
  subst e
  cases s with
  | p ag us=>
   simp only[ZiY] at h
   obtain ⟨f,hf,h⟩:=A6.1 h
   split at h
   ·rename_i hl
    obtain ⟨us',c1,c2⟩:=PVR.cells hs
    have hlen:=c2.len
    have hlen2:=hr.len
    obtain ⟨vs',d1,d2,d3⟩:=ZsQ hp h hps (hr.splice c2 f.off) (Zkl hu hsu f.off)
    refine ⟨vs',?_,d2,d3⟩
    have hcs:v.cells.size=us'.length:=by simp [c1]
    rw [Instr.fill,hp i f hf]
    simp only
    rw [if_neg (by simp [hcs];omega),Zl2 f.off v us' c1 _ (by simp;omega)]
    simpa using d1
   ·simp at h
  | _=>simp [ZiY] at h
theorem ZL.of_map {α β γ:Type} {R:β→γ→Prop} (f:α→β) (h:α→γ):∀{l:List α},(∀x∈l,R (f x) (h x))→ZL R (l.map f) (l.map h)
 | [],_=>trivial
 | x::l,hh=>⟨hh x (by simp),ZL.of_map f h fun y m=>hh y (by simp [m])⟩
theorem Zh6 [NW]:∀{z:List AV} {zvs:List Value},ZL (fun a v=>Zai a v=true) z zvs→ZL (AVR g w) z zvs∧Qn U z
 | [],[],_=>⟨trivial,fun _ m=>by simp at m⟩
 | x::z,v::zvs,h=>by
  obtain ⟨h1,h2⟩:=Zh6 (z:=z) (zvs:=zvs) h.2
  refine ⟨⟨Ze6 h.1,h1⟩,fun y m=>?_⟩
  rcases A8.1 m with rfl | m
  ·have:=h.1
   cases y<;>first | trivial | simp [Zai] at this
  ·exact h2 y m
 | [],_::_,h=>h.elim
 | _::_,[],h=>h.elim
theorem Znq:∀{fs:List FI} {fields:List Field},ZL (fun (fi:FI) (f:Field)=>f.offset=fi.off∧fi.size≠0∧∃j d,P.info? f.type=some j∧j.size=fi.size∧P.underlying f.type=some d∧ZqC d=fi.agg) fs fields→
  fields.mapM (fun f=>(P.info? f.type).map fun i=>(f.offset,i.size))=some (fs.map fun fi=>(fi.off,fi.size))
 | [],[],_=>rfl
 | fi::fs,f::fields,⟨⟨h1,_,j,d,h2,h3,_⟩,h⟩=>by
  simp [List.mapM_cons,h2,h3,h1,Znq h]
 | [],_::_,h=>h.elim
 | _::_,[],h=>h.elim
theorem Zww [NW] (htt:∀t i,tt t=some i→TOk P t i) (hS:∀t,SVR g w (st.sl t) (a.tmps.getD t undef)) (hU:StU U st) {t n:Nat} {fs:List FI} {z:List AV} (hti:tt t=some (.strct fs n z)) {parts:Array (Nat × Operand)} {cs:List AV} (h:ZiY fs z (parts.toList.map (ZfO tt st fs z))=some cs):
  ∃cv,(Instr.build t (parts.map fun (i,x)=>(i,a.eval x))).run P w=.ok cv w∧SVR g w (.p true cs) cv∧svU U (.p true cs):=by
 obtain ⟨fields,i,zvs,u1,u2,u3,u4,u5,u6⟩:=htt t _ hti
 obtain ⟨hz,hzu⟩:=Zh6 (g:=g) (w:=w) (U:=U) u5
 have hparts:ZL (fun (p:Nat × SV) (q:Nat × Value)=>p.1=q.1∧SVR g w p.2 q.2∧svU U p.2) (parts.toList.map (ZfO tt st fs z)) (parts.toList.map fun p=>(p.1,a.eval p.2)):=by
  refine ZL.of_map _ _ fun p _=>?_
  unfold ZfO
  split
  ·rename_i hc
   rw [hc]
   refine ⟨rfl,?_⟩
   dsimp only
   split
   ·exact ⟨⟨_,rfl,rfl⟩,fun y m=>by simp at m;subst m;trivial⟩
   ·exact ⟨trivial,trivial⟩
  ·have:=Zkm htt hS hU 0 p.2
   exact ⟨rfl,this⟩
 have hpl:∀(i:Nat) (fi:FI),fs[i]?=some fi→((fs.map fun (fi:FI)=>(fi.off,fi.size)).toArray[i]?)=some (fi.off,fi.size):=fun i fi hf=>by simp [hf]
 obtain ⟨vs',d1,d2,d3⟩:=ZsQ hpl h hparts hz hzu
 refine ⟨.agg vs'.toArray,run_build w t _ _ ?_,⟨vs',rfl,d2⟩,d3⟩
 unfold Program.built
 simp only[u1,u2,u4,Znq u6]
 have e:(parts.map fun (x:Nat × Operand)=>(x.1,a.eval x.2)).toList=parts.toList.map fun p=>(p.1,a.eval p.2):=by simp
 have e2:(parts.map fun x=>match x with | (i,x)=>(i,a.eval x))=parts.map fun (x:Nat × Operand)=>(x.1,a.eval x.2):=rfl
 rw [e2,e]
 exact d1
theorem Sl.sub {m n:Nat} {A:Option Addr} {cs:List Value} {L:List Nat} (h:Sl w m A n cs L) (l q cap:Nat) (hm:0<m) (hq:l+q≤n) (hcap:n≤cap):
  ∃A' L',A'=(if cap=l then A else A.map (·.add (l * m)))∧Sl w m A' q ((cs.drop (l * m)).take (q * m)) L'∧∀b∈L',b∈L:=by
 have hlen:=h.1
 have hlm:l * m+q * m≤n * m:=by rw [←AA];exact AY m hq
 refine ⟨_,if q=0 then [] else L,rfl,⟨by simp;omega,?_⟩,fun b mb=>?_⟩
 ·by_cases hq0:q=0
  ·exact .inl ⟨hq0,by simp [hq0]⟩
  ·rcases h.2 with ⟨h0,_⟩ | ⟨_,b,off,rfl,rfl,hc⟩
   ·omega
   ·refine .inr ⟨by omega,b,off+l * m,by rw [if_neg (by omega)];simp [Zdn],by simp [hq0],fun j u hj=>?_⟩
    rw [AM]
    refine hc _ u ?_
    have hjq:j<q * m:=by
     have:=(Ak.1 hj).1
     simp at this;omega
    rw [List.getElem?_take,if_pos hjq,List.getElem?_drop] at hj
    exact hj
 ·split at mb
  ·simp at mb
  ·exact mb
theorem REs.drop {m:Nat}:∀{xs:List (List CT)} {cs:List Value} {L:List Nat} (l:Nat),REs w m xs cs L→∃L',REs w m (xs.drop l) (cs.drop (l * m)) L'∧∀b∈L',b∈L
 | xs,cs,L,0,h=>⟨L,by simpa using h,fun _ mb=>mb⟩
 | [],cs,L,l+1,h=>⟨[],by obtain ⟨rfl,rfl⟩:=h;simp [REs],by simp⟩
 | x::r,_,_,l+1,⟨c1,c2,L1,L2,rfl,rfl,h3,h4⟩=>by
  obtain ⟨L',h5,h6⟩:=REs.drop l h4
  refine ⟨L',?_,fun b mb=>by simp [h6 b mb]⟩
  have e:(l+1) * m=c1.length+l * m:=by rw [h3.2,AA];omega
  have e2:(c1++c2).drop (c1.length+l * m)=c2.drop (l * m):=by
   rw [AN,AO (AZ _ _),Aa,AP]
  rw [e,e2]
  simpa using h5
theorem REs.take {m:Nat}:∀{xs:List (List CT)} {cs:List Value} {L:List Nat} (l:Nat),REs w m xs cs L→∃L',REs w m (xs.take l) (cs.take (l * m)) L'∧∀b∈L',b∈L
 | xs,cs,L,0,h=>⟨[],by simp [REs],by simp⟩
 | [],cs,L,l+1,h=>⟨[],by obtain ⟨rfl,rfl⟩:=h;simp [REs],by simp⟩
 | x::r,_,_,l+1,⟨c1,c2,L1,L2,rfl,rfl,h3,h4⟩=>by
  obtain ⟨L',h5,h6⟩:=REs.take l h4
  refine ⟨L1++L',?_,fun b mb=>by
   rcases A3.1 mb with mb | mb
   ·simp [mb]
   ·simp [h6 b mb]⟩
  have e:(l+1) * m=c1.length+l * m:=by rw [h3.2,AA];omega
  rw [e,Al]
  exact ⟨c1,_,L1,L',rfl,rfl,h3,h5⟩
theorem Zoh {k:IntKind} {i:Int} {y:Nat} {code:BoundsCode} (h0:0≤i) (h1:i≤y):(Instr.sliceBound (.int k i) y code).run P w=.ok i.toNat w:=by
 simp [Instr.sliceBound,asIntOf,h0,h1]
def ZlY [NW] (g:Gh) (w:World):Option SV→Option Value→Prop
 | none,none=>True
 | some s,some u=>SVR g w s u
 | _,_=>False
theorem Zin [NW] {lo hi:Option SV} {vlo vhi:Option Value} {len cap l h:Nat} {b:Bool} (hh:hiB len hi=some h) (hl:loB h lo=some l) (hlo:ZlY g w lo vlo) (hhi:ZlY g w hi vhi) (hc:len≤cap):
  (Instr.sliceBounds b len cap vlo vhi none).run P w=.ok (l,h,cap) w∧l≤h∧h≤len:=by
 have e1 : ((match vhi, (none : Option Value) with | some v, some _ => Instr.sliceBound v cap .slice3B | some v, none => Instr.sliceBound v cap (if b then .sliceAcap else .sliceAlen) | none, none => pure len | none, some _ => stuck "Slice: max without high") : Sem Nat).run P w = .ok h w ∧ h ≤ len := by
  unfold hiB at hh
  split at hh
  ·simp only[A0] at hh
   subst hh
   cases vhi with
   | none=>exact ⟨rfl,A7 _⟩
   | some v=>exact hhi.elim
  ·split at hh<;>simp only[A0,reduceCtorEq] at hh
   rename_i hq
   subst hh
   cases vhi with
   | none=>exact hhi.elim
   | some v=>
    have e:=Zbz hhi
    subst e
    exact ⟨Zoh hq.1 (by omega),by omega⟩
  ·simp at hh
 have e2:((match vlo with | some v=>Instr.sliceBound v h .sliceB | none=>pure 0):Sem Nat).run P w=.ok l w∧l≤h:=by
  unfold loB at hl
  split at hl
  ·simp only[A0] at hl
   subst hl
   cases vlo with
   | none=>exact ⟨rfl,AC _⟩
   | some v=>exact hlo.elim
  ·split at hl<;>simp only[A0,reduceCtorEq] at hl
   rename_i hq
   subst hl
   cases vlo with
   | none=>exact hlo.elim
   | some v=>
    have e:=Zbz hlo
    subst e
    exact ⟨Zoh hq.1 hq.2,by omega⟩
  ·simp at hl
 refine ⟨?_,e2.2,e1.2⟩
 unfold Instr.sliceBounds
 simp only[Sem.run_bind,Sem.run_pure,Result.andThen_ok,Option.isSome_none,Bool.false_eq_true,if_false]
 have e1':=e1.1
 have e2':=e2.1
 cases vhi<;>cases vlo<;>simp_all
theorem Zqs [NW] (htt:∀t i,tt t=some i→TOk P t i) {t:Nat} {x v:SV} {lo hi:Option SV} {vx:Value} {vlo vhi:Option Value} (h:Zlx (tt t) lo hi x=some v) (hx:SVR g w x vx)
  (hlo:ZlY g w lo vlo) (hhi:ZlY g w hi vhi):∃cv,(Instr.sliceAt t vx vlo vhi none).run P w=.ok cv w∧SVR g w v cv∧svU U v:=by
 unfold Zlx at h
 split at h
 ·rename_i s
  split at h
  ·rename_i hstr
   have hu:=Zhb htt hstr
   obtain ⟨q,hq,h⟩:=A6.1 h
   obtain ⟨l,hl,rfl⟩:=A4.1 h
   obtain ⟨rfl,hs⟩:=Zh1 hx
   obtain ⟨b1,b2,b3⟩:=Zin (P:=P) (b:=false) hq hl hlo hhi (A7 _)
   refine ⟨_,?_,ZkU (by rw [ByteArray.size_extract];omega),Xn _⟩
   simp [Instr.sliceAt,Ys hu,Instr.slice,b1]
  ·simp at h
 ·rename_i e m xs
  split at h
  ·rename_i hsz
   obtain ⟨q,hq,h⟩:=A6.1 h
   obtain ⟨l,hl,rfl⟩:=A4.1 h
   obtain ⟨A,cap,cs,L0,L1,rfl,h2,h3,h5,h6,h7,ho⟩:=Zgy hx
   obtain ⟨b1,b2,b3⟩:=Zin (P:=P) (b:=true) hq hl hlo hhi h2
   obtain ⟨e',b',z',hti⟩:∃e' b' z',tt t=some (.slice e' m b' z'):=by
    unfold ZjR at hsz
    split at hsz
    ·rename_i h1;subst hsz;exact ⟨_,_,_,h1⟩
    ·omega
   obtain ⟨hu,_,_,⟨ie,zv,hie,hsi,_⟩,_⟩:=htt t _ hti
   have fin:SVR g w (.p false [.c (.sl e m ((xs.take q).drop l))]) (.slice (if cap=l then A else A.map (·.add (l * m))) (q - l) (cap - l)):=by
    obtain ⟨A',L',rfl,s1,s2⟩:=h6.sub l (q - l) cap h5 (by omega) h2
    obtain ⟨M1,r1,r2⟩:=h7.take q
    obtain ⟨M2,r3,r4⟩:=r1.drop l
    have hlen:((xs.take q).drop l).length=q - l:=by simp;omega
    have e1:(cs.drop (l * m)).take ((q - l) * m)=(cs.take (q * m)).drop (l * m):=by
     rw [Am,Nat.sub_mul]
    rw [e1] at s1
    refine ⟨_,rfl,L'++M2,⟨_,_,_,L',M2,by rw [hlen],by rw [hlen];omega,by omega,rfl,h5,by rw [hlen];exact s1,r3⟩,fun b mb=>?_⟩
    rcases A3.1 mb with mb | mb
    ·exact ho b (by simp [s2 b mb])
    ·exact ho b (by simp [r2 b (r4 b mb)])
   refine ⟨_,?_,fin,Xn _⟩
   simp [Instr.sliceAt,Ys hu,Instr.slice,b1,XF hie,hsi]
  ·simp at h
 ·simp at h
end
end
section
open Go.RowKit
theorem ZD {α:Type} (f:Nat→α) (k:Nat) (v:α):upd f k v k=v:=by simp [upd]
theorem ZN {α:Type} (f:Nat→α) {k j:Nat} (v:α) (h:j≠k):upd f k v j=f j:=by simp [upd,h]
theorem YR (ob:Nat→Ob) (u v:List (Nat × Ob)):Zp ob (u++v)=Zp (Zp ob u) v:=by
 induction u generalizing ob with
 | nil=>rfl
 | cons p r ih=>exact ih _
theorem Zkb:∀(ks:List Nat) (ob:Nat→Ob) (k:Nat),Zp ob (Zay ks) k=if k∈ks then .gone else ob k
 | [],ob,k=>by simp [Zay,Zp]
 | x::ks,ob,k=>by
  have:Zay (x::ks)=(x,Ob.gone)::Zay ks:=rfl
  rw [this,Zp,Zkb ks]
  by_cases h1:k∈ks
  ·simp [h1]
  ·by_cases h2:k=x
   ·subst h2;simp [upd]
   ·simp [h1,h2,upd]
theorem ZaU [NW] (ks:List Nat) (ob:Nat→Ob) (key:Nat) (o:Ob) (k:Nat):Zp ob (Zay ks++[(key,o)]) k=if k=key then o else if k∈ks then .gone else ob k:=by
 rw [YR]
 simp only[Zp,upd,Zkb]
def Gh.turn (g:Gh) (ks:List Nat) (key:Nat) (v:Value) (O D:List Nat):Gh:=
 ⟨upd g.val key v,fun k=>if k=key then O else if k∈ks then [] else g.O k,fun k=>if k=key then D else if k∈ks then [] else g.D k,g.Z⟩
section
variable {P:Program} {W:Zaa} {U:Nat→Prop} {key:Nat} {st:St} {g:Gh} {w w':World} {a:Act} {tt:Nat→Option TI}
theorem ZeU {ks:List Nat} {v:Value} {O D:List Nat} {b:Nat} (h:(g.turn ks key v O D).own b):b∈O∨(∃k,k∉ks∧k≠key∧b∈g.O k)∨g.Z b:=by
 rcases h with ⟨k,hk⟩ | h
 ·simp only[Gh.turn] at hk
  split at hk
  ·exact .inl hk
  ·rename_i h1
   split at hk
   ·simp at hk
   ·rename_i h2;exact .inr (.inl ⟨k,h2,h1,hk⟩)
 ·exact .inr (.inr h)
theorem Zog {n:Nat} {ks:List Nat} {v:Value} {O D:List Nat} (hO:∀b∈O,(∃k∈ks,b∈g.O k)∨n≤b) (hD:∀b∈D,(∃k∈ks,b∈g.O k++g.D k)∨n≤b):Qj g (g.turn ks key v O D) n:=by
 refine .of (fun b hb=>?_) fun j b mb=>?_
 ·rcases ZeU hb with m | ⟨k,_,_,m⟩ | m
  ·rcases hO b m with ⟨k,_,m⟩ | m
   ·exact .inl (.inl ⟨k,m⟩)
   ·exact .inr m
  ·exact .inl (.inl ⟨k,m⟩)
  ·exact .inl (.inr m)
 ·simp only[Gh.turn] at mb
  split at mb
  ·refine (hD b mb).imp (fun ⟨k,_,mk⟩=>?_) id
   rcases A3.1 mk with m1 | m1
   ·exact .inl (.inl ⟨k,m1⟩)
   ·exact .inr ⟨k,m1⟩
  ·split at mb
   ·simp at mb
   ·exact .inl (.inr ⟨j,mb⟩)
theorem HI.turn [NW] {ob:Nat→Ob} (h:HI W g ob w) (hobU:∀k,obU U (ob k)) (hkey:¬U key) (ks:List Nat) (hks:∀k∈ks,U k)
  (hbel:Bel W w') (hsz:w.heap.size≤w'.heap.size) (hw:∀b,b<w.heap.size→(∀k∈ks,b∉g.O k)→w'.heap[b]?=w.heap[b]?)
  {v:Value} {O D:List Nat} {o:Ob} (hO:∀b∈O,(∃k∈ks,b∈g.O k)∨w.heap.size≤b) (hD:∀b∈D,(∃k∈ks,b∈g.O k++g.D k)∨w.heap.size≤b)
  (hnd:(O++D).Nodup) (hpl:∀b∈O++D,(W.heap.size≤b∨W.x b)∧Xx w' o b)
  (hob:Qj g (g.turn ks key v O D) w.heap.size→ObR (g.turn ks key v O D) w' key o):
  HI W (g.turn ks key v O D) (Zp ob (Zay ks++[(key,o)])) w'∧∀x u,svU U x→SVR g w x u→SVR (g.turn ks key v O D) w' x u:=by
 have hkk:key∉ks:=fun m=>hkey (hks key m)
 have hval:∀k,U k→(g.turn ks key v O D).val k=g.val k:=fun k hk=>ZN _ _ fun e=>hkey (e ▸ hk)
 have hown:Qj g (g.turn ks key v O D) w.heap.size:=Zog hO hD
 have hFnew:∀b∈O++D,(∃k∈ks,b∈g.O k++g.D k)∨w.heap.size≤b:=fun b m=>by
  rcases A3.1 m with m | m
  ·exact (hO b m).imp (fun ⟨k,h1,h2⟩=>⟨k,h1,by simp [h2]⟩) id
  ·exact hD b m
 refine ⟨h.step (fun k=>k=key∨k∈ks) hbel rfl (fun b hb hn=>hw b hb fun k hk=>hn k (.inr hk)) (fun k hk=>?_) hobU hval hown (fun k hk=>?_),fun x u hx hu=>hu.move hx hval (fun b hb hn=>hw b hb fun k _ m=>hn (.inl ⟨k,m⟩)) hown hsz⟩
 ·have h1:k≠key:=fun e=>hk (.inl e)
  have h2:k∉ks:=fun e=>hk (.inr e)
  rw [ZaU]
  simp [Gh.turn,h1,h2,upd]
 ·rw [ZaU]
  by_cases h1:k=key
  ·subst h1
   have eO:(g.turn ks k v O D).O k=O:=by simp [Gh.turn]
   have eD:(g.turn ks k v O D).D k=D:=by simp [Gh.turn]
   rw [if_pos rfl,eO,eD]
   refine ⟨hob hown,hnd,hpl,fun j hj b m mj=>?_⟩
   have hjk:¬j=k:=fun e=>hj e.symm
   by_cases h2:j∈ks
   ·simp [Gh.turn,hjk,h2] at mj
   ·have mj':b∈g.O j++g.D j:=by simpa [Gh.turn,hjk,h2] using mj
    rcases hFnew b m with ⟨q,q1,q2⟩ | q
    ·exact h.apart q j (fun e=>h2 (e ▸ q1)) b q2 mj'
    ·have:=h.lt j b mj';omega
  ·have h2:k∈ks:=hk.resolve_left h1
   have eO:(g.turn ks key v O D).O k=[]:=by simp [Gh.turn,h1,h2]
   have eD:(g.turn ks key v O D).D k=[]:=by simp [Gh.turn,h1,h2]
   rw [if_neg h1,if_pos h2,eO,eD]
   exact ⟨⟨eO,eD⟩,by simp,by simp,by simp⟩
theorem ZiV [NW] (hU:StU U st) (ks:List Nat) {o:Ob} (ho:obU (Uk U key) o):(∀k,obU (Uk U key) (Zp st.ob (Zay ks++[(key,o)]) k))∧∀k,¬Uk U key k→Zp st.ob (Zay ks++[(key,o)]) k=.gone:=by
 constructor
 ·intro k
  rw [ZaU]
  split
  ·exact ho
  ·split
   ·trivial
   ·exact (hU.ob k).mono fun _=>.inl
 ·intro k hk
  rw [ZaU,if_neg (fun e=>hk (.inr (by omega)))]
  split
  ·rfl
  ·exact hU.gone k fun h=>hk (.inl h)
theorem ZjX:Uk U key key:=.inr (by omega)
theorem ZuU [NW] (hI:HI W g st.ob w) (hU:StU U st) (hkey:¬U key) {t:TypeId} {cs:List AV} {vs:List Value} (hr:ZL (AVR g w) cs vs) (hu:Qn U cs) {s:Sem Next}
  (hrun:s.run P w=.ok (.value (.pointer (some ⟨w.heap.size,0,none⟩))) (w.alloc (.cells vs.toArray t))):Fin P W U key st g w s (.bp key 0,[(key,.box t cs)]):=by
 have hb:Below w.heap.size w (w.alloc (.cells vs.toArray t)):=(Below.refl _ _).alloc (A7 _) _
 obtain ⟨h1,h2⟩:=hI.turn (key:=key) (U:=U) (w':=w.alloc (.cells vs.toArray t)) (v:=.pointer (some ⟨w.heap.size,0,none⟩)) (O:=[w.heap.size]) (D:=[]) (o:=.box t cs) hU.ob hkey [] (by simp)
  (hI.below.trans hb) hb.size (fun b hb' _=>hb.block b hb') (by simp) (by simp) (by simp) (fun b m=>by
   simp at m;subst m;exact ⟨.inl hI.below.size,_,_,heap_alloc_new w _⟩) (fun hown=>⟨w.heap.size,vs,by simp [Gh.turn,upd],by simp [Gh.turn],by simp [Gh.turn],heap_alloc_new w _,
    AVRs.move hr hu (fun k hk=>ZN _ _ fun e=>hkey (e ▸ hk)) (fun b hb' _=>hb.block b hb') hown⟩)
 have hwf:=ZiV (key:=key) (o:=.box t cs) hU [] (Qn.mono (fun _=>.inl) hu)
 exact ⟨_,_,_,.inl hrun,h1,⟨w.heap.size,by simp [Gh.turn,upd],rfl⟩,h2,ZjX,hwf.1,hwf.2⟩
theorem Zn4 (b:Nat) (cs cs':Array Value) (t:TypeId) (hb:w.heap[b]?=some (.cells cs t (0,0))):(w.setRow b cs').heap[b]?=some (.cells cs' t (0,0))∧(∀k,k≠b→(w.setRow b cs').heap[k]?=w.heap[k]?)∧(w.setRow b cs').heap.size=w.heap.size∧(w.setRow b cs').os=w.os∧(w.setRow b cs').tape=w.tape∧(w.setRow b cs').output=w.output:=by
 refine ⟨setRow_heap w b cs cs' t _ hb,fun k hk=>?_,?_,rfl,rfl,rfl⟩
 ·have hbk:¬b=k:=fun e=>hk e.symm
  simp [World.setRow,Array.getElem?_modify,hbk]
 ·simp [World.setRow]
theorem ZvT [NW] (htt:∀t i,tt t=some i→TOk P t i) (hI:HI W g st.ob w) (hU:StU U st) {t k off tb:Nat} {cs vs:List AV} {va vv:Value} {ag:Bool} (hk:st.ob k=.box tb cs) (hl:vs.length=Zik (tt t)) (ho:off+vs.length≤cs.length)
  (ha:SVR g w (.bp k off) va) (hv:SVR g w (.p ag vs) vv) (hvu:Qn U vs) (hpos:0<vs.length) {s:Sem Next} (hs:s=(do Instr.storeAt t va vv;pure .skip)):Fin P W U key st g w s (.und,[(k,.box tb (splice cs off vs))]):=by
 obtain ⟨b,h1,rfl⟩:=ha
 have hob:=hI.obs k
 rw [hk] at hob
 obtain ⟨b',us,o1,o2,o3,o4,o5⟩:=hob
 have hb:b=b':=by rw [o1] at h1;simpa using h1.symm
 subst hb
 have hlen:=o5.len
 obtain ⟨xs,c1,c2⟩:=PVR.cells hv
 have hxl:=c2.len
 have hcu:=hU.ob k
 rw [hk] at hcu
 obtain ⟨r1,r2,r3,r4,r5,r6⟩:=Zn4 b us.toArray (splice us off xs).toArray tb o4
 have hsize:(sizeOf t).run P w=.ok xs.length w:=by
  rw [←hxl,hl]
  unfold Zik at hl ⊢
  cases hti:tt t with
  | none=>rw [hti] at hl;simp at hl;simp [hl] at hpos
  | some i=>
   cases i with
   | atom z=>obtain ⟨d,zv,i,_,_,h3,_,h4,_⟩:=htt t _ hti;rw [XF h3,h4]
   | strct fs n z=>obtain ⟨_,i,_,_,h3,h4,_⟩:=htt t _ hti;rw [XF h3,h4]
   | slice e m b z=>obtain ⟨_,_,_,_,j,h3,h4,_⟩:=htt t _ hti;rw [XF h3,h4]
   | _=>rw [hti] at hl;simp at hl;simp [hl] at hpos
 have hst:=run_storeCells_at (P:=P) b off tb xs 0 us.toArray w o4 (by simp;omega) (AVRs.one c2)
 have hrun:s.run P w=.ok .skip (w.setRow b (splice us off xs).toArray):=by
  subst hs
  have e:(us.toArray.toList.take (off+0)++xs++us.toArray.toList.drop (off+0+xs.length)).toArray=(splice us off xs).toArray:=by simp [splice]
  rw [e] at hst
  simp [Instr.storeAt,Instr.sureAddr,storeVar,c1,hsize,hst]
 have hmv:∀b',b'<w.heap.size→¬g.own b'→(w.setRow b (splice us off xs).toArray).heap[b']?=w.heap[b']?:=fun b' _ hn=>r2 b' fun e=>hn (.inl ⟨k,by simp [o2,e]⟩)
 have hbW:W.heap.size≤b∨W.x b:=(hI.plain k b (by simp [o2])).1
 refine ⟨g,undef,_,.inr ⟨hrun,rfl⟩,?_,rfl,fun x u hx hu=>hu.move hx (fun _ _=>rfl) hmv (Qj.refl _ _) (by omega),trivial,fun q=>?_,fun q hq=>?_⟩
 ·refine hI.step (U:=U) (fun q=>q=k) ?_ rfl (fun b' _ hn=>r2 b' fun e=>hn k rfl (by simp [o2,e])) (fun q hq=>⟨ZN _ _ hq,rfl,rfl,rfl⟩) hU.ob (fun _ _=>rfl) (Qj.refl _ _) (fun q hq=>?_)
  ·exact ⟨r4.trans hI.below.os,r5.trans hI.below.tape,r6.trans hI.below.output,by have:=hI.below.size;omega,fun q hq hx=>by rw [r2 q (fun e=>by subst e;rcases hbW with h | h;omega;exact hx h)];exact hI.below.block q hq hx⟩
  ·subst hq
   refine ⟨?_,hI.nodup q,fun b' m=>?_,hI.apart q⟩
   ·simp only[Zp,ZD]
    exact ⟨b,_,o1,o2,o3,r1,(AVRs.move o5 hcu (fun _ _=>rfl) hmv (Qj.refl _ _)).splice (AVRs.move c2 hvu (fun _ _=>rfl) hmv (Qj.refl _ _)) off⟩
   ·simp [o2,o3] at m
    subst m
    refine ⟨hbW,?_⟩
    simp only[Zp,ZD]
    exact ⟨_,_,r1⟩
 ·simp only[Zp,upd]
  split
  ·exact Qn.mono (fun _=>.inl) (Zkl hcu hvu off)
  ·exact (hU.ob q).mono fun _=>.inl
 ·simp only[Zp,upd]
  split
  ·rename_i e;subst e
   exact absurd (hU.gone q fun h=>hq (.inl h)) (by simp [hk])
  ·exact hU.gone q fun h=>hq (.inl h)
end
end
section
open Go.RowKit
section
variable {P:Program} {W:Zaa} {U:Nat→Prop} {key:Nat} {st:St} {g:Gh} {w w':World} {a:Act} {tt:Nat→Option TI}
def Gh.F (g:Gh) (ks:List Nat):List Nat:=ks.flatMap fun k=>g.O k++g.D k
def FP (g:Gh) (ks:List Nat) (d:Nat) (L:List Nat):Prop:=(d=2→L.Sublist (g.F ks))∧d≤2∧0<d∧∀b∈L,¬g.own b∨∃k∈ks,b∈g.O k
theorem FP.nil:FP g [] 2 []:=⟨fun _=>by simp [Gh.F],by simp⟩
theorem FP.append {ks ks':List Nat} {d d':Nat} {L L':List Nat} (h:FP g ks d L) (h':FP g ks' d' L'):FP g (ks++ks') (ZfJ d d') (L++L'):=by
 have q1:=h.2.1
 have q2:=h'.2.1
 have q3:=h.2.2.1
 have q4:=h'.2.2.1
 refine ⟨fun hd=>?_,by unfold ZfJ;split<;>omega,by unfold ZfJ;split<;>omega,fun b m=>?_⟩
 ·have hd':d=2∧d'=2:=by unfold ZfJ at hd;split at hd<;>omega
  simp only[Gh.F,Ab]
  exact AD (h.1 hd'.1) (h'.1 hd'.2)
 ·rcases A3.1 m with m | m
  ·exact (h.2.2.2 b m).imp id fun ⟨k,h1,h2⟩=>⟨k,by simp [h1],h2⟩
  ·exact (h'.2.2.2 b m).imp id fun ⟨k,h1,h2⟩=>⟨k,by simp [h1],h2⟩
theorem HI.nodupF [NW] {ob:Nat→Ob} (hI:HI W g ob w):∀{ks:List Nat},ks.Nodup→(g.F ks).Nodup
 | [],_=>by simp [Gh.F]
 | k::ks,h=>by
  simp only[Gh.F,AG,AF]
  rw [AQ] at h
  refine ⟨AF.1 (hI.nodup k),hI.nodupF h.2,fun x hx y hy e=>?_⟩
  subst e
  obtain ⟨j,hj,hy⟩:=A9.1 hy
  exact hI.apart k j (fun e=>h.1 (e ▸ hj)) x hx hy
theorem Zi5 {ks:List Nat} {b:Nat} (h:b∈g.F ks):∃k∈ks,b∈g.O k++g.D k:=by simpa [Gh.F] using h
theorem Sl.row {B e m n:Nat} {v:Value} {cs:List Value} (h:w.ownsV B e m v n cs):∃A cap L0,v=.slice A n cap∧n≤cap∧cap≤maxLen∧Sl w m A n cs L0∧L0.Sublist v.ownBlock.toList:=by
 obtain ⟨A,cap,rfl,h1,h2⟩:=ZdC h
 obtain ⟨L0,h3,_,h4⟩:=Sl.of_ownV h
 refine ⟨A,cap,L0,rfl,h1,h2,h3,?_⟩
 rcases h3.2 with ⟨_,rfl⟩ | ⟨_,b,off,rfl,rfl,_⟩
 ·exact AH _
 ·simp [Value.ownBlock]
theorem NR.toC [NW] {x:CT} {v:Value} (h:NR g w x v):∃L,RC w x v L∧∀b∈L,¬g.own b:=by
 obtain ⟨e,m,xs,cs,L,rfl,h2,h3,h4,h5,h6⟩:=h
 obtain ⟨A,cap,L0,s1,s2,s3,s4,s5⟩:=Sl.row h3
 refine ⟨L0++L,⟨A,cap,cs,L0,L,s1,s2,s3,rfl,h2,s4,h4⟩,fun b mb o=>(h6 b ?_).1 (.inl o)⟩
 rcases A3.1 mb with m1 | m1
 ·simp [s5.subset m1]
 ·simp [m1]
theorem ZB5 [NW] (hI:HI W g st.ob w) {x:AV} {ct:CT} {ks:List Nat} {d:Nat} {v:Value} (h:avT st x=some (ct,ks,d)) (hx:AVR g w x v) (hu:avU U x):∃L,RC w ct v L∧FP g ks d L∧∀k∈ks,U k:=by
 cases x with
 | c y=>
  obtain ⟨L,h1,h2⟩:=hx
  cases y<;>simp only[avT,A0,A5] at h<;>obtain ⟨rfl,rfl,rfl⟩:=h
  ·exact ⟨L,h1,⟨fun _=>by rw [h1.2];simp [Gh.F],by simp,by simp,fun b m=>.inl (h2 b m)⟩,by simp⟩
  ·exact ⟨L,h1,⟨fun _=>by rw [h1.2];simp [Gh.F],by simp,by simp,fun b m=>.inl (h2 b m)⟩,by simp⟩
  ·exact ⟨L,h1,⟨fun _=>by rw [h1.2.1];simp [Gh.F],by simp,by simp,fun b m=>.inl (h2 b m)⟩,by simp⟩
  all_goals exact ⟨L,h1,⟨fun e=>by simp at e,by simp,by simp,fun b m=>.inl (h2 b m)⟩,by simp⟩
 | row k=>
  simp only[avT] at h
  split at h
  ·rename_i e m xs d' hk
   obtain ⟨hm,cs,L1,o1,o2,o3,o5⟩:=hI.deep hk
   obtain ⟨A,cap,L0,s1,s2,s3,s4,s5⟩:=Sl.row o1
   have hrc:RC w (.sl e m xs) v (L0++L1):=⟨A,cap,cs,L0,L1,by rw [hx.1,s1],s2,s3,rfl,hm,s4,o2⟩
   split at h
   ·rename_i hd0
    simp only[A0,A5] at h
    obtain ⟨rfl,rfl,rfl⟩:=h
    refine ⟨L0++L1,hrc,⟨fun e=>by simp at e,by simp,by simp,fun b m=>.inl ?_⟩,by simp⟩
    rcases o5 with ⟨q,_⟩ | ⟨q,_⟩ | ⟨_,_,_,q⟩
    ·omega
    ·omega
    ·rcases A3.1 m with m | m
     ·exact q b (s5.subset m)
     ·exact o3 b m
   ·rename_i hd0
    simp only[A0,A5] at h
    obtain ⟨rfl,rfl,rfl⟩:=h
    have hO:g.O k=(g.val k).ownBlock.toList:=by
     rcases o5 with ⟨_,q,_⟩ | ⟨_,q,_⟩ | ⟨q,_⟩
     ·exact q
     ·exact q
     ·exact absurd q hd0
    refine ⟨L0++L1,hrc,⟨fun hd=>?_,?_,by omega,fun b m=>?_⟩,fun q mq=>by simp at mq;subst mq;exact hu⟩
    ·rcases o5 with ⟨_,_,o5⟩ | ⟨o5,_⟩ | ⟨o5,_⟩
     ·simp only[Gh.F,AG,List.flatMap_nil,Ac,hO,o5]
      exact AD s5 (AB _)
     ·omega
     ·omega
    ·rcases o5 with ⟨o5,_⟩ | ⟨o5,_⟩ | ⟨o5,_⟩<;>omega
    ·rcases A3.1 m with m | m
     ·exact .inr ⟨k,by simp,by rw [hO];exact s5.subset m⟩
     ·exact .inl (o3 b m)
  ·simp at h
 | nil e m=>
  simp only[avT] at h
  split at h
  ·rename_i hm
   simp only[A0,A5] at h
   obtain ⟨rfl,rfl,rfl⟩:=h
   refine ⟨[],⟨none,0,[],[],[],hx,by simp,AC _,rfl,hm,Sl.zero,rfl,rfl⟩,FP.nil,by simp⟩
  ·simp at h
 | n x=>simp [avT] at h
 | dead=>simp [avT] at h
theorem ZsR [NW] (hI:HI W g st.ob w):∀{xs:List AV} {cts:List CT} {ks:List Nat} {d:Nat} {vs:List Value},ZfY st xs=some (cts,ks,d)→ZL (AVR g w) xs vs→Qn U xs→∃L,RCs w cts vs L∧FP g ks d L∧∀k∈ks,U k
 | [],_,_,_,[],h,_,_=>by
  simp only[ZfY,A0,A5] at h
  obtain ⟨rfl,rfl,rfl⟩:=h
  exact ⟨[],⟨rfl,rfl⟩,FP.nil,by simp⟩
 | [],_,_,_,_::_,_,h,_=>h.elim
 | _::_,_,_,_,[],_,h,_=>h.elim
 | x::r,cts,ks,d,v::vs,h,hr,hu=>by
  simp only[ZfY] at h
  obtain ⟨⟨c1,k1,d1⟩,h1,h⟩:=A6.1 h
  obtain ⟨⟨c2,k2,d2⟩,h2,h⟩:=A4.1 h
  simp only[A5] at h
  obtain ⟨rfl,rfl,rfl⟩:=h
  obtain ⟨L1,a1,a2,a3⟩:=ZB5 hI h1 hr.1 (hu x (by simp))
  obtain ⟨L2,b1,b2,b3⟩:=ZsR hI h2 hr.2 (fun y m=>hu y (by simp [m]))
  exact ⟨L1++L2,⟨v,vs,L1,L2,rfl,rfl,a1,b1⟩,a2.append b2,fun k m=>(A3.1 m).elim (a3 k) (b3 k)⟩
theorem ZqE [NW] (hI:HI W g st.ob w) {m:Nat}:∀{xs:List SV} {es:List (List CT)} {ks:List Nat} {d:Nat} {vs:List Value},Y0 st m xs=some (es,ks,d)→ZL (fun s v=>SVR g w s v∧svU U s) xs vs→
  ∃(cs:List (List Value)) (L:List Nat),ZL (fun (c:List Value) (v:Value)=>v.cells=c.toArray∧c.length=m∧∀u∈c,u.oneCell'=true) cs vs∧REs w m es cs.flatten L∧FP g ks d L∧∀k∈ks,U k
 | [],_,_,_,[],h,_=>by
  simp only[Y0,A0,A5] at h
  obtain ⟨rfl,rfl,rfl⟩:=h
  exact ⟨[],[],trivial,⟨rfl,rfl⟩,FP.nil,by simp⟩
 | [],_,_,_,_::_,_,h=>h.elim
 | _::_,_,_,_,[],_,h=>h.elim
 | s::r,es,ks,d,v::vs,h,⟨⟨hs,hsu⟩,hr⟩=>by
  cases s with
  | p ag us=>
   simp only[Y0] at h
   split at h
   ·rename_i hl
    obtain ⟨⟨c1,k1,d1⟩,h1,h⟩:=A6.1 h
    obtain ⟨⟨c2,k2,d2⟩,h2,h⟩:=A4.1 h
    simp only[A5] at h
    obtain ⟨rfl,rfl,rfl⟩:=h
    obtain ⟨us',p1,p2⟩:=PVR.cells hs
    obtain ⟨L1,a1,a2,a3⟩:=ZsR hI h1 p2 hsu
    obtain ⟨cs,L2,b1,b2,b3,b4⟩:=ZqE hI h2 hr
    have hl':us'.length=m:=by rw [←p2.len];exact hl
    exact ⟨us'::cs,L1++L2,⟨⟨p1,hl',AVRs.one p2⟩,b1⟩,⟨us',cs.flatten,L1,L2,by simp,rfl,⟨a1,hl'⟩,b2⟩,a2.append b3,fun k mk=>(A3.1 mk).elim (a3 k) (b4 k)⟩
   ·simp at h
  | _=>simp [Y0] at h
theorem Zrf [NW] {m:Nat}:∀(cs:List (List Value)) (vs:List Value) (i:Nat) (pre base:List Value),ZL (fun (c:List Value) (v:Value)=>v.cells=c.toArray∧c.length=m∧∀u∈c,u.oneCell'=true) cs vs→pre.length=i * m→base.length=vs.length * m→
  Instr.fill (fun i=>some (i * m,m)) (pre++base).toArray ((AI i vs.length).zip vs)=some (pre++cs.flatten).toArray
 | [],[],i,pre,base,_,_,hb=>by
  have:base=[]:=AR (by simpa using hb)
  subst this
  simp [Instr.fill]
 | [],_::_,_,_,_,h,_,_=>h.elim
 | _::_,[],_,_,_,h,_,_=>h.elim
 | c::cs,v::vs,i,pre,base,⟨⟨h1,h2,_⟩,h⟩,hp,hb=>by
  have hb':base.length=m+vs.length * m:=by rw [hb];simp [AA];omega
  have hcs:v.cells.size=m:=by simp [h1,h2]
  simp only[An,Ad,List.zip_cons_cons,Instr.fill]
  rw [if_neg (by simp [hcs];omega),Zl2 (i * m) v c h1 _ (by simp;omega)]
  have e:splice (pre++base).toArray.toList (i * m) c=(pre++c)++base.drop m:=by
   unfold splice
   simp only[←hp]
   rw [Ao,AN,AO (by omega)]
   ·simp [h2]
   ·rfl
  rw [e,Zrf cs vs (i+1) (pre++c) (base.drop m) h (by simp [hp,h2,AA]) (by simp;omega)]
  simp
theorem Ztz [NW] (hI:HI W g st.ob w) (hU:StU U st) (hkey:¬U key) {e m:Nat} (hm:0<m) {xs:List (List CT)} {ks:List Nat} {d:Nat} {L:List Nat} {cs:List Value} {v:Value} (hown:w'.ownsV 0 e m v xs.length cs) (hv:v.ownBlock=some w.heap.size)
  (hb:Below w.heap.size w w') (hpl:∃cur e,w'.heap[w.heap.size]?=some (.cells cur e (0,0))) (hr:REs w m xs cs L) (hf:FP g ks d L) (hks:∀k∈ks,U k) (hrow:∀k∈ks,∃e m xs d,st.ob k=.row e m xs d) (hnd:ks.Nodup) {s:Sem Next} (hrun:s.run P w=.ok (.value v) w'):
  Fin P W U key st g w s (.p false [.row key],Zay ks++[(key,.row e m xs d)]):=by
 have hlt:=hr.lt
 have hF:=hI.nodupF hnd
 have hDmem:∀b∈(if d=2 then L else []),b∈L∧d=2:=fun b mb=>by
  split at mb
  ·rename_i hd;exact ⟨mb,hd⟩
  ·simp at mb
 obtain ⟨h1,h2⟩:=hI.turn (key:=key) (U:=U) (w':=w') (v:=v) (O:=[w.heap.size]) (D:=if d=2 then L else []) (o:=.row e m xs d) hU.ob hkey ks hks
  (hI.below.trans hb) hb.size (fun b hb' _=>hb.block b hb') (by simp) (fun b mb=>by
   obtain ⟨m1,m2⟩:=hDmem b mb
   exact .inl (Zi5 ((hf.1 m2).subset m1)))
  (by
   simp only[AS,AQ]
   refine ⟨fun mb=>?_,?_⟩
   ·have:=hlt _ (hDmem _ mb).1;omega
   ·split
    ·rename_i hd;exact hF.sublist (hf.1 hd)
    ·simp)
  (fun b mb=>by
   simp only[AS,A8] at mb
   rcases mb with rfl | mb
   ·exact ⟨.inl hI.below.size,hpl⟩
   ·obtain ⟨m1,m2⟩:=hDmem b mb
    obtain ⟨k,k1,mk⟩:=Zi5 ((hf.1 m2).subset m1)
    obtain ⟨p1,p2⟩:=hI.plain k b mk
    obtain ⟨_,_,_,_,hob⟩:=hrow k k1
    rw [hob] at p2
    exact ⟨p1,p2.keep (hb.block b (hlt b m1))⟩)
  (fun _=>⟨hm,cs,L,by simpa [Gh.turn,upd] using hown,hr.keep fun b mb=>hb.block b (hlt b mb),by
   have q1:=hf.2.1
   have q2:=hf.2.2.1
   by_cases hd:d=2
   ·exact .inl ⟨hd,by simp [Gh.turn,upd,hv],by simp [Gh.turn,hd]⟩
   ·refine .inr (.inl ⟨by omega,by simp [Gh.turn,upd,hv],by simp [Gh.turn,hd],fun b mb ho=>?_⟩)
    have hb':=hlt b mb
    rcases ZeU ho with mo | ⟨k,k1,_,mk⟩ | hz
    ·simp at mo;omega
    ·rcases hf.2.2.2 b mb with hn | ⟨q,q1,q2⟩
     ·exact hn (.inl ⟨k,mk⟩)
     ·exact hI.apart k q (fun e=>k1 (e ▸ q1)) b (by simp [mk]) (by simp [q2])
    ·rcases hf.2.2.2 b mb with hn | ⟨q,q1,q2⟩
     ·exact hn (.inr hz)
     ·exact hI.nz (k:=q) (by simp [q2]) hz⟩)
 have hwf:=ZiV (key:=key) (o:=.row e m xs d) hU ks trivial
 refine ⟨_,_,_,.inl hrun,h1,⟨_,rfl,⟨by simp [Gh.turn,upd],?_⟩⟩,h2,fun y my=>by simp at my;subst my;exact ZjX,hwf.1,hwf.2⟩
 obtain ⟨A,cap,hv'⟩:=Zax hown
 simp [hv',Value.oneCell']
theorem Zl9 (st:St):∀(ks:List Nat) (ob:Nat→Ob) (k:Nat),Zp ob (ZS st ks) k=if k∈ks then Yd (st.ob k) else ob k
 | [],ob,k=>by simp [ZS,Zp]
 | j::r,ob,k=>by
  show Zp (upd ob j (Yd (st.ob j))) (ZS st r) k=_
  rw [Zl9 st r]
  by_cases h:k∈r
  ·simp [h]
  ·by_cases hj:k=j
   ·subst hj;simp [h,upd]
   ·simp [h,hj,upd]
theorem ZcV [NW] (st:St) (ks:List Nat) (ob:Nat→Ob) (key:Nat) (o:Ob) (k:Nat):Zp ob (ZS st ks++[(key,o)]) k=if k=key then o else if k∈ks then Yd (st.ob k) else ob k:=by
 rw [YR]
 show upd (Zp ob (ZS st ks)) key o k=_
 by_cases h:k=key
 ·simp [upd,h]
 ·simp only[upd,h,if_false];exact Zl9 st ks ob k
theorem Zwn {x:AV} {ct:CT} {ks:List Nat} {d:Nat} (h:avT st x=some (ct,ks,d)):∀k∈ks,∃e m xs d,st.ob k=.row e m xs d:=by
 intro k mk
 cases x with
 | c y=>cases y<;>simp only[avT,A0,A5] at h<;>(rw [←h.2.1] at mk;simp at mk)
 | nil e m=>
  simp only[avT] at h
  split at h<;>simp only[A0,A5,reduceCtorEq] at h
  rw [←h.2.1] at mk;simp at mk
 | row j=>
  simp only[avT] at h
  split at h
  ·rename_i e m xs d' hj
   split at h<;>simp only[A0,A5] at h
   ·rw [←h.2.1] at mk;simp at mk
   ·rw [←h.2.1] at mk;simp at mk;subst mk;exact ⟨_,_,_,_,hj⟩
  ·simp at h
 | n x=>simp [avT] at h
 | dead=>simp [avT] at h
theorem Zor [NW]:∀{xs:List AV} {cts:List CT} {ks:List Nat} {d:Nat},ZfY st xs=some (cts,ks,d)→∀k∈ks,∃e m xs d,st.ob k=.row e m xs d
 | [],_,_,_,h,k,mk=>by simp only[ZfY,A0,A5] at h;rw [←h.2.1] at mk;simp at mk
 | x::r,_,_,_,h,k,mk=>by
  simp only[ZfY] at h
  obtain ⟨⟨c1,k1,d1⟩,h1,h⟩:=A6.1 h
  obtain ⟨⟨c2,k2,d2⟩,h2,h⟩:=A4.1 h
  simp only[A5] at h
  rw [←h.2.1] at mk
  rcases A3.1 mk with mk | mk
  ·exact Zwn h1 k mk
  ·exact Zor h2 k mk
theorem Zkz [NW] {m:Nat}:∀{xs:List SV} {es:List (List CT)} {ks:List Nat} {d:Nat},Y0 st m xs=some (es,ks,d)→∀k∈ks,∃e m xs d,st.ob k=.row e m xs d
 | [],_,_,_,h,k,mk=>by simp only[Y0,A0,A5] at h;rw [←h.2.1] at mk;simp at mk
 | x::r,_,_,_,h,k,mk=>by
  cases x with
  | p a cs=>
   simp only[Y0] at h
   split at h
   ·obtain ⟨⟨c1,k1,d1⟩,h1,h⟩:=A6.1 h
    obtain ⟨⟨c2,k2,d2⟩,h2,h⟩:=A4.1 h
    simp only[A5] at h
    rw [←h.2.1] at mk
    rcases A3.1 mk with mk | mk
    ·exact Zor h1 k mk
    ·exact Zkz h2 k mk
   ·simp at h
  | _=>simp [Y0] at h
theorem ZrS [NW] (hI:HI W g st.ob w) (hU:StU U st) (hkey:¬U key) {e m:Nat} (hm:0<m) {xs:List (List CT)} {ks:List Nat} {d:Nat} {L:List Nat} {cs:List Value} {v:Value} (hown:w'.ownsV 0 e m v xs.length cs) (hv:v.ownBlock=some w.heap.size)
  (hb:Below w.heap.size w w') (hpl:∃cur e,w'.heap[w.heap.size]?=some (.cells cur e (0,0))) (hr:REs w m xs cs L) (hf:FP g ks d L) (hks:∀k∈ks,U k) (hrow:∀k∈ks,∃e m xs d,st.ob k=.row e m xs d) (hnd:ks.Nodup) {s:Sem Next} (hrun:s.run P w=.ok (.value v) w'):
  Fin P W U key st g w s (.p false [.row key],ZS st ks++[(key,.row e m xs d)]):=by
 have hlt:=hr.lt
 have hF:=hI.nodupF hnd
 have hDmem:∀b∈(if d=2 then L else []),b∈L∧d=2:=fun b mb=>by
  split at mb
  ·rename_i hd;exact ⟨mb,hd⟩
  ·simp at mb
 obtain ⟨h1,h2⟩:=hI.turn (key:=key) (U:=U) (w':=w') (v:=v) (O:=[w.heap.size]) (D:=if d=2 then L else []) (o:=.row e m xs d) hU.ob hkey ks hks
  (hI.below.trans hb) hb.size (fun b hb' _=>hb.block b hb') (by simp) (fun b mb=>by
   obtain ⟨m1,m2⟩:=hDmem b mb
   exact .inl (Zi5 ((hf.1 m2).subset m1)))
  (by
   simp only[AS,AQ]
   refine ⟨fun mb=>?_,?_⟩
   ·have:=hlt _ (hDmem _ mb).1;omega
   ·split
    ·rename_i hd;exact hF.sublist (hf.1 hd)
    ·simp)
  (fun b mb=>by
   simp only[AS,A8] at mb
   rcases mb with rfl | mb
   ·exact ⟨.inl hI.below.size,hpl⟩
   ·obtain ⟨m1,m2⟩:=hDmem b mb
    obtain ⟨k,k1,mk⟩:=Zi5 ((hf.1 m2).subset m1)
    obtain ⟨p1,p2⟩:=hI.plain k b mk
    obtain ⟨_,_,_,_,hob⟩:=hrow k k1
    rw [hob] at p2
    exact ⟨p1,p2.keep (hb.block b (hlt b m1))⟩)
  (fun _=>⟨hm,cs,L,by simpa [Gh.turn,upd] using hown,hr.keep fun b mb=>hb.block b (hlt b mb),by
   have q1:=hf.2.1
   have q2:=hf.2.2.1
   by_cases hd:d=2
   ·exact .inl ⟨hd,by simp [Gh.turn,upd,hv],by simp [Gh.turn,hd]⟩
   ·refine .inr (.inl ⟨by omega,by simp [Gh.turn,upd,hv],by simp [Gh.turn,hd],fun b mb ho=>?_⟩)
    have hb':=hlt b mb
    rcases ZeU ho with mo | ⟨k,k1,_,mk⟩ | hz
    ·simp at mo;omega
    ·rcases hf.2.2.2 b mb with hn | ⟨q,q1,q2⟩
     ·exact hn (.inl ⟨k,mk⟩)
     ·exact hI.apart k q (fun e=>k1 (e ▸ q1)) b (by simp [mk]) (by simp [q2])
    ·rcases hf.2.2.2 b mb with hn | ⟨q,q1,q2⟩
     ·exact hn (.inr hz)
     ·exact hI.nz (k:=q) (by simp [q2]) hz⟩)
 have hkk:∀k∈ks,k≠key:=fun k mk e=>hkey (e ▸ hks k mk)
 have h1':HI W (g.turn ks key v [w.heap.size] (if d=2 then L else [])) (Zp st.ob (ZS st ks++[(key,.row e m xs d)])) w':=by
  refine ⟨h1.below,fun k=>?_,h1.nodup,h1.apart,fun k b mb=>?_,h1.gz,h1.zx,h1.nw⟩
  rotate_left
  ·have hp:=h1.plain k b mb
   rw [ZaU] at hp
   rw [ZcV]
   by_cases hk:k=key
   ·rw [if_pos hk] at hp ⊢;exact hp
   ·rw [if_neg hk] at hp ⊢
    by_cases hm':k∈ks
    ·rw [if_pos hm'] at hp ⊢
     obtain ⟨e2,m2,xs2,d2,hob⟩:=hrow k hm'
     rw [hob]
     exact hp
    ·rw [if_neg hm'] at hp ⊢;exact hp
  have ho:=h1.obs k
  rw [ZaU] at ho
  rw [ZcV]
  by_cases hk:k=key
  ·rw [if_pos hk] at ho ⊢;exact ho
  ·rw [if_neg hk] at ho ⊢
   by_cases hm':k∈ks
   ·rw [if_pos hm'] at ho ⊢
    obtain ⟨e2,m2,xs2,d2,hob⟩:=hrow k hm'
    obtain ⟨p1,cs2,L2,p2,p3,p4,p5⟩:=hI.deep hob
    rw [hob]
    have hval:(g.turn ks key v [w.heap.size] (if d=2 then L else [])).val k=g.val k:=by simp [Gh.turn,upd,hk]
    have hl2:=p3.lt
    have hl1:=Zr9 p2
    refine ⟨p1,cs2,L2,by rw [hval];exact Zh7 p2 fun b mb=>hb.block b (hl1 b mb),p3.keep fun b mb=>hb.block b (hl2 b mb),.inr (.inr ⟨rfl,ho.1,ho.2,fun b mb hob'=>?_⟩)⟩
    rw [hval] at mb
    have hbl:b<w.heap.size:=by
     rcases A3.1 mb with m1 | m1
     ·exact hl1 b m1
     ·exact hl2 b m1
    rcases ZeU hob' with mo | ⟨j,j1,_,mj⟩ | hz
    ·simp at mo;omega
    ·rcases A3.1 mb with m1 | m1
     ·rcases p5 with ⟨_,q1,_⟩ | ⟨_,q1,_⟩ | ⟨_,_,_,q⟩
      ·exact hI.apart j k (fun e=>j1 (e ▸ hm')) b (by simp [mj]) (by simp [q1,m1])
      ·exact hI.apart j k (fun e=>j1 (e ▸ hm')) b (by simp [mj]) (by simp [q1,m1])
      ·exact q b m1 (.inl ⟨j,mj⟩)
     ·exact p4 b m1 (.inl ⟨j,mj⟩)
    ·rcases A3.1 mb with m1 | m1
     ·rcases p5 with ⟨_,q1,_⟩ | ⟨_,q1,_⟩ | ⟨_,_,_,q⟩
      ·exact hI.nz (k:=k) (by simp [q1,m1]) hz
      ·exact hI.nz (k:=k) (by simp [q1,m1]) hz
      ·exact q b m1 (.inr hz)
     ·exact p4 b m1 (.inr hz)
   ·rw [if_neg hm'] at ho ⊢;exact ho
 have hfz:∀k,obU U (Yd (st.ob k)):=fun k=>by
  have:=hU.ob k
  cases hk:st.ob k<;>simp only[Yd]<;>first | trivial | (rw [hk] at this;exact this)
 refine ⟨_,_,_,.inl hrun,h1',⟨_,rfl,⟨by simp [Gh.turn,upd],?_⟩⟩,h2,fun y my=>by simp at my;subst my;exact ZjX,fun k=>?_,fun k hk=>?_⟩
 ·obtain ⟨A,cap,hv'⟩:=Zax hown
  simp [hv',Value.oneCell']
 ·rw [ZcV]
  split
  ·trivial
  ·split
   ·exact (hfz k).mono fun _=>.inl
   ·exact (hU.ob k).mono fun _=>.inl
 ·rw [ZcV,if_neg (fun e=>hk (.inr (by omega)))]
  have e:=hU.gone k fun h=>hk (.inl h)
  split
  ·rw [e];rfl
  ·exact e
end
end
section
open Go.RowKit
section
variable {P:Program} {W:Zaa} {U:Nat→Prop} {key:Nat} {st:St} {g:Gh} {w w':World} {a:Act} {tt:Nat→Option TI}
theorem Zx8 [NW] (htt:∀t i,tt t=some i→TOk P t i) (hI:HI W g st.ob w) (hS:∀t,SVR g w (st.sl t) (a.tmps.getD t undef)) (hU:StU U st) (hkey:¬U key) {t len e m bytes:Nat} {z:List AV} (hti:tt t=some (.slice e m bytes z)) {parts:Array (Nat × Operand)} {xs:List (List CT)} {ks:List Nat} {d:Nat}
  (h:Y0 st m (parts.toList.map fun p=>st.ev tt e p.2)=some (xs,ks,d)) (hr:parts.toList.map (·.1)=List.range len) (hl:len * m≤16777216) (hnd:ks.Nodup) {s:Sem Next} (hs:s=(do pure (.value (←Instr.buildSlice t len (parts.map fun (i,x)=>(i,a.eval x)))))):
  Fin P W U key st g w s (.p false [.row key],ZS st ks++[(key,.row e m xs d)]):=by
 obtain ⟨hu,hm,_,⟨ie,zv,hie,hsz,hby,hz,hzc,hzl⟩,_⟩:=htt t _ hti
 have hall:ZL (fun s v=>SVR g w s v∧svU U s) (parts.toList.map fun p=>st.ev tt e p.2) (parts.toList.map fun p=>a.eval p.2):=ZL.of_map _ _ fun p _=>Zkm htt hS hU e p.2
 obtain ⟨cs,L,c1,c2,c3,c4⟩:=ZqE hI h hall
 have hlen:parts.toList.length=len:=by have:=congrArg List.length hr;simpa using this
 have hcl:cs.length=len:=by rw [c1.len];simpa using hlen
 have hxl:xs.length=len:=by
  have h1:=c2.len
  have h2:cs.flatten.length=len * m:=by
   have:∀(cs:List (List Value)) (vs:List Value),ZL (fun (c:List Value) (v:Value)=>v.cells=c.toArray∧c.length=m∧∀u∈c,u.oneCell'=true) cs vs→cs.flatten.length=cs.length * m:=by
    intro cs
    induction cs with
    | nil=>intro _ _;simp
    | cons c cs ih=>
     intro vs hh
     cases vs with
     | nil=>exact hh.elim
     | cons v vs=>simp [ih vs hh.2,hh.1.2.1,AA];omega
   rw [this cs _ c1,hcl]
  rw [h2] at h1
  exact (Nat.eq_of_mul_eq_mul_right hm h1).symm
 have hparts:(parts.map fun x=>match x with | (i,x)=>(i,a.eval x)).toList=(AI 0 (parts.toList.map fun p=>a.eval p.2).length).zip (parts.toList.map fun p=>a.eval p.2):=by
  have e1:(parts.map fun x=>match x with | (i,x)=>(i,a.eval x)).toList=(parts.toList.map (·.1)).zip (parts.toList.map fun p=>a.eval p.2):=by
   rw [List.zip_map'];simp
  rw [e1,hr,List.range_eq_range']
  simp [hlen]
 have hrun:(Instr.buildSlice t len (parts.map fun (i,x)=>(i,a.eval x))).run P w=.ok (.slice (some ⟨w.heap.size,0,none⟩) len len) (w.alloc (.cells cs.flatten.toArray e)):=by
  have hcells:∀base:List Value,base.length=len * m→Instr.fill (fun i=>some (i * m,m)) base.toArray (parts.map fun x=>match x with | (i,x)=>(i,a.eval x)).toList=some cs.flatten.toArray:=fun base hb=>by
   rw [hparts]
   have:=Zrf cs (parts.toList.map fun p=>a.eval p.2) 0 [] base c1 (by simp) (by simpa [hlen] using hb)
   simpa using this
  by_cases h0:len=0
  ·subst h0
   have hcs0:cs=[]:=AR hcl
   subst hcs0
   have hp0:parts=#[]:=by
    have:parts.toList=[]:=AR hlen
    simpa using this
   subst hp0
   simp [Instr.buildSlice,Ys hu,XF hie,Instr.fill,newRow,Array.range_zero']
  ·have hpos:¬len * ie.size=0:=by
    rw [hsz];intro e;rcases Nat.mul_eq_zero.1 e with e | e<;>omega
   refine run_buildSlice w t e len _ _ ie zv hu hie hz (by rw [hsz];omega) hpos ?_
   rw [hsz]
   have hb:=hcells ((Array.range (len * m)).map (zv.cells[· % zv.cells.size]!)).toList (by simp)
   rw [Array.toArray_toList] at hb
   exact hb
 have hown:=Zg1 <| World.ownsRow_lit (base:=0) (e:=e) (size:=m) w cs.flatten.toArray len (AC _) (by unfold maxLen;have:=Nat.le_mul_of_pos_right len hm;omega) (by
  have h1:=c2.len
  rw [hxl] at h1
  simpa using h1)
 refine ZrS hI hU hkey hm (v:=.slice (some ⟨w.heap.size,0,none⟩) len len) (cs:=cs.flatten) (w':=w.alloc (.cells cs.flatten.toArray e)) (by rw [hxl];simpa using hown) rfl ((Below.refl _ _).alloc (A7 _) _) ⟨_,_,heap_alloc_new w _⟩ c2 c3 c4 (Zkz h) hnd ?_
 subst hs
 simp only[Sem.run_bind,hrun,Result.andThen_ok,Sem.run_pure]
theorem ZhV {m:Nat} {ze:List CT} {zc:List Value} (h:RCs w ze zc []) (hl:zc.length=m):∀n:Nat,REs w m (AJ n ze) (AJ n zc).flatten []
 | 0=>by simp [REs]
 | n+1=>by
  rw [Ap,Ap,Aq]
  exact ⟨zc,_,[],[],rfl,rfl,⟨h,hl⟩,ZhV h hl n⟩
theorem Zpf [NW]:∀{z:List AV} {zs:List Value} {ze:List CT},ZkD z=some ze→ZL (fun a v=>Zai a v=true) z zs→RCs w ze zs []
 | [],[],ze,h,_=>by simp [ZkD] at h;subst h;exact ⟨rfl,rfl⟩
 | [],_::_,_,_,h=>h.elim
 | _::_,[],_,_,h=>h.elim
 | .c x::z,v::zs,ze,h,hr=>by
  simp only[ZkD] at h
  obtain ⟨b,h1,rfl⟩:=A4.1 h
  have hx:=Ze6 (g:=⟨fun _=>undef,fun _=>[],fun _=>[],fun _=>False⟩) (w:=w) hr.1
  obtain ⟨L,hL,_⟩:=hx
  have hL0:L=[]:=by
   have:=hr.1
   cases x with
   | int k n=>exact hL.2
   | bool b=>exact hL.2
   | str s=>exact hL.2.1
   | _=>simp [Zai] at this
  subst hL0
  exact ⟨v,zs,[],[],rfl,rfl,hL,Zpf h1 hr.2⟩
 | .nil e m::z,v::zs,ze,h,hr=>by
  simp only[ZkD] at h
  split at h
  ·rename_i hm
   obtain ⟨b,h1,rfl⟩:=A4.1 h
   have hv:v=.slice none 0 0:=Ze6 (g:=⟨fun _=>undef,fun _=>[],fun _=>[],fun _=>False⟩) (w:=w) hr.1
   subst hv
   exact ⟨_,zs,[],[],rfl,rfl,⟨none,0,[],[],[],rfl,by simp,AC _,rfl,hm,Sl.zero,rfl,rfl⟩,Zpf h1 hr.2⟩
  ·simp at h
 | .row k::z,v::zs,ze,h,_=>by simp [ZkD] at h
 | .n x::z,v::zs,ze,h,_=>by simp [ZkD] at h
 | .dead::z,v::zs,ze,h,_=>by simp [ZkD] at h
theorem Zop (z:Array Value) (m:Nat) (hz:z.size=m) (hm:0<m):∀n:Nat,(madeCells z (n * m)).toList=(AJ n z.toList).flatten
 | 0=>by simp [madeCells]
 | n+1=>by
  have ih:=Zop z m hz hm n
  rw [List.replicate_succ',List.flatten_append,←ih]
  simp only[madeCells,Array.toList_map,Array.toList_range,AA,Nat.one_mul,List.range_add,Ar,As,Aq,List.flatten_nil,Ac]
  congr 1
  apply List.ext_getElem?
  intro j
  by_cases hj:j<m
  ·simp only[List.getElem?_map,List.getElem?_range hj,Ae,Function.comp]
   have e:(n * m+j) % z.size=j:=by
    rw [hz,Nat.add_comm,Nat.add_mul_mod_self_right,Nat.mod_eq_of_lt hj]
   have hjz:j<z.size:=by omega
   simp [e,hjz]
  ·have h1:z.size≤j:=by omega
   simp [hj,h1]
theorem Zxo [NW] (htt:∀t i,tt t=some i→TOk P t i) (hI:HI W g st.ob w) (hU:StU U st) (hkey:¬U key) {t e m bytes:Nat} {z:List AV} (hti:tt t=some (.slice e m bytes z)) {n:Nat} {ze:List CT} (hz:ZkD z=some ze) (hn:n≤1073741824) {s:Sem Next}
  (hs:s=(do pure (.value (←Instr.makeSlice t (.int .i64 n) (.int .i64 n))))):Fin P W U key st g w s (.p false [.row key],[(key,.row e m (AJ n ze) 2)]):=by
 obtain ⟨hu,hm,hby0,⟨ie,zv,hie,hsz,hby,hzz,hzc,hzl⟩,_⟩:=htt t _ hti
 have hb':ie.bytes * n≤281474976710656:=by
  have:=At (show ie.bytes≤131072 by omega) hn
  omega
 obtain ⟨w',r1,r2,r3⟩:=run_make_full (P:=P) w 0 t e ie zv m hu hie hzz hsz .i64 .i64 n hb' (by unfold maxLen;omega) (AC _)
 have hzs:zv.cells.size=m:=by rw [←hzl,hzc.len];simp
 rw [Zop zv.cells m hzs hm n] at r2
 have hre:=ZhV (Zpf (w:=w) hz hzc) (by simpa using hzs) n
 have hb:Below w.heap.size w w':=(Below.refl _ _).grown r3 (A7 _) (by simp)
 have hpl:∃cur e,w'.heap[w.heap.size]?=some (.cells cur e (0,0)):=by
  rcases r2.2 with ⟨h',_⟩ | ⟨g',cap',cur,h',_,hg,_⟩
  ·simp at h'
  ·simp at h'
   rw [←h'.1] at hg
   exact ⟨cur,e,hg⟩
 have:=Ztz (ks:=[]) (d:=2) hI hU hkey hm (xs:=AJ n ze) (by simpa using Zg1 r2) rfl hb hpl hre FP.nil (by simp) (by simp) (by simp) (s:=s) (P:=P) (by subst hs;simp only[Sem.run_bind,r1,Result.andThen_ok,Sem.run_pure])
 simpa [Zay] using this
theorem ZqL [NW] {t e:TypeId} {ty:TypeId} {ie:TypeInfo} (hu:P.underlying t=some (.slice e)) (hie:P.info? e=some ie) (A B:Option Addr) (n c c':Nat) (hnc:n≤c):
  (Builtin.append_ #[t,t] ty #[.slice A n c,.slice B 0 c']).run P w=.ok (.slice A n c) w:=by
 cases A<;>cases B<;>simp [Builtin.append_,Ys hu,XF hie,Builtin.lenOf,Builtin.firstCells,loadCells,loadCellsFrom,storeCells,hnc]
theorem Zqu:∀{e:List CT} {cs:List Value} {L:List Nat},RCs w e cs L→e.all CT.flat=true→L=[]
 | [],_,_,h,_=>h.2
 | x::r,_,_,⟨v,cs',L1,L2,rfl,rfl,h1,h2⟩,hf=>by
  simp only[Au,AT] at hf
  have e1:L1=[]:=by
   cases x with
   | int k n=>exact h1.2
   | bool b=>exact h1.2
   | str s=>exact h1.2.1
   | _=>simp [CT.flat] at hf
  rw [e1,Zqu h2 hf.2];rfl
theorem Zf1 [NW] {m:Nat}:∀{xs:List (List CT)} {cs:List Value} {L:List Nat},REs w m xs cs L→ZaN xs=true→L=[]
 | [],_,_,h,_=>h.2
 | x::r,_,_,⟨c1,c2,L1,L2,rfl,rfl,h1,h2⟩,hf=>by
  simp only[ZaN,Au,AT] at hf
  rw [Zqu h1.1 hf.1,Zf1 h2 hf.2];rfl
theorem REs.append {m:Nat}:∀{xs ys:List (List CT)} {us vs:List Value} {L M:List Nat},REs w m xs us L→REs w m ys vs M→REs w m (xs++ys) (us++vs) (L++M)
 | [],_,_,_,_,_,h,h'=>by obtain ⟨rfl,rfl⟩:=h;simpa using h'
 | _::_,_,_,_,_,_,⟨c1,c2,L1,L2,rfl,rfl,h3,h4⟩,h'=>⟨c1,c2++_,L1,L2++_,by simp,by simp,h3,h4.append h'⟩
theorem REs.one {m:Nat}:∀{xs:List (List CT)} {cs:List Value} {L:List Nat},REs w m xs cs L→∀u∈cs,u.oneCell'=true
 | [],_,_,h=>by simp [h.1]
 | _::_,_,_,⟨c1,c2,L1,L2,rfl,rfl,h3,h4⟩=>fun u mu=>by
  rcases A3.1 mu with mu | mu
  ·exact h3.1.one u mu
  ·exact h4.one u mu
theorem Zvm {a b:Nat} (h:ZfJ a b=2) (ha:a≤2) (hb:b≤2):a=2∧b=2:=by unfold ZfJ at h;split at h<;>omega
theorem ZnL {fl:Bool} {xs:List (List CT)} (h:ZiU fl xs=2):ZaN xs=true:=by unfold ZiU at h;split at h<;>simp_all
theorem Zrh (fl:Bool) (xs:List (List CT)):ZiU fl xs≤2:=by unfold ZiU;split<;>omega
theorem ZnE (fl:Bool) (xs:List (List CT)):0<ZiU fl xs:=by unfold ZiU;split<;>omega
theorem HI.plainD [NW] {ob:Nat→Ob} (h:HI W g ob w) {k b:Nat} (m:b∈g.D k):(W.heap.size≤b∨W.x b)∧∃cur e,w.heap[b]?=some (.cells cur e (0,0)):=by
 have h1:=h.plain k b (by simp [m])
 have h2:=h.obs k
 cases hk:ob k with
 | map kk vk kv=>
  rw [hk] at h2
  obtain ⟨_,_,_,_,_,h3,_⟩:=h2
  rw [h3] at m;simp at m
 | _=>rw [hk] at h1;exact h1
theorem ZyU [NW] (hI:HI W g st.ob w) {x:SV} {v:Value} {e m:Nat} {xs:List (List CT)} {ks:List Nat} {d:Nat} (h:ZoV st x=some (xs,ks,d)) (hok:Zs2 st e m x=true) (hx:SVR g w x v) (hu:svU U x):
  ∃cs L,w.ownsV 0 e m v xs.length cs∧REs w m xs cs L∧(∀b∈L,¬g.own b)∧(d=2→L=ks.flatMap g.D)∧v.ownBlock.toList=ks.flatMap g.O∧(∀k∈ks,U k)∧d≤2∧0<d:=by
 unfold ZoV at h
 split at h
 ·simp only[A0,A5] at h
  obtain ⟨rfl,rfl,rfl⟩:=h
  have:=Zsz hx
  subst this
  exact ⟨[],[],ZjM _ _ _ _,⟨rfl,rfl⟩,by simp,by simp,by simp [Value.ownBlock],by simp,by simp,by simp⟩
 ·rename_i k
  split at h
  ·rename_i e' m' xs' d' hk
   split at h
   ·simp at h
   rename_i hd0
   simp only[A0,A5] at h
   obtain ⟨rfl,rfl,rfl⟩:=h
   simp only[Zs2,hk,AT,beq_iff_eq] at hok
   obtain ⟨rfl,rfl⟩:=hok
   have:=Zfm hx
   subst this
   obtain ⟨hm,cs,L,o1,o2,o3,o4,o5⟩:=hI.deepO hk hd0
   refine ⟨cs,L,o1,o2,o3,fun hd=>?_,by simp [o4],fun q mq=>by simp at mq;subst mq;exact hu (.row q) (by simp),?_,by omega⟩
   ·rcases o5 with ⟨_,o5⟩ | ⟨o5,_⟩
    ·simp [o5]
    ·omega
   ·rcases o5 with ⟨o5,_⟩ | ⟨o5,_⟩<;>omega
  ·simp at h
 ·simp at h
theorem ZCk [NW] (hI:HI W g st.ob w) {x:SV} {v:Value} {m:Nat} {xs:List (List CT)} {ks:List Nat} {d:Nat} {fl:Bool} (h:Zpd st fl x=some (xs,ks,d)) (hok:ZqI st m x=true) (hx:SVR g w x v) (hu:svU U x):
  ∃A c cs L,v=.slice A xs.length c∧REs w m xs cs L∧(0<xs.length→∃b off,A=some ⟨b,off,none⟩∧Qw w b off cs)∧(∀b∈L,¬g.own b)∧(d=2→L.Sublist (ks.flatMap g.D))∧(∀k∈ks,U k)∧d≤2∧0<d:=by
 unfold Zpd at h
 split at h
 ·simp only[A0,A5] at h
  obtain ⟨rfl,rfl,rfl⟩:=h
  simp only[ZqI,beq_iff_eq] at hok
  subst hok
  obtain ⟨A,cap,cs,L0,L1,rfl,h2,h3,h5,h6,h7,ho⟩:=Zgy hx
  refine ⟨A,cap,cs,L1,rfl,h7,fun hp=>?_,fun b mb=>ho b (by simp [mb]),fun hd=>by rw [Zf1 h7 (ZnL hd)];simp,by simp,Zrh _ _,ZnE _ _⟩
  obtain ⟨b,off,h8,_,h9⟩:=h6.at_ hp
  exact ⟨b,off,h8,h9⟩
 ·simp only[A0,A5] at h
  obtain ⟨rfl,rfl,rfl⟩:=h
  have:=Zsz hx
  subst this
  exact ⟨none,0,[],[],rfl,⟨rfl,rfl⟩,by simp,by simp,by simp,by simp,by simp,by simp⟩
 ·rename_i k
  split at h
  ·rename_i e' m' xs' d' hk
   simp only[ZqI,hk,beq_iff_eq] at hok
   subst hok
   have:=Zfm hx
   subst this
   obtain ⟨hm,cs,L,o1,o2,o3,o5⟩:=hI.deep hk
   obtain ⟨A,cap,L0,s1,s2,s3,s4,s5⟩:=Sl.row o1
   have hat:0<xs'.length→∃b off,A=some ⟨b,off,none⟩∧Qw w b off cs:=fun hp=>by
    obtain ⟨b,off,h8,_,h9⟩:=s4.at_ hp
    exact ⟨b,off,h8,h9⟩
   split at h
   ·simp only[A0,A5] at h
    obtain ⟨rfl,rfl,rfl⟩:=h
    exact ⟨A,cap,cs,L,s1,o2,hat,o3,fun hd=>by rw [Zf1 o2 (ZnL hd)];simp,by simp,Zrh _ _,ZnE _ _⟩
   ·rename_i hd0
    simp only[A0,A5] at h
    obtain ⟨rfl,rfl,rfl⟩:=h
    refine ⟨A,cap,cs,L,s1,o2,hat,o3,fun hd=>?_,fun q mq=>by simp at mq;subst mq;exact hu (.row q) (by simp),?_,by omega⟩
    ·rcases o5 with ⟨_,_,o5⟩ | ⟨o5,_⟩ | ⟨o5,_⟩
     ·simp [o5]
     ·omega
     ·omega
    ·rcases o5 with ⟨o5,_⟩ | ⟨o5,_⟩ | ⟨o5,_⟩<;>omega
  ·simp at h
 ·simp at h
theorem HI.nodupD [NW] {ob:Nat→Ob} (hI:HI W g ob w):∀{ks:List Nat},ks.Nodup→(ks.flatMap g.D).Nodup
 | [],_=>by simp
 | k::ks,h=>by
  simp only[AG,AF]
  rw [AQ] at h
  refine ⟨(AF.1 (hI.nodup k)).2.1,hI.nodupD h.2,fun x hx y hy e=>?_⟩
  subst e
  obtain ⟨j,hj,hy⟩:=A9.1 hy
  exact hI.apart k j (fun e=>h.1 (e ▸ hj)) x (by simp [hx]) (by simp [hy])
theorem Zyu [NW] (htt:∀t i,tt t=some i→TOk P t i) (hI:HI W g st.ob w) (hU:StU U st) (hkey:¬U key) {t:Nat} {s x:SV} {vs vx:Value} {r:SV × List (Nat × Ob)} (h:ZxI st key (tt t) s x=some r) (hs:SVR g w s vs∧svU U s) (hx:SVR g w x vx∧svU U x) {ty:TypeId} {q:Sem Next}
  (hq:q=(do pure (.value (←Builtin.append_ #[t,t] ty #[vs,vx])))):Fin P W U key st g w q r:=by
 unfold ZxI at h
 split at h
 ·rename_i e m bytes z hti
  obtain ⟨⟨xs,k1,d1⟩,h1,h⟩:=A6.1 h
  obtain ⟨⟨ys,k2,d2⟩,h2,h⟩:=A6.1 h
  split at h
  ·rename_i hc
   simp only[A0] at h
   subst h
   obtain ⟨hc1,hc2,hc3,hc4⟩:=hc
   simp only at hc3 hc4
   obtain ⟨hu,hm,hby0,⟨ie,zv,hie,hsz,hby,hzz,hzc,hzl⟩,_⟩:=htt t _ hti
   obtain ⟨cs,Lx,a1,a2,a3,a4,a5,a6,a7,a8⟩:=ZyU hI h1 hc1 hs.1 hs.2
   obtain ⟨A,c,news,Ly,b0,b1,b2,b3,b4,b5,b7,b8⟩:=ZCk hI h2 hc2 hx.1 hx.2
   subst b0
   obtain ⟨A1,cap1,hv1,hv2,hv3⟩:=ZdC a1
   have hnl:news.length=ys.length * m:=b1.len
   obtain ⟨v',w',r1,r2,r3,r4⟩:∃v' w',(Builtin.append_ #[t,t] ty #[vs,.slice A ys.length c]).run P w=.ok v' w'∧w'.ownsV 0 e m v' (xs.length+ys.length) (cs++news)∧w.grownBy w' vs.ownBlock∧(v'.ownBlock=vs.ownBlock∨v'.ownBlock=some w.heap.size):=by
    by_cases hy:ys.length=0
    ·have hn0:news=[]:=AR (by rw [hnl,hy];simp)
     refine ⟨vs,w,?_,by rw [hn0,hy,Ac];exact a1,World.grownBy.refl _ _,.inl rfl⟩
     rw [hv1,hy]
     exact ZqL hu hie A1 A _ _ _ hv2
    ·obtain ⟨b,off,rfl,hcell⟩:=b2 (by omega)
     have hbytes:(xs.length+ys.length) * bytes≤140737488355328:=by
      have:=At hc4 hby0
      omega
     obtain ⟨v',w',q1,q2,q3,q5⟩:=ZkK (P:=P) w 0 t ty e ie zv m bytes hu hie hzz hsz hby (by rw [←hzl,hzc.len];simp) hm vs xs.length cs a1 ⟨b,off,none⟩ ys.length c news hnl
      (fun j u hj=>by rw [Zdn];exact hcell j u hj) b1.one (by unfold maxLen;omega) hbytes (AC _)
     exact ⟨v',w',q1,q2,q3,q5⟩
   have hnot:∀b,¬g.own b→some b≠vs.ownBlock:=fun b hn e=>hn (by
    have:b∈vs.ownBlock.toList:=by simp [←e]
    rw [a5] at this
    obtain ⟨k,_,mk⟩:=A9.1 this
    exact .inl ⟨k,mk⟩)
   have hkeepL:∀b∈Lx++Ly,w'.heap[b]?=w.heap[b]?:=fun b mb=>by
    rcases A3.1 mb with mb | mb
    ·exact r3.block b (a2.lt b mb) (hnot b (a3 b mb))
    ·exact r3.block b (b1.lt b mb) (hnot b (b3 b mb))
   have hREs:REs w' m (xs++ys) (cs++news) (Lx++Ly):=(a2.keep fun b mb=>hkeepL b (by simp [mb])).append (b1.keep fun b mb=>hkeepL b (by simp [mb]))
   have hOwn:∀b∈v'.ownBlock.toList,b∈k1.flatMap g.O∨b=w.heap.size:=fun b mb=>by
    rcases r4 with r4 | r4
    ·rw [r4,a5] at mb;exact .inl mb
    ·rw [r4] at mb;simp at mb;exact .inr mb
   have hDsub:(ZfJ d1 d2)=2→(Lx++Ly).Sublist ((k1++k2).flatMap g.D):=fun hd=>by
    have hd:=Zvm hd a7 b7
    rw [Ab]
    exact AD (by rw [a4 hd.1];exact AB _) (b4 hd.2)
   have hDm:∀b∈(if (ZfJ d1 d2)=2 then Lx++Ly else []),b∈Lx++Ly∧(ZfJ d1 d2)=2:=fun b mb=>by
    split at mb
    ·rename_i hd;exact ⟨mb,hd⟩
    ·simp at mb
   have hbel:Bel W w':=by
    refine ⟨r3.os.trans hI.below.os,r3.tape.trans hI.below.tape,r3.output.trans hI.below.output,AK hI.below.size r3.size,fun b hb hx'=>?_⟩
    rw [r3.block b (Af hb hI.below.size) fun e=>?_]
    ·exact hI.below.block b hb hx'
    ·have:b∈vs.ownBlock.toList:=by simp [←e]
     rw [a5] at this
     obtain ⟨k,_,mk⟩:=A9.1 this
     rcases (hI.plain k b (by simp [mk])).1 with h | h
     ·omega
     ·exact hx' h
   obtain ⟨t1,t2⟩:=hI.turn (key:=key) (U:=U) (w':=w') (v:=v') (O:=v'.ownBlock.toList) (D:=if (ZfJ d1 d2)=2 then Lx++Ly else []) (o:=.row e m (xs++ys) (ZfJ d1 d2)) hU.ob hkey (k1++k2)
    (fun k mk=>(A3.1 mk).elim (a6 k) (b5 k)) hbel r3.size (fun b hb hn=>r3.block b hb fun e=>by
     have:b∈vs.ownBlock.toList:=by simp [←e]
     rw [a5] at this
     obtain ⟨k,hk,mk⟩:=A9.1 this
     exact hn k (by simp [hk]) mk)
    (fun b mb=>by
     rcases hOwn b mb with mb | rfl
     ·obtain ⟨k,hk,mk⟩:=A9.1 mb
      exact .inl ⟨k,by simp [hk],mk⟩
     ·exact .inr (A7 _))
    (fun b mb=>by
     obtain ⟨m1,m2⟩:=hDm b mb
     obtain ⟨k,hk,mk⟩:=A9.1 ((hDsub m2).subset m1)
     exact .inl ⟨k,hk,by simp [mk]⟩)
    (by
     rw [AF]
     refine ⟨by cases v'.ownBlock<;>simp,?_,fun b mb b' mb' e=>?_⟩
     ·split
      ·rename_i hd;exact (hI.nodupD hc3).sublist (hDsub hd)
      ·simp
     ·subst e
      obtain ⟨m1,m2⟩:=hDm b mb'
      rcases hOwn b mb with mb | rfl
      ·obtain ⟨k,_,mk⟩:=A9.1 mb
       rcases A3.1 m1 with m1 | m1
       ·exact a3 b m1 (.inl ⟨k,mk⟩)
       ·exact b3 b m1 (.inl ⟨k,mk⟩)
      ·rcases A3.1 m1 with m1 | m1
       ·have:=a2.lt _ m1;omega
       ·have:=b1.lt _ m1;omega)
    (fun b mb=>by
     rcases A3.1 mb with mb | mb
     ·have hpl:W.heap.size≤b∨W.x b:=by
       rcases hOwn b mb with mb | rfl
       ·obtain ⟨k,_,mk⟩:=A9.1 mb
        exact (hI.plain k b (by simp [mk])).1
       ·exact .inl hI.below.size
      rcases r2.2 with ⟨h',_⟩ | ⟨g',o',cap',cur,h',hg0,hg,_⟩
      ·simp [h',Value.ownBlock] at mb
      ·simp [h',Value.ownBlock] at mb
       subst mb
       exact ⟨hpl,cur,e,hg⟩
     ·obtain ⟨m1,m2⟩:=hDm b mb
      obtain ⟨k,hk,mk⟩:=A9.1 ((hDsub m2).subset m1)
      obtain ⟨p1,cur,e',p2⟩:=hI.plainD mk
      exact ⟨p1,cur,e',by rw [hkeepL b m1];exact p2⟩)
    (fun hown=>⟨hm,cs++news,Lx++Ly,by simpa [Gh.turn,upd] using r2,hREs,by
     by_cases hd:ZfJ d1 d2=2
     ·exact .inl ⟨hd,by simp [Gh.turn,upd],by simp [Gh.turn,hd]⟩
     ·have hd1:ZfJ d1 d2=1:=by unfold ZfJ at hd ⊢;split<;>simp_all<;>omega
      refine .inr (.inl ⟨hd1,by simp [Gh.turn,upd],by simp [Gh.turn,hd],fun b mb ho=>?_⟩)
      have hnb:¬g.own b:=by
       rcases A3.1 mb with m1 | m1
       ·exact a3 b m1
       ·exact b3 b m1
      rcases ZeU ho with mo | ⟨k,_,_,mk⟩ | hz
      ·rcases hOwn b mo with mo | rfl
       ·obtain ⟨k,_,mk⟩:=A9.1 mo
        exact hnb (.inl ⟨k,mk⟩)
       ·rcases A3.1 mb with m1 | m1
        ·have:=a2.lt _ m1;omega
        ·have:=b1.lt _ m1;omega
      ·exact hnb (.inl ⟨k,mk⟩)
      ·exact hnb (.inr hz)⟩)
   have hwf:=ZiV (key:=key) (o:=.row e m (xs++ys) (ZfJ d1 d2)) hU (k1++k2) trivial
   refine ⟨_,v',w',.inl (by subst hq;simp only[Sem.run_bind,r1,Result.andThen_ok,Sem.run_pure]),t1,⟨_,rfl,⟨by simp [Gh.turn,upd],?_⟩⟩,t2,fun y my=>by simp at my;subst my;exact ZjX,hwf.1,hwf.2⟩
   obtain ⟨A2,cap2,hv'⟩:=Zax r2
   simp [hv',Value.oneCell']
  ·simp at h
 ·simp at h
end
end
section
open Go.RowKit
section
variable {P:Program} {W:Zaa} {U:Nat→Prop} {key:Nat} {st:St} {g:Gh} {w w':World} {a:Act} {tt:Nat→Option TI}
theorem RCs.dropS:∀{x:List CT} {c:List Value} {L:List Nat} (n:Nat),RCs w x c L→∃L',RCs w (x.drop n) (c.drop n) L'∧L'.Sublist L
 | x,c,L,0,h=>⟨L,by simpa using h,AB _⟩
 | [],c,L,n+1,h=>⟨[],by obtain ⟨rfl,rfl⟩:=h;simp [RCs],AH _⟩
 | x::r,_,_,n+1,⟨v,cs',L1,L2,rfl,rfl,h1,h2⟩=>by
  obtain ⟨L',a1,a2⟩:=RCs.dropS n h2
  exact ⟨L',by simpa using a1,a2.trans (Av L1 L2)⟩
theorem RCs.spliceS [NW] {x:List CT} {c:List Value} {L:List Nat} {ys:List CT} {us:List Value} (h:RCs w x c L) (h':RCs w ys us []):∀(off:Nat),∃L',RCs w (splice x off ys) (splice c off us) L'∧L'.Sublist L:=by
 have hl:us.length=ys.length:=h'.len
 intro off
 induction off generalizing x c L with
 | zero=>
  obtain ⟨L',a1,a2⟩:=h.dropS (0+ys.length)
  refine ⟨[]++L',?_,a2⟩
  simp only[splice,List.take_zero,Aa,hl]
  exact h'.append a1
 | succ off ih=>
  cases x with
  | nil=>
   obtain ⟨rfl,rfl⟩:=h
   refine ⟨[],?_,AH _⟩
   simpa [splice] using h'
  | cons x r=>
   obtain ⟨v,cs',L1,L2,rfl,rfl,h1,h2⟩:=h
   obtain ⟨L',a1,a2⟩:=ih h2
   refine ⟨L1++L',?_,AD (AB _) a2⟩
   have e1:splice (x::r) (off+1) ys=x::splice r off ys:=by
    simp only[splice,Aw,Ax]
    rw [show off+1+ys.length=(off+ys.length)+1 by omega,Ay]
   have e2:splice (v::cs') (off+1) us=v::splice cs' off us:=by
    simp only[splice,Aw,Ax]
    rw [show off+1+us.length=(off+us.length)+1 by omega,Ay]
   rw [e1,e2]
   exact ⟨v,_,L1,L',rfl,rfl,h1,a1⟩
theorem ZjK {α:Type} (c1 c2:List α) (off:Nat) (us:List α):splice (c1++c2) (c1.length+off) us=c1++splice c2 off us:=by
 simp only[splice]
 rw [Al,AM,AN,AO (AZ _ _),AP]
 simp
theorem ZfT {α:Type} (c1 c2:List α) (off:Nat) (us:List α) (h:off+us.length≤c1.length):splice (c1++c2) off us=splice c1 off us++c2:=by
 simp only[splice]
 rw [List.take_append_of_le_length (by omega),Az h]
 simp
theorem REs.set [NW] {m:Nat} {ys:List CT} {us:List Value} (h':RCs w ys us []):∀{xs:List (List CT)} {cs:List Value} {L:List Nat} {i off:Nat} {x:List CT},REs w m xs cs L→xs[i]?=some x→off+us.length≤m→
  ∃L',REs w m (xs.set i (splice x off ys)) (splice cs (i * m+off) us) L'∧L'.Sublist L
 | [],_,_,_,_,_,_,hx,_=>by simp at hx
 | e::r,_,_,0,off,x,⟨c1,c2,L1,L2,rfl,rfl,h3,h4⟩,hx,ho=>by
  simp at hx;subst hx
  obtain ⟨L',a1,a2⟩:=h3.1.spliceS h' off
  refine ⟨L'++L2,?_,AD a2 (AB _)⟩
  rw [Nat.zero_mul,Ag,ZfT _ _ _ _ (by rw [h3.2];exact ho)]
  exact ⟨splice c1 off us,c2,L',L2,rfl,rfl,⟨a1,by rw [ZfC _ _ _ (by rw [h3.2];exact ho)];exact h3.2⟩,h4⟩
 | e::r,_,_,i+1,off,x,⟨c1,c2,L1,L2,rfl,rfl,h3,h4⟩,hx,ho=>by
  obtain ⟨L',a1,a2⟩:=REs.set h' h4 (i:=i) (off:=off) (x:=x) (by simpa using hx) ho
  refine ⟨L1++L',?_,AD (AB _) a2⟩
  have e:(i+1) * m+off=c1.length+(i * m+off):=by rw [h3.2,AA];omega
  rw [e,ZjK]
  exact ⟨c1,_,L1,L',rfl,rfl,h3,a1⟩
theorem ZoA [NW]:∀{vs:List AV} {ys:List CT} {us:List Value},Ziv vs=some ys→ZL (AVR g w) vs us→RCs w ys us []
 | [],_,[],h,_=>by simp [Ziv] at h;subst h;exact ⟨rfl,rfl⟩
 | [],_,_::_,_,h=>h.elim
 | _::_,_,[],_,h=>h.elim
 | x::vs,ys,u::us,h,hr=>by
  simp only[Ziv] at h
  obtain ⟨y,h1,h⟩:=A6.1 h
  obtain ⟨b,h2,rfl⟩:=A4.1 h
  have hx:x=.c y∧y.flat=true:=by
   cases x with
   | c z=>cases z<;>simp [Zs0] at h1<;>subst h1<;>exact ⟨rfl,rfl⟩
   | _=>simp [Zs0] at h1
  obtain ⟨rfl,hf⟩:=hx
  obtain ⟨L,hL,_⟩:=hr.1
  have hL0:L=[]:=by
   cases y with
   | int k n=>exact hL.2
   | bool b=>exact hL.2
   | str s=>exact hL.2.1
   | _=>simp [CT.flat] at hf
  subst hL0
  exact ⟨u,us,[],[],rfl,rfl,hL,ZoA h2 hr.2⟩
theorem ZvA [NW] (htt:∀t i,tt t=some i→TOk P t i) (hI:HI W g st.ob w) (hU:StU U st) {t k m i off e:Nat} {xs:List (List CT)} {d:Nat} {x ys:List CT} {vs:List AV} {va vv:Value} {ag:Bool} (hk:st.ob k=.row e m xs d) (hd0:¬d=0) (hx:xs[i]?=some x) (hys:Ziv vs=some ys) (hl:vs.length=Zik (tt t)) (ho:off+vs.length≤m)
  (ha:SVR g w (.rp k m i off) va) (hv:SVR g w (.p ag vs) vv) (hpos:0<vs.length) {s:Sem Next} (hs:s=(do Instr.storeAt t va vv;pure .skip)):Fin P W U key st g w s (.und,[(k,.row e m (xs.set i (splice x off ys)) d)]):=by
 obtain ⟨b,o,n,c,h1,rfl⟩:=ha
 obtain ⟨hm,cs,L,o1,o2,o3,o4,o5⟩:=hI.deepO hk hd0
 obtain ⟨us,c1,c2⟩:=PVR.cells hv
 have hxl:=c2.len
 have hi:i<xs.length:=(Ak.1 hx).1
 rcases o1.2 with ⟨_,hn⟩ | ⟨b',o',cap,cur,hv',hbW,hg,hnc,hcm,hcs,htk⟩
 ·omega
 have hbb:b=b'∧o=o':=by rw [hv'] at h1;simp at h1;exact ⟨h1.1.1.symm,h1.1.2.symm⟩
 obtain ⟨rfl,rfl⟩:=hbb
 have hlt:i * m+off+us.length≤xs.length * m:=by
  have:=AY m (show i+1≤xs.length by omega)
  rw [AA] at this
  omega
 have hcap:xs.length * m≤cap * m:=AY m hnc
 have hsize:(sizeOf t).run P w=.ok us.length w:=by
  rw [←hxl,hl]
  unfold Zik at hl ⊢
  cases hti:tt t with
  | none=>rw [hti] at hl;simp at hl;simp [hl] at hpos
  | some i=>
   cases i with
   | atom z=>obtain ⟨d,zv,i,_,_,h3,_,h4,_⟩:=htt t _ hti;rw [XF h3,h4]
   | strct fs n z=>obtain ⟨_,i,_,_,h3,h4,_⟩:=htt t _ hti;rw [XF h3,h4]
   | slice e m b z=>obtain ⟨_,_,_,_,j,h3,h4,_⟩:=htt t _ hti;rw [XF h3,h4]
   | _=>rw [hti] at hl;simp at hl;simp [hl] at hpos
 have hst:=run_storeCells_at (P:=P) b (o+(i * m+off)) e us 0 cur w hg (by omega) (AVRs.one c2)
 obtain ⟨r1,r2,r3,r4,r5,r6⟩:=Zn4 b cur (splice cur.toList (o+(i * m+off)) us).toArray e hg
 have hrun:s.run P w=.ok .skip (w.setRow b (splice cur.toList (o+(i * m+off)) us).toArray):=by
  subst hs
  have e:(cur.toList.take (o+(i * m+off)+0)++us++cur.toList.drop (o+(i * m+off)+0+us.length)).toArray=(splice cur.toList (o+(i * m+off)) us).toArray:=by simp [splice]
  rw [e] at hst
  simp [Instr.storeAt,Instr.sureAddr,storeVar,c1,hsize,hst]
 have hOk:g.O k=[b]:=by rw [o4,hv'];rfl
 have hmv:∀b',b'<w.heap.size→¬g.own b'→(w.setRow b (splice cur.toList (o+(i * m+off)) us).toArray).heap[b']?=w.heap[b']?:=fun b' _ hn=>r2 b' fun e=>hn (.inl ⟨k,by simp [hOk,e]⟩)
 obtain ⟨L',q1,q2⟩:=o2.set (ZoA hys c2) hx (show off+us.length≤m by omega)
 have hown':(w.setRow b (splice cur.toList (o+(i * m+off)) us).toArray).ownsV 0 e m (g.val k) (xs.set i (splice x off ys)).length (splice cs (i * m+off) us):=by
  have hcl:cs.length=xs.length * m:=o1.1
  refine ⟨by rw [ZfC _ _ _ (by omega),hcl];simp,.inr ⟨b,o,cap,_,by simpa using hv',hbW,r1,by simpa using hnc,hcm,by rw [List.size_toArray,ZfC _ _ _ (show o+(i * m+off)+us.length≤cur.toList.length by simp;omega)];simpa using hcs,?_⟩⟩
  have h0:((splice cur.toList (o+(i * m+off)) us).toArray.toList).drop o=splice (cur.toList.drop o) (i * m+off) us:=by
   show (splice cur.toList (o+(i * m+off)) us).drop o=_
   unfold splice
   have hto:o≤(cur.toList.take (o+(i * m+off))).length:=by simp;omega
   rw [Az hto,Am,AP,List.drop_drop,AM]
  rw [h0]
  have:cur.toList.drop o=cs++(cur.toList.drop o).drop (xs.length * m):=by rw [←htk];exact (List.take_append_drop _ _).symm
  rw [this,ZfT _ _ _ _ (by omega)]
  have e2:(xs.set i (splice x off ys)).length * m=(splice cs (i * m+off) us).length:=by rw [ZfC _ _ _ (by omega),hcl];simp
  rw [e2]
  exact Ao rfl
 have hltL:=o2.lt
 have hREs':REs (w.setRow b (splice cur.toList (o+(i * m+off)) us).toArray) m (xs.set i (splice x off ys)) (splice cs (i * m+off) us) L':=q1.keep fun b' mb=>hmv b' (hltL b' (q2.subset mb)) (o3 b' (q2.subset mb))
 let g':Gh:=⟨g.val,g.O,upd g.D k (if d=2 then L' else []),g.Z⟩
 have hgo:∀b',g'.own b'↔g.own b':=fun b'=>Iff.rfl
 have hgr:(∀b'∈g'.D k,b'∈g.D k)→Qj g g' w.heap.size:=fun hs=>.of (fun b' h=>.inl h) fun j b' mb=>by
  by_cases hj:j=k
  ·subst hj;exact .inl (.inr ⟨j,hs b' mb⟩)
  ·exact .inl (.inr ⟨j,by simpa [g',ZN _ _ hj] using mb⟩)
 have hDsub:∀b'∈g'.D k,b'∈g.D k:=fun b' mb=>by
  simp only[g',ZD] at mb
  split at mb
  ·rename_i hd
   rcases o5 with ⟨_,o5⟩ | ⟨o5,_⟩
   ·rw [o5];exact q2.subset mb
   ·omega
  ·simp at mb
 refine ⟨g',undef,_,.inr ⟨hrun,rfl⟩,?_,rfl,fun x u hx hu=>hu.move hx (fun _ _=>rfl) hmv (hgr hDsub) (by omega),trivial,fun q=>?_,fun q hq=>?_⟩
 ·refine hI.step (U:=U) (fun q=>q=k) ?_ rfl (fun b' _ hn=>r2 b' fun e=>hn k rfl (by simp [hOk,e])) (fun q hq=>⟨ZN _ _ hq,rfl,rfl,ZN _ _ hq⟩) hU.ob (fun _ _=>rfl) (hgr hDsub) (fun q hq=>?_)
  ·exact ⟨r4.trans hI.below.os,r5.trans hI.below.tape,r6.trans hI.below.output,by have:=hI.below.size;omega,fun q hq hx'=>by rw [r2 q (fun e=>by subst e;rcases (hI.plain k q (by simp [hOk])).1 with h | h;omega;exact hx' h)];exact hI.below.block q hq hx'⟩
  ·subst hq
   have hmem:∀b'∈g'.O q++g'.D q,b'∈g.O q++g.D q:=fun b' mb=>by
    rcases A3.1 mb with mb | mb
    ·exact A3.2 (.inl mb)
    ·exact A3.2 (.inr (hDsub b' mb))
   refine ⟨?_,?_,fun b' mb=>?_,fun j hj b' mb mj=>?_⟩
   ·simp only[Zp,ZD]
    refine ⟨hm,_,L',hown',hREs',?_⟩
    rcases o5 with ⟨o5,_⟩ | ⟨o5,_⟩
    ·exact .inl ⟨o5,o4,by simp [g',upd,o5]⟩
    ·exact .inr (.inl ⟨o5,o4,by simp [g',upd,o5],fun b' mb=>o3 b' (q2.subset mb)⟩)
   ·have hn:=hI.nodup q
    refine hn.sublist (AD (AB _) ?_)
    simp only[g',ZD]
    split
    ·rename_i hd
     rcases o5 with ⟨_,o5⟩ | ⟨o5,_⟩
     ·rw [o5];exact q2
     ·omega
    ·exact AH _
   ·have hp:=hI.plain q b' (hmem b' mb)
    rw [hk] at hp
    obtain ⟨p1,cur',e',p2⟩:=hp
    refine ⟨p1,?_⟩
    simp only[Zp,ZD]
    show ∃cur e,_=_
    by_cases hb':b'=b
    ·subst hb';exact ⟨_,_,r1⟩
    ·exact ⟨cur',e',by rw [r2 b' hb'];exact p2⟩
   ·have mj':b'∈g.O j++g.D j:=by
     rcases A3.1 mj with mj | mj
     ·exact A3.2 (.inl mj)
     ·simp only[g',ZN _ _ (fun e:j=q=>hj e.symm)] at mj;exact A3.2 (.inr mj)
    exact hI.apart q j hj b' (hmem b' mb) mj'
 ·simp only[Zp,upd]
  split
  ·trivial
  ·exact (hU.ob q).mono fun _=>.inl
 ·simp only[Zp,upd]
  split
  ·rename_i e;subst e
   exact absurd (hU.gone q fun h=>hq (.inl h)) (by simp [hk])
  ·exact hU.gone q fun h=>hq (.inl h)
end
end
section
open Go.RowKit
section
variable {P:Program} {W:Zaa} {U:Nat→Prop} {key:Nat} {st:St} {g:Gh} {w w':World} {a:Act} {tt:Nat→Option TI}
theorem Zr5 [NW] {α:Type} (f:Nat→α) (k:Nat):upd f k (f k)=f:=by
 funext j;by_cases hj:j=k
 ·subst hj;rw [ZD]
 ·rw [ZN _ _ hj]
theorem AVR.less [NW] {g1:Gh} {x:AV} {v:Value} (h:AVR g w x v) (hv:g1.val=g.val) (ho:Xo g1 g):AVR g1 w x v:=by
 cases x with
 | c x=>obtain ⟨L,h1,h2⟩:=h;exact ⟨L,h1,fun b mb hb=>h2 b mb (ho.own b hb)⟩
 | n x=>exact NR.move h (fun _ _ _=>rfl) (ho.grow _)
 | row k=>exact ⟨h.1.trans (by rw [hv]),h.2⟩
 | nil e m=>exact h
 | dead=>exact h
theorem SVR.less [NW] {g1:Gh} {x:SV} {v:Value} (h:SVR g w x v) (hv:g1.val=g.val) (ho:Xo g1 g):SVR g1 w x v:=
 h.move (U:=fun _=>True) (by (cases x<;>try trivial);(intro y my;cases y<;>trivial);(intro y my z mz;cases z<;>trivial)) (fun k _=>by rw [hv]) (fun _ _ _=>rfl) (ho.grow _) (A7 _)
theorem ZiI [NW] {ob:Nat→Ob} (hI:HI W g ob w) (k:Nat):∃g1:Gh,HI W g1 (upd ob k (Yd (ob k))) w∧g1.val=g.val∧Xo g1 g∧((∃e m xs d,ob k=.row e m xs d)→∀b∈g.O k++g.D k,¬g1.low b):=by
 cases hk:ob k with
 | gone=>exact ⟨g,by rw [show Yd Ob.gone=ob k from hk.symm,Zr5];exact hI,rfl,Xo.refl _,by simp⟩
 | box t cs=>exact ⟨g,by rw [show Yd (Ob.box t cs)=ob k from hk.symm,Zr5];exact hI,rfl,Xo.refl _,by simp⟩
 | map kk vk kv=>exact ⟨g,by rw [show Yd (Ob.map kk vk kv)=ob k from hk.symm,Zr5];exact hI,rfl,Xo.refl _,by simp⟩
 | row e m xs d=>
  obtain ⟨hm,cs,L,o1,o2,o3,o5⟩:=hI.deep hk
  let g1:Gh:=⟨g.val,upd g.O k [],upd g.D k [],g.Z⟩
  have hO:∀j b,b∈g1.O j→j≠k∧b∈g.O j:=fun j b mb=>by
   by_cases hj:j=k
   ·subst hj;simp [g1,upd] at mb
   ·exact ⟨hj,by simpa [g1,upd,hj] using mb⟩
  have hD:∀j b,b∈g1.D j→j≠k∧b∈g.D j:=fun j b mb=>by
   by_cases hj:j=k
   ·subst hj;simp [g1,upd] at mb
   ·exact ⟨hj,by simpa [g1,upd,hj] using mb⟩
  have hOD:∀j b,b∈g1.O j++g1.D j→j≠k∧b∈g.O j++g.D j:=fun j b mb=>by
   rcases A3.1 mb with m1 | m1
   ·exact ⟨(hO j b m1).1,by simp [(hO j b m1).2]⟩
   ·exact ⟨(hD j b m1).1,by simp [(hD j b m1).2]⟩
  have hown:∀b,g1.own b→g.own b:=fun b hb=>by
   rcases hb with ⟨j,mj⟩ | hz
   ·exact .inl ⟨j,(hO j b mj).2⟩
   ·exact .inr hz
  have hless:Xo g1 g:=.of hown fun j b mb=>⟨j,(hD j b mb).2⟩
  have hnot:∀b∈(g.val k).ownBlock.toList,¬g1.own b:=fun b mb hb=>by
   rcases o5 with ⟨_,q,_⟩ | ⟨_,q,_⟩ | ⟨_,_,_,q⟩
   ·have mk:b∈g.O k++g.D k:=by simp [q,mb]
    rcases hb with ⟨j,mj⟩ | hz
    ·exact hI.apart k j (fun e=>(hO j b mj).1 e.symm) b mk (by simp [(hO j b mj).2])
    ·exact hI.nz mk hz
   ·have mk:b∈g.O k++g.D k:=by simp [q,mb]
    rcases hb with ⟨j,mj⟩ | hz
    ·exact hI.apart k j (fun e=>(hO j b mj).1 e.symm) b mk (by simp [(hO j b mj).2])
    ·exact hI.nz mk hz
   ·exact q b mb (hown b hb)
  refine ⟨g1,⟨hI.below,fun j=>?_,fun j=>?_,fun i j hij b mb mj=>?_,fun j b mb=>?_,hI.gz,hI.zx,hI.nw⟩,rfl,hless,fun _ b mb hb=>?_⟩
  rotate_right
  ·rcases hb with (⟨j,mj⟩ | hz) | ⟨j,mj⟩
   ·exact hI.apart k j (fun e=>(hO j b mj).1 e.symm) b mb (by simp [(hO j b mj).2])
   ·exact hI.nz mb hz
   ·exact hI.apart k j (fun e=>(hD j b mj).1 e.symm) b mb (by simp [(hD j b mj).2])
  ·by_cases hj:j=k
   ·subst hj
    rw [ZD]
    refine ⟨hm,cs,L,o1,o2,.inr (.inr ⟨rfl,by simp [g1,upd],by simp [g1,upd],fun b mb=>?_⟩)⟩
    rcases A3.1 mb with m1 | m1
    ·exact hnot b m1
    ·exact fun hb=>o3 b m1 (hown b hb)
   ·rw [ZN _ _ hj]
    have ho:=hI.obs j
    cases hoj:ob j with
    | gone=>rw [hoj] at ho;exact ⟨by simpa [g1,upd,hj] using ho.1,by simpa [g1,upd,hj] using ho.2⟩
    | box t ds=>
     rw [hoj] at ho
     obtain ⟨b,vs,h1,h2,h3,h4,h5⟩:=ho
     exact ⟨b,vs,h1,by simpa [g1,upd,hj] using h2,by simpa [g1,upd,hj] using h3,h4,h5.mono fun x u _ hx=>AVR.less hx rfl hless⟩
    | map kk vk kv=>
     rw [hoj] at ho
     obtain ⟨b,es,c,h1,h2,h3,h4⟩:=ho
     exact ⟨b,es,c,h1,by simpa [g1,upd,hj] using h2,by simpa [g1,upd,hj] using h3,h4⟩
    | row e' m' xs' d'=>
     rw [hoj] at ho
     obtain ⟨hm',cs',L',p1,p2,p3⟩:=ho
     refine ⟨hm',cs',L',p1,p2,?_⟩
     have e1:g1.O j=g.O j:=by simp [g1,upd,hj]
     have e2:g1.D j=g.D j:=by simp [g1,upd,hj]
     rw [e1,e2]
     rcases p3 with p3 | ⟨q1,q2,q3,q4⟩ | ⟨q1,q2,q3,q4⟩
     ·exact .inl p3
     ·exact .inr (.inl ⟨q1,q2,q3,fun b mb hb=>q4 b mb (hown b hb)⟩)
     ·exact .inr (.inr ⟨q1,q2,q3,fun b mb hb=>q4 b mb (hown b hb)⟩)
  ·by_cases hj:j=k
   ·subst hj;simp [g1,upd]
   ·have:=hI.nodup j;simpa [g1,upd,hj] using this
  ·exact hI.apart i j hij b (hOD i b mb).2 (hOD j b mj).2
  ·rw [ZN _ _ (hOD j b mb).1];exact hI.plain j b (hOD j b mb).2
theorem Zvj [NW] {ob:Nat→Ob} (hI:HI W g ob w) {k t:Nat} {cs:List AV} (hk:ob k=.box t cs):∃g1:Gh,HI W g1 (upd ob k .gone) w∧g1.val=g.val∧Xo g1 g∧∃b vs,g.val k=.pointer (some ⟨b,0,none⟩)∧¬g1.own b∧b<w.heap.size∧Qw w b 0 vs∧ZL (AVR g w) cs vs:=by
 have ho:=hI.obs k
 rw [hk] at ho
 obtain ⟨b,vs,h1,h2,h3,h4,h5⟩:=ho
 let g1:Gh:=⟨g.val,upd g.O k [],upd g.D k [],g.Z⟩
 have hO:∀j x,x∈g1.O j++g1.D j→j≠k∧x∈g.O j++g.D j:=fun j x mx=>by
  by_cases hj:j=k
  ·subst hj;simp [g1,upd] at mx
  ·exact ⟨hj,by simpa [g1,upd,hj] using mx⟩
 have hown:∀x,g1.own x→g.own x∧x≠b:=fun x hx=>by
  rcases hx with ⟨j,mj⟩ | hz
  ·have:=hO j x (by simp [mj])
   refine ⟨.inl ⟨j,?_⟩,fun e=>?_⟩
   ·have hj:=this.1
    simpa [g1,upd,hj] using mj
   ·subst e
    exact hI.apart j k this.1 x this.2 (by simp [h2])
  ·exact ⟨.inr hz,fun e=>by subst e;exact hI.nz (k:=k) (by simp [h2]) hz⟩
 have hless:Xo g1 g:=.of (fun x hx=>(hown x hx).1) fun j b mb=>⟨j,by
  have hj:=(hO j b (by simp [mb])).1
  simpa [g1,upd,hj] using mb⟩
 refine ⟨g1,⟨hI.below,fun j=>?_,fun j=>?_,fun i j hij x mx mj=>?_,fun j x mx=>?_,hI.gz,hI.zx,hI.nw⟩,rfl,hless,b,vs,h1,fun hb=>(hown b hb).2 rfl,(B1.1 h4).1,fun j u hj=>?_,h5⟩
 ·by_cases hj:j=k
  ·subst hj;rw [ZD];exact ⟨by simp [g1,upd],by simp [g1,upd]⟩
  ·rw [ZN _ _ hj]
   have ho:=hI.obs j
   have e1:g1.O j=g.O j:=by simp [g1,upd,hj]
   have e2:g1.D j=g.D j:=by simp [g1,upd,hj]
   cases hoj:ob j with
   | gone=>rw [hoj] at ho;exact ⟨e1.trans ho.1,e2.trans ho.2⟩
   | box t ds=>
    rw [hoj] at ho
    obtain ⟨b,vs,h1,h2,h3,h4,h5⟩:=ho
    exact ⟨b,vs,h1,e1.trans h2,e2.trans h3,h4,h5.mono fun x u _ hx=>AVR.less hx rfl hless⟩
   | map kk vk kv=>
    rw [hoj] at ho
    obtain ⟨b,es,c,h1,h2,h3,h4⟩:=ho
    exact ⟨b,es,c,h1,e1.trans h2,e2.trans h3,h4⟩
   | row e' m' xs' d'=>
    rw [hoj] at ho
    obtain ⟨hm',cs',L',p1,p2,p3⟩:=ho
    refine ⟨hm',cs',L',p1,p2,?_⟩
    rw [e1,e2]
    rcases p3 with p3 | ⟨q1,q2,q3,q4⟩ | ⟨q1,q2,q3,q4⟩
    ·exact .inl p3
    ·exact .inr (.inl ⟨q1,q2,q3,fun b mb hb=>q4 b mb (hown b hb).1⟩)
    ·exact .inr (.inr ⟨q1,q2,q3,fun b mb hb=>q4 b mb (hown b hb).1⟩)
 ·by_cases hj:j=k
  ·subst hj;simp [g1,upd]
  ·have:=hI.nodup j;simpa [g1,upd,hj] using this
 ·exact hI.apart i j hij x (hO i x mx).2 (hO j x mj).2
 ·rw [ZN _ _ (hO j x mx).1];exact hI.plain j x (hO j x mx).2
 ·rw [Ag,cell_of_row w b j vs.toArray t (0,0) h4];simpa using hj
theorem Zqj [NW] {ob:Nat→Ob} (hI:HI W g ob w) {k e m:Nat} {xs:List (List CT)} (hk:ob k=.row e m xs 0):∃L,RC w (.sl e m xs) (g.val k) L∧∀b∈L,¬g.own b:=by
 obtain ⟨hm,cs,L1,o1,o2,o3,o5⟩:=hI.deep hk
 obtain ⟨A,cap,L0,s1,s2,s3,s4,s5⟩:=Sl.row o1
 refine ⟨L0++L1,⟨A,cap,cs,L0,L1,s1,s2,s3,rfl,hm,s4,o2⟩,fun b mb=>?_⟩
 rcases A3.1 mb with m1 | m1
 ·rcases o5 with ⟨q,_⟩ | ⟨q,_⟩ | ⟨_,_,_,q⟩
  ·omega
  ·omega
  ·exact q b (s5.subset m1)
 ·exact o3 b m1
theorem REs.dropS {m:Nat}:∀{xs:List (List CT)} {cs:List Value} {L:List Nat} (l:Nat),REs w m xs cs L→∃L',REs w m (xs.drop l) (cs.drop (l * m)) L'∧L'.Sublist L
 | xs,cs,L,0,h=>⟨L,by simpa using h,AB _⟩
 | [],cs,L,l+1,h=>⟨[],by obtain ⟨rfl,rfl⟩:=h;simp [REs],AH _⟩
 | x::r,_,_,l+1,⟨c1,c2,L1,L2,rfl,rfl,h3,h4⟩=>by
  obtain ⟨L',h5,h6⟩:=REs.dropS l h4
  refine ⟨L',?_,h6.trans (Av _ _)⟩
  have e:(l+1) * m=c1.length+l * m:=by rw [h3.2,AA];omega
  have e2:(c1++c2).drop (c1.length+l * m)=c2.drop (l * m):=by
   rw [AN,AO (AZ _ _),Aa,AP]
  rw [e,e2]
  simpa using h5
theorem ZuW [NW] (htt:∀t i,tt t=some i→TOk P t i) (hI:HI W g st.ob w) (hU:StU U st) (hkey:¬U key) {t k e m d l:Nat} {xs:List (List CT)} (hk:st.ob k=.row e m xs d) (hd0:¬d=0) (hsz:ZjR (tt t)=m) {lo:Option SV} {vx:Value} {vlo:Option Value} (hl:loB xs.length lo=some l) (hx:SVR g w (.p false [.row k]) vx)
  (hlo:ZlY g w lo vlo) {s:Sem Next} (hs:s=(do pure (.value (←Instr.sliceAt t vx vlo none none)))):Fin P W U key st g w s (.p false [.row key],[(k,.gone),(key,.row e m (xs.drop l) d)]):=by
 obtain ⟨hm,cs,L,o1,o2,o3,o4,o5⟩:=hI.deepO hk hd0
 have hv:=Zfm hx
 subst hv
 obtain ⟨A,cap,hv,hnc,hcm⟩:=ZdC o1
 obtain ⟨b1,b2,_⟩:=Zin (P:=P) (w:=w) (g:=g) (b:=true) (len:=xs.length) (cap:=cap) (h:=xs.length) (hi:=none) (vhi:=none) rfl hl hlo trivial hnc
 obtain ⟨e',b',z',hti⟩:∃e' b' z',tt t=some (.slice e' m b' z'):=by
  unfold ZjR at hsz
  split at hsz
  ·rename_i h1;subst hsz;exact ⟨_,_,_,h1⟩
  ·omega
 obtain ⟨hu,_,_,⟨ie,zv,hie,hsi,_⟩,_⟩:=htt t _ hti
 have hO:g.O k=(Value.slice A xs.length cap).ownBlock.toList:=by rw [o4,hv]
 have o1':=o1
 rw [hv] at o1'
 obtain ⟨t1,t2⟩:=Zsd (l:=l) o1' b2
 generalize hw:(Value.slice (if cap=l then A else A.map (·.add (l * m))) (xs.length - l) (cap - l))=v' at t1 t2
 have hrun:s.run P w=.ok (.value v') w:=by
  subst hs
  have:(Instr.sliceAt t (.slice A xs.length cap) vlo none none).run P w=.ok v' w:=by
   rw [←hw]
   simp [Instr.sliceAt,Ys hu,Instr.slice,b1,XF hie,hsi]
  rw [hv]
  simp only[Sem.run_bind,this,Result.andThen_ok,Sem.run_pure]
 obtain ⟨M,r1,r2⟩:=o2.dropS l
 have hUk:U k:=Classical.byContradiction fun hn=>by have:=hU.gone _ hn;rw [hk] at this;simp at this
 have hDm:∀b∈(if d=2 then M else []),b∈g.D k:=fun b mb=>by
  split at mb
  ·rename_i hd
   rcases o5 with ⟨_,q⟩ | ⟨q,_⟩
   ·rw [q];exact r2.subset mb
   ·omega
  ·simp at mb
 have hlen:(xs.drop l).length=xs.length - l:=by simp
 obtain ⟨i1,i2⟩:=hI.turn (key:=key) (U:=U) (w':=w) (v:=v') (O:=v'.ownBlock.toList) (D:=if d=2 then M else []) (o:=.row e m (xs.drop l) d) hU.ob hkey [k]
  (fun j mj=>by simp at mj;subst mj;exact hUk) hI.below (A7 _) (fun b hb hn=>rfl)
  (fun b mb=>.inl ⟨k,by simp,by rw [hO,←t2];exact mb⟩)
  (fun b mb=>.inl ⟨k,by simp,A3.2 (.inr (hDm b mb))⟩)
  (by
   have hn:=hI.nodup k
   refine hn.sublist (AD (by rw [hO,←t2];exact AB _) ?_)
   split
   ·rename_i hd
    rcases o5 with ⟨_,q⟩ | ⟨q,_⟩
    ·rw [q];exact r2
    ·omega
   ·exact AH _)
  (fun b mb=>by
   have hmem:b∈g.O k++g.D k:=by
    rcases A3.1 mb with mb | mb
    ·exact A3.2 (.inl (by rw [hO,←t2];exact mb))
    ·exact A3.2 (.inr (hDm b mb))
   obtain ⟨p1,p2⟩:=hI.plain k b hmem
   exact ⟨p1,p2.of (by rw [hk];rfl)⟩)
  (fun hown=>⟨hm,cs.drop (l * m),M,by simp only[Gh.turn,ZD];rw [hlen];exact t1,r1,by
   rcases o5 with ⟨q,_⟩ | ⟨q,_⟩
   ·exact .inl ⟨q,by simp [Gh.turn,ZD],by simp [Gh.turn,q]⟩
   ·refine .inr (.inl ⟨q,by simp [Gh.turn,ZD],by simp [Gh.turn,q],fun b mb ho=>?_⟩)
    rcases ZeU ho with mo | ⟨j,_,_,mj⟩ | hz
    ·exact o3 b (r2.subset mb) (.inl ⟨k,by rw [hO,←t2];exact mo⟩)
    ·exact o3 b (r2.subset mb) (.inl ⟨j,mj⟩)
    ·exact o3 b (r2.subset mb) (.inr hz)⟩)
 have hwf:=ZiV (key:=key) (o:=.row e m (xs.drop l) d) hU [k] trivial
 refine ⟨_,v',w,.inl hrun,i1,⟨_,rfl,⟨by simp [Gh.turn,ZD],?_⟩⟩,i2,fun y my=>by simp at my;subst my;exact ZjX,hwf.1,hwf.2⟩
 rw [←hw]
 simp [Value.oneCell']
theorem Zt5 [NW] (htt:∀t i,tt t=some i→TOk P t i) (hI:HI W g st.ob w) (hU:StU U st) (hkey:¬U key) {t:Nat} {x:SV} {r:SV × List (Nat × Ob)} {lo hi:Option SV} {vx:Value} {vlo vhi:Option Value} (h:ZaK st key (tt t) lo hi x=some r) (hx:SVR g w x vx)
  (hlo:ZlY g w lo vlo) (hhi:ZlY g w hi vhi) {s:Sem Next} (hs:s=(do pure (.value (←Instr.sliceAt t vx vlo vhi none)))):Fin P W U key st g w s r:=by
 unfold ZaK at h
 split at h
 ·rename_i k
  split at h
  rotate_left
  ·simp at h
  split at h
  ·rename_i e m xs d hk
   split at h
   ·rename_i hsz
    split at h
    ·rename_i hmv
     obtain ⟨l,hl,rfl⟩:=A4.1 h
     unfold mvS at hmv
     split at hmv
     ·have hd0:¬d=0:=fun e=>by subst e;simp at hmv
      cases vhi with
      | some _=>exact hhi.elim
      | none=>exact ZuW htt hI hU hkey hk hd0 hsz hl hx hlo hs
     ·simp at hmv
    obtain ⟨q,hq,h⟩:=A6.1 h
    obtain ⟨l,hl,rfl⟩:=A4.1 h
    obtain ⟨g1,i1,i2,i3,_⟩:=ZiI hI k
    rw [hk] at i1
    obtain ⟨L,t1,t2⟩:=Zqj i1 (ZD st.ob k (.row e m xs 0))
    have hvx:vx=g1.val k:=by rw [i2];exact Zfm hx
    have hx1:SVR g1 w (.p false [.c (.sl e m xs)]) vx:=⟨_,rfl,L,hvx ▸ t1,t2⟩
    have lo1:ZlY g1 w lo vlo:=by
     cases lo<;>cases vlo<;>simp only[ZlY] at hlo ⊢
     exact hlo.less i2 i3
    have hi1:ZlY g1 w hi vhi:=by
     cases hi<;>cases vhi<;>simp only[ZlY] at hhi ⊢
     exact hhi.less i2 i3
    obtain ⟨cv,c1,c2,c3⟩:=Zqs (t:=t) (U:=U) (g:=g1) (P:=P) (x:=.p false [.c (.sl e m xs)]) (v:=.p false [.c (.sl e m ((xs.take q).drop l))]) htt (by simp only[Zlx,hsz,if_true,hq,hl,Ah,Ae]) hx1 lo1 hi1
    have hUk:U k:=Classical.byContradiction fun hn=>by have:=hU.gone _ hn;rw [hk] at this;simp at this
    refine ⟨g1,cv,w,.inl (by rw [hs];simp only[Sem.run_bind,c1,Result.andThen_ok,Sem.run_pure]),i1,c2,fun y v _ hy=>hy.less i2 i3,c3.mono fun _=>.inl,fun j=>?_,fun j hj=>?_⟩
    ·show obU _ (upd st.ob k (.row e m xs 0) j)
     by_cases hjk:j=k
     ·subst hjk;rw [ZD];trivial
     ·rw [ZN _ _ hjk];exact (hU.ob j).mono fun _=>.inl
    ·show upd st.ob k (.row e m xs 0) j=_
     rw [ZN _ _ (show j≠k from fun e=>hj (.inl (e ▸ hUk)))];exact hU.gone j fun h=>hj (.inl h)
   ·simp at h
  ·simp at h
 ·obtain ⟨v,hv,rfl⟩:=A4.1 h
  obtain ⟨cv,c1,c2,c3⟩:=Zqs (U:=U) htt hv hx hlo hhi
  exact Zaq hI hU (by rw [hs];simp only[Sem.run_bind,c1,Result.andThen_ok,Sem.run_pure]) c2 c3
 ·simp at h
end
end
section
open Go.RowKit Go.MapKept
theorem Zmo {kk:PK} {d:TypeDesc} {k:Value} (hd:ZdO kk d=true) (hk:Zhz kk k):IsKey d k:=by
 cases kk<;>cases d<;>simp [ZdO] at hd<;>cases k<;>simp_all [Zhz,IsKey]
theorem Zs3 {kk:PK} {a b:Value} (ha:Zhz kk a) (hb:Zhz kk b):vEq a b=true↔a=b:=by
 cases kk<;>cases a<;>simp [Zhz] at ha<;>cases b<;>simp [Zhz] at hb<;>simp_all [vEq,sEq]
theorem Zie [NW] {kk vk:PK} {d:TypeDesc} {k:Value} (hd:ZdO kk d=true) (hk:Zhz kk k):∀(l:List MapEntry) (i:Nat),Zix kk vk (l.map fun e=>(e.key,e.val))→
  (Instr.findNow d k l i=some none∧ZkC (l.map fun e=>(e.key,e.val)) k=none∧∀v,ZeX (l.map fun e=>(e.key,e.val)) k v=(l.map fun e=>(e.key,e.val))++[(k,v)])∨
  ∃j e,Instr.findNow d k l i=some (some (i+j,e.val))∧l[j]?=some e∧e.key=k∧ZkC (l.map fun e=>(e.key,e.val)) k=some e.val∧Zhz vk e.val∧∀v,ZeX (l.map fun e=>(e.key,e.val)) k v=(l.modify j fun e=>{ e with key:=k,val:=v }).map fun e=>(e.key,e.val)
 | [],i,_=>.inl ⟨rfl,rfl,fun _=>rfl⟩
 | e::l,i,h=>by
  have he:=h (e.key,e.val) (by simp)
  obtain ⟨r,hr,hiff⟩:=sameNow_of_keys (Zmo hd hk) (Zmo hd he.1)
  cases r with
  | true=>
   have hek:=hiff.1 rfl
   have hv:vEq k e.key=true:=(Zs3 hk he.1).2 hek
   exact .inr ⟨0,e,by simp [Instr.findNow,hr],rfl,hek.symm,by simp [ZkC,hv],he.2,fun v=>by simp [ZeX,hv]⟩
  | false=>
   have hne:¬vEq k e.key=true:=fun q=>by have:=hiff.2 ((Zs3 hk he.1).1 q);cases this
   rcases Zie hd hk l (i+1) (fun p m=>h p (by simp only[Ai,A8];exact .inr m)) with ⟨h1,h2,h3⟩ | ⟨j,e',h1,h2,h3,h4,h5,h6⟩
   ·exact .inl ⟨by simp [Instr.findNow,hr,h1],by simp [ZkC,hne,h2],fun v=>by simp [ZeX,hne,h3]⟩
   ·exact .inr ⟨j+1,e',by simp [Instr.findNow,hr,h1];omega,by simpa using h2,h3,by simp [ZkC,hne,h4],h5,fun v=>by simp [ZeX,hne,h6]⟩
section
variable {P:Program} {W:Zaa} {U:Nat→Prop} {key:Nat} {st:St} {g:Gh} {w w':World} {a:Act} {tt:Nat→Option TI}
theorem ZAi [NW] {vk:PK} {v:Value} (h:Zhz vk v):AVR g w (avV v) v:=by
 cases vk<;>cases v<;>simp [Zhz] at h<;>first | exact ⟨[],⟨rfl,rfl⟩,by simp⟩ | exact ⟨[],⟨rfl,rfl,h⟩,by simp⟩
theorem ZC9 (v:Value):avU U (avV v):=by cases v<;>trivial
theorem ZpI [NW] {kk:PK} {x:SV} {v k:Value} (h:ZtZ kk x=some k) (hx:SVR g w x v):v=k∧Zhz kk k:=by
 unfold ZtZ at h
 split at h
 ·split at h<;>simp only[A0,reduceCtorEq] at h
  rename_i e;subst e h
  exact ⟨Zbz hx,rfl⟩
 ·simp only[A0] at h;subst h
  exact ⟨(Zh1 hx).1,(Zh1 hx).2⟩
 ·simp only[A0] at h;subst h
  exact ⟨ZfE hx,trivial⟩
 ·simp at h
theorem ZlN (htt:∀t i,tt t=some i→TOk P t i) {t:Nat} {kk vk:PK} (h:Zed kk vk (tt t)=true):TOk P t (.map kk vk):=by
 unfold Zed at h
 split at h
 ·rename_i a b hti
  simp only[AT,decide_eq_true_eq] at h
  rw [h.1,h.2] at hti
  exact htt _ _ hti
 ·simp at h
theorem Zui [NW] {vk:PK} {zv:Value} (h:Zai (Zes vk) zv=true):AVR g w (Zes vk) zv∧avU U (Zes vk):=by
 refine ⟨Ze6 h,?_⟩
 cases vk<;>trivial
theorem Zq7 [NW] (htt:∀t i,tt t=some i→TOk P t i) {t:Nat} {kk vk:PK} {kv:List (Value × Value)} {i v:SV} {vi:Value} {ok:Bool} {b c:Nat} {es:Array MapEntry} (hm:Zed kk vk (tt t)=true) (h:Zqw kk vk kv i ok=some v) (hi:SVR g w i vi) (hb:w.heap[b]?=some (.map es c)) (hes:Zc7 es=kv) (hok:Zix kk vk kv):
  ∃cv,(Instr.lookup t (.map (some b)) vi ok).run P w=.ok cv w∧SVR g w v cv∧svU U v:=by
 obtain ⟨kt,et,dk,dv,inf,zv,h1,h2,h3,h4,h5,h6,h7,h8⟩:=ZlN htt hm
 unfold Zqw at h
 obtain ⟨k,hk,rfl⟩:=A4.1 h
 obtain ⟨rfl,hkk⟩:=ZpI hk hi
 subst hes
 have hz:=Zui (g:=g) (w:=w) (U:=U) h8
 have hze:(zeroValue et).run P w=.ok zv w:=Zi3 h6 h7
 have key:∃r:Option (Nat × Value),(Instr.findKey kt vi es.toList).run P w=.ok r w∧(match r with | some p=>ZkC (Zc7 es) vi=some p.2∧Zhz vk p.2 | none=>ZkC (Zc7 es) vi=none):=by
  rcases Zie h3 hkk es.toList 0 hok with ⟨f1,f2,_⟩ | ⟨j,e,f1,f2,f3,f4,f5,_⟩
  ·exact ⟨none,run_findKey h2 f1,f2⟩
  ·exact ⟨some _,run_findKey h2 f1,f4,f5⟩
 obtain ⟨r,hr,hr2⟩:=key
 have hck:(Instr.checkKey es.isEmpty 10000 kt vi).run P w=.ok () w:=run_checkKey (P:=P) (w:=w) h2 (Zmo h3 hkk) es.isEmpty 9999
 have hg:(getObj b).run P w=.ok (.map es c) w:=by simp [getObj,Sem.run,hb]
 have hfin:∃rv rb,(Instr.lookup t (.map (some b)) vi ok).run P w=.ok (if ok then .tuple #[rv,.bool rb] else rv) w∧AVR g w (Zbu (Zc7 es) vi (Zes vk)) rv∧avU U (Zbu (Zc7 es) vi (Zes vk))∧Zeu (Zc7 es) vi=rb:=by
  cases r with
  | none=>
   simp only at hr2
   refine ⟨zv,false,?_,by simp only[Zbu,hr2];exact hz.1,by simp only[Zbu,hr2];exact hz.2,by simp [Zeu,hr2]⟩
   unfold Instr.lookup
   simp only[Sem.run_bind,Ys h1,Result.andThen_ok,hg,Sem.run_pure,hck,hr,hze]
  | some p=>
   simp only at hr2
   refine ⟨p.2,true,?_,by simp only[Zbu,hr2.1];exact ZAi hr2.2,by simp only[Zbu,hr2.1];exact ZC9 _,by simp [Zeu,hr2.1]⟩
   unfold Instr.lookup
   simp only[Sem.run_bind,Ys h1,Result.andThen_ok,hg,Sem.run_pure,hck,hr]
 obtain ⟨rv,rb,q1,q2,q3,q4⟩:=hfin
 refine ⟨_,q1,?_,?_⟩
 ·cases ok with
  | true=>exact ⟨[rv,.bool rb],rfl,⟨_,rfl,q2⟩,⟨_,rfl,[],⟨by rw [q4],rfl⟩,by simp⟩,trivial⟩
  | false=>exact ⟨_,rfl,q2⟩
 ·cases ok with
  | true=>
   intro y my
   simp only[A8,List.not_mem_nil,or_false] at my
   rcases my with rfl | rfl
   ·intro z mz;simp at mz;subst mz;exact q3
   ·intro z mz;simp at mz;subst mz;trivial
  | false=>intro z mz;simp at mz;subst mz;exact q3
theorem Zwz [NW] (htt:∀t i,tt t=some i→TOk P t i) (hI:HI W g st.ob w) {t:Nat} {x i v:SV} {vx vi:Value} {ok:Bool} (h:Zgf st (tt t) x i ok=some v) (hx:SVR g w x vx) (hi:SVR g w i vi):
  ∃cv,(Instr.lookup t vx vi ok).run P w=.ok cv w∧SVR g w v cv∧svU U v:=by
 unfold Zgf at h
 split at h
 ·rename_i k
  split at h
  ·rename_i kk vk kv hk
   split at h
   ·rename_i hm
    have hv:=Zfm hx
    have ho:=hI.obs k
    rw [hk] at ho
    obtain ⟨b,es,c,h1,_,_,h4,h5,h6⟩:=ho
    rw [hv,h1]
    exact Zq7 htt hm h hi h4 h5 h6
   ·simp at h
  ·simp at h
 ·rename_i kk vk kv
  split at h
  ·rename_i hm
   obtain ⟨y,hy,hx⟩:=hx
   simp at hy;subst hy
   obtain ⟨L,⟨b,es,c,rfl,h4,h5,h6,_⟩,_⟩:=hx
   exact Zq7 htt hm h hi h4 h5 h6
  ·simp at h
 ·simp at h
theorem ZCb [NW] (htt:∀t i,tt t=some i→TOk P t i) (hI:HI W g st.ob w) (hU:StU U st) (hkey:¬U key) {t:Nat} {r:SV × List (Nat × Ob)} (h:ZnF key (tt t)=some r) {s:Sem Next} (hs:s=(do pure (.value (←Instr.makeMap t none)))):Fin P W U key st g w s r:=by
 unfold ZnF at h
 split at h
 ·rename_i kk vk hti
  simp only[A0] at h;subst h
  have hrun:s.run P w=.ok (.value (.map (some w.heap.size))) (w.alloc (.map #[] 0)):=by
   subst hs
   have h0:(Instr.makeMap t none).run P w=.ok (.map (some w.heap.size)) (w.alloc (.map #[] 0)):=rfl
   simp only[Sem.run_bind,h0,Result.andThen_ok,Sem.run_pure]
  have hb:Below w.heap.size w (w.alloc (.map #[] 0)):=(Below.refl _ _).alloc (A7 _) _
  have hnew:=heap_alloc_new w (.map #[] 0)
  obtain ⟨h1,h2⟩:=hI.turn (key:=key) (U:=U) (w':=w.alloc (.map #[] 0)) (v:=.map (some w.heap.size)) (O:=[w.heap.size]) (D:=[]) (o:=.map kk vk []) hU.ob hkey [] (by simp)
   (hI.below.trans hb) hb.size (fun b hb' _=>hb.block b hb') (by simp) (by simp) (by simp) (fun b mb=>by
    simp at mb;subst mb
    exact ⟨.inl hI.below.size,_,_,hnew⟩)
   (fun _=>⟨w.heap.size,#[],0,by simp [Gh.turn,upd],by simp [Gh.turn,upd],by simp [Gh.turn,upd],hnew,rfl,fun _ m=>by simp at m⟩)
  have hwf:=ZiV (key:=key) (o:=.map kk vk []) hU [] trivial
  exact ⟨_,_,_,.inl hrun,h1,⟨_,rfl,⟨by simp [Gh.turn,upd],by simp [Value.oneCell']⟩⟩,h2,fun y my=>by simp at my;subst my;exact ZjX,hwf.1,hwf.2⟩
 ·simp at h
theorem Zw2 [NW] (htt:∀t i,tt t=some i→TOk P t i) {t:Nat} {kk vk:PK} {kv:List (Value × Value)} {k v:Value} {b c:Nat} {es:Array MapEntry} (hm:Zed kk vk (tt t)=true) (hk:Zhz kk k) (hv:Zhz vk v) (hb:w.heap[b]?=some (.map es c)) (hes:Zc7 es=kv) (hok:Zix kk vk kv):
  ∃es' c',(Instr.mapUpdate t (.map (some b)) k v).run P w=.ok () { w with heap:=w.heap.setIfInBounds b (.map es' c') }∧Zc7 es'=ZeX kv k v∧Zix kk vk (ZeX kv k v):=by
 obtain ⟨kt,et,dk,dv,inf,zv,h1,h2,h3,h4,h5,h6,h7,h8⟩:=ZlN htt hm
 subst hes
 have hck:(Instr.checkKey false 10000 kt k).run P w=.ok () w:=run_checkKey (P:=P) (w:=w) h2 (Zmo h3 hk) false 9999
 have hg:(getObj b).run P w=.ok (.map es c) w:=by simp [getObj,Sem.run,hb]
 have hst:∀o,(setObj b o).run P w=.ok () { w with heap:=w.heap.setIfInBounds b o }:=fun o=>by simp [setObj,Sem.run,hb]
 have hput:∀{kv:List (Value × Value)},Zix kk vk kv→Zix kk vk (ZeX kv k v):=fun {kv}=>by
  induction kv with
  | nil=>intro _ p m;simp [ZeX] at m;subst m;exact ⟨hk,hv⟩
  | cons q r ih=>
   intro h p m
   simp only[ZeX] at m
   split at m
   ·rcases A8.1 m with rfl | m
    ·exact ⟨hk,hv⟩
    ·exact h p (by simp [m])
   ·rcases A8.1 m with rfl | m
    ·exact h p (by simp)
    ·exact ih (fun q mq=>h q (by simp [mq])) p m
 rcases Zie h3 hk es.toList 0 hok with ⟨f1,_,f2⟩ | ⟨j,e,f1,f2,f3,_,_,f4⟩
 ·refine ⟨es.push { key:=k,val:=v,born:=c },c+1,?_,?_,hput hok⟩
  ·have hf:=run_findKey (P:=P) (w:=w) h2 f1
   unfold Instr.mapUpdate
   simp only[Sem.run_bind,Ys h1,Result.andThen_ok,hg,hck,hf,hst]
  ·rw [show ZeX (Zc7 es) k v=_ from f2 v];simp [Zc7]
 ·rw [Ag] at f1
  have hf:=run_findKey (P:=P) (w:=w) h2 f1
  have hj:es[j]?=some e:=by simpa using f2
  have hkey:(Instr.keyThatStays k k).run P w=.ok k w:=run_keyThatStays (Zmo h3 hk)
  refine ⟨es.modify j fun e=>{ e with key:=k,val:=v },c,?_,?_,hput hok⟩
  ·unfold Instr.mapUpdate
   simp only[Sem.run_bind,Ys h1,Result.andThen_ok,hg,hck,hf,hst,hj,Ae,Option.getD_some,f3,hkey]
  ·rw [show ZeX (Zc7 es) k v=_ from f4 v];simp [Zc7]
theorem ZyM [NW] (htt:∀t i,tt t=some i→TOk P t i) (hI:HI W g st.ob w) (hU:StU U st) {t:Nat} {x i v:SV} {u:List (Nat × Ob)} {vx vi vv:Value} (h:Zt3 st (tt t) x i v=some u) (hx:SVR g w x vx) (hi:SVR g w i vi) (hv:SVR g w v vv) {s:Sem Next} (hs:s=(do Instr.mapUpdate t vx vi vv;pure .skip)):Fin P W U key st g w s (.und,u):=by
 unfold Zt3 at h
 split at h
 ·rename_i k
  split at h
  ·rename_i kk vk kv hk
   split at h
   ·rename_i hm
    obtain ⟨a,ha,h⟩:=A6.1 h
    obtain ⟨b',hb',rfl⟩:=A4.1 h
    obtain ⟨rfl,hka⟩:=ZpI ha hi
    obtain ⟨rfl,hkb⟩:=ZpI hb' hv
    have hvx:=Zfm hx
    have ho:=hI.obs k
    rw [hk] at ho
    obtain ⟨b,es,c,h1,h2,h3,h4,h5,h6⟩:=ho
    obtain ⟨es',c',r1,r2,r3⟩:=Zw2 (w:=w) htt hm hka hkb h4 h5 h6
    have hrun:s.run P w=.ok .skip { w with heap:=w.heap.setIfInBounds b (.map es' c') }:=by
     rw [hs,hvx,h1];simp only[Sem.run_bind,r1,Result.andThen_ok,Sem.run_pure]
    obtain ⟨q1,q2⟩:=heap_set (o':=.map es' c') h4
    have hlt:b<w.heap.size:=(B1.1 h4).1
    have hsz:({ w with heap:=w.heap.setIfInBounds b (.map es' c') }:World).heap.size=w.heap.size:=by simp
    have hbW:W.heap.size≤b∨W.x b:=(hI.plain k b (by simp [h2])).1
    have hUk:U k:=Classical.byContradiction fun hn=>by have:=hU.gone _ hn;rw [hk] at this;simp at this
    have hmv:∀b',b'<w.heap.size→¬g.own b'→({ w with heap:=w.heap.setIfInBounds b (.map es' c') }:World).heap[b']?=w.heap[b']?:=fun b' _ hn=>q2 b' fun e=>hn (.inl ⟨k,by simp [h2,e]⟩)
    refine ⟨g,undef,_,.inr ⟨hrun,rfl⟩,?_,rfl,fun x u hx hu=>hu.move hx (fun _ _=>rfl) hmv (Qj.refl _ _) (Nat.le_of_eq hsz.symm),trivial,fun q=>?_,fun q hq=>?_⟩
    ·refine hI.step (U:=U) (fun q=>q=k) ?_ rfl (fun b' _ hn=>q2 b' fun e=>hn k rfl (by simp [h2,e])) (fun q hq=>⟨ZN _ _ hq,rfl,rfl,rfl⟩) hU.ob (fun _ _=>rfl) (Qj.refl _ _) (fun q hq=>?_)
     ·exact ⟨hI.below.os,hI.below.tape,hI.below.output,AK hI.below.size (Nat.le_of_eq hsz.symm),fun q hq hx=>by
       show (w.heap.setIfInBounds b (.map es' c'))[q]?=_
       rw [q2 q (fun e=>by subst e;rcases hbW with h | h;omega;exact hx h)];exact hI.below.block q hq hx⟩
     ·subst hq
      refine ⟨?_,hI.nodup q,fun b' m=>?_,hI.apart q⟩
      ·simp only[Zp,ZD]
       exact ⟨b,es',c',h1,h2,h3,q1,r2,r3⟩
      ·simp [h2,h3] at m
       subst m
       refine ⟨hbW,?_⟩
       simp only[Zp,ZD]
       exact ⟨_,_,q1⟩
    ·simp only[Zp,upd]
     split
     ·trivial
     ·exact (hU.ob q).mono fun _=>.inl
    ·simp only[Zp,upd]
     split
     ·rename_i e;subst e;exact absurd (.inl hUk) hq
     ·exact hU.gone q fun h=>hq (.inl h)
   ·simp at h
  ·simp at h
 ·simp at h
theorem Zti [NW]:∀{cs:List AV} {l:List CT} {vs:List Value},ZiQ.zBox cs=some l→ZL (AVR g w) cs vs→∃L,RCs w l vs L∧∀b∈L,¬g.own b
 | [],l,[],h,_=>by simp [ZiQ.zBox] at h;subst h;exact ⟨[],⟨rfl,rfl⟩,by simp⟩
 | [],_,_::_,_,h=>h.elim
 | _::_,_,[],_,h=>h.elim
 | x::r,l,v::vs,h,hr=>by
  cases x with
  | c x=>
   simp only[ZiQ.zBox] at h
   obtain ⟨b,hb,rfl⟩:=A4.1 h
   obtain ⟨L,h1,h2⟩:=Zti hb hr.2
   obtain ⟨L0,h3,h4⟩:=hr.1
   refine ⟨L0++L,⟨v,vs,L0,L,rfl,rfl,h3,h1⟩,fun b mb=>?_⟩
   rcases A3.1 mb with m | m
   ·exact h4 b m
   ·exact h2 b m
  | _=>simp [ZiQ.zBox] at h
theorem Zuy {x:SV} {r:CT × List (Nat × Ob)} (h:ZiQ st x=some r):(∀p∈r.2,p.2=Ob.gone∧∃t cs,st.ob p.1=.box t cs):=by
 unfold ZiQ at h
 split at h
 ·split at h
  ·rename_i k _ t cs hk
   obtain ⟨l,_,rfl⟩:=A4.1 h
   intro p mp;simp at mp;subst mp
   exact ⟨rfl,t,cs,hk⟩
  ·simp at h
 ·simp only[A0] at h;subst h;intro p mp;simp at mp
 ·simp at h
theorem Zw5 [NW] {ob:Nat→Ob} (hI:HI W g ob w) {x:SV} {r:CT × List (Nat × Ob)} {v:Value} (h:ZiQ st x=some r) (hob:∀p∈r.2,ob p.1=st.ob p.1) (hx:SVR g w x v):
  ∃g1:Gh,HI W g1 (Zp ob r.2) w∧g1.val=g.val∧Xo g1 g∧∃L,RC w r.1 v L∧∀b∈L,¬g1.own b:=by
 unfold ZiQ at h
 split at h
 ·rename_i k
  split at h
  ·rename_i t cs hk
   obtain ⟨l,hl,rfl⟩:=A4.1 h
   have hk':ob k=.box t cs:=(hob (k,.gone) (by simp)).trans hk
   obtain ⟨g1,i1,i2,i3,b,vs,j1,j2,j3,j4,j5⟩:=Zvj hI hk'
   obtain ⟨L,l1,l2⟩:=Zti hl j5
   obtain ⟨b',e1,rfl⟩:=hx
   rw [j1] at e1
   simp at e1
   subst e1
   refine ⟨g1,i1,i2,i3,b::L,⟨b,vs,L,rfl,j3,rfl,j4,l1⟩,fun x mx=>?_⟩
   rcases A8.1 mx with rfl | mx
   ·exact j2
   ·exact fun hx=>l2 x mx (i3.own x hx)
  ·simp at h
 ·simp only[A0] at h;subst h
  obtain ⟨y,hy,hx⟩:=hx
  simp at hy;subst hy
  obtain ⟨L,h1,h2⟩:=hx
  exact ⟨g,hI,rfl,Xo.refl _,L,h1,h2⟩
 ·simp at h
theorem Zrs [NW]:∀{xs:List SV} {ob:Nat→Ob} {g:Gh} {r:List CT × List (Nat × Ob)} {vs:List Value},HI W g ob w→Zel st xs=some r→(r.2.map (·.1)).Nodup→(∀p∈r.2,ob p.1=st.ob p.1)→ZL (SVR g w) xs vs→
  ∃g1:Gh,HI W g1 (Zp ob r.2) w∧g1.val=g.val∧Xo g1 g∧∃L,RCs w r.1 vs L∧∀b∈L,¬g1.own b
 | [],ob,g,r,vs,hI,h,_,_,hr=>by
  simp [Zel] at h;subst h
  cases vs with
  | nil=>exact ⟨g,hI,rfl,Xo.refl _,[],⟨rfl,rfl⟩,by simp⟩
  | cons _ _=>exact hr.elim
 | x::xs,ob,g,r,[],hI,h,_,_,hr=>hr.elim
 | x::xs,ob,g,r,v::vs,hI,h,hn,hob,hr=>by
  simp only[Zel] at h
  obtain ⟨a,ha,h⟩:=A6.1 h
  obtain ⟨b,hb,rfl⟩:=A4.1 h
  simp only[Ar,AF] at hn
  obtain ⟨n1,n2,n3⟩:=hn
  obtain ⟨g1,i1,i2,i3,L1,l1,l2⟩:=Zw5 hI ha (fun p m=>hob p (by simp [m])) hr.1
  have hob2:∀p∈b.2,Zp ob a.2 p.1=st.ob p.1:=fun p mp=>by
   have hne:∀q∈a.2,q.1≠p.1:=fun q mq=>n3 q.1 (AE.2 ⟨q,mq,rfl⟩) p.1 (AE.2 ⟨p,mp,rfl⟩)
   have:∀(u:List (Nat × Ob)) (ob:Nat→Ob),(∀q∈u,q.1≠p.1)→Zp ob u p.1=ob p.1:=by
    intro u
    induction u with
    | nil=>intro ob _;rfl
    | cons q u ih=>intro ob h;rw [Zp,ih _ fun z mz=>h z (by simp [mz])];exact ZN _ _ fun e=>h q (by simp) e.symm
   rw [this _ _ hne]
   exact hob p (by simp [mp])
  have hr2:ZL (SVR g1 w) xs vs:=hr.2.mono fun x u _ hx=>hx.less i2 i3
  obtain ⟨g2,k1,k2,k3,L2,m1,m2⟩:=Zrs i1 hb n2 hob2 hr2
  refine ⟨g2,?_,k2.trans i2,k3.trans i3,L1++L2,⟨v,vs,L1,L2,rfl,rfl,l1,m1⟩,fun x mx=>?_⟩
  ·rw [YR];exact k1
  ·rcases A3.1 mx with m | m
   ·exact fun hx=>l2 x m (k3.own x hx)
   ·exact m2 x m
theorem Zk6 [NW]:∀{xs:List SV} {r:List CT × List (Nat × Ob)},Zel st xs=some r→∀p∈r.2,p.2=Ob.gone∧∃t cs,st.ob p.1=.box t cs
 | [],r,h=>by simp [Zel] at h;subst h;intro p m;simp at m
 | x::xs,r,h=>by
  simp only[Zel] at h
  obtain ⟨a,ha,h⟩:=A6.1 h
  obtain ⟨b,hb,rfl⟩:=A4.1 h
  intro p m
  rcases A3.1 m with m | m
  ·exact Zuy ha p m
  ·exact Zk6 hb p m
theorem ZzJ [NW] (hI:HI W g st.ob w) (hU:StU U st) {f:FuncId} {xs:List SV} {vs:List Value} {r:List CT × List (Nat × Ob)} (h:Zel st xs=some r) (hn:(r.2.map (·.1)).Nodup) (hr:ZL (SVR g w) xs vs) {s:Sem Next} (hs:s.run P w=.ok (.value (.func (.func f) #[] vs.toArray)) w):Fin P W U key st g w s (.p false [.c (.fn f r.1)],r.2):=by
 obtain ⟨g1,i1,i2,i3,L,l1,l2⟩:=Zrs hI h hn (fun _ _=>rfl) hr
 have hg:=Zk6 h
 have hall:∀(u:List (Nat × Ob)) (ob:Nat→Ob) (k:Nat),(∀p∈u,p.2=Ob.gone)→Zp ob u k=ob k∨Zp ob u k=.gone:=by
  intro u
  induction u with
  | nil=>intro ob k _;exact .inl rfl
  | cons q u ih=>
   intro ob k h
   rw [Zp]
   rcases ih (upd ob q.1 q.2) k (fun p m=>h p (by simp [m])) with e | e
   ·rw [e]
    by_cases hk:k=q.1
    ·right;rw [hk,ZD];exact h q (by simp)
    ·left;exact ZN _ _ hk
   ·exact .inr e
 refine ⟨g1,_,w,.inl hs,i1,⟨_,rfl,L,⟨vs,rfl,l1⟩,l2⟩,fun x u _ hx=>hx.less i2 i3,Xn _,fun k=>?_,fun k hk=>?_⟩
 ·rcases hall r.2 st.ob k (fun p m=>(hg p m).1) with e | e
  ·rw [e];exact (hU.ob k).mono fun _=>.inl
  ·rw [e];trivial
 ·rcases hall r.2 st.ob k (fun p m=>(hg p m).1) with e | e
  ·rw [e];exact hU.gone k fun h=>hk (.inl h)
  ·exact e
end
end
section
open Go.RowKit
section
variable {P:Program} {W:Zaa} {U:Nat→Prop} {key:Nat} {st:St} {g:Gh} {w w':World} {a:Act} {tt:Nat→Option TI}
theorem ZeZ:∀(ts:List TypeId) (xs:List Operand),(Zje ts xs).map (·.2)=xs
 | _,[]=>by cases ‹List TypeId›<;>rfl
 | [],x::xs=>by simp [Zje,ZeZ [] xs]
 | t::ts,x::xs=>by simp [Zje,ZeZ ts xs]
theorem Zt1 [NW] (htt:∀t i,tt t=some i→TOk P t i) {t:Nat} {z:List AV} (h:ZmH (tt t)=some z):∃zv vs,(zeroValue t).run P w=.ok zv w∧zv.cells=(vs:List Value).toArray∧ZL (AVR g w) z vs∧Qn U z:=by
 unfold ZmH at h
 split at h<;>simp only[A0,reduceCtorEq] at h<;>subst h<;>rename_i hti
 ·obtain ⟨d,zv,i,h1,h2,h3,h4,h5,h6⟩:=htt t _ hti
  have hr:AVR g w _ zv:=Ze6 h6
  exact ⟨zv,[zv],Zi3 h3 h4,by rw [Zoc hr.one],⟨hr,trivial⟩,fun y m=>by
   simp at m;subst m
   cases y<;>first | trivial | simp [Zai] at h6⟩
 ·obtain ⟨fields,i,zvs,h1,h2,h3,h4,h5,_⟩:=htt t _ hti
  obtain ⟨q1,q2⟩:=Zh6 (g:=g) (w:=w) (U:=U) h5
  exact ⟨.agg zvs,zvs.toList,Zi3 h2 h4,by simp [Value.cells],q1,q2⟩
 ·obtain ⟨_,hm,_,_,j,h1,h2,h3⟩:=htt t _ hti
  exact ⟨_,[.slice none 0 0],Zi3 h1 h3,rfl,⟨rfl,trivial⟩,fun y m=>by simp at m;subst m;trivial⟩
set_option maxHeartbeats 1000000 in
theorem ZnT [NW] (htt:∀t i,tt t=some i→TOk P t i) (o:Oper) {r:SV × List (Nat × Ob)} (hr:opE tt key o st=some r) (hI:HI W g st.ob w) (hS:∀t,SVR g w (st.sl t) (a.tmps.getD t undef)) (hU:StU U st) (hkey:¬U key):
  Fin P W U key st g w (execOp a.eval o) r:=by
 have ev:=fun t x=>Zkm (P:=P) (a:=a) (g:=g) (w:=w) (U:=U) htt hS hU t x
 have pur:∀{v:Option SV} {s:Sem Value},ZaZ v=some r→execOp a.eval o=(do pure (.value (←s)))→(∀u,v=some u→∃cv,s.run P w=.ok cv w∧SVR g w u cv∧svU U u)→Fin P W U key st g w (execOp a.eval o) r:=fun {v s} hp he hv=>by
  obtain ⟨u,hu,rfl⟩:=A4.1 hp
  obtain ⟨cv,c1,c2,c3⟩:=hv u hu
  exact Zaq hI hU (by rw [he];simp only[Sem.run_bind,c1,Result.andThen_ok,Sem.run_pure]) c2 c3
 obtain ⟨dst,op,ty,pos,af,gd⟩:=o
 cases op with
 | move x=>
  simp only[opE,A0] at hr;subst hr
  exact Zaq hI hU rfl (ev ty x).1 (ev ty x).2
 | assign x=>
  simp only[opE,A0] at hr;subst hr
  exact Zaq hI hU rfl (ev ty x).1 (ev ty x).2
 | pick c x y=>
  simp only[opE] at hr
  split at hr
  ·rename_i b hb
   simp only[A0] at hr;subst hr
   have hc:=(ev 0 c).1
   rw [hb] at hc
   obtain ⟨cv,c1,c2,c3⟩:=ZwN (P:=P) hc (ev ty x) (ev ty y)
   exact Zaq hI hU c1 c2 c3
  ·simp at hr
 | alloc t=>
  simp only[opE] at hr
  obtain ⟨z,hz,rfl⟩:=A4.1 hr
  obtain ⟨zv,vs,h1,h2,h3,h4⟩:=Zt1 (P:=P) (g:=g) (w:=w) (U:=U) htt hz
  exact ZuU hI hU hkey h3 h4 (by simp [execOp,Instr.alloc,h1,newVar,newRow,h2])
 | box t x=>
  simp only[opE] at hr
  split at hr
  ·rename_i ag cs hx
   simp only[A0] at hr;subst hr
   have hv:=ev t x
   rw [hx] at hv
   obtain ⟨vs,h2,h3⟩:=PVR.cells hv.1
   exact ZuU hI hU hkey h3 hv.2 (by simp [execOp,Instr.box,newVar,newRow,h2])
  ·simp at hr
 | build t parts=>
  simp only[opE] at hr
  split at hr
  ·rename_i fs n z hti
   obtain ⟨cs,hcs,rfl⟩:=A4.1 hr
   obtain ⟨cv,c1,c2,c3⟩:=Zww (P:=P) htt hS hU hti hcs
   exact Zaq hI hU (by simp only[execOp,Sem.run_bind,c1,Result.andThen_ok,Sem.run_pure]) c2 c3
  ·simp at hr
 | buildSlice t len parts=>
  simp only[opE] at hr
  split at hr
  ·rename_i e m bytes z hti
   obtain ⟨⟨xs,ks,d⟩,h1,hr⟩:=A6.1 hr
   split at hr
   ·rename_i hc
    simp only[A0] at hr;subst hr
    exact Zx8 htt hI hS hU hkey hti h1 hc.1 hc.2.1 hc.2.2.1 rfl
   ·simp at hr
  ·simp at hr
 | load t x=>exact pur hr rfl fun u hu=>ZsY htt hI hU hu (ev 0 x).1
 | store t x v=>
  simp only[opE] at hr
  obtain ⟨u,hu,rfl⟩:=A4.1 hr
  have hx:=ev 0 x
  have hv:=ev t v
  unfold ZlA at hu
  split at hu
  ·rename_i k off ag vs he1 he2
   rw [he1] at hx
   rw [he2] at hv
   split at hu
   ·rename_i tb cs hk
    split at hu
    ·rename_i hc
     simp only[A0] at hu;subst hu
     exact ZvT htt hI hU hk hc.1 hc.2.2 hx.1 hv.1 hv.2 hc.2.1 rfl
    ·simp at hu
   ·simp at hu
  ·rename_i k m i off ag vs he1 he2
   rw [he1] at hx
   rw [he2] at hv
   split at hu
   ·rename_i e m' xs d hk
    obtain ⟨y,hy,hu⟩:=A6.1 hu
    obtain ⟨ys,hys,hu⟩:=A6.1 hu
    split at hu
    ·rename_i hc
     simp only[A0] at hu;subst hu
     obtain ⟨rfl,hc1,hc2,hc3,hc4⟩:=hc
     exact ZvA htt hI hU hk (by omega) hy hys hc1 hc3 hx.1 hv.1 hc2 rfl
    ·simp at hu
   ·simp at hu
  ·simp at hu
 | nilCheck x=>
  simp only[opE] at hr
  have hx:=ev 0 x
  split at hr<;>simp only[A0,reduceCtorEq] at hr<;>subst hr<;>rename_i he<;>rw [he] at hx
  ·obtain ⟨b,_,hv⟩:=hx.1
   exact Zaq hI hU (cv:=a.eval x) (by simp [execOp,hv]) hx.1 hx.2
  ·obtain ⟨b,_,_,_,hv⟩:=hx.1
   exact Zaq hI hU (cv:=a.eval x) (by simp [execOp,hv]) hx.1 hx.2
  ·obtain ⟨b,_,_,_,hv,_⟩:=hx.1
   exact Zaq hI hU (cv:=a.eval x) (by simp [execOp,hv]) hx.1 hx.2
  ·obtain ⟨b,_,_,hv,_⟩:=ZsS hx.1
   exact Zaq hI hU (cv:=a.eval x) (by simp [execOp,hv]) hx.1 hx.2
 | binOp op t x y t'=>exact pur hr rfl fun u hu=>ZwM htt hu (ev t x).1 (ev t y).1
 | unOp op t x=>exact pur hr rfl fun u hu=>ZCP hu (ev 0 x).1
 | convert s t x=>exact pur hr rfl fun u hu=>Zvn htt hI hu (ev 0 x).1
 | makeSlice t n c=>
  simp only[opE] at hr
  have hn:=(ev 0 n).1
  have hc:=(ev 0 c).1
  unfold Zqt at hr
  split at hr
  ·rename_i n' c' he1 he2
   rw [he1] at hn
   rw [he2] at hc
   split at hr
   ·rename_i e m bytes z hti
    obtain ⟨ze,hz,hr⟩:=A6.1 hr
    split at hr
    ·rename_i hq
     simp only[A0] at hr;subst hr
     obtain ⟨h0,rfl,h1⟩:=hq
     have e1:=Zbz hn
     have e2:=Zbz hc
     obtain ⟨n'',rfl⟩:=Int.eq_ofNat_of_zero_le h0
     simp only[Int.toNat_natCast]
     exact Zxo htt hI hU hkey hti hz (by omega) (by simp only[execOp,e1,e2])
    ·simp at hr
   ·simp at hr
  ·simp at hr
 | slice t x lo hi mx=>
  cases mx with
  | some _=>simp [opE] at hr
  | none=>
   refine Zt5 (vlo:=lo.map a.eval) (vhi:=hi.map a.eval) htt hI hU hkey hr (ev 0 x).1 ?_ ?_ rfl
   ·cases lo with
    | none=>trivial
    | some y=>exact (ev 0 y).1
   ·cases hi with
    | none=>trivial
    | some y=>exact (ev 0 y).1
 | fieldAddr t x f=>
  simp only[opE] at hr
  split at hr
  ·rename_i fs n z hti
   refine pur hr rfl fun u hu=>?_
   obtain ⟨fi,hf,hu⟩:=A6.1 hu
   exact ZBI htt hti hf hu (ev 0 x).1 (ev 0 x).2
  ·simp at hr
 | field t x f=>
  simp only[opE] at hr
  split at hr
  ·rename_i fs n z hti
   exact pur hr rfl fun u hu=>ZzE htt hti hu (ev 0 x).1 (ev 0 x).2
  ·simp at hr
 | indexAddr t x i=>
  simp only[opE] at hr
  split at hr
  ·rename_i e m bytes z hti
   exact pur hr rfl fun u hu=>ZBH htt hI hU hti hu (ev 0 x).1 (ev 0 x).2 (ev 0 i).1
  ·simp at hr
 | index t x i=>exact pur hr rfl fun u hu=>ZxJ htt hu (ev 0 x).1 (ev 0 i).1
 | makeFunc fn first caps=>
  cases fn with
  | func f=>
   simp only[opE] at hr
   split at hr
   ·rename_i h0
    obtain ⟨q,hq,hr⟩:=A6.1 hr
    split at hr
    ·rename_i hn
     simp only[A0] at hr;subst hr
     have hf:first=#[]:=by simpa using h0
     have hall:ZL (SVR g w) (caps.toList.map (st.ev tt 0)) (caps.toList.map a.eval):=ZL.of_map _ _ fun x _=>(ev 0 x).1
     refine ZzJ hI hU hq hn hall ?_
     have e1:(caps.toList.map a.eval).toArray=caps.map a.eval:=by apply Aj;simp
     rw [e1]
     simp [execOp,Instr.makeFunc,hf]
    ·simp at hr
   ·simp at hr
  | _=>simp [opE] at hr
 | makeMap t res=>
  cases res with
  | none=>
   simp only[opE] at hr
   exact ZCb htt hI hU hkey hr rfl
  | some _=>simp [opE] at hr
 | lookup t x i ok=>exact pur hr rfl fun u hu=>Zwz htt hI hu (ev 0 x).1 (ev 0 i).1
 | mapUpdate t x i v=>
  simp only[opE] at hr
  obtain ⟨u,hu,rfl⟩:=A4.1 hr
  exact ZyM htt hI hU hu (ev 0 x).1 (ev 0 i).1 (ev 0 v).1 rfl
 | extract x i=>exact pur hr rfl fun u hu=>Zy1 hu (ev 0 x).1 (ev 0 x).2
 | call c=>
  obtain ⟨callee,args,ts⟩:=c
  cases callee with
  | builtin b=>
   simp only[opE] at hr
   have hts:∀l:List TypeId,ts.toList=l→ts=l.toArray:=fun l h=>by rw [←h]
   have one:∀v,evs tt st ts.toList args.toList=[v]→∃x,args=#[x]∧SVR g w v (a.eval x)∧svU U v:=fun v h=>by
    obtain ⟨args⟩:=args
    generalize ts.toList=l at h
    cases args with
    | nil=>cases l<;>simp [evs,Zje] at h
    | cons x xs=>
     cases xs with
     | nil=>
      refine ⟨x,rfl,?_⟩
      cases l with
      | nil=>simp only[evs,Zje,Ai,B2,AU,and_true] at h;rw [←h];exact ev _ _
      | cons t l=>cases l<;>(simp only[evs,Zje,Ai,B2,AU,and_true] at h;rw [←h];exact ev _ _)
     | cons y ys=>cases l with
      | nil=>simp [evs,Zje] at h
      | cons t l=>cases l<;>simp [evs,Zje] at h
   have two:∀v u,evs tt st ts.toList args.toList=[v,u]→∃x y,args=#[x,y]∧(SVR g w v (a.eval x)∧svU U v)∧SVR g w u (a.eval y)∧svU U u:=fun v u h=>by
    obtain ⟨args⟩:=args
    have h2:=congrArg List.length h
    have h3:(evs tt st ts.toList args).length=args.length:=by
     have:=congrArg List.length (ZeZ ts.toList args)
     simpa [evs] using this
    have h4:args.length=2:=by rw [←h3];exact h2
    obtain ⟨x,y,rfl⟩:∃x y,args=[x,y]:=by
     match args,h4 with
     | [x,y],_=>exact ⟨x,y,rfl⟩
    refine ⟨x,y,rfl,?_⟩
    have h5:∃t1 t2,evs tt st ts.toList [x,y]=[st.ev tt t1 x,st.ev tt t2 y]:=by
     generalize ts.toList=l
     cases l with
     | nil=>exact ⟨0,0,rfl⟩
     | cons t1 l=>cases l with
      | nil=>exact ⟨t1,0,rfl⟩
      | cons t2 l=>exact ⟨t1,t2,by cases l<;>rfl⟩
    obtain ⟨t1,t2,h5⟩:=h5
    rw [h5] at h
    simp only[AU,and_true] at h
    rw [←h.1,←h.2]
    exact ⟨ev _ _,ev _ _⟩
   unfold Zp6 at hr
   split at hr
   ·rename_i t _ v he1 he2
    have e1:=hts _ he1
    obtain ⟨x,rfl,hx,_⟩:=one _ he2
    exact pur (s:=Builtin.len_ ts ty #[a.eval x]) hr (by simp [execOp,resolve,invoke,builtin]) fun u hu=>Zzd htt hI (by simp [e1]) hu hx
   ·rename_i t u v1 v2 he1 he2
    have e1:=hts _ he1
    obtain ⟨x,y,rfl,hx,hy⟩:=two _ _ he2
    split at hr
    ·rename_i he
     subst he
     exact Zyu htt hI hU hkey hr hx hy (ty:=ty) (by simp [execOp,resolve,invoke,builtin,e1])
    ·simp at hr
   ·rename_i v1 v2 he2
    obtain ⟨x,y,rfl,hx,hy⟩:=two _ _ he2
    refine pur (s:=Builtin.max_ ts ty #[a.eval x,a.eval y]) hr (by simp [execOp,resolve,invoke,builtin]) fun u hu=>?_
    have:=ZvD (P:=P) (U:=U) (ts:=ts) (ty:=ty) hu hx.1 hy.1
    simpa using this
   ·rename_i v1 v2 he2
    obtain ⟨x,y,rfl,hx,hy⟩:=two _ _ he2
    refine pur (s:=Builtin.min_ ts ty #[a.eval x,a.eval y]) hr (by simp [execOp,resolve,invoke,builtin]) fun u hu=>?_
    have:=ZvD (P:=P) (U:=U) (ts:=ts) (ty:=ty) hu hx.1 hy.1
    simpa using this
   ·simp at hr
  | value f=>simp [opE] at hr
  | invoke r m=>simp [opE] at hr
 | _=>simp [opE] at hr
end
end
section
open Go.RowKit
theorem Zdb {α β:Type} {f h:α→List β}:∀{l:List α},(∀x∈l,f x=h x)→l.flatMap f=l.flatMap h
 | [],_=>rfl
 | x::l,hh=>by rw [AG,AG,hh x (by simp),Zdb fun y m=>hh y (by simp [m])]
def ZkB (w:World) (z:Nat→Prop) (x:Bool × List CT) (v:Value):Prop:=
 (x.1=true∧∃(vs:List Value) (L:List Nat),v=.agg vs.toArray∧RCs w x.2 vs L∧∀b∈L,¬z b)∨(x.1=false∧∃(ct:CT) (L:List Nat),x.2=[ct]∧RC w ct v L∧∀b∈L,¬z b)
def OC (w:World) (B:Nat) (n:Nat→Prop):Bool × CT→Value→List Nat→Prop
 | (false,.sl e m xs),v,F=>0<m∧∃cs L,w.ownsV B e m v xs.length cs∧REs w m xs cs L∧F=v.ownBlock.toList++L∧∀b∈v.ownBlock.toList,n b
 | (false,.int k i),v,F=>RC w (.int k i) v []∧F=[]
 | (false,.bool b),v,F=>RC w (.bool b) v []∧F=[]
 | (false,.str s),v,F=>RC w (.str s) v []∧F=[]
 | (false,.ifc b),v,F=>RC w (.ifc b) v []∧F=[]
 | (false,.any),v,F=>RC w .any v []∧F=[]
 | (false,.pt _),_,_=>False
 | (false,.fn _ _),_,_=>False
 | (false,.mp _ _ _),_,_=>False
 | (false,.nl _ _),_,_=>False
 | (true,x),v,F=>F=[]∧∃L,RC w x v L∧∀b∈L,¬n b
def OCs (w:World) (B:Nat) (n:Nat→Prop):List (Bool × CT)→List Value→List Nat→Prop
 | [],vs,F=>vs=[]∧F=[]
 | x::r,vs,F=>∃v vs' F1 F2,vs=v::vs'∧F=F1++F2∧OC w B n x v F1∧OCs w B n r vs' F2
def OP (w:World) (B:Nat) (n:Nat→Prop) (x:RT) (v:Value) (F:List Nat):Prop:=
 (x.1=true∧∃vs:List Value,v=.agg vs.toArray∧OCs w B n x.2 vs F)∨(x.1=false∧∃ct,x.2=[ct]∧OC w B n ct v F)
def OPs (w:World) (B:Nat) (n:Nat→Prop):List RT→List Value→List Nat→Prop
 | [],vs,F=>vs=[]∧F=[]
 | x::r,vs,F=>∃v vs' F1 F2,vs=v::vs'∧F=F1++F2∧OP w B n x v F1∧OPs w B n r vs' F2
def ZjD (w:World) (B:Nat) (n:Nat→Prop) (res:List RT) (v:Value):Prop:=
 ∃(vs:List Value) (F:List Nat),OPs w B n res vs F∧Own w B F∧v=(if h:vs.toArray.size=1 then vs.toArray[0] else .tuple vs.toArray)
def ZdV (P : Program) (f : FuncId) : Prop := ∃ fn, P.funcs[f]? = some fn ∧ (fn.name == "runtime.NumGoroutine") = false ∧ fn.body.isNone = false
def Zk (P:Program) (J:World→Prop) (f:FuncId) (args:List (Bool × List CT)) (res:List RT):Prop:=
 ZdV P f∧∀(w:World) (z:Nat→Prop) (vs:List Value),J w→(∀b,z b→b<w.heap.size)→ZL (ZkB w z) args vs→Calls P f vs.toArray w fun e w'=>∃v n,e=.returned v∧ZjD w' w.heap.size n res v∧(∀b,z b→n b)∧Below w.heap.size w w'
def ZnA (w:World) (z:Nat→Prop) (q:Option Nat):ZgU→Value→Prop
 | .row e m xs,v=>ZaN xs=true∧0<m∧v.ownBlock=q∧∃cs,w.ownsV 0 e m v xs.length cs∧REs w m xs cs []
 | .box t cs,v=>∃b vs L,q=some b∧v=.pointer (some ⟨b,0,none⟩)∧w.heap[b]?=some (.cells (vs:List Value).toArray t (0,0))∧RCs w cs vs L∧∀a∈L,¬z a
def inQ (z:Nat→Prop) (q:Option Nat) (a:Nat):Prop:=z a∨q=some a
structure Zzh (q:Option Nat) (w w':World):Prop where
 os:w'.os=w.os
 tape:w'.tape=w.tape
 output:w'.output=w.output
 size:w.heap.size≤w'.heap.size
 block:∀k,k<w.heap.size→¬q=some k→w'.heap[k]?=w.heap[k]?
def Zbx (P:Program) (J:World→Prop) (JF:Nat→Prop) (f:FuncId) (h:ZgU) (args:List (Bool × List CT)) (res:List RT) (h':ZgU):Prop:=
 ZdV P f∧∀(w:World) (z:Nat→Prop) (q:Option Nat) (v0:Value) (vs:List Value),J w→(∀b,q=some b→JF b)→(∀b,z b→b<w.heap.size∧¬q=some b)→ZnA w (inQ z q) q h v0→ZL (ZkB w (inQ z q)) args vs→
  Calls P f (v0::vs).toArray w fun e w'=>∃v n,e=.returned v∧ZjD w' w.heap.size n res v∧(∀b,inQ z q b→n b)∧ZnA w' n q h' v0∧Zzh q w w'
def Zol (b:Nat):NB→Value
 | .box _ _=>.pointer (some ⟨b,0,none⟩)
 | .map _ _ _=>.map (some b)
def nbR (w:World) (n:Nat→Prop) (b:Nat):NB→Prop
 | .box t cs=>∃us L,w.heap[b]?=some (.cells (us:List Value).toArray t (0,0))∧RCs w cs us L∧∀x∈L,¬n x
 | .map kk vk kv=>∃es c,w.heap[b]?=some (.map es c)∧Zc7 es=kv∧Zix kk vk kv
def Zmx (P:Program) (J:World→Prop) (f:FuncId) (args:List (Bool × List CT)) (nb:NB):Prop:=
 ZdV P f∧∀(w:World) (z:Nat→Prop) (vs:List Value),J w→(∀b,z b→b<w.heap.size)→ZL (ZkB w z) args vs→
  Calls P f vs.toArray w fun e w'=>∃(b:Nat) (n:Nat→Prop),e=.returned (Zol b nb)∧w.heap.size≤b∧nbR w' n b nb∧n b∧(∀x,z x→n x)∧Below w.heap.size w w'
def SC (P:Program) (J:World→Prop) (JF:Nat→Prop) (hd:FuncId→Nat):Ctx:=⟨Zk P J,Zbx P J JF,hd,Zmx P J⟩
structure MOk (P:Program) (J:World→Prop) (JF:Nat→Prop) (W:Zaa) (tt:Nat→Option TI):Prop where
 tt:∀t i,tt t=some i→TOk P t i
 jb:∀w:World,Bel W w→J w
 jf:∀b,W.heap.size≤b→JF b
 xf:∀b,W.x b→JF b
section
variable {P:Program} {J:World→Prop} {W:Zaa} {U:Nat→Prop} {key:Nat} {st:St} {g:Gh} {w w':World} {a:Act} {tt:Nat→Option TI}
theorem MOk.at {JF:Nat→Prop} (h:MOk P J JF W tt) (hb:Bel W w):J w:=h.jb _ hb
def ZvW (ob:Nat→Ob):AV→Prop
 | .row k=>∃e m xs,ob k=.row e m xs 0
 | _=>True
theorem ZpW [NW] (hI:HI W g st.ob w) {x:AV} {ct:CT} {v:Value} (h:ZbE st x=some ct) (hx:AVR g w x v):∃L,RC w ct v L∧(ZvW st.ob x→∀b∈L,¬g.own b):=by
 cases x with
 | c y=>simp only[ZbE,A0] at h;subst h;obtain ⟨L,h1,h2⟩:=hx;exact ⟨L,h1,fun _=>h2⟩
 | row k=>
  simp only[ZbE] at h
  split at h
  ·rename_i e m xs d hk
   simp only[A0] at h;subst h
   obtain ⟨hm,cs,L1,o1,o2,o3,o5⟩:=hI.deep hk
   obtain ⟨A,cap,L0,s1,s2,s3,s4,s5⟩:=Sl.row o1
   refine ⟨L0++L1,⟨A,cap,cs,L0,L1,by rw [hx.1,s1],s2,s3,rfl,hm,s4,o2⟩,?_⟩
   rintro ⟨e',m',xs',h0⟩ b mb
   rw [hk] at h0
   have hd:d=0:=by simp at h0;exact h0.2.2.2
   rcases A3.1 mb with m1 | m1
   ·rcases o5 with ⟨q,_⟩ | ⟨q,_⟩ | ⟨_,_,_,q⟩
    ·omega
    ·omega
    ·exact q b (s5.subset m1)
   ·exact o3 b m1
  ·simp at h
 | nil e m=>
  simp only[ZbE] at h
  split at h
  ·rename_i hm
   simp only[A0] at h;subst h
   exact ⟨[],⟨none,0,[],[],[],hx,by simp,AC _,rfl,hm,Sl.zero,rfl,rfl⟩,by simp⟩
  ·simp at h
 | n y=>simp only[ZbE,A0] at h;subst h;obtain ⟨L,h1,h2⟩:=NR.toC hx;exact ⟨L,h1,fun _=>h2⟩
 | dead=>simp [ZbE] at h
theorem ZeF [NW] (hI:HI W g st.ob w):∀{xs:List AV} {cts:List CT} {vs:List Value},YG st xs=some cts→ZL (AVR g w) xs vs→∃L,RCs w cts vs L∧((∀x∈xs,ZvW st.ob x)→∀b∈L,¬g.own b)
 | [],_,[],h,_=>by simp [YG] at h;subst h;exact ⟨[],⟨rfl,rfl⟩,by simp⟩
 | [],_,_::_,_,h=>h.elim
 | _::_,_,[],_,h=>h.elim
 | x::r,cts,v::vs,h,hr=>by
  simp only[YG] at h
  obtain ⟨c1,h1,h⟩:=A6.1 h
  obtain ⟨c2,h2,rfl⟩:=A4.1 h
  obtain ⟨L1,a1,b1⟩:=ZpW hI h1 hr.1
  obtain ⟨L2,a2,b2⟩:=ZeF hI h2 hr.2
  refine ⟨L1++L2,⟨v,vs,L1,L2,rfl,rfl,a1,a2⟩,fun ho b mb=>?_⟩
  rcases A3.1 mb with m | m
  ·exact b1 (ho x (by simp)) b m
  ·exact b2 (fun y my=>ho y (by simp [my])) b m
def ZtR (ob:Nat→Ob):SV→Prop
 | .p _ cs=>∀x∈cs,ZvW ob x
 | _=>True
theorem Zwd [NW] (hI:HI W g st.ob w) {x:SV} {r:Bool × List CT} {v:Value} (h:ZcN st x=some r) (hx:SVR g w x v) {z:Nat→Prop} (hz:(∀b,¬z b)∨(ZtR st.ob x∧∀b,z b→g.own b)):ZkB w z r v:=by
 cases x with
 | p ag cs=>
  simp only[ZcN] at h
  obtain ⟨l,hl,rfl⟩:=A4.1 h
  have av:∀{L:List Nat},((∀x∈cs,ZvW st.ob x)→∀b∈L,¬g.own b)→∀b∈L,¬z b:=fun hL b mb=>by
   rcases hz with hz | ⟨h1,h2⟩
   ·exact hz b
   ·exact fun hb=>hL h1 b mb (h2 b hb)
  cases ag with
  | true=>
   obtain ⟨vs,rfl,h2⟩:=hx
   obtain ⟨L,hL,hL2⟩:=ZeF hI hl h2
   exact .inl ⟨rfl,vs,L,rfl,hL,av hL2⟩
  | false=>
   obtain ⟨y,rfl,h2⟩:=hx
   simp only[YG] at hl
   obtain ⟨c1,h1,hl⟩:=A6.1 hl
   simp at hl;subst hl
   obtain ⟨L1,a1,b1⟩:=ZpW hI h1 h2
   exact .inr ⟨rfl,c1,L1,rfl,a1,av fun ho=>b1 (ho y (by simp))⟩
 | _=>simp [ZcN] at h
theorem Zc2 [NW] (hI:HI W g st.ob w) {z:Nat→Prop}:∀{xs:List SV} {l:List (Bool × List CT)} {vs:List Value},Z1 st xs=some l→ZL (SVR g w) xs vs→((∀b,¬z b)∨((∀x∈xs,ZtR st.ob x)∧∀b,z b→g.own b))→ZL (ZkB w z) l vs
 | [],_,[],h,_,_=>by simp [Z1] at h;subst h;trivial
 | [],_,_::_,_,h,_=>h.elim
 | _::_,_,[],_,h,_=>h.elim
 | x::r,l,v::vs,h,hr,hz=>by
  simp only[Z1] at h
  obtain ⟨c1,h1,h⟩:=A6.1 h
  obtain ⟨c2,h2,rfl⟩:=A4.1 h
  exact ⟨Zwd hI h1 hr.1 (hz.imp id fun q=>⟨q.1 x (by simp),q.2⟩),Zc2 hI h2 hr.2 (hz.imp id fun q=>⟨fun y my=>q.1 y (by simp [my]),q.2⟩)⟩
theorem Zxf {vs:List SV} {ob:Nat→Ob} (h:vs.all Zha=true):∀x∈vs,ZtR ob x:=fun x mx=>by
 have hx:=AW.1 h x mx
 cases x with
 | p ag cs=>
  intro y my
  have hy:=AW.1 hx y my
  cases y with
  | row k=>simp [Zaw] at hy
  | _=>trivial
 | _=>trivial
def CR (val:Nat→Value) (w:World) (n:Nat→Prop) (l:Bool) (lo hi:Nat):AV→Value→Prop
 | .row k,v=>lo≤k∧k<hi∧v=val k∧v.oneCell'=true
 | .c x,v=>∃L,RC w x v L∧∀b∈L,l=true∧¬n b
 | _,_=>False
structure Zrw (w:World) (B lo hi:Nat) (n:Nat→Prop) (up:List (Nat × Ob)) (F:List Nat) (val:Nat→Value) (O D:Nat→List Nat):Prop where
 le:lo≤hi
 at_:∀k,lo≤k→k<hi→∃e m xs cs,(∀ob,Zp ob up k=.row e m xs 2)∧0<m∧w.ownsV B e m (val k) xs.length cs∧REs w m xs cs (D k)∧O k=(val k).ownBlock.toList∧∀b∈O k,n b
 out:∀k,¬(lo≤k∧k<hi)→∀ob,Zp ob up k=ob k
 foot:F=(AI lo (hi - lo)).flatMap fun k=>O k++D k
theorem Zrw.join [NW] {B lo mid hi:Nat} {n:Nat→Prop} {u1 u2:List (Nat × Ob)} {F1 F2:List Nat} {v1 v2:Nat→Value} {O1 O2 D1 D2:Nat→List Nat} (h1:Zrw w B lo mid n u1 F1 v1 O1 D1) (h2:Zrw w B mid hi n u2 F2 v2 O2 D2):
  Zrw w B lo hi n (u1++u2) (F1++F2) (fun k=>if k<mid then v1 k else v2 k) (fun k=>if k<mid then O1 k else O2 k) (fun k=>if k<mid then D1 k else D2 k):=by
 have hl:=h1.le
 have hr:=h2.le
 refine ⟨by omega,fun k a b=>?_,fun k hk ob=>?_,?_⟩
 ·by_cases hk:k<mid
  ·obtain ⟨e,m,xs,cs,p1,p2⟩:=h1.at_ k a hk
   simp only[hk,if_true]
   exact ⟨e,m,xs,cs,fun ob=>by rw [YR,h2.out k (by omega)];exact p1 ob,p2⟩
  ·obtain ⟨e,m,xs,cs,p1,p2⟩:=h2.at_ k (by omega) b
   simp only[hk,if_false]
   exact ⟨e,m,xs,cs,fun ob=>by rw [YR];exact p1 _,p2⟩
 ·rw [YR,h2.out k (by omega),h1.out k (by omega)]
 ·rw [h1.foot,h2.foot,show hi - lo=(mid - lo)+(hi - mid) by omega,←List.range'_append_1,Ab,show lo+(mid - lo)=mid by omega]
  congr 1
  ·refine Zdb fun k hk=>?_
   have:=(AX.1 hk).2
   simp [show k<mid by omega]
  ·refine Zdb fun k hk=>?_
   have:=(AX.1 hk).1
   simp [show ¬k<mid by omega]
theorem CR.mono {val val':Nat→Value} {n:Nat→Prop} {l:Bool} {lo hi lo' hi':Nat} {x:AV} {v:Value} (h:CR val w n l lo hi x v) (hl:lo'≤lo) (hh:hi≤hi') (hv:∀k,lo≤k→k<hi→val' k=val k):CR val' w n l lo' hi' x v:=by
 cases x with
 | row k=>obtain ⟨a,b,c,d⟩:=h;exact ⟨by omega,by omega,by rw [hv k a b];exact c,d⟩
 | c x=>exact h
 | n _=>exact h.elim
 | nil _ _=>exact h.elim
 | dead=>exact h.elim
theorem Zaf [NW] {B:Nat} {n:Nat→Prop} {l:Bool}:∀{cts:List (Bool × CT)} {vs:List Value} {F:List Nat} (key:Nat),OCs w B n cts vs F→(ZbU cts=true→l=true)→∃val O D,Zrw w B key (Ya key cts).2.2 n (Ya key cts).2.1 F val O D∧ZL (CR val w n l key (Ya key cts).2.2) (Ya key cts).1 vs
 | [],vs,F,key,h,_=>by
  obtain ⟨rfl,rfl⟩:=h
  exact ⟨fun _=>undef,fun _=>[],fun _=>[],⟨A7 _,fun k a b=>by simp [Ya] at b;omega,fun _ _ _=>rfl,by simp [Ya]⟩,trivial⟩
 | (true,x)::r,_,_,key,⟨v,vs,F1,F2,rfl,rfl,h1,h2⟩,hl=>by
  obtain ⟨rfl,L,h3,h4⟩:=h1
  obtain ⟨val,O,D,hb,hr⟩:=Zaf (l:=l) key h2 fun e=>hl (by simp [ZbU])
  exact ⟨val,O,D,by simpa [Ya] using hb,⟨⟨L,h3,fun b mb=>⟨hl (by simp [ZbU]),h4 b mb⟩⟩,hr⟩⟩
 | (false,.sl e m xs)::r,_,_,key,⟨v,vs,F1,F2,rfl,rfl,h1,h2⟩,hl=>by
  obtain ⟨hm,cs,L,o1,o2,rfl,o3⟩:=h1
  obtain ⟨val,O,D,hb,hr⟩:=Zaf (l:=l) (key+1) h2 fun e=>hl (by simpa [ZbU] using e)
  have hone:Zrw w B key (key+1) n [(key,.row e m xs 2)] (v.ownBlock.toList++L) (fun _=>v) (fun _=>v.ownBlock.toList) (fun _=>L):=
   ⟨by omega,fun k a b=>⟨e,m,xs,cs,fun ob=>by simp [Zp,upd,show k=key by omega],hm,o1,o2,rfl,o3⟩,fun k hk ob=>by simp [Zp,upd,show ¬k=key by omega],by simp⟩
  refine ⟨_,_,_,hone.join hb,⟨?_,hr.mono fun x u _ hx=>hx.mono (by omega) (A7 _) fun k a b=>by simp [show ¬k<key+1 by omega]⟩⟩
  have hle:=hb.le
  obtain ⟨A,cap,hv⟩:=Zax o1
  exact ⟨A7 _,by simp only[Ya];omega,by simp,by simp [hv,Value.oneCell']⟩
 | (false,.int k i)::r,_,_,key,⟨v,vs,F1,F2,rfl,rfl,h1,h2⟩,hl=>by
  obtain ⟨h1,rfl⟩:=h1
  obtain ⟨val,O,D,hb,hr⟩:=Zaf (l:=l) key h2 fun e=>hl (by simpa [ZbU] using e)
  exact ⟨val,O,D,by simpa [Ya] using hb,⟨⟨[],h1,by simp⟩,hr⟩⟩
 | (false,.bool k)::r,_,_,key,⟨v,vs,F1,F2,rfl,rfl,h1,h2⟩,hl=>by
  obtain ⟨h1,rfl⟩:=h1
  obtain ⟨val,O,D,hb,hr⟩:=Zaf (l:=l) key h2 fun e=>hl (by simpa [ZbU] using e)
  exact ⟨val,O,D,by simpa [Ya] using hb,⟨⟨[],h1,by simp⟩,hr⟩⟩
 | (false,.str s)::r,_,_,key,⟨v,vs,F1,F2,rfl,rfl,h1,h2⟩,hl=>by
  obtain ⟨h1,rfl⟩:=h1
  obtain ⟨val,O,D,hb,hr⟩:=Zaf (l:=l) key h2 fun e=>hl (by simpa [ZbU] using e)
  exact ⟨val,O,D,by simpa [Ya] using hb,⟨⟨[],h1,by simp⟩,hr⟩⟩
 | (false,.ifc s)::r,_,_,key,⟨v,vs,F1,F2,rfl,rfl,h1,h2⟩,hl=>by
  obtain ⟨h1,rfl⟩:=h1
  obtain ⟨val,O,D,hb,hr⟩:=Zaf (l:=l) key h2 fun e=>hl (by simpa [ZbU] using e)
  exact ⟨val,O,D,by simpa [Ya] using hb,⟨⟨[],h1,by simp⟩,hr⟩⟩
 | (false,.any)::r,_,_,key,⟨v,vs,F1,F2,rfl,rfl,h1,h2⟩,hl=>by
  obtain ⟨h1,rfl⟩:=h1
  obtain ⟨val,O,D,hb,hr⟩:=Zaf (l:=l) key h2 fun e=>hl (by simpa [ZbU] using e)
  exact ⟨val,O,D,by simpa [Ya] using hb,⟨⟨[],h1,by simp⟩,hr⟩⟩
 | (false,.pt _)::r,_,_,key,⟨v,vs,F1,F2,rfl,rfl,h1,h2⟩,hl=>h1.elim
 | (false,.fn _ _)::r,_,_,key,⟨v,vs,F1,F2,rfl,rfl,h1,h2⟩,hl=>h1.elim
 | (false,.mp _ _ _)::r,_,_,key,⟨v,vs,F1,F2,rfl,rfl,h1,h2⟩,hl=>h1.elim
 | (false,.nl _ _)::r,_,_,key,⟨v,vs,F1,F2,rfl,rfl,h1,h2⟩,hl=>h1.elim
def PR (val:Nat→Value) (w:World) (n:Nat→Prop) (l:Bool) (lo hi:Nat) (x:Bool × List AV) (v:Value):Prop:=
 (x.1=true∧∃vs:List Value,v=.agg vs.toArray∧ZL (CR val w n l lo hi) x.2 vs)∨(x.1=false∧∃y,x.2=[y]∧CR val w n l lo hi y v)
theorem PR.mono [NW] {val val':Nat→Value} {n:Nat→Prop} {l:Bool} {lo hi lo' hi':Nat} {x:Bool × List AV} {v:Value} (h:PR val w n l lo hi x v) (hl:lo'≤lo) (hh:hi≤hi') (hv:∀k,lo≤k→k<hi→val' k=val k):PR val' w n l lo' hi' x v:=by
 rcases h with ⟨h1,vs,h2,h3⟩ | ⟨h1,y,h2,h3⟩
 ·exact .inl ⟨h1,vs,h2,h3.mono fun a b _ hab=>hab.mono hl hh hv⟩
 ·exact .inr ⟨h1,y,h2,h3.mono hl hh hv⟩
theorem ZoB [NW] {B:Nat} {n:Nat→Prop} {l:Bool}:∀{res:List RT} {vs:List Value} {F:List Nat} (key:Nat),OPs w B n res vs F→(ZcK res=true→l=true)→∃val O D,Zrw w B key (ZH key res).2.2 n (ZH key res).2.1 F val O D∧ZL (PR val w n l key (ZH key res).2.2) (ZH key res).1 vs
 | [],vs,F,key,h,_=>by
  obtain ⟨rfl,rfl⟩:=h
  exact ⟨fun _=>undef,fun _=>[],fun _=>[],⟨A7 _,fun k a b=>by simp [ZH] at b;omega,fun _ _ _=>rfl,by simp [ZH]⟩,trivial⟩
 | x::r,_,_,key,⟨v,vs,F1,F2,rfl,rfl,h1,h2⟩,hl=>by
  have hl1:ZbU x.2=true→l=true:=fun e=>hl (by simp [ZcK,e])
  have hl2:ZcK r=true→l=true:=fun e=>hl (by simp [ZcK,e])
  have hx:∃val O D,Zrw w B key (Ya key x.2).2.2 n (Ya key x.2).2.1 F1 val O D∧PR val w n l key (Ya key x.2).2.2 (x.1,(Ya key x.2).1) v:=by
   rcases h1 with ⟨hx,us,rfl,hc⟩ | ⟨hx,ct,he,hc⟩
   ·obtain ⟨val,O,D,hb,hr⟩:=Zaf key hc hl1
    exact ⟨val,O,D,hb,.inl ⟨hx,us,rfl,hr⟩⟩
   ·obtain ⟨val,O,D,hb,hr⟩:=Zaf (cts:=x.2) (vs:=[v]) (F:=F1) key (by rw [he];exact ⟨v,[],F1,[],rfl,by simp,hc,rfl,rfl⟩) hl1
    refine ⟨val,O,D,hb,.inr ⟨hx,?_⟩⟩
    generalize (Ya key x.2).1=l at hr
    cases l with
    | nil=>exact hr.elim
    | cons y l=>
     cases l with
     | nil=>exact ⟨y,rfl,hr.1⟩
     | cons _ _=>exact hr.2.elim
  obtain ⟨val,O,D,hb,hp⟩:=hx
  obtain ⟨val2,O2,D2,hb2,hr2⟩:=ZoB (Ya key x.2).2.2 h2 hl2
  have hle2:=hb2.le
  have hle:=hb.le
  refine ⟨_,_,_,hb.join hb2,⟨hp.mono (A7 _) hle2 fun k a b=>by simp [b],hr2.mono fun y u _ hy=>hy.mono hle (A7 _) fun k a b=>by simp [show ¬k<(Ya key x.2).2.2 by omega]⟩⟩
theorem Zr0 {n:Nat} {G:Nat→List Nat}:∀{lo:Nat},((AI lo n).flatMap G).Nodup→(∀k,lo≤k→k<lo+n→(G k).Nodup)∧∀k j,lo≤k→k<lo+n→lo≤j→j<lo+n→k≠j→∀b∈G k,b∉G j:=by
 induction n with
 | zero=>intro lo _;exact ⟨fun k a b=>by omega,fun k j a b=>by omega⟩
 | succ n ih=>
  intro lo h
  rw [Ad,AG,AF] at h
  obtain ⟨h1,h2,h3⟩:=h
  obtain ⟨i1,i2⟩:=ih h2
  have mem:∀k,lo+1≤k→k<lo+1+n→∀b∈G k,b∈(AI (lo+1) n).flatMap G:=fun k a b x mx=>A9.2 ⟨k,AX.2 ⟨a,b⟩,mx⟩
  refine ⟨fun k a b=>?_,fun k j a b a' b' hkj x mx mj=>?_⟩
  ·by_cases e:k=lo
   ·subst e;exact h1
   ·exact i1 k (by omega) (by omega)
  ·by_cases e:k=lo
   ·subst e
    exact h3 x mx x (mem j (by omega) (by omega) x mj) rfl
   ·by_cases e':j=lo
    ·subst e'
     exact h3 x mj x (mem k (by omega) (by omega) x mx) rfl
    ·exact i2 k j (by omega) (by omega) (by omega) (by omega) hkj x mx mj
theorem Zht [NW] {ob:Nat→Ob} (hI:HI W g ob w) (hobU:∀k,obU U (ob k)) (hgone:∀k,¬U k→ob k=.gone) (hkey:∀k,key≤k→k<key+16→¬U k) {res:List RT} {v:Value} {n:Nat→Prop} (hr:ZjD w' w.heap.size n res v) (hn:(ZH key res).2.2≤key+16)
  (H:Nat→Prop) (hHU:∀k,H k→U k) (obH:Nat→Ob) (hlen:ZcK res=true→∀b,g.own b→n b)
  (hbel:Bel W w') (hsz:w.heap.size≤w'.heap.size) (hw:∀b,b<w.heap.size→(∀k,H k→b∉g.O k)→w'.heap[b]?=w.heap[b]?)
  (hobH:∀k,H k→obU (Uk U key) (obH k)) (hH:∀g':Gh,(∀b,g'.own b→g.own b∨((∃k,b∈g'.O k)∧w.heap.size≤b∧n b))→(∀k,H k→g'.val k=g.val k∧g'.O k=g.O k∧g'.D k=g.D k)→∀k,H k→ObR g' w' k (obH k)∧∀b∈g.O k++g.D k,Xx w' (obH k) b):
  ∃g',HI W g' (fun k=>Zp (fun j=>open Classical in if H j then obH j else ob j) (ZH key res).2.1 k) w'∧SVR g' w' (ZcL (ZH key res).1) v∧(∀x u,svU U x→SVR g w x u→SVR g' w' x u)∧svU (Uk U key) (ZcL (ZH key res).1)∧
   (∀k,obU (Uk U key) (Zp (fun j=>open Classical in if H j then obH j else ob j) (ZH key res).2.1 k))∧∀k,¬Uk U key k→Zp (fun j=>open Classical in if H j then obH j else ob j) (ZH key res).2.1 k=.gone:=by
 classical
 obtain ⟨vs,F,h1,hF,hv⟩:=hr
 obtain ⟨val,O,D,hB,hA⟩:=ZoB (l:=ZcK res) key h1 id
 generalize (ZH key res).2.2=hi at *
 generalize (ZH key res).2.1=up at *
 generalize (ZH key res).1=xs at *
 have hle:=hB.le
 let T:Nat→Prop:=fun k=>key≤k∧k<hi
 have hTU:∀k,T k→¬U k:=fun k hk=>hkey k hk.1 (by have:=hk.2;omega)
 let g':Gh:=⟨fun k=>if key≤k∧k<hi then val k else g.val k,fun k=>if key≤k∧k<hi then O k else g.O k,fun k=>if key≤k∧k<hi then D k else g.D k,g.Z⟩
 have gT:∀k,T k→g'.val k=val k∧g'.O k=O k∧g'.D k=D k:=fun k hk=>⟨if_pos hk,if_pos hk,if_pos hk⟩
 have gN:∀k,¬T k→g'.val k=g.val k∧g'.O k=g.O k∧g'.D k=g.D k:=fun k hk=>⟨if_neg hk,if_neg hk,if_neg hk⟩
 have hTH:∀k,H k→¬T k:=fun k hk ht=>hTU k ht (hHU k hk)
 have hmemF:∀k,T k→∀b∈O k++D k,b∈F:=fun k hk b mb=>by
  rw [hB.foot]
  exact A9.2 ⟨k,AX.2 ⟨hk.1,by have:=hk.2;omega⟩,mb⟩
 have hge:∀k,T k→∀b∈O k++D k,w.heap.size≤b:=fun k hk b mb=>hF.ge b (hmemF k hk b mb)
 have hnd:=Zr0 (hB.foot ▸ hF.nodup)
 have hval:∀k,U k→g'.val k=g.val k:=fun k hk=>(gN k fun h=>hTU k h hk).1
 have hown2:∀b,g'.own b→g.own b∨((∃k,b∈g'.O k)∧w.heap.size≤b∧n b):=fun b hb=>by
  rcases hb with ⟨k,mk⟩ | hz
  ·by_cases hk:T k
   ·have mk':=mk
    rw [(gT k hk).2.1] at mk'
    obtain ⟨e,m,ys,cs,_,_,_,_,_,p6⟩:=hB.at_ k hk.1 hk.2
    exact .inr ⟨⟨k,mk⟩,hge k hk b (by simp [mk']),p6 b mk'⟩
   ·rw [(gN k hk).2.1] at mk;exact .inl (.inl ⟨k,mk⟩)
  ·exact .inl (.inr hz)
 have hown:Qj g g' w.heap.size:=.of (fun b hb=>(hown2 b hb).imp id fun h=>h.2.1) fun j b mb=>by
  by_cases hj:T j
  ·rw [(gT j hj).2.2] at mb
   exact .inr (hge j hj b (by simp [mb]))
  ·rw [(gN j hj).2.2] at mb;exact .inl (.inr ⟨j,mb⟩)
 have hw':∀b,b<w.heap.size→¬g.own b→w'.heap[b]?=w.heap[b]?:=fun b hb hnb=>hw b hb fun k _ mk=>hnb (.inl ⟨k,mk⟩)
 have hmove:∀x u,svU U x→SVR g w x u→SVR g' w' x u:=fun x u hx hu=>hu.move hx hval hw' hown hsz
 have hout:∀k,¬T k→Zp (fun j=>if H j then obH j else ob j) up k=if H k then obH k else ob k:=fun k hk=>hB.out k hk _
 have hHI:HI W g' (Zp (fun j=>if H j then obH j else ob j) up) w':=by
  refine hI.step (U:=U) (fun k=>T k∨H k) hbel rfl (fun b hb' hq=>hw b hb' fun k hk=>hq k (.inr hk)) (fun k hk=>?_) hobU hval hown (fun k hk=>?_)
  ·have k1:¬T k:=fun h=>hk (.inl h)
   have k2:¬H k:=fun h=>hk (.inr h)
   exact ⟨by rw [hout k k1,if_neg k2],gN k k1⟩
  ·by_cases hTk:T k
   ·obtain ⟨e1,e2,e3⟩:=gT k hTk
    obtain ⟨e,m,ys,cs,p1,p2,p3,p4,p5,_⟩:=hB.at_ k hTk.1 hTk.2
    rw [p1,e2,e3]
    refine ⟨⟨p2,cs,D k,?_,p4,.inl ⟨rfl,by rw [e1,e2];exact p5,e3⟩⟩,hnd.1 k hTk.1 (by have:=hTk.2;omega),fun b mb=>?_,fun j hj b mb mj=>?_⟩
    ·rw [e1];exact ZrV p3 (AC _)
    ·exact ⟨.inl (AK hI.below.size (hge k hTk b mb)),hF.plain b (hmemF k hTk b mb)⟩
    ·by_cases hTj:T j
     ·rw [(gT j hTj).2.1,(gT j hTj).2.2] at mj
      exact hnd.2 k j hTk.1 (by have:=hTk.2;omega) hTj.1 (by have:=hTj.2;omega) hj b mb mj
     ·rw [(gN j hTj).2.1,(gN j hTj).2.2] at mj
      have:=hI.lt j b mj
      have:=hge k hTk b mb
      omega
   ·have hHk:H k:=hk.resolve_left hTk
    obtain ⟨e1,e2,e3⟩:=gN k hTk
    obtain ⟨q1,q2⟩:=hH g' hown2 (fun j hj=>gN j (hTH j hj)) k hHk
    rw [hout k hTk,if_pos hHk,e2,e3]
    refine ⟨q1,hI.nodup k,fun b mb=>⟨(hI.plain k b mb).1,q2 b mb⟩,fun j hj b mb mj=>?_⟩
    by_cases hTj:T j
    ·rw [(gT j hTj).2.1,(gT j hTj).2.2] at mj
     have:=hI.lt k b mb
     have:=hge j hTj b mj
     omega
    ·rw [(gN j hTj).2.1,(gN j hTj).2.2] at mj
     exact hI.apart k j hj b mb mj
 have hAV:∀x u,CR val w' n (ZcK res) key hi x u→AVR g' w' x u∧avU (Uk U key) x:=fun x u h=>by
  cases x with
  | row k=>
   obtain ⟨c1,c2,c3,c4⟩:=h
   exact ⟨⟨by rw [(gT k ⟨c1,c2⟩).1];exact c3,c4⟩,.inr ⟨c1,by omega⟩⟩
  | c x=>
   obtain ⟨L,h1,h2⟩:=h
   refine ⟨⟨L,h1,fun b mb o=>?_⟩,trivial⟩
   rcases hown2 b o with o | o
   ·exact (h2 b mb).2 (hlen (h2 b mb).1 b o)
   ·exact (h2 b mb).2 o.2.2
  | n _=>exact h.elim
  | nil _ _=>exact h.elim
  | dead=>exact h.elim
 have hAVs:∀(ys:List AV) (us:List Value),ZL (CR val w' n (ZcK res) key hi) ys us→ZL (AVR g' w') ys us∧Qn (Uk U key) ys:=fun ys us h=>by
  induction ys generalizing us with
  | nil=>cases us with
   | nil=>exact ⟨trivial,fun _ m=>by simp at m⟩
   | cons _ _=>exact h.elim
  | cons y ys ih=>cases us with
   | nil=>exact h.elim
   | cons u us=>
    obtain ⟨i1,i2⟩:=ih us h.2
    refine ⟨⟨(hAV y u h.1).1,i1⟩,fun z mz=>?_⟩
    rcases A8.1 mz with rfl | mz
    ·exact (hAV z u h.1).2
    ·exact i2 z mz
 have hPV:∀(y:Bool × List AV) (u:Value),PR val w' n (ZcK res) key hi y u→PVR g' w' y.1 y.2 u∧Qn (Uk U key) y.2:=fun y u h=>by
  rcases h with ⟨h1,us,rfl,h3⟩ | ⟨h1,z,h2,h3⟩
  ·obtain ⟨i1,i2⟩:=hAVs _ _ h3
   exact ⟨by rw [h1];exact ⟨us,rfl,i1⟩,i2⟩
  ·obtain ⟨i1,i2⟩:=hAV z u h3
   exact ⟨by rw [h1];exact ⟨z,h2,i1⟩,by rw [h2];intro q mq;simp at mq;subst mq;exact i2⟩
 have hres:SVR g' w' (ZcL xs) v∧svU (Uk U key) (ZcL xs):=by
  have hlen:=hA.len
  by_cases hl:xs.length=1
  ·obtain ⟨x,rfl⟩:=List.length_eq_one_iff.1 hl
   cases vs with
   | nil=>simp at hlen
   | cons u us=>
    cases us with
    | cons _ _=>simp at hlen
    | nil=>
     have hvu:v=u:=by rw [hv];rfl
     rw [hvu]
     exact hPV x u hA.1
  ·have hvs:¬vs.toArray.size=1:=by simp;omega
   rw [dif_neg hvs] at hv
   have e:ZcL xs=.tup xs:=by
    cases xs with
    | nil=>rfl
    | cons x xs=>cases xs with
     | nil=>simp at hl
     | cons _ _=>rfl
   rw [e]
   refine ⟨⟨vs,hv,hA.mono fun y u _ h=>(hPV y u h).1⟩,fun y my=>?_⟩
   obtain ⟨i,hi'⟩:=List.mem_iff_getElem?.1 my
   obtain ⟨u,_,hu⟩:=hA.at hi'
   exact (hPV y u hu).2
 refine ⟨g',hHI,hres.1,hmove,hres.2,fun k=>?_,fun k hk=>?_⟩
 ·by_cases hTk:T k
  ·obtain ⟨e,m,ys,cs,p1,_⟩:=hB.at_ k hTk.1 hTk.2
   rw [p1];trivial
  ·rw [hout k hTk]
   split
   ·rename_i hHk;exact hobH k hHk
   ·exact (hobU k).mono fun _=>.inl
 ·have hTk:¬T k:=fun hTk=>hk (.inr ⟨hTk.1,by have:=hTk.2;omega⟩)
  have hHk:¬H k:=fun h=>hk (.inl (hHU k h))
  rw [hout k hTk,if_neg hHk]
  exact hgone k fun h=>hk (.inl h)
theorem ZkS [NW] (st:St):∀(ks:List Nat) {g:Gh} {ob:Nat→Ob},HI W g ob w→(∀k,ob k=st.ob k∨ob k=Yd (st.ob k))→∃g1:Gh,HI W g1 (Zp ob (ZS st ks)) w∧g1.val=g.val∧Xo g1 g∧∀k,Zp ob (ZS st ks) k=(if k∈ks then Yd (st.ob k) else ob k)
 | [],g,ob,hI,_=>⟨g,hI,rfl,Xo.refl _,fun k=>by simp [ZS,Zp]⟩
 | k::r,g,ob,hI,hob=>by
  have hfk:Yd (ob k)=Yd (st.ob k):=by
   rcases hob k with h | h
   ·rw [h]
   ·rw [h];cases st.ob k<;>rfl
  obtain ⟨g1,h1,h2,h3,_⟩:=ZiI hI k
  rw [hfk] at h1
  have hob':∀j,upd ob k (Yd (st.ob k)) j=st.ob j∨upd ob k (Yd (st.ob k)) j=Yd (st.ob j):=fun j=>by
   by_cases hj:j=k
   ·subst hj;right;rw [ZD]
   ·rw [ZN _ _ hj];exact hob j
  obtain ⟨g2,i1,i2,i3,i4⟩:=ZkS st r h1 hob'
  refine ⟨g2,i1,i2.trans h2,i3.trans h3,fun j=>?_⟩
  show Zp (upd ob k (Yd (st.ob k))) (ZS st r) j=_
  rw [i4 j]
  by_cases hj:j=k
  ·subst hj;simp [upd]
  ·simp [hj,upd]
theorem Zn1 {st st':St} (h:∀k,st'.ob k=st.ob k∨st'.ob k=Yd (st.ob k)) (x:SV):ZcN st' x=ZcN st x:=by
 have h1:∀y:AV,ZbE st' y=ZbE st y:=fun y=>by
  cases y with
  | row k=>
   simp only[ZbE]
   rcases h k with e | e
   ·rw [e]
   ·rw [e];cases st.ob k<;>rfl
  | _=>rfl
 have h2:∀ys:List AV,YG st' ys=YG st ys:=fun ys=>by
  induction ys with
  | nil=>rfl
  | cons y ys ih=>simp only[YG,h1,ih]
 cases x<;>simp [ZcN,h2]
theorem Zfl [NW] {st st':St} (h:∀k,st'.ob k=st.ob k∨st'.ob k=Yd (st.ob k)):∀xs:List SV,Z1 st' xs=Z1 st xs
 | []=>rfl
 | x::r=>by simp only[Z1];rw [Zn1 h x,Zfl h r]
theorem ZmG {k:Nat}:∀{cs:List AV},AV.row k∈cs→k∈Zip cs
 | [],h=>by simp at h
 | x::r,h=>by
  rcases A8.1 h with rfl | h
  ·simp [Zip]
  ·have:=ZmG h
   cases x<;>simp [Zip,this]
theorem ZmB [NW] {k:Nat} {a:Bool} {cs:List AV}:∀{vs:List SV},SV.p a cs∈vs→AV.row k∈cs→k∈Z7 vs
 | [],h,_=>by simp at h
 | x::r,h,hk=>by
  rcases A8.1 h with rfl | h
  ·simp [Z7,ZmG hk]
  ·have:=ZmB h hk
   cases x<;>simp [Z7,this]
end
end
section
open Go.RowKit
def ZaW (S:Ctx) (f:FuncId) (n key:Nat) (st:St) (vs:List SV) (v:SV) (u:List (Nat × Ob)):Prop:=
 match n with
 | 0=>∃l res,Z1 st vs=some l∧S.r f l res∧(!ZcK res||vs.all Zha)=true∧(ZH key res).2.2≤key+16∧v=ZcL (ZH key res).1∧u=(ZH key res).2.1
 | 1=>∃v0 r k h l res h',vs=v0::r∧ZfF st v0=some (k,h)∧Z1 st r=some l∧S.h f h l res h'∧(Z7 r).all (fun j=>j != k)=true∧(ZH key res).2.2≤key+16∧v=ZcL (ZH key res).1∧u=ZS st (Z7 r)++((k,Xp h')::(ZH key res).2.1)
 | 3=>∃l nb,Z1 st vs=some l∧S.b f l nb∧v=ZCB key nb∧u=ZS st (Z7 vs)++[(key,Zu7 nb)]
 | 4=>∃l res,Z1 st (vs.map nlS)=some l∧S.r f l res∧(!ZcK res||(vs.map nlS).all Zha)=true∧(ZH key res).2.2≤key+16∧v=ZcL (ZH key res).1∧u=(ZH key res).2.1
 | _=>∃l res,Z1 st vs=some l∧S.r f l res∧(ZH key res).2.2≤key+16∧v=ZcL (ZH key res).1∧u=ZS st (Z7 vs)++(ZH key res).2.1
theorem ZkQ {S:Ctx} {f:FuncId} {n key:Nat} {d:Option Nat} {K:St→Prop} {st:St} {vs:List SV}:spK S f n key d K st vs↔∃v u,ZaW S f n key st vs v u∧K ((st.put d v).app u):=by
 rcases n with _ | _ | _ | _ | _ | n
 ·simp only[spK,ZaW]
  constructor
  ·intro h
   unfold YH at h
   split at h
   ·rename_i l hl
    obtain ⟨res,h1,h2,h3,h4⟩:=h
    exact ⟨_,_,⟨l,res,hl,h1,h2,h3,rfl,rfl⟩,h4⟩
   ·exact h.elim
  ·rintro ⟨v,u,⟨l,res,hl,h1,h2,h3,rfl,rfl⟩,h4⟩
   rw [hl]
   exact ⟨res,h1,h2,h3,h4⟩
 ·simp only[spK,ZaW]
  constructor
  ·intro h
   cases vs with
   | nil=>exact h.elim
   | cons v0 r=>
    simp only[Zs8] at h
    unfold YH at h
    split at h
    ·rename_i kh hk
     split at h
     ·rename_i l hl
      obtain ⟨res,h',h1,h2,h3,h4⟩:=h
      exact ⟨_,_,⟨v0,r,kh.1,kh.2,l,res,h',rfl,hk,hl,h1,h2,h3,rfl,rfl⟩,h4⟩
     ·exact h.elim
    ·exact h.elim
  ·rintro ⟨v,u,⟨v0,r,k,hh,l,res,h',rfl,hk,hl,h1,h2,h3,rfl,rfl⟩,h4⟩
   simp only[Zs8,hk,hl,YH]
   exact ⟨res,h',h1,h2,h3,h4⟩
 ·simp only[spK,ZaW]
  constructor
  ·intro h
   unfold YH at h
   split at h
   ·rename_i l hl
    obtain ⟨res,h1,h3,h4⟩:=h
    exact ⟨_,_,⟨l,res,hl,h1,h3,rfl,rfl⟩,h4⟩
   ·exact h.elim
  ·rintro ⟨v,u,⟨l,res,hl,h1,h3,rfl,rfl⟩,h4⟩
   rw [hl]
   exact ⟨res,h1,h3,h4⟩
 ·simp only[spK,ZaW]
  constructor
  ·intro h
   unfold YH at h
   split at h
   ·rename_i l hl
    obtain ⟨nb,h1,h4⟩:=h
    exact ⟨_,_,⟨l,nb,hl,h1,rfl,rfl⟩,h4⟩
   ·exact h.elim
  ·rintro ⟨v,u,⟨l,nb,hl,h1,rfl,rfl⟩,h4⟩
   rw [hl]
   exact ⟨nb,h1,h4⟩
 ·simp only[spK,ZaW]
  constructor
  ·intro h
   unfold YH at h
   split at h
   ·rename_i l hl
    obtain ⟨res,h1,h2,h3,h4⟩:=h
    exact ⟨_,_,⟨l,res,hl,h1,h2,h3,rfl,rfl⟩,h4⟩
   ·exact h.elim
  ·rintro ⟨v,u,⟨l,res,hl,h1,h2,h3,rfl,rfl⟩,h4⟩
   rw [hl]
   exact ⟨res,h1,h2,h3,h4⟩
 ·simp only[spK,ZaW]
  constructor
  ·intro h
   unfold YH at h
   split at h
   ·rename_i l hl
    obtain ⟨res,h1,h3,h4⟩:=h
    exact ⟨_,_,⟨l,res,hl,h1,h3,rfl,rfl⟩,h4⟩
   ·exact h.elim
  ·rintro ⟨v,u,⟨l,res,hl,h1,h3,rfl,rfl⟩,h4⟩
   rw [hl]
   exact ⟨res,h1,h3,h4⟩
section
variable {P:Program} {J:World→Prop} {JF:Nat→Prop} {W:Zaa} {U:Nat→Prop} {key:Nat} {st:St} {g:Gh} {w w':World} {a:Act} {tt:Nat→Option TI} {hd:FuncId→Nat}
def ZxW [NW] (W:Zaa) (U:Nat→Prop) (key:Nat) (st:St) (g:Gh) (w:World) (v:SV) (u:List (Nat × Ob)) (cv:Value) (w':World):Prop:=
 ∃g',HI W g' (Zp st.ob u) w'∧SVR g' w' v cv∧(∀x c,svU U x→SVR g w x c→SVR g' w' x c)∧svU (Uk U key) v∧(∀k,obU (Uk U key) (Zp st.ob u k))∧∀k,¬Uk U key k→Zp st.ob u k=.gone
theorem HI.ownlt [NW] {ob:Nat→Ob} (hI:HI W g ob w) {b:Nat} (h:g.own b):b<w.heap.size:=by
 rcases h with ⟨k,mk⟩ | hz
 ·exact hI.lt k b (by simp [mk])
 ·rw [hI.gz] at hz
  exact Af (hI.zx b hz).1 hI.below.size
theorem Zwe {ks:List Nat} {ob:Nat→Ob} (hobU:∀k,obU U (st.ob k)) (h:∀k,ob k=(if k∈ks then Yd (st.ob k) else st.ob k)):∀k,obU U (ob k):=fun k=>by
 rw [h k]
 have:=hobU k
 split
 ·cases hk:st.ob k<;>simp only[Yd]<;>first | trivial | (rw [hk] at this;exact this)
 ·exact this
theorem ZrZ [NW] {vs:List SV} {l:List (Bool × List CT)} {st1:St} (h:∀k,st1.ob k=(if k∈Z7 vs then Yd (st.ob k) else st.ob k)) (hl:Z1 st vs=some l):∀x∈vs,ZtR st1.ob x:=by
 have key:∀(cs:List AV) (l:List CT),YG st cs=some l→(∀k,AV.row k∈cs→k∈Z7 vs)→∀y∈cs,ZvW st1.ob y:=by
  intro cs
  induction cs with
  | nil=>intro l _ _ y my;simp at my
  | cons c cs ih=>
   intro l hl hk y my
   simp only[YG] at hl
   obtain ⟨c1,h1,hl⟩:=A6.1 hl
   obtain ⟨c2,h2,_⟩:=A4.1 hl
   rcases A8.1 my with rfl | my
   ·cases y with
    | row k=>
     simp only[ZbE] at h1
     split at h1
     ·rename_i e m xs d hob
      exact ⟨e,m,xs,by rw [h k,if_pos (hk k (by simp)),hob];rfl⟩
     ·simp at h1
    | _=>trivial
   ·exact ih c2 h2 (fun k mk=>hk k (by simp [mk])) y my
 have all:∀(xs:List SV) (l:List (Bool × List CT)),Z1 st xs=some l→(∀x∈xs,x∈vs)→∀x∈xs,ZtR st1.ob x:=by
  intro xs
  induction xs with
  | nil=>intro l _ _ x mx;simp at mx
  | cons x xs ih=>
   intro l hl hm y my
   simp only[Z1] at hl
   obtain ⟨c1,h1,hl⟩:=A6.1 hl
   obtain ⟨c2,h2,_⟩:=A4.1 hl
   rcases A8.1 my with rfl | my
   ·cases y with
    | p ag cs=>
     simp only[ZcN] at h1
     obtain ⟨l1,h3,_⟩:=A4.1 h1
     exact key cs l1 h3 (fun k mk=>ZmB (hm (.p ag cs) (by simp)) mk)
    | _=>trivial
   ·exact ih c2 h2 (fun z mz=>hm z (by simp [mz])) y my
 exact all vs l hl (fun _ h=>h)
theorem ZDR {k:Nat} {inst:∀j,Decidable (j=k)} (ob:Nat→Ob) (o:Ob):(fun j=>@ite _ (j=k) (inst j) o (ob j))=upd ob k o:=by
 funext j
 simp only[upd]
 split<;>rfl
theorem ZiB [NW] (htt:MOk P J JF W tt) {f:FuncId} {vs:List SV} {cvs:List Value} {v:SV} {u:List (Nat × Ob)} (h:ZaW (SC P J JF hd) f 0 key st vs v u) (hH:HI W g st.ob w) (hU:StU U st) (hkey:∀k,key≤k→k<key+16→¬U k) (hvs:ZL (SVR g w) vs cvs) (hvU:∀x∈vs,svU U x):
  ZdV P f∧Calls P f cvs.toArray w fun e w'=>∃cv,e=.returned cv∧ZxW W U key st g w v u cv w':=by
 obtain ⟨l,res,hl,hs,hlend,hn,rfl,rfl⟩:=h
 obtain ⟨hc,hC⟩:=hs
 refine ⟨hc,?_⟩
 by_cases hle:ZcK res=true
 ·have hno:∀x∈vs,ZtR st.ob x:=Zxf (by simpa [hle] using hlend)
  refine (hC w g.own cvs (htt.at hH.below) (fun b hb=>hH.ownlt hb) (Zc2 hH hl hvs (.inr ⟨hno,fun _ h=>h⟩))).mono ?_
  rintro e w' ⟨cv,n,rfl,hr,hz,hb⟩
  obtain ⟨g',t1,t2,t3,t4,t5,t6⟩:=Zht hH hU.ob hU.gone hkey hr hn (fun _=>False) (fun _ h=>h.elim) (fun _=>.gone) (fun _ b hb=>hz b hb) (hH.below.trans hb) hb.size (fun b hb' _=>hb.block b hb') (fun _ h=>h.elim) (fun _ _ _ _ h=>h.elim)
  simp only[if_false] at t1 t5 t6
  exact ⟨cv,rfl,g',t1,t2,t3,t4,t5,t6⟩
 ·refine (hC w (fun _=>False) cvs (htt.at hH.below) (fun b hb=>hb.elim) (Zc2 hH hl hvs (.inl fun _ h=>h))).mono ?_
  rintro e w' ⟨cv,n,rfl,hr,hz,hb⟩
  obtain ⟨g',t1,t2,t3,t4,t5,t6⟩:=Zht hH hU.ob hU.gone hkey hr hn (fun _=>False) (fun _ h=>h.elim) (fun _=>.gone) (fun h=>absurd h hle) (hH.below.trans hb) hb.size (fun b hb' _=>hb.block b hb') (fun _ h=>h.elim) (fun _ _ _ _ h=>h.elim)
  simp only[if_false] at t1 t5 t6
  exact ⟨cv,rfl,g',t1,t2,t3,t4,t5,t6⟩
theorem Zu0 [NW] {x:AV} {v:Value} (h:AVR g w x v):AVR g w (nlA x) v:=by
 cases x with
 | nil e m=>exact ⟨[],⟨h,rfl⟩,by simp⟩
 | _=>exact h
theorem Zs4 [NW]:∀{xs:List AV} {vs:List Value},ZL (AVR g w) xs vs→ZL (AVR g w) (xs.map nlA) vs
 | [],[],_=>trivial
 | [],_::_,h=>h.elim
 | _::_,[],h=>h.elim
 | _::_,_::_,h=>⟨Zu0 h.1,Zs4 h.2⟩
theorem ZBt [NW] {x:SV} {v:Value} (h:SVR g w x v):SVR g w (nlS x) v:=by
 cases x with
 | p a cs=>
  cases a with
  | true=>obtain ⟨vs,h1,h2⟩:=h;exact ⟨vs,h1,Zs4 h2⟩
  | false=>obtain ⟨y,rfl,h2⟩:=h;exact ⟨_,rfl,Zu0 h2⟩
 | _=>exact h
theorem ZsP [NW]:∀{xs:List SV} {vs:List Value},ZL (SVR g w) xs vs→ZL (SVR g w) (xs.map nlS) vs
 | [],[],_=>trivial
 | [],_::_,h=>h.elim
 | _::_,[],h=>h.elim
 | _::_,_::_,h=>⟨ZBt h.1,ZsP h.2⟩
theorem ZuN {x:SV} (h:svU U x):svU U (nlS x):=by
 cases x with
 | p a cs=>
  intro y my
  obtain ⟨z,mz,rfl⟩:=AE.1 my
  have hz:=h z mz
  cases z<;>first | exact hz | trivial
 | _=>exact h
theorem Zg5 [NW] (htt:MOk P J JF W tt) {f:FuncId} {n:Nat} {vs:List SV} {cvs:List Value} {v:SV} {u:List (Nat × Ob)} (h:ZaW (SC P J JF hd) f n key st vs v u) (hH:HI W g st.ob w) (hU:StU U st) (hkey:∀k,key≤k→k<key+16→¬U k) (hvs:ZL (SVR g w) vs cvs) (hvU:∀x∈vs,svU U x):
  ZdV P f∧Calls P f cvs.toArray w fun e w'=>∃cv,e=.returned cv∧ZxW W U key st g w v u cv w':=by
 unfold ZaW at h
 split at h
 ·exact ZiB htt (f:=f) (vs:=vs) h hH hU hkey hvs hvU
 ·obtain ⟨v0,r,k,hh,l,res,h',rfl,hk,hl,hs,hne,hn,rfl,rfl⟩:=h
  obtain ⟨hc,hC⟩:=hs
  refine ⟨hc,?_⟩
  cases cvs with
  | nil=>exact hvs.elim
  | cons c0 cr=>
  obtain ⟨hv0,hvr⟩:=hvs
  obtain ⟨g1,i1,i2,i3,i4⟩:=ZkS st (Z7 r) hH (fun k=>.inl rfl)
  let st1:St:=⟨st.sl,Zp st.ob (ZS st (Z7 r)),st.n⟩
  have hob1:∀k,st1.ob k=(if k∈Z7 r then Yd (st.ob k) else st.ob k):=i4
  have hfr:∀k,st1.ob k=st.ob k∨st1.ob k=Yd (st.ob k):=fun k=>by
   rw [hob1 k];split
   ·exact .inr rfl
   ·exact .inl rfl
  have hl1:Z1 st1 r=some l:=by rw [Zfl hfr];exact hl
  have hok1:=ZrZ (st1:=st1) hob1 hl
  have hkr:k∉Z7 r:=fun hm=>by
   have:=AW.1 hne k hm
   simp at this
  have hk1:st1.ob k=st.ob k:=by rw [hob1 k,if_neg hkr]
  have hUk:st.ob k≠.gone→U k:=fun hg=>Classical.byContradiction fun hn=>hg (hU.gone k hn)
  have hobU1:∀j,obU U (st1.ob j):=Zwe hU.ob hob1
  have hgone1:∀j,¬U j→st1.ob j=.gone:=fun j hj=>by
   have e:=hU.gone j hj
   rcases hfr j with h | h<;>rw [h,e]<;>rfl
  have hv0':SVR g1 w v0 c0:=hv0.less i2 i3
  have hvr':ZL (SVR g1 w) r cr:=hvr.mono fun x c _ hx=>hx.less i2 i3
  have hhand:∃q:Option Nat,ZnA w (inQ (fun b=>g1.own b∧¬q=some b) q) q hh c0∧g1.O k=q.toList∧g1.D k=[]∧c0=g1.val k∧st.ob k≠.gone:=by
   unfold ZfF at hk
   split at hk
   ·rename_i k'
    split at hk
    ·rename_i t cs hob
     split at hk
     ·rename_i hnr
      obtain ⟨l',hl',e⟩:=A4.1 hk
      simp only[A5] at e
      obtain ⟨rfl,rfl⟩:=e
      have ho:=i1.obs k'
      rw [show Zp st.ob (ZS st (Z7 r)) k'=.box t cs from hk1.trans hob] at ho
      obtain ⟨b,vs,h1,h2,h3,h4,h5⟩:=ho
      obtain ⟨b',h6,h7⟩:=hv0'
      have hb:b'=b:=by rw [h6] at h1;simpa using h1
      subst hb
      have hl1':YG st1 cs=some l':=by
       have:=Zn1 hfr (.p true cs)
       simp only[ZcN,hl'] at this
       obtain ⟨x,hx,hx2⟩:=A4.1 this
       simp only[A5,true_and] at hx2
       rw [hx,hx2]
      obtain ⟨L,hL,hL2⟩:=ZeF (st:=st1) i1 hl1' h5
      refine ⟨some b',⟨b',vs,L,rfl,h7,h4,hL,fun x mx hx=>?_⟩,by simp [h2],h3,by rw [h7,h6],by rw [hob];simp⟩
      refine hL2 (fun y my=>?_) x mx ?_
      ·have:=AW.1 hnr y my
       cases y<;>simp [Zaw] at this<;>trivial
      ·rcases hx with hx | hx
       ·exact hx.1
       ·simp only[A0] at hx
        subst hx
        exact .inl ⟨k',by simp [h2]⟩
     ·simp at hk
    ·simp at hk
   ·rename_i k'
    split at hk
    ·rename_i e m xs d hob
     split at hk
     ·rename_i hd2
      simp only[A0,A5] at hk
      obtain ⟨rfl,rfl⟩:=hk
      have ho:=i1.obs k'
      rw [show Zp st.ob (ZS st (Z7 r)) k'=.row e m xs d from hk1.trans hob] at ho
      obtain ⟨hm,cs,L,h1,h2,h3⟩:=ho
      obtain rfl:=Zf1 h2 hd2.2
      obtain ⟨x,hx1,hx2⟩:=hv0'
      simp only[AU,and_true] at hx1
      subst hx1
      rcases h3 with ⟨_,h3,h4⟩ | ⟨h3,_⟩ | ⟨h3,_⟩
      ·exact ⟨(g1.val k').ownBlock,⟨hd2.2,hm,by rw [hx2.1],cs,by rw [hx2.1];exact h1,h2⟩,h3,h4,hx2.1,by rw [hob];simp⟩
      ·omega
      ·omega
     ·simp at hk
    ·simp at hk
   ·simp at hk
  obtain ⟨q,hq1,hq2,hq3,hq4,hq5⟩:=hhand
  have hkU:=hUk hq5
  have hqo:∀b,q=some b→g1.own b:=fun b hb=>.inl ⟨k,by simp [hq2,hb]⟩
  have hin:∀b,g1.own b→inQ (fun b=>g1.own b∧¬q=some b) q b:=fun b hb=>by
   by_cases hqb:q=some b
   ·exact .inr hqb
   ·exact .inl ⟨hb,hqb⟩
  have hargs:ZL (ZkB w (inQ (fun b=>g1.own b∧¬q=some b) q)) l cr:=Zc2 (st:=st1) i1 hl1 hvr' (.inr ⟨hok1,fun b hb=>by
   rcases hb with hb | hb
   ·exact hb.1
   ·exact hqo b hb⟩)
  have hqf:∀b,q=some b→JF b:=fun b hb=>by
   rcases (i1.plain k b (by simp [hq2,hb])).1 with h | h
   ·exact htt.jf b h
   ·exact htt.xf b h
  refine (hC w _ q c0 cr (htt.at hH.below) hqf (fun b hb=>⟨i1.ownlt hb.1,hb.2⟩) hq1 hargs).mono ?_
  rintro e w' ⟨cv,n,rfl,hr,hz,hb',hbq⟩
  have hbel:Bel W w':=⟨hbq.os.trans hH.below.os,hbq.tape.trans hH.below.tape,hbq.output.trans hH.below.output,AK hH.below.size hbq.size,fun i hi hx=>by
   rw [hbq.block i (Af hi hH.below.size) fun hqi=>?_]
   ·exact hH.below.block i hi hx
   ·rcases (i1.plain k i (by simp [hq2,hqi])).1 with h | h
    ·omega
    ·exact hx h⟩
  obtain ⟨g',t1,t2,t3,t4,t5,t6⟩:=Zht i1 hobU1 hgone1 hkey hr hn (fun j=>j=k) (fun j hj=>by rw [hj];exact hkU) (fun _=>Xp h') (fun _ b hb=>hz b (hin b hb)) hbel hbq.size
   (fun b hb hk'=>hbq.block b hb fun hqb=>hk' k rfl (by simp [hq2,hqb]))
   (fun j _=>by
    cases h' with
    | row e m xs=>trivial
    | box t cs=>intro y my;simp only[AE] at my;obtain ⟨x,_,rfl⟩:=my;trivial)
   (fun g' ho hg' j hj=>by
    subst hj
    obtain ⟨e1,e2,e3⟩:=hg' j rfl
    have hno:∀b,¬n b→¬g'.own b:=fun b hnb hob=>by
     rcases ho b hob with h | h
     ·exact hnb (hz b (hin b h))
     ·exact hnb h.2.2
    cases h' with
    | row e m xs=>
     obtain ⟨p1,p2,p3,cs,p4,p5⟩:=hb'
     refine ⟨⟨p2,cs,[],by rw [e1,←hq4];exact p4,p5,.inl ⟨rfl,by rw [e2,hq2,e1,←hq4,p3],by rw [e3,hq3]⟩⟩,fun b mb=>?_⟩
     rw [hq2,hq3] at mb
     simp at mb
     rcases p4.2 with ⟨h0,_⟩ | ⟨gg,o,cap,cur,hv,_,hcc,_⟩
     ·rw [h0] at p3;simp [Value.ownBlock] at p3;rw [←p3] at mb;simp at mb
     ·rw [hv] at p3;simp only[Value.ownBlock] at p3;rw [mb] at p3;simp at p3;subst p3;exact ⟨_,_,hcc⟩
    | box t cs=>
     obtain ⟨b,vs,L,p1,p2,p3,p4,p5⟩:=hb'
     refine ⟨⟨b,vs,by rw [e1,←hq4];exact p2,by rw [e2,hq2,p1];rfl,by rw [e3,hq3],p3,p4.avr fun x mx=>hno x (p5 x mx)⟩,fun x mx=>?_⟩
     rw [hq2,hq3,p1] at mx
     simp at mx
     subst mx
     exact ⟨_,_,p3⟩)
  have hup:Zp st.ob (ZS st (Z7 r)++((k,Xp h')::(ZH key res).2.1))=Zp (upd (Zp st.ob (ZS st (Z7 r))) k (Xp h')) (ZH key res).2.1:=by rw [YR];rfl
  have hif:=ZDR (k:=k) (inst:=fun j=>Classical.propDecidable (j=k)) (Zp st.ob (ZS st (Z7 r))) (Xp h')
  have t1':HI W g' (Zp (upd (Zp st.ob (ZS st (Z7 r))) k (Xp h')) (ZH key res).2.1) w':=hif ▸ t1
  have t5':∀j,obU (Uk U key) (Zp (upd (Zp st.ob (ZS st (Z7 r))) k (Xp h')) (ZH key res).2.1 j):=hif ▸ t5
  have t6':∀j,¬Uk U key j→Zp (upd (Zp st.ob (ZS st (Z7 r))) k (Xp h')) (ZH key res).2.1 j=.gone:=hif ▸ t6
  rw [←hup] at t1' t5' t6'
  exact ⟨cv,rfl,g',t1',t2,fun x c hx hc=>t3 x c hx (hc.less i2 i3),t4,t5',t6'⟩
 ·obtain ⟨l,nb,hl,hs,rfl,rfl⟩:=h
  obtain ⟨hc,hC⟩:=hs
  refine ⟨hc,?_⟩
  obtain ⟨g1,i1,i2,i3,i4⟩:=ZkS st (Z7 vs) hH (fun k=>.inl rfl)
  let st1:St:=⟨st.sl,Zp st.ob (ZS st (Z7 vs)),st.n⟩
  have hob1:∀k,st1.ob k=(if k∈Z7 vs then Yd (st.ob k) else st.ob k):=i4
  have hfr:∀k,st1.ob k=st.ob k∨st1.ob k=Yd (st.ob k):=fun k=>by
   rw [hob1 k];split
   ·exact .inr rfl
   ·exact .inl rfl
  have hl1:Z1 st1 vs=some l:=by rw [Zfl hfr];exact hl
  have hok1:=ZrZ (st1:=st1) hob1 hl
  have hobU1:∀j,obU U (st1.ob j):=Zwe hU.ob hob1
  have hgone1:∀j,¬U j→st1.ob j=.gone:=fun j hj=>by
   have e:=hU.gone j hj
   rcases hfr j with h | h<;>rw [h,e]<;>rfl
  have hvs':ZL (SVR g1 w) vs cvs:=hvs.mono fun x c _ hx=>hx.less i2 i3
  refine (hC w g1.own cvs (htt.at hH.below) (fun b hb=>i1.ownlt hb) (Zc2 (st:=st1) i1 hl1 hvs' (.inr ⟨hok1,fun _ h=>h⟩))).mono ?_
  rintro e w' ⟨b,n,rfl,hb,hnR,hnb,hz,hbel⟩
  have hkU:¬U key:=hkey key (A7 _) (by omega)
  let g':Gh:=⟨fun k=>if k=key then Zol b nb else g1.val k,fun k=>if k=key then [b] else g1.O k,fun k=>if k=key then [] else g1.D k,g1.Z⟩
  have hval:∀k,U k→g'.val k=g1.val k:=fun k hk=>if_neg fun (e:k=key)=>hkU (e ▸ hk)
  have hown2:∀x,g'.own x→g1.own x∨x=b:=fun x hx=>by
   rcases hx with ⟨k,mk⟩ | hx
   ·simp only[g'] at mk
    split at mk
    ·exact .inr (by simpa using mk)
    ·exact .inl (.inl ⟨k,mk⟩)
   ·exact .inl (.inr hx)
  have hown:Qj g1 g' w.heap.size:=.of (fun x hx=>(hown2 x hx).imp id fun (e:x=b)=>by rw [e];exact hb) fun j x mx=>by
   simp only[g'] at mx
   split at mx
   ·simp at mx
   ·exact .inl (.inr ⟨j,mx⟩)
  have hno:∀x,¬n x→¬g'.own x:=fun x mx hx=>mx (by
   rcases hown2 x hx with h | h
   ·exact hz x h
   ·rw [h];exact hnb)
  have hup:Zp st.ob (ZS st (Z7 vs)++[(key,Zu7 nb)])=upd (Zp st.ob (ZS st (Z7 vs))) key (Zu7 nb):=by rw [YR];rfl
  have hvk:g'.val key=Zol b nb:=if_pos rfl
  have hplain:Xx w' (Zu7 nb) b:=by
   cases nb with
   | box t cs=>obtain ⟨us,L,p1,_⟩:=hnR;exact ⟨_,_,p1⟩
   | map kk vk kv=>obtain ⟨es,c,p1,_⟩:=hnR;exact ⟨_,_,p1⟩
  refine ⟨_,rfl,g',?_,?_,fun x c hx hc=>(hc.less i2 i3).move hx hval (fun b hb _=>hbel.block b hb) hown hbel.size,?_,fun k=>?_,fun k hk=>?_⟩
  ·rw [hup]
   refine i1.step (U:=U) (fun k=>k=key) (hH.below.trans hbel) rfl (fun b hb _=>hbel.block b hb) (fun k hk=>⟨ZN _ _ hk,if_neg hk,if_neg hk,if_neg hk⟩) hobU1 hval hown (fun k hk=>?_)
   subst hk
   have e1:g'.O k=[b]:=if_pos rfl
   have e2:g'.D k=[]:=if_pos rfl
   rw [ZD,e1,e2]
   refine ⟨?_,by simp,fun x mx=>?_,fun j hj x mx mj=>?_⟩
   ·cases nb with
    | box t cs=>obtain ⟨us,L,p1,p2,p3⟩:=hnR;exact ⟨b,us,hvk,e1,e2,p1,p2.avr fun x mx=>hno x (p3 x mx)⟩
    | map kk vk kv=>obtain ⟨es,c,p1,p2⟩:=hnR;exact ⟨b,es,c,hvk,e1,e2,p1,p2⟩
   ·simp at mx;subst mx;exact ⟨.inl (AK hH.below.size hb),hplain⟩
   ·simp at mx;subst mx
    have e3:g'.O j=g1.O j:=if_neg fun e=>hj e.symm
    have e4:g'.D j=g1.D j:=if_neg fun e=>hj e.symm
    rw [e3,e4] at mj
    have:=i1.lt j x mj
    omega
  ·cases nb with
   | box t cs=>exact ⟨b,hvk,rfl⟩
   | map kk vk kv=>exact ⟨.row key,rfl,hvk.symm,rfl⟩
  ·cases nb with
   | box t cs=>exact .inr ⟨A7 _,by omega⟩
   | map kk vk kv=>intro y my;simp at my;subst my;exact .inr ⟨A7 _,by omega⟩
  ·rw [hup]
   by_cases hk:k=key
   ·subst hk;rw [ZD]
    cases nb with
    | box t cs=>intro y my;simp only[AE] at my;obtain ⟨x,_,rfl⟩:=my;trivial
    | map kk vk kv=>trivial
   ·rw [ZN _ _ hk];exact (hobU1 k).mono fun _=>.inl
  ·have hk2:¬k=key:=fun e=>hk (.inr ⟨by omega,by omega⟩)
   rw [hup,ZN _ _ hk2]
   exact hgone1 k fun h=>hk (.inl h)
 ·exact ZiB htt (f:=f) (vs:=vs.map nlS) h hH hU hkey (ZsP hvs) (fun x hx=>by
   obtain ⟨y,my,rfl⟩:=AE.1 hx
   exact ZuN (hvU y my))
 ·obtain ⟨l,res,hl,hs,hn,rfl,rfl⟩:=h
  obtain ⟨hc,hC⟩:=hs
  refine ⟨hc,?_⟩
  obtain ⟨g1,i1,i2,i3,i4⟩:=ZkS st (Z7 vs) hH (fun k=>.inl rfl)
  let st1:St:=⟨st.sl,Zp st.ob (ZS st (Z7 vs)),st.n⟩
  have hob1:∀k,st1.ob k=(if k∈Z7 vs then Yd (st.ob k) else st.ob k):=i4
  have hfr:∀k,st1.ob k=st.ob k∨st1.ob k=Yd (st.ob k):=fun k=>by
   rw [hob1 k];split
   ·exact .inr rfl
   ·exact .inl rfl
  have hl1:Z1 st1 vs=some l:=by rw [Zfl hfr];exact hl
  have hok1:=ZrZ (st1:=st1) hob1 hl
  have hobU1:∀j,obU U (st1.ob j):=Zwe hU.ob hob1
  have hgone1:∀j,¬U j→st1.ob j=.gone:=fun j hj=>by
   have e:=hU.gone j hj
   rcases hfr j with h | h<;>rw [h,e]<;>rfl
  have hvs':ZL (SVR g1 w) vs cvs:=hvs.mono fun x c _ hx=>hx.less i2 i3
  refine (hC w g1.own cvs (htt.at hH.below) (fun b hb=>i1.ownlt hb) (Zc2 (st:=st1) i1 hl1 hvs' (.inr ⟨hok1,fun _ h=>h⟩))).mono ?_
  rintro e w' ⟨cv,n,rfl,hr,hz,hb⟩
  obtain ⟨g',t1,t2,t3,t4,t5,t6⟩:=Zht i1 hobU1 hgone1 hkey hr hn (fun _=>False) (fun _ h=>h.elim) (fun _=>.gone) (fun _ b hb=>hz b hb) (hH.below.trans hb) hb.size (fun b hb' _=>hb.block b hb') (fun _ h=>h.elim) (fun _ _ _ _ h=>h.elim)
  simp only[if_false,←YR] at t1 t5 t6
  exact ⟨cv,rfl,g',t1,t2,fun x c hx hc=>t3 x c hx (hc.less i2 i3),t4,t5,t6⟩
end
end
section
open Go.RowKit
section
variable {P:Program} {J:World→Prop} {JF:Nat→Prop} {W:Zaa} {U:Nat→Prop} {key:Nat} {st:St} {w w':World} {a:Act} {tt:Nat→Option TI} {hs:FuncId→Nat} {Q:Exit→Act→World→Prop}
theorem Zcg (a:Act) (d:Option Nat) (v:Value):(a.put d v).tmps.size=a.tmps.size:=by cases d<;>simp [Act.put]
theorem Zfs [NW] {g g':Gh} {d:Option Nat} {v:SV} {u:List (Nat × Ob)} {cv:Value} (hS:∀t,SVR g w (st.sl t) (a.tmps.getD t undef)) (hU:StU U st) (hdef:a.defers=[]) (hh:∀v,W.hv=some v→a.tmps.getD 0 undef=v) (hd:∀t,d=some t→t<a.tmps.size∧(W.hv=none∨t≠0))
  (h1:HI W g' (Zp st.ob u) w') (h2:SVR g' w' v cv) (h3:∀x c,svU U x→SVR g w x c→SVR g' w' x c) (h4:svU (Uk U key) v) (h5:∀k,obU (Uk U key) (Zp st.ob u k)) (h6:∀k,¬Uk U key k→Zp st.ob u k=.gone):
  Inv W (Uk U key) ((st.put d v).app u) (a.put d cv) w':=by
 cases d with
 | none=>
  refine ⟨⟨g',h1,fun t=>h3 _ _ (hU.sl t) (hS t)⟩,⟨fun t=>(hU.sl t).mono fun _=>.inl,h5,h6⟩,hdef,hh⟩
 | some d=>
  have hd':=(hd d rfl).1
  refine ⟨⟨g',h1,fun t=>?_⟩,⟨fun t=>?_,h5,h6⟩,hdef,fun u hu=>?_⟩
  ·show SVR g' w' (upd st.sl d v t) ((a.tmps.setIfInBounds d cv).getD t undef)
   by_cases ht:t=d
   ·subst ht
    rw [ZD]
    simpa [AL,Array.getElem?_setIfInBounds,hd'] using h2
   ·rw [ZN _ _ ht]
    have:(a.tmps.setIfInBounds d cv).getD t undef=a.tmps.getD t undef:=by
     simp [AL,B3 (fun e:d=t=>ht e.symm)]
    rw [this]
    exact h3 _ _ (hU.sl t) (hS t)
  ·show svU (Uk U key) (upd st.sl d v t)
   by_cases ht:t=d
   ·subst ht;rw [ZD];exact h4
   ·rw [ZN _ _ ht];exact (hU.sl t).mono fun _=>.inl
  ·show (a.tmps.setIfInBounds d cv).getD 0 undef=u
   have hne:d≠0:=by
    rcases (hd d rfl).2 with h | h
    ·rw [h] at hu;simp at hu
    ·exact h
   rw [←hh u hu]
   simp [AL,B3 hne]
theorem Zqx [NW] {g:Gh} {x:SV} {v:Value} {fc:FuncId × List CT} (hfc:Zok x=some fc) (hs:SVR g w x v):∃cs:List Value,v=.func (.func fc.1) #[] cs.toArray∧ZL (SVR g w) (fc.2.map Zkw) cs:=by
 unfold Zok at hfc
 split at hfc
 ·rename_i f es
  simp only[A0] at hfc
  subst hfc
  obtain ⟨y,hy,hs⟩:=hs
  simp at hy;subst hy
  obtain ⟨L,⟨vs,h1,h2⟩,h3⟩:=hs
  refine ⟨vs,h1,?_⟩
  have:=h2.avr (g:=g) h3
  have conv:∀(es:List CT) (vs:List Value),ZL (AVR g w) (es.map AV.c) vs→ZL (SVR g w) (es.map Zkw) vs:=by
   intro es
   induction es with
   | nil=>intro vs h;cases vs with
    | nil=>trivial
    | cons _ _=>exact h.elim
   | cons e es ih=>intro vs h;cases vs with
    | nil=>exact h.elim
    | cons v vs=>exact ⟨⟨_,rfl,h.1⟩,ih vs h.2⟩
  exact conv _ _ this
 ·rename_i f
  simp only[A0] at hfc
  subst hfc
  exact ⟨[],hs,trivial⟩
 ·simp at hfc
theorem Zom [NW] (htt:MOk P J JF W tt) {o:Oper} {K:St→Prop} (h:opS tt (SC P J JF hs) key o K st) (hI:Inv W U st a w) (hkey:∀k,key≤k→k<key+16→¬U k) (hd:∀t,o.dst=some t→t<a.tmps.size∧(W.hv=none∨t≠0)):
  o.wp P a w (fun a' w'=>∃st',Inv W (Uk U key) st' a' w'∧a'.tmps.size=a.tmps.size∧K st') Q:=by
 obtain ⟨⟨g,hH,hS⟩,hU,hdef,hh⟩:=hI
 have evals:∀(args:Array Operand) (ts:Array TypeId),ZL (SVR g w) (evs tt st ts.toList args.toList) (args.toList.map a.eval)∧∀x∈evs tt st ts.toList args.toList,svU U x:=fun args ts=>by
  have he:args.toList.map a.eval=(Zje ts.toList args.toList).map fun p=>a.eval p.2:=by
   have:=congrArg (List.map a.eval) (ZeZ ts.toList args.toList)
   rw [←this,As];rfl
  refine ⟨?_,fun x mx=>?_⟩
  ·rw [he]
   exact ZL.of_map _ _ fun p _=>(Zkm htt.tt hS hU p.1 p.2).1
  ·obtain ⟨p,_,rfl⟩:=AE.1 mx
   exact (Zkm htt.tt hS hU p.1 p.2).2
 have arm:∀(f:FuncId) (n:Nat) (vs:List SV) (cvs:List Value),spK (SC P J JF hs) f n key o.dst K st vs→ZL (SVR g w) vs cvs→(∀x∈vs,svU U x)→(ZdV P f→(execOp a.eval o).run P w=.ok (.enter f cvs.toArray) w)→
   o.wp P a w (fun a' w'=>∃st',Inv W (Uk U key) st' a' w'∧a'.tmps.size=a.tmps.size∧K st') Q:=fun f n vs cvs h hargs hargU hrun=>by
  obtain ⟨v,u,hr,hK⟩:=ZkQ.1 h
  obtain ⟨hc,hcall⟩:=Zg5 htt hr hH hU hkey hargs hargU
  unfold Oper.wp
  rw [hrun hc,Oper.upon_enter]
  refine hcall.mono ?_
  rintro e w' ⟨cv,rfl,g',t1,t2,t3,t4,t5,t6⟩
  exact ⟨_,Zfs hS hU hdef hh hd t1 t2 t3 t4 t5 t6,Zcg _ _ _,hK⟩
 unfold opS at h
 split at h
 ·rename_i c hc
  obtain ⟨f,l1,l2⟩:=c
  have hop:∃args ts,o.op=.call ⟨.value (.func f),args,ts⟩∧l1=ts.toList∧l2=args.toList:=by
   unfold Y1 at hc
   split at hc
   ·rename_i f' args ts he
    simp only[A0,A5] at hc
    obtain ⟨rfl,rfl,rfl⟩:=hc
    exact ⟨args,ts,he,rfl,rfl⟩
   ·simp at hc
  obtain ⟨args,ts,hop,rfl,rfl⟩:=hop
  refine arm f _ _ _ h (evals args ts).1 (evals args ts).2 ?_
  rintro ⟨fn,f1,f2,f3⟩
  have f2' : ¬ fn.name = "runtime.NumGoroutine" := by simpa using f2
  have f3':¬fn.body=none:=fun e=>by rw [e] at f3;simp at f3
  have e1:(args.toList.map a.eval).toArray=args.map a.eval:=by
   apply Aj
   simp
  rw [e1]
  simp [execOp,hop,resolve,Act.eval,Deferred.ofValue,invoke,callFunc,program,Sem.run,f1,f2',f3']
 ·split at h
  ·rename_i c hc
   obtain ⟨s,l1,l2⟩:=c
   have hop:∃args ts,o.op=.call ⟨.value (.tmp s),args,ts⟩∧l1=ts.toList∧l2=args.toList:=by
    unfold Y7 at hc
    split at hc
    ·rename_i s' args ts he
     simp only[A0,A5] at hc
     obtain ⟨rfl,rfl,rfl⟩:=hc
     exact ⟨args,ts,he,rfl,rfl⟩
    ·simp at hc
   obtain ⟨args,ts,hop,rfl,rfl⟩:=hop
   unfold YH at h
   split at h
   ·rename_i fc hfc
    obtain ⟨_,h⟩:=h
    have hval:=Zqx hfc (hS s)
    obtain ⟨cs,hv',hcs⟩:=hval
    have hv:a.eval (.tmp s)=.func (.func fc.1) #[] cs.toArray:=hv'
    refine arm fc.1 0 _ (args.toList.map a.eval++cs) h ((evals args ts).1.append hcs) (fun x mx=>?_) ?_
    ·rcases A3.1 mx with m | m
     ·exact (evals args ts).2 x m
     ·obtain ⟨c,_,rfl⟩:=AE.1 m
      exact Xn _
    ·rintro ⟨fn,f1,f2,f3⟩
     have f2' : ¬ fn.name = "runtime.NumGoroutine" := by simpa using f2
     have f3':¬fn.body=none:=fun e=>by rw [e] at f3;simp at f3
     have e1:(args.toList.map a.eval++cs).toArray=args.map a.eval++cs.toArray:=by
      apply Aj
      simp
     rw [e1]
     simp [execOp,hop,resolve,hv,Deferred.ofValue,invoke,callFunc,program,Sem.run,f1,f2',f3']
   ·exact h.elim
  ·unfold YH at h
   split at h
   ·rename_i r hr
    obtain ⟨g',cv,w',hrun,t1,t2,t3,t4,t5,t6⟩:=ZnT (P:=P) (W:=W) (a:=a) htt.tt o hr hH hS hU (hkey key (A7 _) (by omega))
    unfold Oper.wp
    rcases hrun with hrun | ⟨hrun,rfl⟩
    ·rw [hrun]
     exact ⟨_,Zfs hS hU hdef hh hd t1 t2 t3 t4 t5 t6,Zcg _ _ _,h⟩
    ·rw [hrun]
     exact ⟨_,Zfs hS hU hdef hh hd t1 t2 t3 t4 t5 t6,Zcg _ _ _,h⟩
   ·exact h.elim
theorem ZsZ [NW] (hI:Inv W U st a w) (d:Option Nat) (hd:∀t,d=some t→t<a.tmps.size∧(W.hv=none∨t≠0)):Inv W (Uk U key) (st.put d .und) (a.put d undef) w:=by
 obtain ⟨⟨g,hH,hS⟩,hU,hdef,hh⟩:=hI
 exact Zfs (u:=[]) (key:=key) hS hU hdef hh hd hH rfl (fun _ _ _ h=>h) trivial (fun k=>(hU.ob k).mono fun _=>.inl) (fun k hk=>hU.gone k fun h=>hk (.inl h))
theorem ZnI [NW] (htt:MOk P J JF W tt) {ops:Array Oper} {i:Nat} {o:Oper} {K:St→Prop} (ho:ops[i]?=some o) (h:opG tt (SC P J JF hs) ops.toList key o K st) (hI:Inv W U st a w) (hkey:∀k,key≤k→k<key+16→¬U k) (hd:∀t,o.dst=some t→t<a.tmps.size∧(W.hv=none∨t≠0)):
  wpOp P ops Q i (fun a' w'=>∃st',Inv W (Uk U key) st' a' w'∧a'.tmps.size=a.tmps.size∧K st') a w:=by
 have skip:K (st.put o.dst .und)→∃st',Inv W (Uk U key) st' (a.put o.dst undef) w∧(a.put o.dst undef).tmps.size=a.tmps.size∧K st':=fun hK=>⟨_,ZsZ hI _ hd,Zcg _ _ _,hK⟩
 unfold wpOp
 simp only[ho]
 unfold opG Zao at h
 cases hg:o.guard with
 | none=>
  rw [hg] at h
  rw [if_pos (by simp [Region.wanted,hg])]
  exact .inl (Zom htt h hI hkey hd)
 | some jw=>
  obtain ⟨j,want⟩:=jw
  rw [hg] at h
  simp only at h
  cases hj:(ops.toList[j]?).bind (·.dst) with
  | none=>
   rw [hj] at h
   have hj':(ops[j]?).bind (·.dst)=none:=by simpa using hj
   rw [if_neg (by simp [Region.wanted,hg,yielded,hj'])]
   exact skip h
  | some t=>
   rw [hj] at h
   have hj':(ops[j]?).bind (·.dst)=some t:=by simpa using hj
   obtain ⟨⟨g,hH,hS⟩,hU,hdef,hh⟩:=hI
   have hst:=hS t
   simp only at h
   unfold gK at h
   split at h
   ·rename_i hb
    have:∃b,st.sl t=.p false [.c (.bool b)]:=by
     unfold QJ at hb
     split at hb
     ·rename_i b he;exact ⟨b,he⟩
     ·simp at hb
    obtain ⟨b,hb'⟩:=this
    rw [hb'] at hst h
    have hv:=ZfE hst
    have hy:yielded ops a.tmps j=some b:=by
     unfold yielded
     rw [hj',Ah]
     have:a.tmps[t]?=some (.bool b):=by
      rw [AL] at hv
      cases he:a.tmps[t]? with
      | none=>rw [he] at hv;simp [undef] at hv
      | some q=>rw [he] at hv;simpa using hv
     rw [this]
    by_cases hw:(b==want)=true
    ·rw [if_pos (show (XN (.p false [.c (.bool b)])==want)=true from hw)] at h
     rw [if_pos (by simpa [Region.wanted,hg,hy] using hw)]
     exact .inl (Zom htt h ⟨⟨g,hH,hS⟩,hU,hdef,hh⟩ hkey hd)
    ·rw [if_neg (show ¬(XN (.p false [.c (.bool b)])==want)=true from hw)] at h
     rw [if_neg (by simpa [Region.wanted,hg,hy] using hw)]
     exact skip h
   ·split at h
    ·rename_i hu
     have hb':st.sl t=.und:=by
      unfold Zq4 at hu
      split at hu
      ·rename_i he;exact he
      ·simp at hu
     rw [hb'] at hst
     have hst':a.tmps.getD t undef=undef:=hst
     have hy:yielded ops a.tmps j=none:=by
      unfold yielded
      rw [hj',Ah]
      rw [AL] at hst'
      cases he:a.tmps[t]? with
      | none=>rfl
      | some q=>rw [he] at hst';simp at hst';rw [hst'];rfl
     rw [if_neg (by simp [Region.wanted,hg,hy])]
     exact skip h
    ·exact h.elim
theorem ZnK [NW] (htt:MOk P J JF W tt) {ops:Array Oper} {N:Nat} (hN:∀o∈ops.toList,∀t,o.dst=some t→t<N∧(W.hv=none∨t≠0)) {K:St→Prop}:∀(r:List Oper) (i key:Nat) (U:Nat→Prop) (st:St) (a:Act) (w:World),ops.toList.drop i=r→Z5 tt (SC P J JF hs) ops.toList key r K st→Inv W U st a w→(∀k,key≤k→¬U k)→a.tmps.size=N→
  (∀U' st' a' w',Inv W U' st' a' w'→(∀k,key+16 * r.length≤k→¬U' k)→a'.tmps.size=N→K st'→Q .normal a' w')→wpOps P ops Q (AI i r.length) a w
 | [],i,key,U,st,a,w,_,h,hI,hk,hs,hQ=>hQ U st a w hI (by simpa using hk) hs h
 | o::r,i,key,U,st,a,w,hr,h,hI,hk,hs,hQ=>by
  have hi:ops.toList[i]?=some o:=by
   have:=congrArg (fun l=>l[0]?) hr
   simpa using this
  have hr':ops.toList.drop (i+1)=r:=by
   have:=congrArg List.tail hr
   simpa using this
  rw [An,Ad,wpOps_cons]
  refine wpOp_mono ?_ (ZnI htt (by simpa using hi) h hI (fun k a _=>hk k a) (fun t ht=>by rw [hs];exact hN o (List.mem_of_getElem? hi) t ht))
  rintro a' w' ⟨st',hI',hs',hK'⟩
  refine ZnK htt hN r (i+1) (key+16) _ st' a' w' hr' hK' hI' (fun k hk' hU=>?_) (by omega) (fun U' st2 a2 w2 h1 h2 h3 h4=>hQ U' st2 a2 w2 h1 (fun k hk'=>h2 k (by simp at hk';omega)) h3 h4)
  rcases hU with hU | hU
  ·exact hk k (by omega) hU
  ·omega
end
end
end Go.Proofs.YtfehfkfdfmcgfaaGreatDoor
