/- Texts of this proof, joined: BOps8, BFrz, BOpsM, BOps9, BCall, BCall2, BReg. What each holds is said at its theorems. -/
import Derived.Test.YtcaokdmjlknmmaaGreatDoorIsDeskQ3
import Derived.MapKept
open Array renaming getD_eq_getD_getElem?→AS,ext'→An,getElem?_eq_some_iff→BC,getElem?_setIfInBounds_ne→BH
open List renaming mem_append→AA,mem_cons→AE,mem_map→AJ,nodup_append→AK,nil_sublist→AL,append_assoc→AM,all_eq_true→AO,mem_range'_1→AP,cons_append→AQ,take_succ_cons→AT,drop_succ_cons→AU,mem_singleton→AY,nodup_cons→Aa,range'→Ad,mem_flatMap→Ae,nil_append→Ah,drop_append_of_le_length→Aj,take_append_drop→Ak,map_cons→Am,flatMap_cons→Ao,mem_iff_getElem?→Aq,sublist_append_right→Ar,take_zero→As,drop_append→At,drop_of_length_le→Au,getElem?_eq_some_iff→Ax,size_toArray→Ay,drop_take→Az,drop_drop→B9,take_left'→BB,map_nil→BE,range'_succ→BF,length_eq_one_iff→BG
open List.Sublist renaming refl→AG,append→AH
open List.cons renaming injEq→Ac
open Nat renaming le_refl→AF,le_trans→AI,zero_le→AN,add_mul→AR,add_sub_cancel_left→AW,zero_add→AX,mul_le_mul_right→AZ,lt_of_lt_of_le→Ag,add_assoc→Ai,le_add_right→Aw
open Option renaming map_eq_some_iff→AB,bind_eq_some_iff→AC,bind_some→Al,map_some→BD
open Option.some renaming injEq→A0
open Prod.mk renaming injEq→AD
set_option linter.unusedSimpArgs false
set_option linter.unusedVariables false
set_option maxRecDepth 1000000
set_option maxHeartbeats 4000000
namespace Go.Proofs.YtcaokdmjlknmmaaGreatDoor
section
open Go.RowKit
section
variable {P:Program} {W:ZaA} {U:Nat->Prop} {key:Nat} {st:St} {g:Gh} {w w':World} {a:Act} {tt:Nat->Option TI}
theorem RCs.dropS:∀{x:List CT}{c:List Value}{L:List Nat}(n:Nat),RCs w x c L->∃L',RCs w (x.drop n) (c.drop n) L'/\L'.Sublist L
 |x,c,L,0,h=>⟨L,by simpa using h,AG _⟩
 | [],c,L,n+1,h=>⟨[],by obtain ⟨rfl,rfl⟩:=h;simp [RCs],AL _⟩
 |x::r,_,_,n+1,⟨v,cs',L1,L2,rfl,rfl,h1,h2⟩=>by
  obtain ⟨L',a1,a2⟩:=RCs.dropS n h2
  exact ⟨L',by simpa using a1,a2.trans (Ar L1 L2)⟩
theorem RCs.spliceS [NW] {x:List CT}{c:List Value}{L:List Nat}{ys:List CT}{us:List Value}(h:RCs w x c L) (h':RCs w ys us []):∀(off:Nat),∃L',RCs w (splice x off ys) (splice c off us) L'/\L'.Sublist L:=by
 have hl:us.length=ys.length:=h'.len
 intro off
 induction off generalizing x c L with
 |zero=>
  obtain ⟨L',a1,a2⟩:=h.dropS (0+ys.length)
  refine ⟨[]++L',?_,a2⟩
  simp only[splice,As,Ah,hl]
  exact h'.append a1
 |succ off ih=>
  cases x with
  |nil=>
   obtain ⟨rfl,rfl⟩:=h
   refine ⟨[],?_,AL _⟩
   simpa [splice]using h'
  |cons x r=>
   obtain ⟨v,a,L1,L2,rfl,rfl,h1,h2⟩:=h
   obtain ⟨L',a1,a2⟩:=ih h2
   refine ⟨L1++L',?_,AH (AG _) a2⟩
   have e1:splice (x::r) (off+1) ys=x::splice r off ys:=by
    simp only[splice,AT,AQ]
    rw [show off+1+ys.length=(off+ys.length)+1 by omega,AU]
   have e2:splice (v::a) (off+1) us=v::splice a off us:=by
    simp only[splice,AT,AQ]
    rw [show off+1+us.length=(off+us.length)+1 by omega,AU]
   rw [e1,e2]
   exact ⟨v,_,L1,L',rfl,rfl,h1,a1⟩
theorem Zfw {α:Type}(c1 c2:List α) (off:Nat) (us:List α):splice (c1++c2) (c1.length+off) us=c1++splice c2 off us:=by
 simp only[splice]
 rw [List.take_length_add_append,Ai,At,Au (Aw _ _),AW]
 simp
theorem Za8 {α:Type}(c1 c2:List α) (off:Nat) (us:List α) (h:off+us.length<=c1.length):splice (c1++c2) off us=splice c1 off us++c2:=by
 simp only[splice]
 rw [List.take_append_of_le_length yE,Aj h]
 simp
theorem REs.set [NW] {m:Nat}{ys:List CT}{us:List Value}(h':RCs w ys us []):∀{xs:List (List CT)}{cs:List Value}{L:List Nat}{i off:Nat}{x:List CT},REs w m xs cs L->xs[i]?=some x->off+us.length<=m->
  ∃L',REs w m (xs.set i (splice x off ys)) (splice cs (i*m+off) us) L'/\L'.Sublist L
 | [],_,_,_,_,_,_,hx,_=>by simp at hx
 |e::r,_,_,0,off,x,⟨c1,c2,L1,L2,rfl,rfl,h3,h4⟩,hx,ho=>by
  simp at hx;subst hx
  obtain ⟨L',a1,a2⟩:=h3.1.spliceS h' off
  refine ⟨L'++L2,?_,AH a2 (AG _)⟩
  rw [Nat.zero_mul,AX,Za8 _ _ _ _ (by rw [h3.2];exact ho)]
  exact ⟨splice c1 off us,c2,L',L2,rfl,rfl,⟨a1,by rw [Zai _ _ _ (by rw [h3.2];exact ho)];exact h3.2⟩,h4⟩
 |e::r,_,_,i+1,off,x,⟨c1,c2,L1,L2,rfl,rfl,h3,h4⟩,hx,ho=>by
  obtain ⟨L',a1,a2⟩:=REs.set h' h4 (i:=i) (off:=off) (x:=x) (by simpa using hx) ho
  refine ⟨L1++L',?_,AH (AG _) a2⟩
  have e:(i+1)*m+off=c1.length+(i*m+off):=by rw [h3.2,AR];omega
  rw [e,Zfw]
  exact ⟨c1,_,L1,L',rfl,rfl,h3,a1⟩
theorem ZoJ [NW]:∀{vs:List AV}{ys:List CT}{us:List Value},ZfW vs=some ys->ZD (AVR g w) vs us->RCs w ys us []
 | [],_,[],h,_=>by simp [ZfW]at h;subst h;exact ⟨rfl,rfl⟩
 | [],_,_::_,_,h=>h.elim
 |_::_,_,[],_,h=>h.elim
 |x::vs,ys,u::us,h,hr=>by
  simp only[ZfW]at h
  obtain ⟨y,h1,h⟩:=AC.1 h
  obtain ⟨b,h2,rfl⟩:=AB.1 h
  have hx:x=.c y/\y.flat=true:=by
   cases x with
   |c z=>cases z<;>simp [ZtC]at h1<;>subst h1<;>exact ⟨rfl,rfl⟩
   |_=>simp [ZtC]at h1
  obtain ⟨rfl,hf⟩:=hx
  obtain ⟨L,hL,_⟩:=hr.1
  have a:L=[]:=by
   cases y with
   |int k n=>exact hL.2
   |bool b=>exact hL.2
   |str s=>exact hL.2.1
   |_=>simp [CT.flat]at hf
  subst a
  exact ⟨u,us,[],[],rfl,rfl,hL,ZoJ h2 hr.2⟩
theorem RCs.spliceG [NW] {x:List CT}{c:List Value}{L:List Nat}{ys:List CT}{us:List Value}{M:List Nat}(h:RCs w x c L) (h':RCs w ys us M):∀(off:Nat),∃A C,RCs w (splice x off ys) (splice c off us) (A++(M++C))/\(A++C).Sublist L:=by
 have hl:us.length=ys.length:=h'.len
 intro off
 induction off generalizing x c L with
 |zero=>
  obtain ⟨L',a1,a2⟩:=h.dropS (0+ys.length)
  refine ⟨[],L',?_,by simpa using a2⟩
  simp only[splice,As,Ah,hl]
  exact h'.append a1
 |succ off ih=>
  cases x with
  |nil=>
   obtain ⟨rfl,rfl⟩:=h
   refine ⟨[],[],?_,AL _⟩
   simpa [splice]using h'
  |cons x r=>
   obtain ⟨v,a,L1,L2,rfl,rfl,h1,h2⟩:=h
   obtain ⟨A,C,a1,a2⟩:=ih h2
   refine ⟨L1++A,C,?_,by rw [AM];exact AH (AG _) a2⟩
   have e1:splice (x::r) (off+1) ys=x::splice r off ys:=by
    simp only[splice,AT,AQ]
    rw [show off+1+ys.length=(off+ys.length)+1 by omega,AU]
   have e2:splice (v::a) (off+1) us=v::splice a off us:=by
    simp only[splice,AT,AQ]
    rw [show off+1+us.length=(off+us.length)+1 by omega,AU]
   rw [e1,e2]
   exact ⟨v,_,L1,A++(M++C),rfl,by simp [AM],h1,a1⟩
theorem REs.setG [NW] {m:Nat}{ys:List CT}{us:List Value}{M:List Nat}(h':RCs w ys us M):∀{xs:List (List CT)}{cs:List Value}{L:List Nat}{i off:Nat}{x:List CT},REs w m xs cs L->xs[i]?=some x->off+us.length<=m->
  ∃A C,REs w m (xs.set i (splice x off ys)) (splice cs (i*m+off) us) (A++(M++C))/\(A++C).Sublist L
 | [],_,_,_,_,_,_,hx,_=>by simp at hx
 |e::r,_,_,0,off,x,⟨c1,c2,L1,L2,rfl,rfl,h3,h4⟩,hx,ho=>by
  simp at hx;subst hx
  obtain ⟨A,C,a1,a2⟩:=h3.1.spliceG h' off
  refine ⟨A,C++L2,?_,by rw [<-AM];exact AH a2 (AG _)⟩
  rw [Nat.zero_mul,AX,Za8 _ _ _ _ (by rw [h3.2];exact ho)]
  exact ⟨splice c1 off us,c2,A++(M++C),L2,rfl,by simp [AM],⟨a1,by rw [Zai _ _ _ (by rw [h3.2];exact ho)];exact h3.2⟩,h4⟩
 |e::r,_,_,i+1,off,x,⟨c1,c2,L1,L2,rfl,rfl,h3,h4⟩,hx,ho=>by
  obtain ⟨A,C,a1,a2⟩:=REs.setG h' h4 (i:=i) (off:=off) (x:=x) (by simpa using hx) ho
  refine ⟨L1++A,C,?_,by rw [AM];exact AH (AG _) a2⟩
  have e:(i+1)*m+off=c1.length+(i*m+off):=by rw [h3.2,AR];omega
  rw [e,Zfw]
  exact ⟨c1,_,L1,A++(M++C),rfl,by simp [AM],h3,a1⟩
theorem Zow:∀{xs:List AV}{cts:List CT}{ks:List Nat}{d:Nat},Zdc st xs=some (cts,ks,d)->∀k∈ks,∃e m xs d,st.ob k=.row e m xs d
 | [],_,_,_,h=>by
  simp only[Zdc,A0,AD]at h
  obtain ⟨_,rfl,_⟩:=h
  simp
 |x::r,cts,ks,d,h=>by
  simp only[Zdc]at h
  obtain ⟨⟨c1,k1,d1⟩,h1,h⟩:=AC.1 h
  obtain ⟨⟨c2,k2,d2⟩,h2,h⟩:=AB.1 h
  simp only[AD]at h
  obtain ⟨_,rfl,_⟩:=h
  have e1:∀k∈k1,∃e m xs d,st.ob k=.row e m xs d:=by
   cases x with
   |c y=>cases y<;>simp only[avT,A0,AD]at h1<;>obtain ⟨_,rfl,_⟩:=h1<;>simp
   |row k=>
    simp only[avT]at h1
    split at h1
    .rename_i e m xs d hk
     split at h1
     .simp only[A0,AD]at h1
      obtain ⟨_,rfl,_⟩:=h1
      simp
     .simp only[A0,AD]at h1
      obtain ⟨_,rfl,_⟩:=h1
      intro j hj
      simp only[AY]at hj
      subst hj
      exact ⟨e,m,xs,d,hk⟩
    .simp at h1
   |nil e m=>
    simp only[avT]at h1
    split at h1
    .simp only[A0,AD]at h1
     obtain ⟨_,rfl,_⟩:=h1
     simp
    .simp at h1
   |n y=>simp [avT]at h1
   |dead=>simp [avT]at h1
  exact fun k mk=>(AA.1 mk).elim (e1 k) (Zow h2 k)
theorem ZxE [NW] (htt:∀t i,tt t=some i->TOk P t i) (hI:HI W g st.ob w) (hU:StU U st) {t k m i off e:Nat}{xs:List (List CT)}{d:Nat}{x ys:List CT}{vs:List AV}{va vv:Value}{ag:Bool}(hk:st.ob k=.row e m xs d) (S:¬d=0) (hx:xs[i]?=some x) (T:ZfW vs=some ys) (hl:vs.length=ZfN (tt t)) (ho:off+vs.length<=m)
  (ha:SVR g w (.rp k m i off) va) (hv:SVR g w (.p ag vs) vv) (l:0<vs.length) {s:Sem Next} (hs:s=(do Instr.storeAt t va vv;pure .skip)):Fin P W U key st g w s (.und,[(k,.row e m (xs.set i (splice x off ys)) d)]):=by
 obtain ⟨b,o,n,c,h1,rfl⟩:=ha
 obtain ⟨hm,cs,L,o1,o2,o3,o4,o5⟩:=hI.deepO hk S
 obtain ⟨us,c1,c2⟩:=PVR.cells hv
 have V:=c2.len
 have hi:i<xs.length:=(Ax.1 hx).1
 rcases o1.2 with ⟨_,hn⟩|⟨b',o',cap,a,y,X,hg,F,Y,aa,ab⟩
 .omega
 have ac:b=b'/\o=o':=by rw [y]at h1;simp at h1;exact ⟨h1.1.1.symm,h1.1.2.symm⟩
 obtain ⟨rfl,rfl⟩:=ac
 have hlt:i*m+off+us.length<=xs.length*m:=by
  have:=AZ m (show i+1<=xs.length by omega)
  rw [AR]at this
  omega
 have hcap:xs.length*m<=cap*m:=AZ m F
 have A:(sizeOf t).run P w=.ok us.length w:=by
  rw [<-V,hl]
  unfold ZfN at hl ⊢
  cases hti:tt t with
  |none=>rw [hti]at hl;simp at hl;simp [hl]at l
  |some i=>
   cases i with
   |atom z=>obtain ⟨d,zv,i,_,_,h3,_,h4,_⟩:=htt t _ hti;rw [YW h3,h4]
   |strct fs n z=>obtain ⟨_,i,_,_,h3,h4,_⟩:=htt t _ hti;rw [YW h3,h4]
   |slice e m b z=>obtain ⟨_,_,_,_,j,h3,h4,_⟩:=htt t _ hti;rw [YW h3,h4]
   |_=>rw [hti]at hl;simp at hl;simp [hl]at l
 have G:=run_storeCells_at (P:=P) b (o+(i*m+off)) e us 0 a w hg yE (AVRs.one c2)
 obtain ⟨r1,r2,r3,r4,r5,r6⟩:=ZjY b a (splice a.toList (o+(i*m+off)) us).toArray e hg
 have H:s.run P w=.ok .skip (w.setRow b (splice a.toList (o+(i*m+off)) us).toArray):=by
  subst hs
  have e:(a.toList.take (o+(i*m+off)+0)++us++a.toList.drop (o+(i*m+off)+0+us.length)).toArray=(splice a.toList (o+(i*m+off)) us).toArray:=by simp [splice]
  rw [e]at G
  simp [Instr.storeAt,Instr.sureAddr,storeVar,c1,A,G]
 have B:g.O k=[b]:=by rw [o4,y];rfl
 have I:∀b',b'<w.heap.size->¬g.own b'->(w.setRow b (splice a.toList (o+(i*m+off)) us).toArray).heap[b']?=w.heap[b']?:=fun b' _ hn=>r2 b' fun e=>hn (.inl ⟨k,by simp [B,e]⟩)
 obtain ⟨L',q1,q2⟩:=o2.set (ZoJ T c2) hx (show off+us.length<=m by omega)
 have C:(w.setRow b (splice a.toList (o+(i*m+off)) us).toArray).ownsV 0 e m (g.val k) (xs.set i (splice x off ys)).length (splice cs (i*m+off) us):=by
  have J:cs.length=xs.length*m:=o1.1
  refine ⟨by rw [Zai _ _ _ yE,J];simp,.inr ⟨b,o,cap,_,by simpa using y,X,r1,by simpa using F,Y,by rw [Ay,Zai _ _ _ (show o+(i*m+off)+us.length<=a.toList.length by simp;omega)];simpa using aa,?_⟩⟩
  have h0:((splice a.toList (o+(i*m+off)) us).toArray.toList).drop o=splice (a.toList.drop o) (i*m+off) us:=by
   show (splice a.toList (o+(i*m+off)) us).drop o=_
   unfold splice
   have ad:o<=(a.toList.take (o+(i*m+off))).length:=by simp;omega
   rw [Aj ad,Az,AW,B9,Ai]
  rw [h0]
  have:a.toList.drop o=cs++(a.toList.drop o).drop (xs.length*m):=by rw [<-ab];exact (Ak _ _).symm
  rw [this,Za8 _ _ _ _ yE]
  have e2:(xs.set i (splice x off ys)).length*m=(splice cs (i*m+off) us).length:=by rw [Zai _ _ _ yE,J];simp
  rw [e2]
  exact BB rfl
 have K:=o2.lt
 have E:REs (w.setRow b (splice a.toList (o+(i*m+off)) us).toArray) m (xs.set i (splice x off ys)) (splice cs (i*m+off) us) L':=q1.keep fun b' mb=>I b' (K b' (q2.subset mb)) (o3 b' (q2.subset mb))
 let g':Gh:=⟨g.val,g.O,upd g.D k (if d=2 then L' else []),g.Z⟩
 have hgo:∀b',g'.own b'↔g.own b':=fun b'=>Iff.rfl
 have M:(∀b'∈g'.D k,b'∈g.D k)->X7 g g' w.heap.size:=fun hs=>.of (fun b' h=>.inl h) fun j b' mb=>by
  by_cases hj:j=k
  .subst hj;exact .inl (.inr ⟨j,hs b' mb⟩)
  .exact .inl (.inr ⟨j,by simpa [g',ZP _ _ hj]using mb⟩)
 have f:∀b'∈g'.D k,b'∈g.D k:=fun b' mb=>by
  simp only[g',ZB]at mb
  split at mb
  .rename_i hd
   rcases o5 with ⟨_,o5⟩|⟨o5,_⟩
   .rw [o5];exact q2.subset mb
   .omega
  .simp at mb
 refine ⟨g',undef,_,.inr ⟨H,rfl⟩,?_,rfl,fun x u hx hu=>hu.move hx (fun _ _=>rfl) I (M f) yE,trivial,fun q=>?_,fun q hq=>?_⟩
 .refine hI.step (U:=U) (fun q=>q=k) ?_ rfl (fun b' _ hn=>r2 b' fun e=>hn k rfl (by simp [B,e])) (fun q hq=>⟨ZP _ _ hq,rfl,rfl,ZP _ _ hq⟩) hU.ob (fun _ _=>rfl) (M f) (fun q hq=>?_)
  .exact ⟨r4.trans hI.below.os,r5.trans hI.below.tape,r6.trans hI.below.output,by have:=hI.below.size;omega,fun q hq N=>by rw [r2 q (fun e=>by subst e;rcases hI.oy k q (by simp [B]) with h|h;omega;exact N h)];exact hI.below.block q hq N⟩
  .subst hq
   have v:∀b'∈g'.O q++g'.D q,b'∈g.O q++g.D q:=fun b' mb=>by
    rcases AA.1 mb with mb|mb
    .exact AA.2 (.inl mb)
    .exact AA.2 (.inr (f b' mb))
   refine ⟨?_,?_,fun b' mb=>?_,fun j hj b' mb mj=>?_⟩
   .simp only[Zh,ZB]
    refine ⟨hm,_,L',C,E,?_⟩
    rcases o5 with ⟨o5,_⟩|⟨o5,_⟩
    .exact .inl ⟨o5,o4,by simp [g',upd,o5]⟩
    .exact .inr (.inl ⟨o5,o4,by simp [g',upd,o5],fun b' mb=>o3 b' (q2.subset mb)⟩)
   .have hn:=hI.nodup q
    refine hn.sublist (AH (AG _) ?_)
    simp only[g',ZB]
    split
    .rename_i hd
     rcases o5 with ⟨_,o5⟩|⟨o5,_⟩
     .rw [o5];exact q2
     .omega
    .exact AL _
   .have hp:=hI.plain q b' (v b' mb)
    rw [hk]at hp
    obtain ⟨p1,Q,e',p2⟩:=hp
    refine ⟨p1,?_⟩
    simp only[Zh,ZB]
    show ∃a e,_=_
    by_cases R:b'=b
    .subst R;exact ⟨_,_,r1⟩
    .exact ⟨Q,e',by rw [r2 b' R];exact p2⟩
   .have ae:b'∈g.O j++g.D j:=by
     rcases AA.1 mj with mj|mj
     .exact AA.2 (.inl mj)
     .simp only[g',ZP _ _ (fun e:j=q=>hj e.symm)]at mj;exact AA.2 (.inr mj)
    exact hI.apart q j hj b' (v b' mb) ae
 .simp only[Zh,upd]
  split
  .trivial
  .exact (hU.ob q).mono fun _=>.inl
 .simp only[Zh,upd]
  split
  .rename_i e;subst e
   exact absurd (hU.gone q fun h=>hq (.inl h)) (by simp [hk])
  .exact hU.gone q fun h=>hq (.inl h)
theorem Zuq [NW] (htt:∀t i,tt t=some i->TOk P t i) (hI:HI W g st.ob w) (hU:StU U st) {t k m i off e:Nat}{xs:List (List CT)}{d:Nat}{x ys:List CT}{vs:List AV}{va vv:Value}{ag:Bool}(hk:st.ob k=.row e m xs d) (ar:¬d=0) (hx:xs[i]?=some x) {ks:List Nat}{dv:Nat}(ab:Zdc st vs=some (ys,ks,dv)) (E:(k::ks).Nodup) (hl:vs.length=ZfN (tt t)) (ho:off+vs.length<=m)
  (au:XD U vs) (ha:SVR g w (.rp k m i off) va) (hv:SVR g w (.p ag vs) vv) (J:0<vs.length) {s:Sem Next} (hs:s=(do Instr.storeAt t va vv;pure .skip)):Fin P W U key st g w s (.und,Yc ks++[(k,.row e m (xs.set i (splice x off ys)) (ZaU d dv))]):=by
 obtain ⟨b,o,n,c,h1,rfl⟩:=ha
 obtain ⟨hm,cs,L,o1,o2,o3,o4,o5⟩:=hI.deepO hk ar
 obtain ⟨us,c1,c2⟩:=PVR.cells hv
 have av:=c2.len
 have hi:i<xs.length:=(Ax.1 hx).1
 rcases o1.2 with ⟨_,hn⟩|⟨b',o',cap,a,G,aw,hg,ac,ax,ay,az⟩
 .omega
 have a0:b=b'/\o=o':=by rw [G]at h1;simp at h1;exact ⟨h1.1.1.symm,h1.1.2.symm⟩
 obtain ⟨rfl,rfl⟩:=a0
 have hlt:i*m+off+us.length<=xs.length*m:=by
  have:=AZ m (show i+1<=xs.length by omega)
  rw [AR]at this
  omega
 have hcap:xs.length*m<=cap*m:=AZ m ac
 have K:(sizeOf t).run P w=.ok us.length w:=by
  rw [<-av,hl]
  unfold ZfN at hl ⊢
  cases hti:tt t with
  |none=>rw [hti]at hl;simp at hl;simp [hl]at J
  |some i=>
   cases i with
   |atom z=>obtain ⟨d,zv,i,_,_,h3,_,h4,_⟩:=htt t _ hti;rw [YW h3,h4]
   |strct fs n z=>obtain ⟨_,i,_,_,h3,h4,_⟩:=htt t _ hti;rw [YW h3,h4]
   |slice e m b z=>obtain ⟨_,_,_,_,j,h3,h4,_⟩:=htt t _ hti;rw [YW h3,h4]
   |_=>rw [hti]at hl;simp at hl;simp [hl]at J
 have ad:=run_storeCells_at (P:=P) b (o+(i*m+off)) e us 0 a w hg yE (AVRs.one c2)
 obtain ⟨r1,r2,r3,r4,r5,r6⟩:=ZjY b a (splice a.toList (o+(i*m+off)) us).toArray e hg
 have ae:s.run P w=.ok .skip (w.setRow b (splice a.toList (o+(i*m+off)) us).toArray):=by
  subst hs
  have e:(a.toList.take (o+(i*m+off)+0)++us++a.toList.drop (o+(i*m+off)+0+us.length)).toArray=(splice a.toList (o+(i*m+off)) us).toArray:=by simp [splice]
  rw [e]at ad
  simp [Instr.storeAt,Instr.sureAddr,storeVar,c1,K,ad]
 let x_:=x
 have B:g.O k=[b]:=by rw [o4,G];rfl
 have N:g.own b:=.inl ⟨k,by simp [B]⟩
 obtain ⟨M,y1,y2,y3⟩:=Zo8 hI ab c2 au
 have af:=Zow ab
 obtain ⟨A,C,q1,q2⟩:=o2.setG y1 hx (show off+us.length<=m by omega)
 rw [Aa]at E
 have hdv:=y2.2.1
 have hdv0:=y2.2.2.1
 have ah:∀x∈g.F ks,∃j∈ks,x∈g.O j++g.D j:=fun x mx=>Zfj mx
 have Q:b∉M:=fun mb=>by
  rcases y2.2.2.2 b mb with h|⟨j,hj,mj⟩
  .exact h N
  .exact hI.apart k j (fun e=>E.1 (e ▸ hj)) b (by simp [B]) (by simp [mj])
 have R:b∉L:=fun mb=>o3 b mb N
 have l:∀x∈A++(M++C),x∈L\/x∈M:=fun x mx=>by
  simp only[AA]at mx
  rcases mx with mx|mx|mx
  .exact .inl (q2.subset (by simp [mx]))
  .exact .inr mx
  .exact .inl (q2.subset (by simp [mx]))
 have S:(w.setRow b (splice a.toList (o+(i*m+off)) us).toArray).ownsV 0 e m (g.val k) (xs.set i (splice x off ys)).length (splice cs (i*m+off) us):=by
  have ai:cs.length=xs.length*m:=o1.1
  refine ⟨by rw [Zai _ _ _ yE,ai];simp,.inr ⟨b,o,cap,_,by simpa using G,aw,r1,by simpa using ac,ax,by rw [Ay,Zai _ _ _ (show o+(i*m+off)+us.length<=a.toList.length by simp;omega)];simpa using ay,?_⟩⟩
  have h0:((splice a.toList (o+(i*m+off)) us).toArray.toList).drop o=splice (a.toList.drop o) (i*m+off) us:=by
   show (splice a.toList (o+(i*m+off)) us).drop o=_
   unfold splice
   have a1:o<=(a.toList.take (o+(i*m+off))).length:=by simp;omega
   rw [Aj a1,Az,AW,B9,Ai]
  rw [h0]
  have:a.toList.drop o=cs++(a.toList.drop o).drop (xs.length*m):=by rw [<-az];exact (Ak _ _).symm
  rw [this,Za8 _ _ _ _ yE]
  have e2:(xs.set i (splice x off ys)).length*m=(splice cs (i*m+off) us).length:=by rw [Zai _ _ _ yE,ai];simp
  rw [e2]
  exact BB rfl
 have T:REs (w.setRow b (splice a.toList (o+(i*m+off)) us).toArray) m (xs.set i (splice x off ys)) (splice cs (i*m+off) us) (A++(M++C)):=q1.keep fun b' mb=>r2 b' fun e=>by
  rcases l b' mb with h|h
  .exact R (e ▸ h)
  .exact Q (e ▸ h)
 let g':Gh:=⟨g.val,fun j=>if j∈ks then [] else g.O j,fun j=>if j=k then (if ZaU d dv=2 then A++(M++C) else []) else if j∈ks then [] else g.D j,g.Z⟩
 have gK:∀j∈ks,g'.O j=[]/\g'.D j=[]:=fun j hj=>by
  have f:¬j=k:=fun e=>E.1 (e ▸ hj)
  exact ⟨if_pos hj,by simp only[g',if_neg f,if_pos hj]⟩
 have gk:g'.O k=[b]/\g'.D k=if ZaU d dv=2 then A++(M++C) else []:=⟨by simp only[g',if_neg E.1,B],by simp only[g',if_true]⟩
 have gN:∀j,¬j=k->j∉ks->g'.O j=g.O j/\g'.D j=g.D j:=fun j h1 h2=>⟨if_neg h2,by simp only[g',if_neg h1,if_neg h2]⟩
 have V:∀x,g'.own x->g.own x:=fun x hx=>by
  rcases hx with ⟨j,mj⟩|hz
  .by_cases hj:j∈ks
   .rw [(gK j hj).1]at mj;simp at mj
   .exact .inl ⟨j,by simpa [g',hj]using mj⟩
  .exact .inr hz
 have aj:ZaU d dv=2->d=2/\dv=2:=fun h=>by
  have hd:d<=2:=by rcases o5 with ⟨q,_⟩|⟨q,_⟩<;>omega
  unfold ZaU at h;split at h<;>omega
 have H:∀x∈g'.D k,(∃j,x∈g.D j/\j=k)\/∃j∈ks,x∈g.O j++g.D j:=fun x mx=>by
  rw [gk.2]at mx
  split at mx
  .rename_i hd
   obtain ⟨e1,e2⟩:=aj hd
   rcases l x mx with h|h
   .rcases o5 with ⟨_,o5⟩|⟨q,_⟩
    .exact .inl ⟨k,by rw [o5];exact h,rfl⟩
    .omega
   .exact .inr (ah x ((y2.1 e2).subset h))
  .simp at mx
 have ak:X7 g g' w.heap.size:=.of (fun x hx=>.inl (V x hx)) fun j x mj=>by
  by_cases hj:j=k
  .subst hj
   rcases H x mj with ⟨i,mi,_⟩|⟨i,_,mi⟩
   .exact .inl (.inr ⟨i,mi⟩)
   .rcases AA.1 mi with mi|mi
    .exact .inl (.inl (.inl ⟨i,mi⟩))
    .exact .inl (.inr ⟨i,mi⟩)
  .by_cases f:j∈ks
   .rw [(gK j f).2]at mj;simp at mj
   .rw [(gN j hj f).2]at mj;exact .inl (.inr ⟨j,mj⟩)
 have a2:∀b',b'<w.heap.size->¬g.own b'->(w.setRow b (splice a.toList (o+(i*m+off)) us).toArray).heap[b']?=w.heap[b']?:=fun b' _ hn=>r2 b' fun e=>hn (e ▸ N)
 have a3:U k:=Classical.byContradiction fun h=>by have:=hU.gone k h;rw [hk]at this;simp at this
 have v:∀j,Zh st.ob (Yc ks++[(k,.row e m (xs.set i (splice x off ys)) (ZaU d dv))]) j=if j=k then .row e m (xs.set i (splice x off ys)) (ZaU d dv) else if j∈ks then .gone else st.ob j:=fun j=>QY _ _ _ _ _
 have al:∀x∈g'.D k,(W.heap.size<=x\/W.x x\/W.y x)/\YZ (w.setRow b (splice a.toList (o+(i*m+off)) us).toArray) (.row e m (xs.set i (splice x_ off ys)) (ZaU d dv)) x:=fun x mx=>by
  have am:x≠b:=fun h=>by
   rw [gk.2]at mx
   split at mx
   .rcases l x mx with q|q
    .exact R (h ▸ q)
    .exact Q (h ▸ q)
   .simp at mx
  rcases H x mx with ⟨j,mj,_⟩|⟨j,hj,mj⟩
  .exact ⟨(hI.plainD mj).1,YZ.keep (o:=.row e m (xs.set i (splice x_ off ys)) (ZaU d dv)) (hI.plainD mj).2 (r2 x am)⟩
  .obtain ⟨p1,p2⟩:=hI.plain j x mj
   obtain ⟨_,_,_,_,a4⟩:=af j hj
   rw [a4]at p2
   exact ⟨p1,YZ.keep (o:=.row e m (xs.set i (splice x_ off ys)) (ZaU d dv)) p2 (r2 x am)⟩
 refine ⟨g',undef,_,.inr ⟨ae,rfl⟩,?_,rfl,fun x u hx hu=>hu.move hx (fun _ _=>rfl) a2 ak yE,trivial,fun q=>?_,fun q hq=>?_⟩
 .refine hI.step (U:=U) (fun q=>q=k\/q∈ks) ?_ rfl (fun b' _ hn=>r2 b' fun e=>hn k (.inl rfl) (by simp [B,e])) (fun q hq=>?_) hU.ob (fun _ _=>rfl) ak (fun q hq=>?_)
  .exact ⟨r4.trans hI.below.os,r5.trans hI.below.tape,r6.trans hI.below.output,by have:=hI.below.size;omega,fun q hq an=>by rw [r2 q (fun e=>by subst e;rcases hI.oy k q (by simp [B]) with h|h;omega;exact an h)];exact hI.below.block q hq an⟩
  .have h1:¬q=k:=fun e=>hq (.inl e)
   have h2:q∉ks:=fun e=>hq (.inr e)
   exact ⟨by rw [v,if_neg h1,if_neg h2],rfl,(gN q h1 h2).1,(gN q h1 h2).2⟩
  .by_cases X:q=k
   .subst X
    rw [v,if_pos rfl]
    have a5:∀j,q≠j->∀x∈g'.O q++g'.D q,x∉g'.O j++g'.D j:=fun j hj x mx mj=>by
     by_cases f:j∈ks
     .rw [(gK j f).1,(gK j f).2]at mj;simp at mj
     .rw [(gN j (fun e=>hj e.symm) f).1,(gN j (fun e=>hj e.symm) f).2]at mj
      rcases AA.1 mx with mx|mx
      .rw [gk.1]at mx
       exact hI.apart q j hj x (by rw [B];simp at mx;simp [mx]) mj
      .rcases H x mx with ⟨i',mi,rfl⟩|⟨i',I,mi⟩
       .exact hI.apart i' j hj x (by simp [mi]) mj
       .exact hI.apart i' j (fun e=>f (e ▸ I)) x mi mj
    refine ⟨⟨hm,_,A++(M++C),S,T,?_⟩,?_,fun x mx=>?_,a5⟩
    .by_cases hd:ZaU d dv=2
     .exact .inl ⟨hd,by rw [gk.1,G];rfl,by rw [gk.2,if_pos hd]⟩
     .have a6:ZaU d dv=1:=by
       unfold ZaU at hd ⊢
       split
       .rename_i Y;rw [if_pos Y]at hd;rcases o5 with ⟨q,_⟩|⟨q,_⟩<;>omega
       .rename_i Y;rw [if_neg Y]at hd;omega
      refine .inr (.inl ⟨a6,by rw [gk.1,G];rfl,by rw [gk.2,if_neg hd],fun x mx aa=>?_⟩)
      rcases l x mx with h|h
      .exact o3 x h (V x aa)
      .rcases y2.2.2.2 x h with h|⟨j,hj,mj⟩
       .exact h (V x aa)
       .rcases aa with ⟨i',mi⟩|hz
        .by_cases I:i'∈ks
         .rw [(gK i' I).1]at mi;simp at mi
         .have a7:x∈g.O i':=by simpa [g',I]using mi
          exact hI.apart j i' (fun e=>I (e ▸ hj)) x (by simp [mj]) (by simp [a7])
        .exact hI.nz (k:=j) (by simp [mj]) hz
    .rw [gk.1,gk.2]
     simp only[List.singleton_append,Aa]
     refine ⟨fun mb=>?_,?_⟩
     .split at mb
      .rcases l b mb with h|h
       .exact R h
       .exact Q h
      .simp at mb
     .split
      .rename_i hd
       obtain ⟨e1,e2⟩:=aj hd
       have hL:L.Nodup:=by
        rcases o5 with ⟨_,o5⟩|⟨q',_⟩
        .have:=(AK.1 (hI.nodup q)).2.1
         rw [o5]at this;exact this
        .omega
       have hM:M.Nodup:=(hI.nodupF E.2).sublist (y2.1 e2)
       have ao:∀x∈L,x∉M:=fun x h1 h2=>by
        obtain ⟨j,hj,mj⟩:=ah x ((y2.1 e2).subset h2)
        rcases o5 with ⟨_,o5⟩|⟨q',_⟩
        .exact hI.apart q j (fun e=>E.1 (e ▸ hj)) x (by rw [o5];simp [h1]) mj
        .omega
       have ap:=hL.sublist q2
       rw [AK]at ap ⊢
       obtain ⟨n1,n2,n3⟩:=ap
       refine ⟨n1,AK.2 ⟨hM,n2,fun x h1 y h2 e=>ao y (q2.subset (by simp [h2])) (e ▸ h1)⟩,fun x h1 y h2 e=>?_⟩
       rcases AA.1 h2 with h2|h2
       .exact ao x (q2.subset (by simp [h1])) (e ▸ h2)
       .exact n3 x h1 y h2 e
      .simp
    .rcases AA.1 mx with mx|mx
     .rw [gk.1]at mx
      simp only[AY]at mx
      subst mx
      exact ⟨(hI.plain q x (by simp [B])).1,_,_,r1⟩
     .exact al x mx
   .have aq:q∈ks:=hq.resolve_left X
    obtain ⟨e2,e3⟩:=gK q aq
    rw [v,if_neg X,if_pos aq,e2,e3]
    exact ⟨⟨e2,e3⟩,yG,yG,yG⟩
 .rw [v]
  split
  .trivial
  .split
   .trivial
   .exact (hU.ob q).mono fun _=>.inl
 .rw [v,if_neg (by rintro rfl;exact hq (.inl a3))]
  split
  .rfl
  .exact hU.gone q fun h=>hq (.inl h)
end
end
section
open Go.RowKit
section
variable {P:Program} {W:ZaA} {U:Nat->Prop} {key:Nat} {st:St} {g:Gh} {w w':World} {a:Act} {tt:Nat->Option TI}
theorem Zs1 [NW] {α:Type}(f:Nat->α) (k:Nat):upd f k (f k)=f:=by
 funext j;by_cases hj:j=k
 .subst hj;rw [ZB]
 .rw [ZP _ _ hj]
theorem AVR.less [NW] {g1:Gh}{x:AV}{v:Value}(h:AVR g w x v) (hv:g1.val=g.val) (ho:XF g1 g):AVR g1 w x v:=by
 cases x with
 |c x=>obtain ⟨L,h1,h2⟩:=h;exact ⟨L,h1,fun b mb hb=>h2 b mb (ho.own b hb)⟩
 |n x=>exact NR.move h (fun _ _ _=>rfl) (ho.grow _)
 |row k=>exact ⟨h.1.trans (by rw [hv]),h.2⟩
 |nil e m=>exact h
 |dead=>exact h
theorem SVR.less [NW] {g1:Gh}{x:SV}{v:Value}(h:SVR g w x v) (hv:g1.val=g.val) (ho:XF g1 g):SVR g1 w x v:=
 h.move (U:=fun _=>True) (by (cases x<;>try trivial);(intro y my;cases y<;>trivial);(intro y my z mz;cases z<;>trivial)) (fun k _=>by rw [hv]) (fun _ _ _=>rfl) (ho.grow _) (AF _)
theorem Zjm [NW] {ob:Nat->Ob}(hI:HI W g ob w) (k:Nat):∃g1:Gh,HI W g1 (upd ob k (Z6 (ob k))) w/\g1.val=g.val/\XF g1 g/\((∃e m xs d,ob k=.row e m xs d)->∀b∈g.O k++g.D k,¬g1.low b):=by
 cases hk:ob k with
 |gone=>exact ⟨g,by rw [show Z6 Ob.gone=ob k from hk.symm,Zs1];exact hI,rfl,XF.refl _,yG⟩
 |box t cs=>exact ⟨g,by rw [show Z6 (Ob.box t cs)=ob k from hk.symm,Zs1];exact hI,rfl,XF.refl _,yG⟩
 |map kk vk kv=>exact ⟨g,by rw [show Z6 (Ob.map kk vk kv)=ob k from hk.symm,Zs1];exact hI,rfl,XF.refl _,yG⟩
 |row e m xs d=>
  obtain ⟨hm,cs,L,o1,o2,o3,o5⟩:=hI.deep hk
  let g1:Gh:=⟨g.val,upd g.O k [],upd g.D k [],g.Z⟩
  have hO:∀j b,b∈g1.O j->j≠k/\b∈g.O j:=fun j b mb=>by
   by_cases hj:j=k
   .subst hj;simp [g1,upd]at mb
   .exact ⟨hj,by simpa [g1,upd,hj]using mb⟩
  have hD:∀j b,b∈g1.D j->j≠k/\b∈g.D j:=fun j b mb=>by
   by_cases hj:j=k
   .subst hj;simp [g1,upd]at mb
   .exact ⟨hj,by simpa [g1,upd,hj]using mb⟩
  have l:∀j b,b∈g1.O j++g1.D j->j≠k/\b∈g.O j++g.D j:=fun j b mb=>by
   rcases AA.1 mb with m1|m1
   .exact ⟨(hO j b m1).1,by simp [(hO j b m1).2]⟩
   .exact ⟨(hD j b m1).1,by simp [(hD j b m1).2]⟩
  have a:∀b,g1.own b->g.own b:=fun b hb=>by
   rcases hb with ⟨j,mj⟩|hz
   .exact .inl ⟨j,(hO j b mj).2⟩
   .exact .inr hz
  have f:XF g1 g:=.of a fun j b mb=>⟨j,(hD j b mb).2⟩
  have o:∀b∈(g.val k).ownBlock.toList,¬g1.own b:=fun b mb hb=>by
   rcases o5 with ⟨_,q,_⟩|⟨_,q,_⟩|⟨_,_,_,q⟩
   .have mk:b∈g.O k++g.D k:=by simp [q,mb]
    rcases hb with ⟨j,mj⟩|hz
    .exact hI.apart k j (fun e=>(hO j b mj).1 e.symm) b mk (by simp [(hO j b mj).2])
    .exact hI.nz mk hz
   .have mk:b∈g.O k++g.D k:=by simp [q,mb]
    rcases hb with ⟨j,mj⟩|hz
    .exact hI.apart k j (fun e=>(hO j b mj).1 e.symm) b mk (by simp [(hO j b mj).2])
    .exact hI.nz mk hz
   .exact q b mb (a b hb)
  refine ⟨g1,⟨hI.below,fun j=>?_,fun j=>?_,fun i j p b mb mj=>?_,fun j b mb=>?_,hI.gz,hI.zx,hI.nw,fun j b mb=>hI.oy j b (hO j b mb).2⟩,rfl,f,fun _ b mb hb=>?_⟩
  rotate_right
  .rcases hb with (⟨j,mj⟩|hz)|⟨j,mj⟩
   .exact hI.apart k j (fun e=>(hO j b mj).1 e.symm) b mb (by simp [(hO j b mj).2])
   .exact hI.nz mb hz
   .exact hI.apart k j (fun e=>(hD j b mj).1 e.symm) b mb (by simp [(hD j b mj).2])
  .by_cases hj:j=k
   .subst hj
    rw [ZB]
    refine ⟨hm,cs,L,o1,o2,.inr (.inr ⟨rfl,by simp [g1,upd],by simp [g1,upd],fun b mb=>?_⟩)⟩
    rcases AA.1 mb with m1|m1
    .exact o b m1
    .exact fun hb=>o3 b m1 (a b hb)
   .rw [ZP _ _ hj]
    have ho:=hI.obs j
    cases hoj:ob j with
    |gone=>rw [hoj]at ho;exact ⟨by simpa [g1,upd,hj]using ho.1,by simpa [g1,upd,hj]using ho.2⟩
    |box t ds=>
     rw [hoj]at ho
     obtain ⟨b,vs,h1,h2,h3,h4,h5⟩:=ho
     exact ⟨b,vs,h1,by simpa [g1,upd,hj]using h2,by simpa [g1,upd,hj]using h3,h4,h5.mono fun x u _ hx=>AVR.less hx rfl f⟩
    |map kk vk kv=>
     rw [hoj]at ho
     obtain ⟨b,es,c,h1,h2,h3,h4⟩:=ho
     exact ⟨b,es,c,h1,by simpa [g1,upd,hj]using h2,by simpa [g1,upd,hj]using h3,h4⟩
    |row e' m' xs' d'=>
     rw [hoj]at ho
     obtain ⟨v,y,L',p1,p2,p3⟩:=ho
     refine ⟨v,y,L',p1,p2,?_⟩
     have e1:g1.O j=g.O j:=by simp [g1,upd,hj]
     have e2:g1.D j=g.D j:=by simp [g1,upd,hj]
     rw [e1,e2]
     rcases p3 with p3|⟨q1,q2,q3,q4⟩|⟨q1,q2,q3,q4⟩
     .exact .inl p3
     .exact .inr (.inl ⟨q1,q2,q3,fun b mb hb=>q4 b mb (a b hb)⟩)
     .exact .inr (.inr ⟨q1,q2,q3,fun b mb hb=>q4 b mb (a b hb)⟩)
  .by_cases hj:j=k
   .subst hj;simp [g1,upd]
   .have:=hI.nodup j;simpa [g1,upd,hj]using this
  .exact hI.apart i j p b (l i b mb).2 (l j b mj).2
  .rw [ZP _ _ (l j b mb).1];exact hI.plain j b (l j b mb).2
theorem Zw6 [NW] {ob:Nat->Ob}(hI:HI W g ob w) {k t:Nat}{cs:List AV}(hk:ob k=.box t cs):∃g1:Gh,HI W g1 (upd ob k .gone) w/\g1.val=g.val/\XF g1 g/\∃b vs,g.val k=.pointer (some ⟨b,0,none⟩)/\¬g1.own b/\b<w.heap.size/\Za9 w b 0 vs/\ZD (AVR g w) cs vs:=by
 have ho:=hI.obs k
 rw [hk]at ho
 obtain ⟨b,vs,h1,h2,h3,h4,h5⟩:=ho
 let g1:Gh:=⟨g.val,upd g.O k [],upd g.D k [],g.Z⟩
 have hO:∀j x,x∈g1.O j++g1.D j->j≠k/\x∈g.O j++g.D j:=fun j x mx=>by
  by_cases hj:j=k
  .subst hj;simp [g1,upd]at mx
  .exact ⟨hj,by simpa [g1,upd,hj]using mx⟩
 have a:∀x,g1.own x->g.own x/\x≠b:=fun x hx=>by
  rcases hx with ⟨j,mj⟩|hz
  .have:=hO j x (by simp [mj])
   refine ⟨.inl ⟨j,?_⟩,fun e=>?_⟩
   .have hj:=this.1
    simpa [g1,upd,hj]using mj
   .subst e
    exact hI.apart j k this.1 x this.2 (by simp [h2])
  .exact ⟨.inr hz,fun e=>by subst e;exact hI.nz (k:=k) (by simp [h2]) hz⟩
 have d:XF g1 g:=.of (fun x hx=>(a x hx).1) fun j b mb=>⟨j,by
  have hj:=(hO j b (by simp [mb])).1
  simpa [g1,upd,hj]using mb⟩
 refine ⟨g1,⟨hI.below,fun j=>?_,fun j=>?_,fun i j f x mx mj=>?_,fun j x mx=>?_,hI.gz,hI.zx,hI.nw,fun j x mx=>by
  by_cases hj:j=k
  .subst hj;simp [g1,upd]at mx
  .exact hI.oy j x (by simpa [g1,upd,hj]using mx)⟩,rfl,d,b,vs,h1,fun hb=>(a b hb).2 rfl,(BC.1 h4).1,fun j u hj=>?_,h5⟩
 .by_cases hj:j=k
  .subst hj;rw [ZB];exact ⟨by simp [g1,upd],by simp [g1,upd]⟩
  .rw [ZP _ _ hj]
   have ho:=hI.obs j
   have e1:g1.O j=g.O j:=by simp [g1,upd,hj]
   have e2:g1.D j=g.D j:=by simp [g1,upd,hj]
   cases hoj:ob j with
   |gone=>rw [hoj]at ho;exact ⟨e1.trans ho.1,e2.trans ho.2⟩
   |box t ds=>
    rw [hoj]at ho
    obtain ⟨b,vs,h1,h2,h3,h4,h5⟩:=ho
    exact ⟨b,vs,h1,e1.trans h2,e2.trans h3,h4,h5.mono fun x u _ hx=>AVR.less hx rfl d⟩
   |map kk vk kv=>
    rw [hoj]at ho
    obtain ⟨b,es,c,h1,h2,h3,h4⟩:=ho
    exact ⟨b,es,c,h1,e1.trans h2,e2.trans h3,h4⟩
   |row e' m' xs' d'=>
    rw [hoj]at ho
    obtain ⟨l,m,L',p1,p2,p3⟩:=ho
    refine ⟨l,m,L',p1,p2,?_⟩
    rw [e1,e2]
    rcases p3 with p3|⟨q1,q2,q3,q4⟩|⟨q1,q2,q3,q4⟩
    .exact .inl p3
    .exact .inr (.inl ⟨q1,q2,q3,fun b mb hb=>q4 b mb (a b hb).1⟩)
    .exact .inr (.inr ⟨q1,q2,q3,fun b mb hb=>q4 b mb (a b hb).1⟩)
 .by_cases hj:j=k
  .subst hj;simp [g1,upd]
  .have:=hI.nodup j;simpa [g1,upd,hj]using this
 .exact hI.apart i j f x (hO i x mx).2 (hO j x mj).2
 .rw [ZP _ _ (hO j x mx).1];exact hI.plain j x (hO j x mx).2
 .rw [AX,cell_of_row w b j vs.toArray t (0,0) h4];simpa using hj
theorem Zq8 [NW] {ob:Nat->Ob}(hI:HI W g ob w) {k e m:Nat}{xs:List (List CT)}(hk:ob k=.row e m xs 0):∃L,RC w (.sl e m xs) (g.val k) L/\∀b∈L,¬g.own b:=by
 obtain ⟨hm,cs,L1,o1,o2,o3,o5⟩:=hI.deep hk
 obtain ⟨A,cap,L0,s1,s2,s3,s4,s5⟩:=Sl.row o1
 refine ⟨L0++L1,⟨A,cap,cs,L0,L1,s1,s2,s3,rfl,hm,s4,o2⟩,fun b mb=>?_⟩
 rcases AA.1 mb with m1|m1
 .rcases o5 with ⟨q,_⟩|⟨q,_⟩|⟨_,_,_,q⟩
  .omega
  .omega
  .exact q b (s5.subset m1)
 .exact o3 b m1
theorem REs.dropS {m:Nat}:∀{xs:List (List CT)}{cs:List Value}{L:List Nat}(l:Nat),REs w m xs cs L->∃L',REs w m (xs.drop l) (cs.drop (l*m)) L'/\L'.Sublist L
 |xs,cs,L,0,h=>⟨L,by simpa using h,AG _⟩
 | [],cs,L,l+1,h=>⟨[],by obtain ⟨rfl,rfl⟩:=h;simp [REs],AL _⟩
 |x::r,_,_,l+1,⟨c1,c2,L1,L2,rfl,rfl,h3,h4⟩=>by
  obtain ⟨L',h5,h6⟩:=REs.dropS l h4
  refine ⟨L',?_,h6.trans (Ar _ _)⟩
  have e:(l+1)*m=c1.length+l*m:=by rw [h3.2,AR];omega
  have e2:(c1++c2).drop (c1.length+l*m)=c2.drop (l*m):=by
   rw [At,Au (Aw _ _),Ah,AW]
  rw [e,e2]
  simpa using h5
theorem Zwy [NW] (htt:∀t i,tt t=some i->TOk P t i) (hI:HI W g st.ob w) (hU:StU U st) (c:¬U key) {t k e m d l:Nat}{xs:List (List CT)}(hk:st.ob k=.row e m xs d) (E:¬d=0) (a:Zkh (tt t)=m) {lo:Option SV}{vx:Value}{vlo:Option Value}(hl:loB xs.length lo=some l) (hx:SVR g w (.p false [.row k]) vx)
  (F:Zme g w lo vlo) {s:Sem Next} (hs:s=(do pure (.value (<-Instr.sliceAt t vx vlo none none)))):Fin P W U key st g w s (.p false [.row key],[(k,.gone),(key,.row e m (xs.drop l) d)]):=by
 obtain ⟨hm,cs,L,o1,o2,o3,o4,o5⟩:=hI.deepO hk E
 have hv:=ZfE hx
 subst hv
 obtain ⟨A,cap,hv,G,hcm⟩:=Zav o1
 obtain ⟨b1,b2,_⟩:=Ziz (P:=P) (w:=w) (g:=g) (b:=true) (len:=xs.length) (cap:=cap) (h:=xs.length) (hi:=none) (vhi:=none) rfl hl F trivial G
 obtain ⟨e',b',z',H⟩:∃e' b' z',tt t=some (.slice e' m b' z'):=by
  unfold Zkh at a
  split at a
  .rename_i h1;subst a;exact ⟨_,_,_,h1⟩
  .omega
 obtain ⟨hu,_,_,⟨ie,zv,I,J,_⟩,_⟩:=htt t _ H
 have hO:g.O k=(Value.slice A xs.length cap).ownBlock.toList:=by rw [o4,hv]
 have f:=o1
 rw [hv]at f
 obtain ⟨t1,t2⟩:=ZsK (l:=l) f b2
 generalize hw:(Value.slice (if cap=l then A else A.map (·.add (l*m))) (xs.length - l) (cap - l))=v' at t1 t2
 have u:s.run P w=.ok (.value v') w:=by
  subst hs
  have:(Instr.sliceAt t (.slice A xs.length cap) vlo none none).run P w=.ok v' w:=by
   rw [<-hw]
   simp [Instr.sliceAt,Yt hu,Instr.slice,b1,YW I,J]
  rw [hv]
  simp only[Sem.run_bind,this,Result.andThen_ok,Sem.run_pure]
 obtain ⟨M,r1,r2⟩:=o2.dropS l
 have K:U k:=Classical.byContradiction fun hn=>by have:=hU.gone _ hn;rw [hk]at this;simp at this
 have x:∀b∈(if d=2 then M else []),b∈g.D k:=fun b mb=>by
  split at mb
  .rename_i hd
   rcases o5 with ⟨_,q⟩|⟨q,_⟩
   .rw [q];exact r2.subset mb
   .omega
  .simp at mb
 have z:(xs.drop l).length=xs.length - l:=by simp
 obtain ⟨i1,i2⟩:=hI.turn (key:=key) (U:=U) (w':=w) (v:=v') (O:=v'.ownBlock.toList) (D:=if d=2 then M else []) (o:=.row e m (xs.drop l) d) hU.ob c [k]
  (fun j mj=>by simp at mj;subst mj;exact K) hI.below (AF _) (fun b hb hn=>rfl)
  (fun b mb=>.inl ⟨k,yG,by rw [hO,<-t2];exact mb⟩)
  (fun b mb=>.inl ⟨k,yG,AA.2 (.inr (x b mb))⟩)
  (by
   have hn:=hI.nodup k
   refine hn.sublist (AH (by rw [hO,<-t2];exact AG _) ?_)
   split
   .rename_i hd
    rcases o5 with ⟨_,q⟩|⟨q,_⟩
    .rw [q];exact r2
    .omega
   .exact AL _)
  (fun b mb=>by
   have B:b∈g.O k++g.D k:=by
    rcases AA.1 mb with mb|mb
    .exact AA.2 (.inl (by rw [hO,<-t2];exact mb))
    .exact AA.2 (.inr (x b mb))
   obtain ⟨p1,p2⟩:=hI.plain k b B
   exact ⟨p1,p2.of (by rw [hk];rfl)⟩)
  (fun hown=>⟨hm,cs.drop (l*m),M,by simp only[Gh.turn,ZB];rw [z];exact t1,r1,by
   rcases o5 with ⟨q,_⟩|⟨q,_⟩
   .exact .inl ⟨q,by simp [Gh.turn,ZB],by simp [Gh.turn,q]⟩
   .refine .inr (.inl ⟨q,by simp [Gh.turn,ZB],by simp [Gh.turn,q],fun b mb ho=>?_⟩)
    rcases Zfn ho with mo|⟨j,_,_,mj⟩|hz
    .exact o3 b (r2.subset mb) (.inl ⟨k,by rw [hO,<-t2];exact mo⟩)
    .exact o3 b (r2.subset mb) (.inl ⟨j,mj⟩)
    .exact o3 b (r2.subset mb) (.inr hz)⟩)
 have C:=ZiT (key:=key) (o:=.row e m (xs.drop l) d) hU [k] trivial
 refine ⟨_,v',w,.inl u,i1,⟨_,rfl,⟨by simp [Gh.turn,ZB],?_⟩⟩,i2,fun y my=>by simp at my;subst my;exact ZjV,C.1,C.2⟩
 rw [<-hw]
 simp [Value.oneCell']
theorem Zut [NW] (htt:∀t i,tt t=some i->TOk P t i) (hI:HI W g st.ob w) (hU:StU U st) (o:¬U key) {t:Nat}{x:SV}{r:SV×List (Nat×Ob)}{lo hi:Option SV}{vx:Value}{vlo vhi:Option Value}(h:Q7 st key (tt t) lo hi x=some r) (hx:SVR g w x vx)
  (a:Zme g w lo vlo) (b:Zme g w hi vhi) {s:Sem Next} (hs:s=(do pure (.value (<-Instr.sliceAt t vx vlo vhi none)))):Fin P W U key st g w s r:=by
 unfold Q7 at h
 split at h
 .rename_i k
  split at h
  rotate_left
  .simp at h
  split at h
  .rename_i e m xs d hk
   split at h
   .rename_i u
    split at h
    .rename_i f
     obtain ⟨l,hl,rfl⟩:=AB.1 h
     unfold mvS at f
     split at f
     .have A:¬d=0:=fun e=>by subst e;simp at f
      cases vhi with
      |some _=>exact b.elim
      |none=>exact Zwy htt hI hU o hk A u hl hx a hs
     .simp at f
    obtain ⟨q,hq,h⟩:=AC.1 h
    obtain ⟨l,hl,rfl⟩:=AB.1 h
    obtain ⟨g1,i1,i2,i3,_⟩:=Zjm hI k
    rw [hk]at i1
    obtain ⟨L,t1,t2⟩:=Zq8 i1 (ZB st.ob k (.row e m xs 0))
    have B:vx=g1.val k:=by rw [i2];exact ZfE hx
    have C:SVR g1 w (.p false [.c (.sl e m xs)]) vx:=⟨_,rfl,L,B ▸ t1,t2⟩
    have D:Zme g1 w lo vlo:=by
     cases lo<;>cases vlo<;>simp only[Zme]at a ⊢
     exact a.less i2 i3
    have E:Zme g1 w hi vhi:=by
     cases hi<;>cases vhi<;>simp only[Zme]at b ⊢
     exact b.less i2 i3
    obtain ⟨cv,c1,c2,c3⟩:=ZqS (t:=t) (U:=U) (g:=g1) (P:=P) (x:=.p false [.c (.sl e m xs)]) (v:=.p false [.c (.sl e m ((xs.take q).drop l))]) htt (by simp only[ZlZ,u,if_true,hq,hl,Al,BD]) C D E
    have F:U k:=Classical.byContradiction fun hn=>by have:=hU.gone _ hn;rw [hk]at this;simp at this
    refine ⟨g1,cv,w,.inl (by rw [hs];simp only[Sem.run_bind,c1,Result.andThen_ok,Sem.run_pure]),i1,c2,fun y v _ hy=>hy.less i2 i3,c3.mono fun _=>.inl,fun j=>?_,fun j hj=>?_⟩
    .show obU _ (upd st.ob k (.row e m xs 0) j)
     by_cases z:j=k
     .subst z;rw [ZB];trivial
     .rw [ZP _ _ z];exact (hU.ob j).mono fun _=>.inl
    .show upd st.ob k (.row e m xs 0) j=_
     rw [ZP _ _ (show j≠k from fun e=>hj (.inl (e ▸ F)))];exact hU.gone j fun h=>hj (.inl h)
   .simp at h
  .simp at h
 .obtain ⟨v,hv,rfl⟩:=AB.1 h
  obtain ⟨cv,c1,c2,c3⟩:=ZqS (U:=U) htt hv hx a b
  exact Za7 hI hU (by rw [hs];simp only[Sem.run_bind,c1,Result.andThen_ok,Sem.run_pure]) c2 c3
 .simp at h
end
end
section
open Go.RowKit Go.MapKept
theorem Zlv {kk:PK}{d:TypeDesc}{k:Value}(hd:ZdW kk d=true) (hk:ZhH kk k):IsKey d k:=by
 cases kk<;>cases d<;>simp [ZdW]at hd<;>cases k<;>simp_all [ZhH,IsKey]
theorem Zt0 {kk:PK}{a b:Value}(ha:ZhH kk a) (hb:ZhH kk b):vEq a b=true↔a=b:=by
 cases kk<;>cases a<;>simp [ZhH]at ha<;>cases b<;>simp [ZhH]at hb<;>simp_all [vEq,sEq]
theorem Zif [NW] {kk vk:PK}{d:TypeDesc}{k:Value}(hd:ZdW kk d=true) (hk:ZhH kk k):∀(l:List MapEntry) (i:Nat),ZjC kk vk (l.map fun e=>(e.key,e.val))->
  (Instr.findNow d k l i=some none/\Zk8 (l.map fun e=>(e.key,e.val)) k=none/\∀v,Zfb (l.map fun e=>(e.key,e.val)) k v=(l.map fun e=>(e.key,e.val))++[(k,v)])\/
  ∃j e,Instr.findNow d k l i=some (some (i+j,e.val))/\l[j]?=some e/\e.key=k/\Zk8 (l.map fun e=>(e.key,e.val)) k=some e.val/\ZhH vk e.val/\∀v,Zfb (l.map fun e=>(e.key,e.val)) k v=(l.modify j fun e=>{ e with key:=k,val:=v }).map fun e=>(e.key,e.val)
 | [],i,_=>.inl ⟨rfl,rfl,fun _=>rfl⟩
 |e::l,i,h=>by
  have he:=h (e.key,e.val) yG
  obtain ⟨r,hr,b⟩:=sameNow_of_keys (Zlv hd hk) (Zlv hd he.1)
  cases r with
  |true=>
   have c:=b.1 rfl
   have hv:vEq k e.key=true:=(Zt0 hk he.1).2 c
   exact .inr ⟨0,e,by simp [Instr.findNow,hr],rfl,c.symm,by simp [Zk8,hv],he.2,fun v=>by simp [Zfb,hv]⟩
  |false=>
   have a:¬vEq k e.key=true:=fun q=>by have:=b.2 ((Zt0 hk he.1).1 q);cases this
   rcases Zif hd hk l (i+1) (fun p m=>h p (by simp only[Am,AE];exact .inr m)) with ⟨h1,h2,h3⟩|⟨j,e',h1,h2,h3,h4,h5,h6⟩
   .exact .inl ⟨by simp [Instr.findNow,hr,h1],by simp [Zk8,a,h2],fun v=>by simp [Zfb,a,h3]⟩
   .exact .inr ⟨j+1,e',by simp [Instr.findNow,hr,h1];omega,by simpa using h2,h3,by simp [Zk8,a,h4],h5,fun v=>by simp [Zfb,a,h6]⟩
section
variable {P:Program} {W:ZaA} {U:Nat->Prop} {key:Nat} {st:St} {g:Gh} {w w':World} {a:Act} {tt:Nat->Option TI}
theorem ZAo [NW] {vk:PK}{v:Value}(h:ZhH vk v):AVR g w (avV v) v:=by
 cases vk<;>cases v<;>simp [ZhH]at h<;>first|exact ⟨[],⟨rfl,rfl⟩,yG⟩|exact ⟨[],⟨rfl,rfl,h⟩,yG⟩
theorem ZCX (v:Value):avU U (avV v):=by cases v<;>trivial
theorem Zo9 [NW] {kk:PK}{x:SV}{v k:Value}(h:ZuL kk x=some k) (hx:SVR g w x v):v=k/\ZhH kk k:=by
 unfold ZuL at h
 split at h
 .split at h<;>simp only[A0,reduceCtorEq]at h
  rename_i e;subst e h
  exact ⟨ZbG hx,rfl⟩
 .simp only[A0]at h;subst h
  exact ⟨(Zig hx).1,(Zig hx).2⟩
 .simp only[A0]at h;subst h
  exact ⟨ZfZ hx,trivial⟩
 .simp at h
theorem ZmL (htt:∀t i,tt t=some i->TOk P t i) {t:Nat}{kk vk:PK}(h:ZeG kk vk (tt t)=true):TOk P t (.map kk vk):=by
 unfold ZeG at h
 split at h
 .rename_i a b c
  simp only[Bool.and_eq_true,decide_eq_true_eq]at h
  rw [h.1,h.2]at c
  exact htt _ _ c
 .simp at h
theorem Zvo [NW] {vk:PK}{zv:Value}(h:ZaV (Ze3 vk) zv=true):AVR g w (Ze3 vk) zv/\avU U (Ze3 vk):=by
 refine ⟨Zfm h,?_⟩
 cases vk<;>trivial
theorem ZrQ [NW] (htt:∀t i,tt t=some i->TOk P t i) {t:Nat}{kk vk:PK}{kv:List (Value×Value)}{i v:SV}{vi:Value}{ok:Bool}{b c:Nat}{es:Array MapEntry}(hm:ZeG kk vk (tt t)=true) (h:Zrb kk vk kv i ok=some v) (hi:SVR g w i vi) (hb:w.heap[b]?=some (.map es c)) (m:Zd8 es=kv) (o:ZjC kk vk kv):
  ∃cv,(Instr.lookup t (.map (some b)) vi ok).run P w=.ok cv w/\SVR g w v cv/\svU U v:=by
 obtain ⟨kt,et,dk,dv,inf,zv,h1,h2,h3,h4,h5,h6,h7,h8⟩:=ZmL htt hm
 unfold Zrb at h
 obtain ⟨k,hk,rfl⟩:=AB.1 h
 obtain ⟨rfl,d⟩:=Zo9 hk hi
 subst m
 have hz:=Zvo (g:=g) (w:=w) (U:=U) h8
 have q:(zeroValue et).run P w=.ok zv w:=Zjj h6 h7
 have key:∃r:Option (Nat×Value),(Instr.findKey kt vi es.toList).run P w=.ok r w/\(match r with|some p=>Zk8 (Zd8 es) vi=some p.2/\ZhH vk p.2|none=>Zk8 (Zd8 es) vi=none):=by
  rcases Zif h3 d es.toList 0 o with ⟨f1,f2,_⟩|⟨j,e,f1,f2,f3,f4,f5,_⟩
  .exact ⟨none,run_findKey h2 f1,f2⟩
  .exact ⟨some _,run_findKey h2 f1,f4,f5⟩
 obtain ⟨r,hr,a⟩:=key
 have f:(Instr.checkKey es.isEmpty 10000 kt vi).run P w=.ok () w:=run_checkKey (P:=P) (w:=w) h2 (Zlv h3 d) es.isEmpty 9999
 have hg:(getObj b).run P w=.ok (.map es c) w:=by simp [getObj,Sem.run,hb]
 have l:∃rv rb,(Instr.lookup t (.map (some b)) vi ok).run P w=.ok (if ok then .tuple #[rv,.bool rb] else rv) w/\AVR g w (ZbZ (Zd8 es) vi (Ze3 vk)) rv/\avU U (ZbZ (Zd8 es) vi (Ze3 vk))/\Ze4 (Zd8 es) vi=rb:=by
  cases r with
  |none=>
   simp only at a
   refine ⟨zv,false,?_,by simp only[ZbZ,a];exact hz.1,by simp only[ZbZ,a];exact hz.2,by simp [Ze4,a]⟩
   unfold Instr.lookup
   simp only[Sem.run_bind,Yt h1,Result.andThen_ok,hg,Sem.run_pure,f,hr,q]
  |some p=>
   simp only at a
   refine ⟨p.2,true,?_,by simp only[ZbZ,a.1];exact ZAo a.2,by simp only[ZbZ,a.1];exact ZCX _,by simp [Ze4,a.1]⟩
   unfold Instr.lookup
   simp only[Sem.run_bind,Yt h1,Result.andThen_ok,hg,Sem.run_pure,f,hr]
 obtain ⟨rv,rb,q1,q2,q3,q4⟩:=l
 refine ⟨_,q1,?_,?_⟩
 .cases ok with
  |true=>exact ⟨[rv,.bool rb],rfl,⟨_,rfl,q2⟩,⟨_,rfl,[],⟨by rw [q4],rfl⟩,yG⟩,trivial⟩
  |false=>exact ⟨_,rfl,q2⟩
 .cases ok with
  |true=>
   intro y my
   simp only[AE,List.not_mem_nil,or_false]at my
   rcases my with rfl|rfl
   .intro z mz;simp at mz;subst mz;exact q3
   .intro z mz;simp at mz;subst mz;trivial
  |false=>intro z mz;simp at mz;subst mz;exact q3
theorem Zye [NW] (htt:∀t i,tt t=some i->TOk P t i) (hI:HI W g st.ob w) {t:Nat}{x i v:SV}{vx vi:Value}{ok:Bool}(h:Zg0 st (tt t) x i ok=some v) (hx:SVR g w x vx) (hi:SVR g w i vi):
  ∃cv,(Instr.lookup t vx vi ok).run P w=.ok cv w/\SVR g w v cv/\svU U v:=by
 unfold Zg0 at h
 split at h
 .rename_i k
  split at h
  .rename_i kk vk kv hk
   split at h
   .rename_i hm
    have hv:=ZfE hx
    have ho:=hI.obs k
    rw [hk]at ho
    obtain ⟨b,es,c,h1,_,_,h4,h5,h6⟩:=ho
    rw [hv,h1]
    exact ZrQ htt hm h hi h4 h5 h6
   .simp at h
  .simp at h
 .rename_i kk vk kv
  split at h
  .rename_i hm
   obtain ⟨y,hy,hx⟩:=hx
   simp at hy;subst hy
   obtain ⟨L,⟨b,es,c,rfl,h4,h5,h6,_⟩,_⟩:=hx
   exact ZrQ htt hm h hi h4 h5 h6
  .simp at h
 .simp at h
theorem ZzE [NW] (htt:∀t i,tt t=some i->TOk P t i) (hI:HI W g st.ob w) (hU:StU U st) (c:¬U key) {t:Nat}{r:SV×List (Nat×Ob)}(h:Zn4 key (tt t)=some r) {s:Sem Next}(hs:s=(do pure (.value (<-Instr.makeMap t none)))):Fin P W U key st g w s r:=by
 unfold Zn4 at h
 split at h
 .rename_i kk vk hti
  simp only[A0]at h;subst h
  have d:s.run P w=.ok (.value (.map (some w.heap.size))) (w.alloc (.map #[] 0)):=by
   subst hs
   have h0:(Instr.makeMap t none).run P w=.ok (.map (some w.heap.size)) (w.alloc (.map #[] 0)):=rfl
   simp only[Sem.run_bind,h0,Result.andThen_ok,Sem.run_pure]
  have hb:Below w.heap.size w (w.alloc (.map #[] 0)):=(Below.refl _ _).alloc (AF _) _
  have a:=heap_alloc_new w (.map #[] 0)
  obtain ⟨h1,h2⟩:=hI.turn (key:=key) (U:=U) (w':=w.alloc (.map #[] 0)) (v:=.map (some w.heap.size)) (O:=[w.heap.size]) (D:=[]) (o:=.map kk vk []) hU.ob c [] yG
   (hI.below.trans hb) hb.size (fun b f _=>hb.block b f) yG yG yG (fun b mb=>by
    simp at mb;subst mb
    exact ⟨.inl hI.below.size,_,_,a⟩)
   (fun _=>⟨w.heap.size,#[],0,by simp [Gh.turn,upd],by simp [Gh.turn,upd],by simp [Gh.turn,upd],a,rfl,fun _ m=>by simp at m⟩)
  have e:=ZiT (key:=key) (o:=.map kk vk []) hU [] trivial
  exact ⟨_,_,_,.inl d,h1,⟨_,rfl,⟨by simp [Gh.turn,upd],by simp [Value.oneCell']⟩⟩,h2,fun y my=>by simp at my;subst my;exact ZjV,e.1,e.2⟩
 .simp at h
theorem Zx6 [NW] (htt:∀t i,tt t=some i->TOk P t i) {t:Nat}{kk vk:PK}{kv:List (Value×Value)}{k v:Value}{b c:Nat}{es:Array MapEntry}(hm:ZeG kk vk (tt t)=true) (hk:ZhH kk k) (hv:ZhH vk v) (hb:w.heap[b]?=some (.map es c)) (x:Zd8 es=kv) (d:ZjC kk vk kv):
  ∃f c',(Instr.mapUpdate t (.map (some b)) k v).run P w=.ok () { w with heap:=w.heap.setIfInBounds b (.map f c') }/\Zd8 f=Zfb kv k v/\ZjC kk vk (Zfb kv k v):=by
 obtain ⟨kt,et,dk,dv,inf,zv,h1,h2,h3,h4,h5,h6,h7,h8⟩:=ZmL htt hm
 subst x
 have g:(Instr.checkKey false 10000 kt k).run P w=.ok () w:=run_checkKey (P:=P) (w:=w) h2 (Zlv h3 hk) false 9999
 have hg:(getObj b).run P w=.ok (.map es c) w:=by simp [getObj,Sem.run,hb]
 have l:∀o,(setObj b o).run P w=.ok () { w with heap:=w.heap.setIfInBounds b o }:=fun o=>by simp [setObj,Sem.run,hb]
 have a:∀{kv:List (Value×Value)},ZjC kk vk kv->ZjC kk vk (Zfb kv k v):=fun {kv}=>by
  induction kv with
  |nil=>intro _ p m;simp [Zfb]at m;subst m;exact ⟨hk,hv⟩
  |cons q r ih=>
   intro h p m
   simp only[Zfb]at m
   split at m
   .rcases AE.1 m with rfl|m
    .exact ⟨hk,hv⟩
    .exact h p (by simp [m])
   .rcases AE.1 m with rfl|m
    .exact h p yG
    .exact ih (fun q mq=>h q (by simp [mq])) p m
 rcases Zif h3 hk es.toList 0 d with ⟨f1,_,f2⟩|⟨j,e,f1,f2,f3,_,_,f4⟩
 .refine ⟨es.push { key:=k,val:=v,born:=c },c+1,?_,?_,a d⟩
  .have hf:=run_findKey (P:=P) (w:=w) h2 f1
   unfold Instr.mapUpdate
   simp only[Sem.run_bind,Yt h1,Result.andThen_ok,hg,g,hf,l]
  .rw [show Zfb (Zd8 es) k v=_ from f2 v];simp [Zd8]
 .rw [AX]at f1
  have hf:=run_findKey (P:=P) (w:=w) h2 f1
  have hj:es[j]?=some e:=by simpa using f2
  have u:(Instr.keyThatStays k k).run P w=.ok k w:=run_keyThatStays (Zlv h3 hk)
  refine ⟨es.modify j fun e=>{ e with key:=k,val:=v },c,?_,?_,a d⟩
  .unfold Instr.mapUpdate
   simp only[Sem.run_bind,Yt h1,Result.andThen_ok,hg,g,hf,l,hj,BD,Option.getD_some,f3,u]
  .rw [show Zfb (Zd8 es) k v=_ from f4 v];simp [Zd8]
theorem ZAL [NW] (htt:∀t i,tt t=some i->TOk P t i) (hI:HI W g st.ob w) (hU:StU U st) {t:Nat}{x i v:SV}{u:List (Nat×Ob)}{vx vi vv:Value}(h:Zum st (tt t) x i v=some u) (hx:SVR g w x vx) (hi:SVR g w i vi) (hv:SVR g w v vv) {s:Sem Next}(hs:s=(do Instr.mapUpdate t vx vi vv;pure .skip)):Fin P W U key st g w s (.und,u):=by
 unfold Zum at h
 split at h
 .rename_i k
  split at h
  .rename_i kk vk kv hk
   split at h
   .rename_i hm
    obtain ⟨a,ha,h⟩:=AC.1 h
    obtain ⟨b',o,rfl⟩:=AB.1 h
    obtain ⟨rfl,p⟩:=Zo9 ha hi
    obtain ⟨rfl,y⟩:=Zo9 o hv
    have z:=ZfE hx
    have ho:=hI.obs k
    rw [hk]at ho
    obtain ⟨b,es,c,h1,h2,h3,h4,h5,h6⟩:=ho
    obtain ⟨d,c',r1,r2,r3⟩:=Zx6 (w:=w) htt hm p y h4 h5 h6
    have f:s.run P w=.ok .skip { w with heap:=w.heap.setIfInBounds b (.map d c') }:=by
     rw [hs,z,h1];simp only[Sem.run_bind,r1,Result.andThen_ok,Sem.run_pure]
    obtain ⟨q1,q2⟩:=heap_set (o':=.map d c') h4
    have hlt:b<w.heap.size:=(BC.1 h4).1
    have j:({ w with heap:=w.heap.setIfInBounds b (.map d c') }:World).heap.size=w.heap.size:=by simp
    have l:W.heap.size<=b\/W.x b:=hI.oy k b (by simp [h2])
    have A:U k:=Classical.byContradiction fun hn=>by have:=hU.gone _ hn;rw [hk]at this;simp at this
    have B:∀b',b'<w.heap.size->¬g.own b'->({ w with heap:=w.heap.setIfInBounds b (.map d c') }:World).heap[b']?=w.heap[b']?:=fun b' _ hn=>q2 b' fun e=>hn (.inl ⟨k,by simp [h2,e]⟩)
    refine ⟨g,undef,_,.inr ⟨f,rfl⟩,?_,rfl,fun x u hx hu=>hu.move hx (fun _ _=>rfl) B (X7.refl _ _) (Nat.le_of_eq j.symm),trivial,fun q=>?_,fun q hq=>?_⟩
    .refine hI.step (U:=U) (fun q=>q=k) ?_ rfl (fun b' _ hn=>q2 b' fun e=>hn k rfl (by simp [h2,e])) (fun q hq=>⟨ZP _ _ hq,rfl,rfl,rfl⟩) hU.ob (fun _ _=>rfl) (X7.refl _ _) (fun q hq=>?_)
     .exact ⟨hI.below.os,hI.below.tape,hI.below.output,AI hI.below.size (Nat.le_of_eq j.symm),fun q hq hx=>by
       show (w.heap.setIfInBounds b (.map d c'))[q]?=_
       rw [q2 q (fun e=>by subst e;rcases l with h|h;omega;exact hx h)];exact hI.below.block q hq hx⟩
     .subst hq
      refine ⟨?_,hI.nodup q,fun b' m=>?_,hI.apart q⟩
      .simp only[Zh,ZB]
       exact ⟨b,d,c',h1,h2,h3,q1,r2,r3⟩
      .simp [h2,h3]at m
       subst m
       refine ⟨l.imp_right .inl,?_⟩
       simp only[Zh,ZB]
       exact ⟨_,_,q1⟩
    .simp only[Zh,upd]
     split
     .trivial
     .exact (hU.ob q).mono fun _=>.inl
    .simp only[Zh,upd]
     split
     .rename_i e;subst e;exact absurd (.inl A) hq
     .exact hU.gone q fun h=>hq (.inl h)
   .simp at h
  .simp at h
 .simp at h
theorem Zud [NW]:∀{cs:List AV}{l:List CT}{vs:List Value},Zjh.zBox cs=some l->ZD (AVR g w) cs vs->∃L,RCs w l vs L/\∀b∈L,¬g.own b
 | [],l,[],h,_=>by simp [Zjh.zBox]at h;subst h;exact ⟨[],⟨rfl,rfl⟩,yG⟩
 | [],_,_::_,_,h=>h.elim
 |_::_,_,[],_,h=>h.elim
 |x::r,l,v::vs,h,hr=>by
  cases x with
  |c x=>
   simp only[Zjh.zBox]at h
   obtain ⟨b,hb,rfl⟩:=AB.1 h
   obtain ⟨L,h1,h2⟩:=Zud hb hr.2
   obtain ⟨L0,h3,h4⟩:=hr.1
   refine ⟨L0++L,⟨v,vs,L0,L,rfl,rfl,h3,h1⟩,fun b mb=>?_⟩
   rcases AA.1 mb with m|m
   .exact h4 b m
   .exact h2 b m
  |_=>simp [Zjh.zBox]at h
theorem ZuF {x:SV}{r:CT×List (Nat×Ob)}(h:Zjh st x=some r):(∀p∈r.2,p.2=Ob.gone/\∃t cs,st.ob p.1=.box t cs):=by
 unfold Zjh at h
 split at h
 .split at h
  .rename_i k _ t cs hk
   obtain ⟨l,_,rfl⟩:=AB.1 h
   intro p mp;simp at mp;subst mp
   exact ⟨rfl,t,cs,hk⟩
  .simp at h
 .simp only[A0]at h;subst h;intro p mp;simp at mp
 .simp at h
theorem Zyc [NW] {ob:Nat->Ob}(hI:HI W g ob w) {x:SV}{r:CT×List (Nat×Ob)}{v:Value}(h:Zjh st x=some r) (a:∀p∈r.2,ob p.1=st.ob p.1) (hx:SVR g w x v):
  ∃g1:Gh,HI W g1 (Zh ob r.2) w/\g1.val=g.val/\XF g1 g/\∃L,RC w r.1 v L/\∀b∈L,¬g1.own b:=by
 unfold Zjh at h
 split at h
 .rename_i k
  split at h
  .rename_i t cs hk
   obtain ⟨l,hl,rfl⟩:=AB.1 h
   have c:ob k=.box t cs:=(a (k,.gone) yG).trans hk
   obtain ⟨g1,i1,i2,i3,b,vs,j1,j2,j3,j4,j5⟩:=Zw6 hI c
   obtain ⟨L,l1,l2⟩:=Zud hl j5
   obtain ⟨b',e1,rfl⟩:=hx
   rw [j1]at e1
   simp at e1
   subst e1
   refine ⟨g1,i1,i2,i3,b::L,⟨b,vs,L,rfl,j3,rfl,j4,l1⟩,fun x mx=>?_⟩
   rcases AE.1 mx with rfl|mx
   .exact j2
   .exact fun hx=>l2 x mx (i3.own x hx)
  .simp at h
 .simp only[A0]at h;subst h
  obtain ⟨y,hy,hx⟩:=hx
  simp at hy;subst hy
  obtain ⟨L,h1,h2⟩:=hx
  exact ⟨g,hI,rfl,XF.refl _,L,h1,h2⟩
 .simp at h
theorem Zp5 [NW]:∀{xs:List SV}{ob:Nat->Ob}{g:Gh}{r:List CT×List (Nat×Ob)}{vs:List Value},HI W g ob w->ZeI st xs=some r->(r.2.map (·.1)).Nodup->(∀p∈r.2,ob p.1=st.ob p.1)->ZD (SVR g w) xs vs->
  ∃g1:Gh,HI W g1 (Zh ob r.2) w/\g1.val=g.val/\XF g1 g/\∃L,RCs w r.1 vs L/\∀b∈L,¬g1.own b
 | [],ob,g,r,vs,hI,h,_,_,hr=>by
  simp [ZeI]at h;subst h
  cases vs with
  |nil=>exact ⟨g,hI,rfl,XF.refl _,[],⟨rfl,rfl⟩,yG⟩
  |cons _ _=>exact hr.elim
 |x::xs,ob,g,r,[],hI,h,_,_,hr=>hr.elim
 |x::xs,ob,g,r,v::vs,hI,h,hn,hob,hr=>by
  simp only[ZeI]at h
  obtain ⟨a,ha,h⟩:=AC.1 h
  obtain ⟨b,hb,rfl⟩:=AB.1 h
  simp only[List.map_append,AK]at hn
  obtain ⟨n1,n2,n3⟩:=hn
  obtain ⟨g1,i1,i2,i3,L1,l1,l2⟩:=Zyc hI ha (fun p m=>hob p (by simp [m])) hr.1
  have c:∀p∈b.2,Zh ob a.2 p.1=st.ob p.1:=fun p mp=>by
   have d:∀q∈a.2,q.1≠p.1:=fun q mq=>n3 q.1 (AJ.2 ⟨q,mq,rfl⟩) p.1 (AJ.2 ⟨p,mp,rfl⟩)
   have:∀(u:List (Nat×Ob)) (ob:Nat->Ob),(∀q∈u,q.1≠p.1)->Zh ob u p.1=ob p.1:=by
    intro u
    induction u with
    |nil=>intro ob _;rfl
    |cons q u ih=>intro ob h;rw [Zh,ih _ fun z mz=>h z (by simp [mz])];exact ZP _ _ fun e=>h q yG e.symm
   rw [this _ _ d]
   exact hob p (by simp [mp])
  have f:ZD (SVR g1 w) xs vs:=hr.2.mono fun x u _ hx=>hx.less i2 i3
  obtain ⟨g2,k1,k2,k3,L2,m1,m2⟩:=Zp5 i1 hb n2 c f
  refine ⟨g2,?_,k2.trans i2,k3.trans i3,L1++L2,⟨v,vs,L1,L2,rfl,rfl,l1,m1⟩,fun x mx=>?_⟩
  .rw [Yd];exact k1
  .rcases AA.1 mx with m|m
   .exact fun hx=>l2 x m (k3.own x hx)
   .exact m2 x m
theorem Zl6 [NW]:∀{xs:List SV}{r:List CT×List (Nat×Ob)},ZeI st xs=some r->∀p∈r.2,p.2=Ob.gone/\∃t cs,st.ob p.1=.box t cs
 | [],r,h=>by simp [ZeI]at h;subst h;intro p m;simp at m
 |x::xs,r,h=>by
  simp only[ZeI]at h
  obtain ⟨a,ha,h⟩:=AC.1 h
  obtain ⟨b,hb,rfl⟩:=AB.1 h
  intro p m
  rcases AA.1 m with m|m
  .exact ZuF ha p m
  .exact Zl6 hb p m
theorem Zz6 [NW] (hI:HI W g st.ob w) (hU:StU U st) {f:FuncId}{xs:List SV}{vs:List Value}{r:List CT×List (Nat×Ob)}(h:ZeI st xs=some r) (hn:(r.2.map (·.1)).Nodup) (hr:ZD (SVR g w) xs vs) {s:Sem Next}(hs:s.run P w=.ok (.value (.func (.func f) #[] vs.toArray)) w):Fin P W U key st g w s (.p false [.c (.fn f r.1)],r.2):=by
 obtain ⟨g1,i1,i2,i3,L,l1,l2⟩:=Zp5 hI h hn (fun _ _=>rfl) hr
 have hg:=Zl6 h
 have a:∀(u:List (Nat×Ob)) (ob:Nat->Ob) (k:Nat),(∀p∈u,p.2=Ob.gone)->Zh ob u k=ob k\/Zh ob u k=.gone:=by
  intro u
  induction u with
  |nil=>intro ob k _;exact .inl rfl
  |cons q u ih=>
   intro ob k h
   rw [Zh]
   rcases ih (upd ob q.1 q.2) k (fun p m=>h p (by simp [m])) with e|e
   .rw [e]
    by_cases hk:k=q.1
    .right;rw [hk,ZB];exact h q yG
    .left;exact ZP _ _ hk
   .exact .inr e
 refine ⟨g1,_,w,.inl hs,i1,⟨_,rfl,L,⟨vs,rfl,l1⟩,l2⟩,fun x u _ hx=>hx.less i2 i3,XE _,fun k=>?_,fun k hk=>?_⟩
 .rcases a r.2 st.ob k (fun p m=>(hg p m).1) with e|e
  .rw [e];exact (hU.ob k).mono fun _=>.inl
  .rw [e];trivial
 .rcases a r.2 st.ob k (fun p m=>(hg p m).1) with e|e
  .rw [e];exact hU.gone k fun h=>hk (.inl h)
  .exact e
end
end
section
open Go.RowKit
section
variable {P:Program} {W:ZaA} {U:Nat->Prop} {key:Nat} {st:St} {g:Gh} {w w':World} {a:Act} {tt:Nat->Option TI}
theorem Zfu:∀(ts:List TypeId) (xs:List Operand),(ZiI ts xs).map (·.2)=xs
 |_,[]=>by cases ‹List TypeId›<;>rfl
 | [],x::xs=>by simp [ZiI,Zfu [] xs]
 |t::ts,x::xs=>by simp [ZiI,Zfu ts xs]
theorem ZvF [NW] (htt:∀t i,tt t=some i->TOk P t i) {t:Nat}{z:List AV}(h:Zmy (tt t)=some z):∃zv vs,(zeroValue t).run P w=.ok zv w/\zv.cells=(vs:List Value).toArray/\ZD (AVR g w) z vs/\XD U z:=by
 unfold Zmy at h
 split at h<;>simp only[A0,reduceCtorEq]at h<;>subst h<;>rename_i a
 .obtain ⟨d,zv,i,h1,h2,h3,h4,h5,h6⟩:=htt t _ a
  have hr:AVR g w _ zv:=Zfm h6
  exact ⟨zv,[zv],Zjj h3 h4,by rw [Zoy hr.one],⟨hr,trivial⟩,fun y m=>by
   simp at m;subst m
   cases y<;>first|trivial|simp [ZaV]at h6⟩
 .obtain ⟨fields,i,zvs,h1,h2,h3,h4,h5,_⟩:=htt t _ a
  obtain ⟨q1,q2⟩:=ZiE (g:=g) (w:=w) (U:=U) h5
  exact ⟨.agg zvs,zvs.toList,Zjj h2 h4,by simp [Value.cells],q1,q2⟩
 .obtain ⟨_,hm,_,_,j,h1,h2,h3⟩:=htt t _ a
  exact ⟨_,[.slice none 0 0],Zjj h1 h3,rfl,⟨rfl,trivial⟩,fun y m=>by simp at m;subst m;trivial⟩
theorem Zoo [NW] (htt:∀t i,tt t=some i->TOk P t i) (o:Oper) {r:SV×List (Nat×Ob)}(hr:opE tt key o st=some r) (hI:HI W g st.ob w) (hS:∀t,SVR g w (st.sl t) (a.tmps.getD t undef)) (hU:StU U st) (A:¬U key):
  Fin P W U key st g w (execOp a.eval o) r:=by
 have ev:=fun t x=>ZkE (P:=P) (a:=a) (g:=g) (w:=w) (U:=U) htt hS hU t x
 have j:∀{v:Option SV} {s:Sem Value},Zbt v=some r->execOp a.eval o=(do pure (.value (<-s)))->(∀u,v=some u->∃cv,s.run P w=.ok cv w/\SVR g w u cv/\svU U u)->Fin P W U key st g w (execOp a.eval o) r:=fun {v s} hp he hv=>by
  obtain ⟨u,hu,rfl⟩:=AB.1 hp
  obtain ⟨cv,c1,c2,c3⟩:=hv u hu
  exact Za7 hI hU (by rw [he];simp only[Sem.run_bind,c1,Result.andThen_ok,Sem.run_pure]) c2 c3
 obtain ⟨dst,op,ty,pos,af,gd⟩:=o
 cases op with
 |move x=>
  simp only[opE,A0]at hr;subst hr
  exact Za7 hI hU rfl (ev ty x).1 (ev ty x).2
 |assign x=>
  simp only[opE,A0]at hr;subst hr
  exact Za7 hI hU rfl (ev ty x).1 (ev ty x).2
 |pick c x y=>
  simp only[opE]at hr
  split at hr
  .rename_i b hb
   simp only[A0]at hr;subst hr
   have hc:=(ev 0 c).1
   rw [hb]at hc
   obtain ⟨cv,c1,c2,c3⟩:=ZyG (P:=P) hc (ev ty x) (ev ty y)
   exact Za7 hI hU c1 c2 c3
  .simp at hr
 |alloc t=>
  simp only[opE]at hr
  obtain ⟨z,hz,rfl⟩:=AB.1 hr
  obtain ⟨zv,vs,h1,h2,h3,h4⟩:=ZvF (P:=P) (g:=g) (w:=w) (U:=U) htt hz
  exact Zw2 hI hU A h3 h4 (by simp [execOp,Instr.alloc,h1,newVar,newRow,h2])
 |box t x=>
  simp only[opE]at hr
  split at hr
  .rename_i ag cs hx
   simp only[A0]at hr;subst hr
   have hv:=ev t x
   rw [hx]at hv
   obtain ⟨vs,h2,h3⟩:=PVR.cells hv.1
   exact Zw2 hI hU A h3 hv.2 (by simp [execOp,Instr.box,newVar,newRow,h2])
  .simp at hr
 |build t G=>
  simp only[opE]at hr
  split at hr
  .rename_i fs n z B
   obtain ⟨cs,N,rfl⟩:=AB.1 hr
   obtain ⟨cv,c1,c2,c3⟩:=Zw4 (P:=P) htt hS hU B N
   exact Za7 hI hU (by simp only[execOp,Sem.run_bind,c1,Result.andThen_ok,Sem.run_pure]) c2 c3
  .simp at hr
 |buildSlice t len G=>
  simp only[opE]at hr
  split at hr
  .rename_i e m E z B
   obtain ⟨⟨xs,ks,d⟩,h1,hr⟩:=AC.1 hr
   split at hr
   .rename_i hc
    simp only[A0]at hr;subst hr
    exact ZAk htt hI hS hU A B h1 hc.1 hc.2.1 hc.2.2.1 rfl
   .simp at hr
  .simp at hr
 |load t x=>exact j hr rfl fun u hu=>Zuf htt hI hU hu (ev 0 x).1
 |store t x v=>
  simp only[opE]at hr
  obtain ⟨u,hu,rfl⟩:=AB.1 hr
  have hx:=ev 0 x
  have hv:=ev t v
  unfold Zf6 at hu
  split at hu
  .rename_i k off ag vs C p
   rw [C]at hx
   rw [p]at hv
   split at hu
   .rename_i tb cs hk
    split at hu
    .rename_i hc
     simp only[A0]at hu;subst hu
     exact ZwF htt hI hU hk hc.1 hc.2.2 hx.1 hv.1 hv.2 hc.2.1 rfl
    .simp at hu
   .simp at hu
  .rename_i k m i off ag vs C p
   rw [C]at hx
   rw [p]at hv
   split at hu
   .rename_i e m' xs d hk
    obtain ⟨y,hy,hu⟩:=AC.1 hu
    cases hys:ZfW vs with
    |some ys=>
     rw [hys]at hu
     simp only[Zmc]at hu
     split at hu
     .rename_i hc
      simp only[A0]at hu;subst hu
      obtain ⟨rfl,H,I,J,O⟩:=hc
      exact ZxE htt hI hU hk yE hy hys H J hx.1 hv.1 I rfl
     .simp at hu
    |none=>
     rw [hys]at hu
     simp only[Zmc]at hu
     obtain ⟨⟨zs,ks,dv⟩,Q,hu⟩:=AC.1 hu
     split at hu
     .rename_i hc
      simp only[A0]at hu;subst hu
      obtain ⟨rfl,H,I,J,O,R⟩:=hc
      exact Zuq htt hI hU hk yE hy Q R H J hv.2 hx.1 hv.1 I rfl
     .simp at hu
   .simp at hu
  .simp at hu
 |nilCheck x=>
  simp only[opE]at hr
  have hx:=ev 0 x
  split at hr<;>simp only[A0,reduceCtorEq]at hr<;>subst hr<;>rename_i he<;>rw [he]at hx
  .obtain ⟨b,_,hv⟩:=hx.1
   exact Za7 hI hU (cv:=a.eval x) (by simp [execOp,hv]) hx.1 hx.2
  .obtain ⟨b,_,_,_,hv⟩:=hx.1
   exact Za7 hI hU (cv:=a.eval x) (by simp [execOp,hv]) hx.1 hx.2
  .obtain ⟨b,_,_,_,hv,_⟩:=hx.1
   exact Za7 hI hU (cv:=a.eval x) (by simp [execOp,hv]) hx.1 hx.2
  .obtain ⟨b,_,_,hv,_⟩:=Ztu hx.1
   exact Za7 hI hU (cv:=a.eval x) (by simp [execOp,hv]) hx.1 hx.2
 |binOp op t x y t'=>exact j hr rfl fun u hu=>ZyM htt hu (ev t x).1 (ev t y).1
 |unOp op t x=>exact j hr rfl fun u hu=>ZCh hu (ev 0 x).1
 |convert s t x=>exact j hr rfl fun u hu=>Zxq htt hI hu (ev 0 x).1
 |makeSlice t n c=>
  simp only[opE]at hr
  have hn:=(ev 0 n).1
  have hc:=(ev 0 c).1
  unfold ZqA at hr
  split at hr
  .rename_i n' c' C p
   rw [C]at hn
   rw [p]at hc
   split at hr
   .rename_i e m E z B
    obtain ⟨ze,hz,hr⟩:=AC.1 hr
    split at hr
    .rename_i hq
     simp only[A0]at hr;subst hr
     obtain ⟨h0,rfl,h1⟩:=hq
     have e1:=ZbG hn
     have e2:=ZbG hc
     obtain ⟨n'',rfl⟩:=Int.eq_ofNat_of_zero_le h0
     simp only[Int.toNat_natCast]
     exact ZxP htt hI hU A B hz yE (by simp only[execOp,e1,e2])
    .simp at hr
   .simp at hr
  .simp at hr
 |slice t x lo hi mx=>
  cases mx with
  |some _=>simp [opE]at hr
  |none=>
   refine Zut (vlo:=lo.map a.eval) (vhi:=hi.map a.eval) htt hI hU A hr (ev 0 x).1 ?_ ?_ rfl
   .cases lo with
    |none=>trivial
    |some y=>exact (ev 0 y).1
   .cases hi with
    |none=>trivial
    |some y=>exact (ev 0 y).1
 |fieldAddr t x f=>
  simp only[opE]at hr
  split at hr
  .rename_i fs n z B
   refine j hr rfl fun u hu=>?_
   obtain ⟨fi,hf,hu⟩:=AC.1 hu
   exact ZAF htt B hf hu (ev 0 x).1 (ev 0 x).2
  .simp at hr
 |field t x f=>
  simp only[opE]at hr
  split at hr
  .rename_i fs n z B
   exact j hr rfl fun u hu=>ZA0 htt B hu (ev 0 x).1 (ev 0 x).2
  .simp at hr
 |indexAddr t x i=>
  simp only[opE]at hr
  split at hr
  .rename_i e m E z B
   exact j hr rfl fun u hu=>ZBj htt hI hU B hu (ev 0 x).1 (ev 0 x).2 (ev 0 i).1
  .simp at hr
 |index t x i=>exact j hr rfl fun u hu=>ZxU htt hu (ev 0 x).1 (ev 0 i).1
 |makeFunc fn first D=>
  cases fn with
  |func f=>
   simp only[opE]at hr
   split at hr
   .rename_i h0
    obtain ⟨q,hq,hr⟩:=AC.1 hr
    split at hr
    .rename_i hn
     simp only[A0]at hr;subst hr
     have hf:first=#[]:=by simpa using h0
     have L:ZD (SVR g w) (D.toList.map (st.ev tt 0)) (D.toList.map a.eval):=ZD.of_map _ _ fun x _=>(ev 0 x).1
     refine Zz6 hI hU hq hn L ?_
     have e1:(D.toList.map a.eval).toArray=D.map a.eval:=by apply An;simp
     rw [e1]
     simp [execOp,Instr.makeFunc,hf]
    .simp at hr
   .simp at hr
  |_=>simp [opE]at hr
 |makeMap t S=>
  cases S with
  |none=>
   simp only[opE]at hr
   exact ZzE htt hI hU A hr rfl
  |some _=>simp [opE]at hr
 |lookup t x i ok=>exact j hr rfl fun u hu=>Zye htt hI hu (ev 0 x).1 (ev 0 i).1
 |mapUpdate t x i v=>
  simp only[opE]at hr
  obtain ⟨u,hu,rfl⟩:=AB.1 hr
  exact ZAL htt hI hU hu (ev 0 x).1 (ev 0 i).1 (ev 0 v).1 rfl
 |extract x i=>exact j hr rfl fun u hu=>ZAN hu (ev 0 x).1 (ev 0 x).2
 |call c=>
  obtain ⟨F,args,ts⟩:=c
  cases F with
  |builtin b=>
   simp only[opE]at hr
   have M:∀l:List TypeId,ts.toList=l->ts=l.toArray:=fun l h=>by rw [<-h]
   have T:∀v,evs tt st ts.toList args.toList=[v]->∃x,args=#[x]/\SVR g w v (a.eval x)/\svU U v:=fun v h=>by
    obtain ⟨args⟩:=args
    generalize ts.toList=l at h
    cases args with
    |nil=>cases l<;>simp [evs,ZiI]at h
    |cons x xs=>
     cases xs with
     |nil=>
      refine ⟨x,rfl,?_⟩
      cases l with
      |nil=>simp only[evs,ZiI,Am,BE,Ac,and_true]at h;rw [<-h];exact ev _ _
      |cons t l=>cases l<;>(simp only[evs,ZiI,Am,BE,Ac,and_true]at h;rw [<-h];exact ev _ _)
     |cons y ys=>cases l with
      |nil=>simp [evs,ZiI]at h
      |cons t l=>cases l<;>simp [evs,ZiI]at h
   have K:∀v u,evs tt st ts.toList args.toList=[v,u]->∃x y,args=#[x,y]/\(SVR g w v (a.eval x)/\svU U v)/\SVR g w u (a.eval y)/\svU U u:=fun v u h=>by
    obtain ⟨args⟩:=args
    have h2:=congrArg List.length h
    have h3:(evs tt st ts.toList args).length=args.length:=by
     have:=congrArg List.length (Zfu ts.toList args)
     simpa [evs]using this
    have h4:args.length=2:=by rw [<-h3];exact h2
    obtain ⟨x,y,rfl⟩:∃x y,args=[x,y]:=by
     match args,h4 with
     | [x,y],_=>exact ⟨x,y,rfl⟩
    refine ⟨x,y,rfl,?_⟩
    have h5:∃t1 t2,evs tt st ts.toList [x,y]=[st.ev tt t1 x,st.ev tt t2 y]:=by
     generalize ts.toList=l
     cases l with
     |nil=>exact ⟨0,0,rfl⟩
     |cons t1 l=>cases l with
      |nil=>exact ⟨t1,0,rfl⟩
      |cons t2 l=>exact ⟨t1,t2,by cases l<;>rfl⟩
    obtain ⟨t1,t2,h5⟩:=h5
    rw [h5]at h
    simp only[Ac,and_true]at h
    rw [<-h.1,<-h.2]
    exact ⟨ev _ _,ev _ _⟩
   unfold ZfU at hr
   split at hr
   .rename_i t _ v C p
    have e1:=M _ C
    obtain ⟨x,rfl,hx,_⟩:=T _ p
    exact j (s:=Builtin.len_ ts ty #[a.eval x]) hr (by simp [execOp,resolve,invoke,builtin]) fun u hu=>ZAH htt hI (by simp [e1]) hu hx
   .rename_i t u v1 v2 C p
    have e1:=M _ C
    obtain ⟨x,y,rfl,hx,hy⟩:=K _ _ p
    split at hr
    .rename_i he
     subst he
     exact Zzy htt hI hU A hr hx hy (ty:=ty) (by simp [execOp,resolve,invoke,builtin,e1])
    .simp at hr
   .rename_i v1 v2 p
    obtain ⟨x,y,rfl,hx,hy⟩:=K _ _ p
    refine j (s:=Builtin.max_ ts ty #[a.eval x,a.eval y]) hr (by simp [execOp,resolve,invoke,builtin]) fun u hu=>?_
    have:=ZvU (P:=P) (U:=U) (ts:=ts) (ty:=ty) hu hx.1 hy.1
    simpa using this
   .rename_i v1 v2 p
    obtain ⟨x,y,rfl,hx,hy⟩:=K _ _ p
    refine j (s:=Builtin.min_ ts ty #[a.eval x,a.eval y]) hr (by simp [execOp,resolve,invoke,builtin]) fun u hu=>?_
    have:=ZvU (P:=P) (U:=U) (ts:=ts) (ty:=ty) hu hx.1 hy.1
    simpa using this
   .simp at hr
  |value f=>simp [opE]at hr
  |invoke r m=>simp [opE]at hr
 |_=>simp [opE]at hr
end
end
section
open Go.RowKit
theorem Zed {α β:Type}{f h:α->List β}:∀{l:List α},(∀x∈l,f x=h x)->l.flatMap f=l.flatMap h
 | [],_=>rfl
 |x::l,hh=>by rw [Ao,Ao,hh x yG,Zed fun y m=>hh y (by simp [m])]
def ZhI (w:World) (z:Nat->Prop) (x:Bool×List CT) (v:Value):Prop:=
 (x.1=true/\∃(vs:List Value) (L:List Nat),v=.agg vs.toArray/\RCs w x.2 vs L/\∀b∈L,¬z b)\/(x.1=false/\∃(ct:CT) (L:List Nat),x.2=[ct]/\RC w ct v L/\∀b∈L,¬z b)
def OC (w:World) (B:Nat) (n:Nat->Prop):Bool×CT->Value->List Nat->Prop
 |(false,.sl e m xs),v,F=>0<m/\∃cs L,w.ownsV B e m v xs.length cs/\REs w m xs cs L/\F=v.ownBlock.toList++L/\∀b∈v.ownBlock.toList,n b
 |(false,.int k i),v,F=>RC w (.int k i) v []/\F=[]
 |(false,.bool b),v,F=>RC w (.bool b) v []/\F=[]
 |(false,.str s),v,F=>RC w (.str s) v []/\F=[]
 |(false,.ifc b),v,F=>RC w (.ifc b) v []/\F=[]
 |(false,.any),v,F=>RC w .any v []/\F=[]
 |(false,.pt _),_,_=>False
 |(false,.fn _ _),_,_=>False
 |(false,.mp _ _ _),_,_=>False
 |(false,.nl _ _),_,_=>False
 |(true,x),v,F=>F=[]/\∃L,RC w x v L/\∀b∈L,¬n b
def OCs (w:World) (B:Nat) (n:Nat->Prop):List (Bool×CT)->List Value->List Nat->Prop
 | [],vs,F=>vs=[]/\F=[]
 |x::r,vs,F=>∃v vs' F1 F2,vs=v::vs'/\F=F1++F2/\OC w B n x v F1/\OCs w B n r vs' F2
def OP (w:World) (B:Nat) (n:Nat->Prop) (x:RT) (v:Value) (F:List Nat):Prop:=
 (x.1=true/\∃vs:List Value,v=.agg vs.toArray/\OCs w B n x.2 vs F)\/(x.1=false/\∃ct,x.2=[ct]/\OC w B n ct v F)
def OPs (w:World) (B:Nat) (n:Nat->Prop):List RT->List Value->List Nat->Prop
 | [],vs,F=>vs=[]/\F=[]
 |x::r,vs,F=>∃v vs' F1 F2,vs=v::vs'/\F=F1++F2/\OP w B n x v F1/\OPs w B n r vs' F2
def ZiY (w:World) (B:Nat) (n:Nat->Prop) (res:List RT) (v:Value):Prop:=
 ∃(vs:List Value) (F:List Nat),OPs w B n res vs F/\Own w B F/\v=(if h:vs.toArray.size=1 then vs.toArray[0] else .tuple vs.toArray)
def Q1 (P : Program) (f : FuncId) : Prop := ∃ fn, P.funcs[f]? = some fn ∧ (fn.name == "runtime.NumGoroutine") = false ∧ fn.body.isNone = false
def Zm (P:Program) (J:World->Prop) (f:FuncId) (args:List (Bool×List CT)) (res:List RT):Prop:=
 Q1 P f/\∀(w:World) (z:Nat->Prop) (vs:List Value),J w->(∀b,z b->b<w.heap.size)->ZD (ZhI w z) args vs->Calls P f vs.toArray w fun e w'=>∃v n,e=.returned v/\ZiY w' w.heap.size n res v/\(∀b,z b->n b)/\Below w.heap.size w w'
def ZtU (w:World) (z:Nat->Prop) (q:Option Nat):ZlT->Value->Prop
 |.row e m xs,v=>Zbj xs=true/\0<m/\v.ownBlock=q/\∃cs,w.ownsV 0 e m v xs.length cs/\REs w m xs cs []
 |.box t cs,v=>∃b vs L,q=some b/\v=.pointer (some ⟨b,0,none⟩)/\w.heap[b]?=some (.cells (vs:List Value).toArray t (0,0))/\RCs w cs vs L/\∀a∈L,¬z a
def inQ (z:Nat->Prop) (q:Option Nat) (a:Nat):Prop:=z a\/q=some a
structure ZCC (q:Option Nat) (w w':World):Prop where
 os:w'.os=w.os
 tape:w'.tape=w.tape
 output:w'.output=w.output
 size:w.heap.size<=w'.heap.size
 block:∀k,k<w.heap.size->¬q=some k->w'.heap[k]?=w.heap[k]?
def Zpg (P:Program) (J:World->Prop) (JF:Nat->Prop) (f:FuncId) (h:ZlT) (args:List (Bool×List CT)) (res:List RT) (h':ZlT):Prop:=
 Q1 P f/\∀(w:World) (z:Nat->Prop) (q:Option Nat) (v0:Value) (vs:List Value),J w->(∀b,q=some b->JF b)->(∀b,z b->b<w.heap.size/\¬q=some b)->ZtU w (inQ z q) q h v0->ZD (ZhI w (inQ z q)) args vs->
  Calls P f (v0::vs).toArray w fun e w'=>∃v n,e=.returned v/\ZiY w' w.heap.size n res v/\(∀b,inQ z q b->n b)/\ZtU w' n q h' v0/\ZCC q w w'
def Zwg (b:Nat):NB->Value
 |.box _ _=>.pointer (some ⟨b,0,none⟩)
 |.map _ _ _=>.map (some b)
def nbR (w:World) (n:Nat->Prop) (b:Nat):NB->Prop
 |.box t cs=>∃us L,w.heap[b]?=some (.cells (us:List Value).toArray t (0,0))/\RCs w cs us L/\∀x∈L,¬n x
 |.map kk vk kv=>∃es c,w.heap[b]?=some (.map es c)/\Zd8 es=kv/\ZjC kk vk kv
def ZBh (P:Program) (J:World->Prop) (f:FuncId) (args:List (Bool×List CT)) (nb:NB):Prop:=
 Q1 P f/\∀(w:World) (z:Nat->Prop) (vs:List Value),J w->(∀b,z b->b<w.heap.size)->ZD (ZhI w z) args vs->
  Calls P f vs.toArray w fun e w'=>∃(b:Nat) (n:Nat->Prop),e=.returned (Zwg b nb)/\w.heap.size<=b/\nbR w' n b nb/\n b/\(∀x,z x->n x)/\Below w.heap.size w w'
structure ZtX (w:World) (n:Nat->Prop) (t:Nat) (cs:List (Bool×CT)) (v:Value) (b:Nat) (us us2:List Value) (F:List Nat):Prop where
 val:v=.pointer (some ⟨b,0,none⟩)
 cell:w.heap[b]?=some (.cells us.toArray t (0,0))
 ocs:OCs w 0 n cs (us++us2) F
 own:Own w 0 (b::F)
def GVr:Option (Bool×List (Bool×CT))->List Value->List Value->Prop
 |none,vs,us=>vs=[]/\us=[]
 |some (true,cs),vs,us=>vs=[.agg us.toArray]/\us.length=cs.length
 |some (false,cs),vs,us=>vs=us/\us.length=1/\cs.length=1
structure Zyv (q:Nat->Prop) (w w':World):Prop where
 os:w'.os=w.os
 tape:w'.tape=w.tape
 output:w'.output=w.output
 size:w.heap.size<=w'.heap.size
 block:∀k,k<w.heap.size->¬q k->w'.heap[k]?=w.heap[k]?
def Zf4 (P:Program) (J:World->Prop) (JF:Nat->Prop) (f:FuncId) (t:Nat) (cs:List (Bool×CT)) (gv:Option (Bool×List (Bool×CT))) (args:List (Bool×List CT)) (res:List RT) (cs':List (Bool×CT)):Prop:=
 Q1 P f/\∀(w:World) (z q:Nat->Prop) (a:Value) (gs vs:List Value) (b:Nat) (us c:List Value) (F:List Nat),J w->q b->(∀x,q x->JF x/\x∈b::F)->(∀x,z x->x<w.heap.size/\¬q x/\x∉b::F)->
  us.length=cs.length->GVr gv gs c->ZtX w (fun x=>z x\/q x) t (cs++gvC gv) a b us c F->ZD (ZhI w fun x=>z x\/q x) args vs->
  Calls P f (a::(gs++vs)).toArray w fun e w'=>∃v n us' F',e=.returned v/\ZiY w' w.heap.size n res v/\(∀x,z x->n x)/\n b/\(∀x,n x->z x\/q x\/w.heap.size<=x)/\ZtX w' n t cs' a b us' [] F'/\(∀x∈F',x∈F\/w.heap.size<=x)/\Zyv q w w'
def Zo2 (P:Program) (J:World->Prop) (JF:Nat->Prop) (f:FuncId) (gv:Bool×List (Bool×CT)) (args:List (Bool×List CT)) (res:List RT):Prop:=
 Q1 P f/\∀(w:World) (z q:Nat->Prop) (gs vs us:List Value) (F:List Nat),J w->(∀x,q x->JF x/\x∈F)->(∀x,z x->x<w.heap.size/\¬q x/\x∉F)->
  GVr (some gv) gs us->OCs w 0 (fun x=>z x\/q x) gv.2 us F->Own w 0 F->ZD (ZhI w fun x=>z x\/q x) args vs->
  Calls P f (gs++vs).toArray w fun e w'=>∃v n rvs F',e=.returned v/\OPs w' 0 n res rvs F'/\Own w' 0 F'/\v=(if h:rvs.toArray.size=1 then rvs.toArray[0] else .tuple rvs.toArray)/\(∀x,z x->n x)/\(∀x,n x->z x\/q x\/w.heap.size<=x)/\(∀x∈F',x∈F\/w.heap.size<=x)/\Zyv q w w'
def SC (P:Program) (J:World->Prop) (JF:Nat->Prop) (hd:FuncId->Nat):Ctx:=⟨Zm P J,Zpg P J JF,hd,ZBh P J,Zf4 P J JF,Zo2 P J JF⟩
structure MOk (P:Program) (J:World->Prop) (JF:Nat->Prop) (W:ZaA) (tt:Nat->Option TI):Prop where
 tt:∀t i,tt t=some i->TOk P t i
 jb:∀w:World,Bel W w->J w
 jf:∀b,W.heap.size<=b->JF b
 xf:∀b,W.x b->JF b
section
variable {P:Program} {J:World->Prop} {W:ZaA} {U:Nat->Prop} {key:Nat} {st:St} {g:Gh} {w w':World} {a:Act} {tt:Nat->Option TI}
theorem MOk.at {JF:Nat->Prop}(h:MOk P J JF W tt) (hb:Bel W w):J w:=h.jb _ hb
def ZwD (ob:Nat->Ob):AV->Prop
 |.row k=>∃e m xs,ob k=.row e m xs 0
 |_=>True
theorem Zre [NW] (hI:HI W g st.ob w) {x:AV}{ct:CT}{v:Value}(h:Zcb st x=some ct) (hx:AVR g w x v):∃L,RC w ct v L/\(ZwD st.ob x->∀b∈L,¬g.own b):=by
 cases x with
 |c y=>simp only[Zcb,A0]at h;subst h;obtain ⟨L,h1,h2⟩:=hx;exact ⟨L,h1,fun _=>h2⟩
 |row k=>
  simp only[Zcb]at h
  split at h
  .rename_i e m xs d hk
   simp only[A0]at h;subst h
   obtain ⟨hm,cs,L1,o1,o2,o3,o5⟩:=hI.deep hk
   obtain ⟨A,cap,L0,s1,s2,s3,s4,s5⟩:=Sl.row o1
   refine ⟨L0++L1,⟨A,cap,cs,L0,L1,by rw [hx.1,s1],s2,s3,rfl,hm,s4,o2⟩,?_⟩
   rintro ⟨e',m',xs',h0⟩ b mb
   rw [hk]at h0
   have hd:d=0:=by simp at h0;exact h0.2.2.2
   rcases AA.1 mb with m1|m1
   .rcases o5 with ⟨q,_⟩|⟨q,_⟩|⟨_,_,_,q⟩
    .omega
    .omega
    .exact q b (s5.subset m1)
   .exact o3 b m1
  .simp at h
 |nil e m=>
  simp only[Zcb]at h
  split at h
  .rename_i hm
   simp only[A0]at h;subst h
   exact ⟨[],⟨none,0,[],[],[],hx,yG,AN _,rfl,hm,Sl.zero,rfl,rfl⟩,yG⟩
  .simp at h
 |n y=>simp only[Zcb,A0]at h;subst h;obtain ⟨L,h1,h2⟩:=NR.toC hx;exact ⟨L,h1,fun _=>h2⟩
 |dead=>simp [Zcb]at h
theorem Zj0 [NW] (hI:HI W g st.ob w):∀{xs:List AV}{cts:List CT}{vs:List Value},YI st xs=some cts->ZD (AVR g w) xs vs->∃L,RCs w cts vs L/\((∀x∈xs,ZwD st.ob x)->∀b∈L,¬g.own b)
 | [],_,[],h,_=>by simp [YI]at h;subst h;exact ⟨[],⟨rfl,rfl⟩,yG⟩
 | [],_,_::_,_,h=>h.elim
 |_::_,_,[],_,h=>h.elim
 |x::r,cts,v::vs,h,hr=>by
  simp only[YI]at h
  obtain ⟨c1,h1,h⟩:=AC.1 h
  obtain ⟨c2,h2,rfl⟩:=AB.1 h
  obtain ⟨L1,a1,b1⟩:=Zre hI h1 hr.1
  obtain ⟨L2,a2,b2⟩:=Zj0 hI h2 hr.2
  refine ⟨L1++L2,⟨v,vs,L1,L2,rfl,rfl,a1,a2⟩,fun ho b mb=>?_⟩
  rcases AA.1 mb with m|m
  .exact b1 (ho x yG) b m
  .exact b2 (fun y my=>ho y (by simp [my])) b m
def ZuA (ob:Nat->Ob):SV->Prop
 |.p _ cs=>∀x∈cs,ZwD ob x
 |_=>True
theorem ZwS [NW] (hI:HI W g st.ob w) {x:SV}{r:Bool×List CT}{v:Value}(h:Zdr st x=some r) (hx:SVR g w x v) {z:Nat->Prop}(hz:(∀b,¬z b)\/(ZuA st.ob x/\∀b,z b->g.own b)):ZhI w z r v:=by
 cases x with
 |p ag cs=>
  simp only[Zdr]at h
  obtain ⟨l,hl,rfl⟩:=AB.1 h
  have av:∀{L:List Nat},((∀x∈cs,ZwD st.ob x)->∀b∈L,¬g.own b)->∀b∈L,¬z b:=fun hL b mb=>by
   rcases hz with hz|⟨h1,h2⟩
   .exact hz b
   .exact fun hb=>hL h1 b mb (h2 b hb)
  cases ag with
  |true=>
   obtain ⟨vs,rfl,h2⟩:=hx
   obtain ⟨L,hL,a⟩:=Zj0 hI hl h2
   exact .inl ⟨rfl,vs,L,rfl,hL,av a⟩
  |false=>
   obtain ⟨y,rfl,h2⟩:=hx
   simp only[YI]at hl
   obtain ⟨c1,h1,hl⟩:=AC.1 hl
   simp at hl;subst hl
   obtain ⟨L1,a1,b1⟩:=Zre hI h1 h2
   exact .inr ⟨rfl,c1,L1,rfl,a1,av fun ho=>b1 (ho y yG)⟩
 |_=>simp [Zdr]at h
theorem Zbw [NW] (hI:HI W g st.ob w) {z:Nat->Prop}:∀{xs:List SV}{l:List (Bool×List CT)}{vs:List Value},ZU st xs=some l->ZD (SVR g w) xs vs->((∀b,¬z b)\/((∀x∈xs,ZuA st.ob x)/\∀b,z b->g.own b))->ZD (ZhI w z) l vs
 | [],_,[],h,_,_=>by simp [ZU]at h;subst h;trivial
 | [],_,_::_,_,h,_=>h.elim
 |_::_,_,[],_,h,_=>h.elim
 |x::r,l,v::vs,h,hr,hz=>by
  simp only[ZU]at h
  obtain ⟨c1,h1,h⟩:=AC.1 h
  obtain ⟨c2,h2,rfl⟩:=AB.1 h
  exact ⟨ZwS hI h1 hr.1 (hz.imp id fun q=>⟨q.1 x yG,q.2⟩),Zbw hI h2 hr.2 (hz.imp id fun q=>⟨fun y my=>q.1 y (by simp [my]),q.2⟩)⟩
theorem ZyT {vs:List SV}{ob:Nat->Ob}(h:vs.all Zhy=true):∀x∈vs,ZuA ob x:=fun x mx=>by
 have hx:=AO.1 h x mx
 cases x with
 |p ag cs=>
  intro y my
  have hy:=AO.1 hx y my
  cases y with
  |row k=>simp [ZcD]at hy
  |_=>trivial
 |_=>trivial
def CR (val:Nat->Value) (w:World) (n:Nat->Prop) (l:Bool) (lo hi:Nat):AV->Value->Prop
 |.row k,v=>lo<=k/\k<hi/\v=val k/\v.oneCell'=true
 |.c x,v=>∃L,RC w x v L/\∀b∈L,l=true/\¬n b
 |_,_=>False
structure ZqP (w:World) (B lo hi:Nat) (n:Nat->Prop) (up:List (Nat×Ob)) (F:List Nat) (val:Nat->Value) (O D:Nat->List Nat):Prop where
 le:lo<=hi
 at_:∀k,lo<=k->k<hi->∃e m xs cs,(∀ob,Zh ob up k=.row e m xs 2)/\0<m/\w.ownsV B e m (val k) xs.length cs/\REs w m xs cs (D k)/\O k=(val k).ownBlock.toList/\∀b∈O k,n b
 out:∀k,¬(lo<=k/\k<hi)->∀ob,Zh ob up k=ob k
 foot:F=(Ad lo (hi - lo)).flatMap fun k=>O k++D k
theorem ZqP.join [NW] {B lo c hi:Nat}{n:Nat->Prop}{u1 u2:List (Nat×Ob)}{F1 F2:List Nat}{v1 v2:Nat->Value}{O1 O2 D1 D2:Nat->List Nat}(h1:ZqP w B lo c n u1 F1 v1 O1 D1) (h2:ZqP w B c hi n u2 F2 v2 O2 D2):
  ZqP w B lo hi n (u1++u2) (F1++F2) (fun k=>if k<c then v1 k else v2 k) (fun k=>if k<c then O1 k else O2 k) (fun k=>if k<c then D1 k else D2 k):=by
 have hl:=h1.le
 have hr:=h2.le
 refine ⟨yE,fun k a b=>?_,fun k hk ob=>?_,?_⟩
 .by_cases hk:k<c
  .obtain ⟨e,m,xs,cs,p1,p2⟩:=h1.at_ k a hk
   simp only[hk,if_true]
   exact ⟨e,m,xs,cs,fun ob=>by rw [Yd,h2.out k yE];exact p1 ob,p2⟩
  .obtain ⟨e,m,xs,cs,p1,p2⟩:=h2.at_ k yE b
   simp only[hk,if_false]
   exact ⟨e,m,xs,cs,fun ob=>by rw [Yd];exact p1 _,p2⟩
 .rw [Yd,h2.out k yE,h1.out k yE]
 .rw [h1.foot,h2.foot,show hi - lo=(c - lo)+(hi - c) by omega,<-List.range'_append_1,List.flatMap_append,show lo+(c - lo)=c by omega]
  congr 1
  .refine Zed fun k hk=>?_
   have:=(AP.1 hk).2
   simp [show k<c by omega]
  .refine Zed fun k hk=>?_
   have:=(AP.1 hk).1
   simp [show ¬k<c by omega]
theorem CR.mono {f e:Nat->Value}{n:Nat->Prop}{l:Bool}{lo hi g i:Nat}{x:AV}{v:Value}(h:CR f w n l lo hi x v) (hl:g<=lo) (hh:hi<=i) (hv:∀k,lo<=k->k<hi->e k=f k):CR e w n l g i x v:=by
 cases x with
 |row k=>obtain ⟨a,b,c,d⟩:=h;exact ⟨yE,yE,by rw [hv k a b];exact c,d⟩
 |c x=>exact h
 |n _=>exact h.elim
 |nil _ _=>exact h.elim
 |dead=>exact h.elim
theorem XN [NW] {B:Nat}{n:Nat->Prop}{l:Bool}:∀{cts:List (Bool×CT)}{vs:List Value}{F:List Nat}(key:Nat),OCs w B n cts vs F->(Zcx cts=true->l=true)->∃c O D,ZqP w B key (ZA key cts).2.2 n (ZA key cts).2.1 F c O D/\ZD (CR c w n l key (ZA key cts).2.2) (ZA key cts).1 vs
 | [],vs,F,key,h,_=>by
  obtain ⟨rfl,rfl⟩:=h
  exact ⟨fun _=>undef,fun _=>[],fun _=>[],⟨AF _,fun k a b=>by simp [ZA]at b;omega,fun _ _ _=>rfl,by simp [ZA]⟩,trivial⟩
 |(true,x)::r,_,_,key,⟨v,vs,F1,F2,rfl,rfl,h1,h2⟩,hl=>by
  obtain ⟨rfl,L,h3,h4⟩:=h1
  obtain ⟨c,O,D,hb,hr⟩:=XN (l:=l) key h2 fun e=>hl (by simp [Zcx])
  exact ⟨c,O,D,by simpa [ZA]using hb,⟨⟨L,h3,fun b mb=>⟨hl (by simp [Zcx]),h4 b mb⟩⟩,hr⟩⟩
 |(false,.sl e m xs)::r,_,_,key,⟨v,vs,F1,F2,rfl,rfl,h1,h2⟩,hl=>by
  obtain ⟨hm,cs,L,o1,o2,rfl,o3⟩:=h1
  obtain ⟨c,O,D,hb,hr⟩:=XN (l:=l) (key+1) h2 fun e=>hl (by simpa [Zcx]using e)
  have d:ZqP w B key (key+1) n [(key,.row e m xs 2)] (v.ownBlock.toList++L) (fun _=>v) (fun _=>v.ownBlock.toList) (fun _=>L):=
   ⟨yE,fun k a b=>⟨e,m,xs,cs,fun ob=>by simp [Zh,upd,show k=key by omega],hm,o1,o2,rfl,o3⟩,fun k hk ob=>by simp [Zh,upd,show ¬k=key by omega],yG⟩
  refine ⟨_,_,_,d.join hb,⟨?_,hr.mono fun x u _ hx=>hx.mono yE (AF _) fun k a b=>by simp [show ¬k<key+1 by omega]⟩⟩
  have hle:=hb.le
  obtain ⟨A,cap,hv⟩:=ZeK o1
  exact ⟨AF _,by simp only[ZA];omega,yG,by simp [hv,Value.oneCell']⟩
 |(false,.int k i)::r,_,_,key,⟨v,vs,F1,F2,rfl,rfl,h1,h2⟩,hl=>by
  obtain ⟨h1,rfl⟩:=h1
  obtain ⟨c,O,D,hb,hr⟩:=XN (l:=l) key h2 fun e=>hl (by simpa [Zcx]using e)
  exact ⟨c,O,D,by simpa [ZA]using hb,⟨⟨[],h1,yG⟩,hr⟩⟩
 |(false,.bool k)::r,_,_,key,⟨v,vs,F1,F2,rfl,rfl,h1,h2⟩,hl=>by
  obtain ⟨h1,rfl⟩:=h1
  obtain ⟨c,O,D,hb,hr⟩:=XN (l:=l) key h2 fun e=>hl (by simpa [Zcx]using e)
  exact ⟨c,O,D,by simpa [ZA]using hb,⟨⟨[],h1,yG⟩,hr⟩⟩
 |(false,.str s)::r,_,_,key,⟨v,vs,F1,F2,rfl,rfl,h1,h2⟩,hl=>by
  obtain ⟨h1,rfl⟩:=h1
  obtain ⟨c,O,D,hb,hr⟩:=XN (l:=l) key h2 fun e=>hl (by simpa [Zcx]using e)
  exact ⟨c,O,D,by simpa [ZA]using hb,⟨⟨[],h1,yG⟩,hr⟩⟩
 |(false,.ifc s)::r,_,_,key,⟨v,vs,F1,F2,rfl,rfl,h1,h2⟩,hl=>by
  obtain ⟨h1,rfl⟩:=h1
  obtain ⟨c,O,D,hb,hr⟩:=XN (l:=l) key h2 fun e=>hl (by simpa [Zcx]using e)
  exact ⟨c,O,D,by simpa [ZA]using hb,⟨⟨[],h1,yG⟩,hr⟩⟩
 |(false,.any)::r,_,_,key,⟨v,vs,F1,F2,rfl,rfl,h1,h2⟩,hl=>by
  obtain ⟨h1,rfl⟩:=h1
  obtain ⟨c,O,D,hb,hr⟩:=XN (l:=l) key h2 fun e=>hl (by simpa [Zcx]using e)
  exact ⟨c,O,D,by simpa [ZA]using hb,⟨⟨[],h1,yG⟩,hr⟩⟩
 |(false,.pt _)::r,_,_,key,⟨v,vs,F1,F2,rfl,rfl,h1,h2⟩,hl=>h1.elim
 |(false,.fn _ _)::r,_,_,key,⟨v,vs,F1,F2,rfl,rfl,h1,h2⟩,hl=>h1.elim
 |(false,.mp _ _ _)::r,_,_,key,⟨v,vs,F1,F2,rfl,rfl,h1,h2⟩,hl=>h1.elim
 |(false,.nl _ _)::r,_,_,key,⟨v,vs,F1,F2,rfl,rfl,h1,h2⟩,hl=>h1.elim
def PR (val:Nat->Value) (w:World) (n:Nat->Prop) (l:Bool) (lo hi:Nat) (x:Bool×List AV) (v:Value):Prop:=
 (x.1=true/\∃vs:List Value,v=.agg vs.toArray/\ZD (CR val w n l lo hi) x.2 vs)\/(x.1=false/\∃y,x.2=[y]/\CR val w n l lo hi y v)
theorem PR.mono [NW] {d c:Nat->Value}{n:Nat->Prop}{l:Bool}{lo hi e f:Nat}{x:Bool×List AV}{v:Value}(h:PR d w n l lo hi x v) (hl:e<=lo) (hh:hi<=f) (hv:∀k,lo<=k->k<hi->c k=d k):PR c w n l e f x v:=by
 rcases h with ⟨h1,vs,h2,h3⟩|⟨h1,y,h2,h3⟩
 .exact .inl ⟨h1,vs,h2,h3.mono fun a b _ g=>g.mono hl hh hv⟩
 .exact .inr ⟨h1,y,h2,h3.mono hl hh hv⟩
theorem ZhF [NW] {B:Nat}{n:Nat->Prop}{l:Bool}:∀{d:List RT}{vs:List Value}{F:List Nat}(key:Nat),OPs w B n d vs F->(Zdq d=true->l=true)->∃c O D,ZqP w B key (Zx key d).2.2 n (Zx key d).2.1 F c O D/\ZD (PR c w n l key (Zx key d).2.2) (Zx key d).1 vs
 | [],vs,F,key,h,_=>by
  obtain ⟨rfl,rfl⟩:=h
  exact ⟨fun _=>undef,fun _=>[],fun _=>[],⟨AF _,fun k a b=>by simp [Zx]at b;omega,fun _ _ _=>rfl,by simp [Zx]⟩,trivial⟩
 |x::r,_,_,key,⟨v,vs,F1,F2,rfl,rfl,h1,h2⟩,hl=>by
  have f:Zcx x.2=true->l=true:=fun e=>hl (by simp [Zdq,e])
  have j:Zdq r=true->l=true:=fun e=>hl (by simp [Zdq,e])
  have hx:∃c O D,ZqP w B key (ZA key x.2).2.2 n (ZA key x.2).2.1 F1 c O D/\PR c w n l key (ZA key x.2).2.2 (x.1,(ZA key x.2).1) v:=by
   rcases h1 with ⟨hx,us,rfl,hc⟩|⟨hx,ct,he,hc⟩
   .obtain ⟨c,O,D,hb,hr⟩:=XN key hc f
    exact ⟨c,O,D,hb,.inl ⟨hx,us,rfl,hr⟩⟩
   .obtain ⟨c,O,D,hb,hr⟩:=XN (cts:=x.2) (vs:=[v]) (F:=F1) key (by rw [he];exact ⟨v,[],F1,[],rfl,yG,hc,rfl,rfl⟩) f
    refine ⟨c,O,D,hb,.inr ⟨hx,?_⟩⟩
    generalize (ZA key x.2).1=l at hr
    cases l with
    |nil=>exact hr.elim
    |cons y l=>
     cases l with
     |nil=>exact ⟨y,rfl,hr.1⟩
     |cons _ _=>exact hr.2.elim
  obtain ⟨c,O,D,hb,hp⟩:=hx
  obtain ⟨val2,O2,D2,g,m⟩:=ZhF (ZA key x.2).2.2 h2 j
  have i:=g.le
  have o:=hb.le
  refine ⟨_,_,_,hb.join g,⟨hp.mono (AF _) i fun k a b=>by simp [b],m.mono fun y u _ hy=>hy.mono o (AF _) fun k a b=>by simp [show ¬k<(ZA key x.2).2.2 by omega]⟩⟩
theorem Zek {n:Nat}{G:Nat->List Nat}:∀{lo:Nat},((Ad lo n).flatMap G).Nodup->(∀k,lo<=k->k<lo+n->(G k).Nodup)/\∀k j,lo<=k->k<lo+n->lo<=j->j<lo+n->k≠j->∀b∈G k,b∉G j:=by
 induction n with
 |zero=>intro lo _;exact ⟨fun k a b=>by omega,fun k j a b=>by omega⟩
 |succ n ih=>
  intro lo h
  rw [BF,Ao,AK]at h
  obtain ⟨h1,h2,h3⟩:=h
  obtain ⟨i1,i2⟩:=ih h2
  have c:∀k,lo+1<=k->k<lo+1+n->∀b∈G k,b∈(Ad (lo+1) n).flatMap G:=fun k a b x mx=>Ae.2 ⟨k,AP.2 ⟨a,b⟩,mx⟩
  refine ⟨fun k a b=>?_,fun k j a b a' b' d x mx mj=>?_⟩
  .by_cases e:k=lo
   .subst e;exact h1
   .exact i1 k yE yE
  .by_cases e:k=lo
   .subst e
    exact h3 x mx x (c j yE yE x mj) rfl
   .by_cases e':j=lo
    .subst e'
     exact h3 x mj x (c k yE yE x mx) rfl
    .exact i2 k j yE yE yE yE d x mx mj
theorem ZhB [NW] {ob:Nat->Ob}(hI:HI W g ob w) (I:∀k,obU U (ob k)) (N:∀k,¬U k->ob k=.gone) (V:∀k,key<=k->k<key+16->¬U k) {d:List RT}{v:Value}{n:Nat->Prop}(hr:ZiY w' w.heap.size n d v) (hn:(Zx key d).2.2<=key+16)
  (H:Nat->Prop) (X:∀k,H k->U k) (p:Nat->Ob) (A:Zdq d=true->∀b,g.own b->n b)
  (Y:Bel W w') (ae:w.heap.size<=w'.heap.size) (hw:∀b,b<w.heap.size->(∀k,H k->b∉g.O k)->w'.heap[b]?=w.heap[b]?)
  (aa:∀k,H k->obU (Uk U key) (p k)) (hH:∀g':Gh,(∀b,g'.own b->g.own b\/((∃k,b∈g'.O k)/\w.heap.size<=b/\n b))->(∀k,H k->g'.val k=g.val k/\g'.O k=g.O k/\g'.D k=g.D k)->∀k,H k->ObR g' w' k (p k)/\∀b∈g.O k++g.D k,YZ w' (p k) b):
  ∃g',HI W g' (fun k=>Zh (fun j=>open Classical in if H j then p j else ob j) (Zx key d).2.1 k) w'/\SVR g' w' (Qr (Zx key d).1) v/\(∀x u,svU U x->SVR g w x u->SVR g' w' x u)/\svU (Uk U key) (Qr (Zx key d).1)/\
   (∀k,obU (Uk U key) (Zh (fun j=>open Classical in if H j then p j else ob j) (Zx key d).2.1 k))/\∀k,¬Uk U key k->Zh (fun j=>open Classical in if H j then p j else ob j) (Zx key d).2.1 k=.gone:=by
 classical
 obtain ⟨vs,F,h1,hF,hv⟩:=hr
 obtain ⟨E,O,D,hB,hA⟩:=ZhF (l:=Zdq d) key h1 id
 generalize (Zx key d).2.2=hi at *
 generalize (Zx key d).2.1=up at *
 generalize (Zx key d).1=xs at *
 have hle:=hB.le
 let T:Nat->Prop:=fun k=>key<=k/\k<hi
 have ab:∀k,T k->¬U k:=fun k hk=>V k hk.1 (by have:=hk.2;omega)
 let g':Gh:=⟨fun k=>if key<=k/\k<hi then E k else g.val k,fun k=>if key<=k/\k<hi then O k else g.O k,fun k=>if key<=k/\k<hi then D k else g.D k,g.Z⟩
 have gT:∀k,T k->g'.val k=E k/\g'.O k=O k/\g'.D k=D k:=fun k hk=>⟨if_pos hk,if_pos hk,if_pos hk⟩
 have gN:∀k,¬T k->g'.val k=g.val k/\g'.O k=g.O k/\g'.D k=g.D k:=fun k hk=>⟨if_neg hk,if_neg hk,if_neg hk⟩
 have af:∀k,H k->¬T k:=fun k hk ht=>ab k ht (X k hk)
 have hmemF:∀k,T k->∀b∈O k++D k,b∈F:=fun k hk b mb=>by
  rw [hB.foot]
  exact Ae.2 ⟨k,AP.2 ⟨hk.1,by have:=hk.2;omega⟩,mb⟩
 have G:∀k,T k->∀b∈O k++D k,w.heap.size<=b:=fun k hk b mb=>hF.ge b (hmemF k hk b mb)
 have ac:=Zek (hB.foot ▸ hF.nodup)
 have J:∀k,U k->g'.val k=g.val k:=fun k hk=>(gN k fun h=>ab k h hk).1
 have t:∀b,g'.own b->g.own b\/((∃k,b∈g'.O k)/\w.heap.size<=b/\n b):=fun b hb=>by
  rcases hb with ⟨k,mk⟩|hz
  .by_cases hk:T k
   .have P:=mk
    rw [(gT k hk).2.1]at P
    obtain ⟨e,m,ys,cs,_,_,_,_,_,p6⟩:=hB.at_ k hk.1 hk.2
    exact .inr ⟨⟨k,mk⟩,G k hk b (by simp [P]),p6 b P⟩
   .rw [(gN k hk).2.1]at mk;exact .inl (.inl ⟨k,mk⟩)
  .exact .inl (.inr hz)
 have K:X7 g g' w.heap.size:=.of (fun b hb=>(t b hb).imp id fun h=>h.2.1) fun j b mb=>by
  by_cases hj:T j
  .rw [(gT j hj).2.2]at mb
   exact .inr (G j hj b (by simp [mb]))
  .rw [(gN j hj).2.2]at mb;exact .inl (.inr ⟨j,mb⟩)
 have ag:∀b,b<w.heap.size->¬g.own b->w'.heap[b]?=w.heap[b]?:=fun b hb ah=>hw b hb fun k _ mk=>ah (.inl ⟨k,mk⟩)
 have Q:∀x u,svU U x->SVR g w x u->SVR g' w' x u:=fun x u hx hu=>hu.move hx J ag K ae
 have B:∀k,¬T k->Zh (fun j=>if H j then p j else ob j) up k=if H k then p k else ob k:=fun k hk=>hB.out k hk _
 have ai:HI W g' (Zh (fun j=>if H j then p j else ob j) up) w':=by
  refine hI.step (U:=U) (fun k=>T k\/H k) Y rfl (fun b aj hq=>hw b aj fun k hk=>hq k (.inr hk)) (fun k hk=>?_) I J K (fun k hk=>?_)
  .have k1:¬T k:=fun h=>hk (.inl h)
   have k2:¬H k:=fun h=>hk (.inr h)
   exact ⟨by rw [B k k1,if_neg k2],gN k k1⟩
  .by_cases a:T k
   .obtain ⟨e1,e2,e3⟩:=gT k a
    obtain ⟨e,m,ys,cs,p1,p2,p3,p4,p5,_⟩:=hB.at_ k a.1 a.2
    rw [p1,e2,e3]
    refine ⟨⟨p2,cs,D k,?_,p4,.inl ⟨rfl,by rw [e1,e2];exact p5,e3⟩⟩,ac.1 k a.1 (by have:=a.2;omega),fun b mb=>?_,fun j hj b mb mj=>?_⟩
    .rw [e1];exact Zix p3 (AN _)
    .exact ⟨.inl (AI hI.below.size (G k a b mb)),hF.plain b (hmemF k a b mb)⟩
    .by_cases f:T j
     .rw [(gT j f).2.1,(gT j f).2.2]at mj
      exact ac.2 k j a.1 (by have:=a.2;omega) f.1 (by have:=f.2;omega) hj b mb mj
     .rw [(gN j f).2.1,(gN j f).2.2]at mj
      have:=hI.lt j b mj
      have:=G k a b mb
      omega
   .have C:H k:=hk.resolve_left a
    obtain ⟨e1,e2,e3⟩:=gN k a
    obtain ⟨q1,q2⟩:=hH g' t (fun j hj=>gN j (af j hj)) k C
    rw [B k a,if_pos C,e2,e3]
    refine ⟨q1,hI.nodup k,fun b mb=>⟨(hI.plain k b mb).1,q2 b mb⟩,fun j hj b mb mj=>?_⟩
    by_cases f:T j
    .rw [(gT j f).2.1,(gT j f).2.2]at mj
     have:=hI.lt k b mb
     have:=G j f b mj
     omega
    .rw [(gN j f).2.1,(gN j f).2.2]at mj
     exact hI.apart k j hj b mb mj
 have R:∀x u,CR E w' n (Zdq d) key hi x u->AVR g' w' x u/\avU (Uk U key) x:=fun x u h=>by
  cases x with
  |row k=>
   obtain ⟨c1,c2,c3,c4⟩:=h
   exact ⟨⟨by rw [(gT k ⟨c1,c2⟩).1];exact c3,c4⟩,.inr ⟨c1,yE⟩⟩
  |c x=>
   obtain ⟨L,h1,h2⟩:=h
   refine ⟨⟨L,h1,fun b mb o=>?_⟩,trivial⟩
   rcases t b o with o|o
   .exact (h2 b mb).2 (A (h2 b mb).1 b o)
   .exact (h2 b mb).2 o.2.2
  |n _=>exact h.elim
  |nil _ _=>exact h.elim
  |dead=>exact h.elim
 have ad:∀(ys:List AV) (us:List Value),ZD (CR E w' n (Zdq d) key hi) ys us->ZD (AVR g' w') ys us/\XD (Uk U key) ys:=fun ys us h=>by
  induction ys generalizing us with
  |nil=>cases us with
   |nil=>exact ⟨trivial,fun _ m=>by simp at m⟩
   |cons _ _=>exact h.elim
  |cons y ys ih=>cases us with
   |nil=>exact h.elim
   |cons u us=>
    obtain ⟨i1,i2⟩:=ih us h.2
    refine ⟨⟨(R y u h.1).1,i1⟩,fun z mz=>?_⟩
    rcases AE.1 mz with rfl|mz
    .exact (R z u h.1).2
    .exact i2 z mz
 have S:∀(y:Bool×List AV) (u:Value),PR E w' n (Zdq d) key hi y u->PVR g' w' y.1 y.2 u/\XD (Uk U key) y.2:=fun y u h=>by
  rcases h with ⟨h1,us,rfl,h3⟩|⟨h1,z,h2,h3⟩
  .obtain ⟨i1,i2⟩:=ad _ _ h3
   exact ⟨by rw [h1];exact ⟨us,rfl,i1⟩,i2⟩
  .obtain ⟨i1,i2⟩:=R z u h3
   exact ⟨by rw [h1];exact ⟨z,h2,i1⟩,by rw [h2];intro q mq;simp at mq;subst mq;exact i2⟩
 have M:SVR g' w' (Qr xs) v/\svU (Uk U key) (Qr xs):=by
  have A:=hA.len
  by_cases hl:xs.length=1
  .obtain ⟨x,rfl⟩:=BG.1 hl
   cases vs with
   |nil=>simp at A
   |cons u us=>
    cases us with
    |cons _ _=>simp at A
    |nil=>
     have ak:v=u:=by rw [hv];rfl
     rw [ak]
     exact S x u hA.1
  .have al:¬vs.toArray.size=1:=by simp;omega
   rw [dif_neg al]at hv
   have e:Qr xs=.tup xs:=by
    cases xs with
    |nil=>rfl
    |cons x xs=>cases xs with
     |nil=>simp at hl
     |cons _ _=>rfl
   rw [e]
   refine ⟨⟨vs,hv,hA.mono fun y u _ h=>(S y u h).1⟩,fun y my=>?_⟩
   obtain ⟨i,am⟩:=Aq.1 my
   obtain ⟨u,_,hu⟩:=hA.at am
   exact (S y u hu).2
 refine ⟨g',ai,M.1,Q,M.2,fun k=>?_,fun k hk=>?_⟩
 .by_cases a:T k
  .obtain ⟨e,m,ys,cs,p1,_⟩:=hB.at_ k a.1 a.2
   rw [p1];trivial
  .rw [B k a]
   split
   .rename_i C;exact aa k C
   .exact (I k).mono fun _=>.inl
 .have a:¬T k:=fun a=>hk (.inr ⟨a.1,by have:=a.2;omega⟩)
  have C:¬H k:=fun h=>hk (.inl (X k h))
  rw [B k a,if_neg C]
  exact N k fun h=>hk (.inl h)
theorem Zhw [NW] (st:St):∀(ks:List Nat) {g:Gh}{ob:Nat->Ob},HI W g ob w->(∀k,ob k=st.ob k\/ob k=Z6 (st.ob k))->∃g1:Gh,HI W g1 (Zh ob (ZI st ks)) w/\g1.val=g.val/\XF g1 g/\∀k,Zh ob (ZI st ks) k=(if k∈ks then Z6 (st.ob k) else ob k)
 | [],g,ob,hI,_=>⟨g,hI,rfl,XF.refl _,fun k=>by simp [ZI,Zh]⟩
 |k::r,g,ob,hI,hob=>by
  have b:Z6 (ob k)=Z6 (st.ob k):=by
   rcases hob k with h|h
   .rw [h]
   .rw [h];cases st.ob k<;>rfl
  obtain ⟨g1,h1,h2,h3,_⟩:=Zjm hI k
  rw [b]at h1
  have a:∀j,upd ob k (Z6 (st.ob k)) j=st.ob j\/upd ob k (Z6 (st.ob k)) j=Z6 (st.ob j):=fun j=>by
   by_cases hj:j=k
   .subst hj;right;rw [ZB]
   .rw [ZP _ _ hj];exact hob j
  obtain ⟨g2,i1,i2,i3,i4⟩:=Zhw st r h1 a
  refine ⟨g2,i1,i2.trans h2,i3.trans h3,fun j=>?_⟩
  show Zh (upd ob k (Z6 (st.ob k))) (ZI st r) j=_
  rw [i4 j]
  by_cases hj:j=k
  .subst hj;simp [upd]
  .simp [hj,upd]
theorem ZoO {st st':St}(h:∀k,st'.ob k=st.ob k\/st'.ob k=Z6 (st.ob k)) (x:SV):Zdr st' x=Zdr st x:=by
 have h1:∀y:AV,Zcb st' y=Zcb st y:=fun y=>by
  cases y with
  |row k=>
   simp only[Zcb]
   rcases h k with e|e
   .rw [e]
   .rw [e];cases st.ob k<;>rfl
  |_=>rfl
 have h2:∀ys:List AV,YI st' ys=YI st ys:=fun ys=>by
  induction ys with
  |nil=>rfl
  |cons y ys ih=>simp only[YI,h1,ih]
 cases x<;>simp [Zdr,h2]
theorem Zcu [NW] {st st':St}(h:∀k,st'.ob k=st.ob k\/st'.ob k=Z6 (st.ob k)):∀xs:List SV,ZU st' xs=ZU st xs
 | []=>rfl
 |x::r=>by simp only[ZU];rw [ZoO h x,Zcu h r]
theorem Zlz {k:Nat}:∀{cs:List AV},AV.row k∈cs->k∈Zii cs
 | [],h=>by simp at h
 |x::r,h=>by
  rcases AE.1 h with rfl|h
  .simp [Zii]
  .have:=Zlz h
   cases x<;>simp [Zii,this]
theorem Zlw [NW] {k:Nat}{a:Bool}{cs:List AV}:∀{vs:List SV},SV.p a cs∈vs->AV.row k∈cs->k∈ZF vs
 | [],h,_=>by simp at h
 |x::r,h,hk=>by
  rcases AE.1 h with rfl|h
  .simp [ZF,Zlz hk]
  .have:=Zlw h hk
   cases x<;>simp [ZF,this]
end
end
section
open Go.RowKit
def QU (S:Ctx) (f:FuncId) (n key:Nat) (st:St) (vs:List SV) (v:SV) (u:List (Nat×Ob)):Prop:=
 match n with
 |0=>∃l res,ZU st vs=some l/\S.r f l res/\(!Zdq res||vs.all Zhy)=true/\(Zx key res).2.2<=key+16/\v=Qr (Zx key res).1/\u=(Zx key res).2.1
 |1=>∃v0 r k h l res h',vs=v0::r/\Zf8 st v0=some (k,h)/\ZU st r=some l/\S.h f h l res h'/\(ZF r).all (fun j=>j != k)=true/\(Zx key res).2.2<=key+16/\v=Qr (Zx key res).1/\u=ZI st (ZF r)++((k,ZdN h')::(Zx key res).2.1)
 |3=>∃l nb,ZU st vs=some l/\S.b f l nb/\v=ZCb key nb/\u=ZI st (ZF vs)++[(key,ZvX nb)]
 |4=>∃l res,ZU st (vs.map nlS)=some l/\S.r f l res/\(!Zdq res||(vs.map nlS).all Zhy)=true/\(Zx key res).2.2<=key+16/\v=Qr (Zx key res).1/\u=(Zx key res).2.1
 |5=>∃v0 r kh gh l res cs',vs=v0::r/\Zdn st v0=some kh/\Zic st (r.take 0)=some gh/\ZU st (r.drop 0)=some l/\S.o f kh.2.1 kh.2.2.1 gh.1 l res cs'/\(kh.2.2.2++gh.2).Nodup/\(ZF (r.drop 0)).all (Zgm (kh.2.2.2++gh.2))=true/\(Zx key res).2.2=key/\(ZA key cs').2.2<=key+16/\v=Qr (Zx key res).1/\u=ZI st (ZF (r.drop 0))++(Yc (kh.2.2.2++gh.2)++((kh.1,.box kh.2.1 (ZA key cs').1)::(ZA key cs').2.1))
 |6=>∃v0 r kh gh l res cs',vs=v0::r/\Zdn st v0=some kh/\Zic st (r.take 1)=some gh/\ZU st (r.drop 1)=some l/\S.o f kh.2.1 kh.2.2.1 gh.1 l res cs'/\(kh.2.2.2++gh.2).Nodup/\(ZF (r.drop 1)).all (Zgm (kh.2.2.2++gh.2))=true/\(Zx key res).2.2=key/\(ZA key cs').2.2<=key+16/\v=Qr (Zx key res).1/\u=ZI st (ZF (r.drop 1))++(Yc (kh.2.2.2++gh.2)++((kh.1,.box kh.2.1 (ZA key cs').1)::(ZA key cs').2.1))
 |7=>∃v0 r gv ks l res,vs=v0::r/\Zic st [v0]=some (some gv,ks)/\ZU st r=some l/\S.g f gv l res/\ks.Nodup/\(ZF r).all (Zgm ks)=true/\(Zx key res).2.2<=key+16/\v=Qr (Zx key res).1/\u=ZI st (ZF r)++(Yc ks++(Zx key res).2.1)
 |_=>∃l res,ZU st vs=some l/\S.r f l res/\(Zx key res).2.2<=key+16/\v=Qr (Zx key res).1/\u=ZI st (ZF vs)++(Zx key res).2.1
theorem Zlc {S:Ctx}{f:FuncId}{n key:Nat}{d:Option Nat}{K:St->Prop}{st:St}{vs:List SV}:spK S f n key d K st vs↔∃v u,QU S f n key st vs v u/\K ((st.put d v).app u):=by
 rcases n with _|_|_|_|_|_|_|_|n
 .simp only[spK,QU]
  constructor
  .intro h
   unfold Ye at h
   split at h
   .rename_i l hl
    obtain ⟨a,h1,h2,h3,h4⟩:=h
    exact ⟨_,_,⟨l,a,hl,h1,h2,h3,rfl,rfl⟩,h4⟩
   .exact h.elim
  .rintro ⟨v,u,⟨l,a,hl,h1,h2,h3,rfl,rfl⟩,h4⟩
   rw [hl]
   exact ⟨a,h1,h2,h3,h4⟩
 .simp only[spK,QU]
  constructor
  .intro h
   cases vs with
   |nil=>exact h.elim
   |cons v0 r=>
    simp only[Ztn]at h
    unfold Ye at h
    split at h
    .rename_i kh hk
     split at h
     .rename_i l hl
      obtain ⟨a,h',h1,h2,h3,h4⟩:=h
      exact ⟨_,_,⟨v0,r,kh.1,kh.2,l,a,h',rfl,hk,hl,h1,h2,h3,rfl,rfl⟩,h4⟩
     .exact h.elim
    .exact h.elim
  .rintro ⟨v,u,⟨v0,r,k,hh,l,a,h',rfl,hk,hl,h1,h2,h3,rfl,rfl⟩,h4⟩
   simp only[Ztn,hk,hl,Ye]
   exact ⟨a,h',h1,h2,h3,h4⟩
 .simp only[spK,QU]
  constructor
  .intro h
   unfold Ye at h
   split at h
   .rename_i l hl
    obtain ⟨a,h1,h3,h4⟩:=h
    exact ⟨_,_,⟨l,a,hl,h1,h3,rfl,rfl⟩,h4⟩
   .exact h.elim
  .rintro ⟨v,u,⟨l,a,hl,h1,h3,rfl,rfl⟩,h4⟩
   rw [hl]
   exact ⟨a,h1,h3,h4⟩
 .simp only[spK,QU]
  constructor
  .intro h
   unfold Ye at h
   split at h
   .rename_i l hl
    obtain ⟨nb,h1,h4⟩:=h
    exact ⟨_,_,⟨l,nb,hl,h1,rfl,rfl⟩,h4⟩
   .exact h.elim
  .rintro ⟨v,u,⟨l,nb,hl,h1,rfl,rfl⟩,h4⟩
   rw [hl]
   exact ⟨nb,h1,h4⟩
 .simp only[spK,QU]
  constructor
  .intro h
   unfold Ye at h
   split at h
   .rename_i l hl
    obtain ⟨a,h1,h2,h3,h4⟩:=h
    exact ⟨_,_,⟨l,a,hl,h1,h2,h3,rfl,rfl⟩,h4⟩
   .exact h.elim
  .rintro ⟨v,u,⟨l,a,hl,h1,h2,h3,rfl,rfl⟩,h4⟩
   rw [hl]
   exact ⟨a,h1,h2,h3,h4⟩
 .simp only[spK,QU]
  constructor
  .intro h
   cases vs with
   |nil=>exact h.elim
   |cons v0 r=>
    simp only[ZkI]at h
    unfold Ye at h
    split at h
    .rename_i kh hk
     split at h
     .rename_i gh hg
      split at h
      .rename_i l hl
       obtain ⟨a,b,h1,h2,h3,h4,h5,h6⟩:=h
       exact ⟨_,_,⟨v0,r,kh,gh,l,a,b,rfl,hk,hg,hl,h1,h2,h3,h4,h5,rfl,rfl⟩,h6⟩
      .exact h.elim
     .exact h.elim
    .exact h.elim
  .rintro ⟨v,u,⟨v0,r,kh,gh,l,a,b,rfl,hk,hg,hl,h1,h2,h3,h4,h5,rfl,rfl⟩,h6⟩
   simp only[ZkI,hk,hg,hl,Ye]
   exact ⟨a,b,h1,h2,h3,h4,h5,h6⟩
 .simp only[spK,QU]
  constructor
  .intro h
   cases vs with
   |nil=>exact h.elim
   |cons v0 r=>
    simp only[ZkI]at h
    unfold Ye at h
    split at h
    .rename_i kh hk
     split at h
     .rename_i gh hg
      split at h
      .rename_i l hl
       obtain ⟨a,b,h1,h2,h3,h4,h5,h6⟩:=h
       exact ⟨_,_,⟨v0,r,kh,gh,l,a,b,rfl,hk,hg,hl,h1,h2,h3,h4,h5,rfl,rfl⟩,h6⟩
      .exact h.elim
     .exact h.elim
    .exact h.elim
  .rintro ⟨v,u,⟨v0,r,kh,gh,l,a,b,rfl,hk,hg,hl,h1,h2,h3,h4,h5,rfl,rfl⟩,h6⟩
   simp only[ZkI,hk,hg,hl,Ye]
   exact ⟨a,b,h1,h2,h3,h4,h5,h6⟩
 .simp only[spK,QU]
  constructor
  .intro h
   cases vs with
   |nil=>exact h.elim
   |cons v0 r=>
    simp only[Zts]at h
    unfold Ye at h
    split at h
    .rename_i gh hg
     split at h
     .rename_i l hl
      obtain ⟨gv,a,h1,h2,h3,h4,h5,h6⟩:=h
      obtain ⟨g1,g2⟩:=gh
      simp only at h1 h2 h3 h4 h5 h6
      subst h1
      exact ⟨_,_,⟨v0,r,gv,g2,l,a,rfl,hg,hl,h2,h3,h4,h5,rfl,rfl⟩,h6⟩
     .exact h.elim
    .exact h.elim
  .rintro ⟨v,u,⟨v0,r,gv,ks,l,a,rfl,hg,hl,h2,h3,h4,h5,rfl,rfl⟩,h6⟩
   simp only[Zts,hg,hl,Ye]
   exact ⟨gv,a,rfl,h2,h3,h4,h5,h6⟩
 .simp only[spK,QU]
  constructor
  .intro h
   unfold Ye at h
   split at h
   .rename_i l hl
    obtain ⟨a,h1,h3,h4⟩:=h
    exact ⟨_,_,⟨l,a,hl,h1,h3,rfl,rfl⟩,h4⟩
   .exact h.elim
  .rintro ⟨v,u,⟨l,a,hl,h1,h3,rfl,rfl⟩,h4⟩
   rw [hl]
   exact ⟨a,h1,h3,h4⟩
section
variable {P:Program} {J:World->Prop} {JF:Nat->Prop} {W:ZaA} {U:Nat->Prop} {key:Nat} {st:St} {g:Gh} {w w':World} {a:Act} {tt:Nat->Option TI} {hd:FuncId->Nat}
def Ztt [NW] (W:ZaA) (U:Nat->Prop) (key:Nat) (st:St) (g:Gh) (w:World) (v:SV) (u:List (Nat×Ob)) (cv:Value) (w':World):Prop:=
 ∃g',HI W g' (Zh st.ob u) w'/\SVR g' w' v cv/\(∀x c,svU U x->SVR g w x c->SVR g' w' x c)/\svU (Uk U key) v/\(∀k,obU (Uk U key) (Zh st.ob u k))/\∀k,¬Uk U key k->Zh st.ob u k=.gone
theorem HI.ownlt [NW] {ob:Nat->Ob}(hI:HI W g ob w) {b:Nat}(h:g.own b):b<w.heap.size:=by
 rcases h with ⟨k,mk⟩|hz
 .exact hI.lt k b (by simp [mk])
 .rw [hI.gz]at hz
  exact Ag (hI.zx b hz).1 hI.below.size
theorem Zqe {ks:List Nat}{ob:Nat->Ob}(a:∀k,obU U (st.ob k)) (h:∀k,ob k=(if k∈ks then Z6 (st.ob k) else st.ob k)):∀k,obU U (ob k):=fun k=>by
 rw [h k]
 have:=a k
 split
 .cases hk:st.ob k<;>simp only[Z6]<;>first|trivial|(rw [hk]at this;exact this)
 .exact this
theorem ZlQ [NW] {vs:List SV}{l:List (Bool×List CT)}{st1:St}(h:∀k,st1.ob k=(if k∈ZF vs then Z6 (st.ob k) else st.ob k)) (hl:ZU st vs=some l):∀x∈vs,ZuA st1.ob x:=by
 have key:∀(cs:List AV) (l:List CT),YI st cs=some l->(∀k,AV.row k∈cs->k∈ZF vs)->∀y∈cs,ZwD st1.ob y:=by
  intro cs
  induction cs with
  |nil=>intro l _ _ y my;simp at my
  |cons c cs ih=>
   intro l hl hk y my
   simp only[YI]at hl
   obtain ⟨c1,h1,hl⟩:=AC.1 hl
   obtain ⟨c2,h2,_⟩:=AB.1 hl
   rcases AE.1 my with rfl|my
   .cases y with
    |row k=>
     simp only[Zcb]at h1
     split at h1
     .rename_i e m xs d a
      exact ⟨e,m,xs,by rw [h k,if_pos (hk k yG),a];rfl⟩
     .simp at h1
    |_=>trivial
   .exact ih c2 h2 (fun k mk=>hk k (by simp [mk])) y my
 have all:∀(xs:List SV) (l:List (Bool×List CT)),ZU st xs=some l->(∀x∈xs,x∈vs)->∀x∈xs,ZuA st1.ob x:=by
  intro xs
  induction xs with
  |nil=>intro l _ _ x mx;simp at mx
  |cons x xs ih=>
   intro l hl hm y my
   simp only[ZU]at hl
   obtain ⟨c1,h1,hl⟩:=AC.1 hl
   obtain ⟨c2,h2,_⟩:=AB.1 hl
   rcases AE.1 my with rfl|my
   .cases y with
    |p ag cs=>
     simp only[Zdr]at h1
     obtain ⟨l1,h3,_⟩:=AB.1 h1
     exact key cs l1 h3 (fun k mk=>Zlw (hm (.p ag cs) yG) mk)
    |_=>trivial
   .exact ih c2 h2 (fun z mz=>hm z (by simp [mz])) y my
 exact all vs l hl (fun _ h=>h)
theorem ZCQ {k:Nat}{inst:∀j,Decidable (j=k)}(ob:Nat->Ob) (o:Ob):(fun j=>@ite _ (j=k) (inst j) o (ob j))=upd ob k o:=by
 funext j
 simp only[upd]
 split<;>rfl
theorem ZjH [NW] (htt:MOk P J JF W tt) {f:FuncId}{vs:List SV}{a:List Value}{v:SV}{u:List (Nat×Ob)}(h:QU (SC P J JF hd) f 0 key st vs v u) (hH:HI W g st.ob w) (hU:StU U st) (c:∀k,key<=k->k<key+16->¬U k) (j:ZD (SVR g w) vs a) (hvU:∀x∈vs,svU U x):
  Q1 P f/\Calls P f a.toArray w fun e w'=>∃cv,e=.returned cv/\Ztt W U key st g w v u cv w':=by
 obtain ⟨l,o,hl,hs,d,hn,rfl,rfl⟩:=h
 obtain ⟨hc,hC⟩:=hs
 refine ⟨hc,?_⟩
 by_cases m:Zdq o=true
 .have p:∀x∈vs,ZuA st.ob x:=ZyT (by simpa [m]using d)
  refine (hC w g.own a (htt.at hH.below) (fun b hb=>hH.ownlt hb) (Zbw hH hl j (.inr ⟨p,fun _ h=>h⟩))).mono ?_
  rintro e w' ⟨cv,n,rfl,hr,hz,hb⟩
  obtain ⟨g',t1,t2,t3,t4,t5,t6⟩:=ZhB hH hU.ob hU.gone c hr hn (fun _=>False) (fun _ h=>h.elim) (fun _=>.gone) (fun _ b hb=>hz b hb) (hH.below.trans hb) hb.size (fun b i _=>hb.block b i) (fun _ h=>h.elim) (fun _ _ _ _ h=>h.elim)
  simp only[if_false]at t1 t5 t6
  exact ⟨cv,rfl,g',t1,t2,t3,t4,t5,t6⟩
 .refine (hC w (fun _=>False) a (htt.at hH.below) (fun b hb=>hb.elim) (Zbw hH hl j (.inl fun _ h=>h))).mono ?_
  rintro e w' ⟨cv,n,rfl,hr,hz,hb⟩
  obtain ⟨g',t1,t2,t3,t4,t5,t6⟩:=ZhB hH hU.ob hU.gone c hr hn (fun _=>False) (fun _ h=>h.elim) (fun _=>.gone) (fun h=>absurd h m) (hH.below.trans hb) hb.size (fun b i _=>hb.block b i) (fun _ h=>h.elim) (fun _ _ _ _ h=>h.elim)
  simp only[if_false]at t1 t5 t6
  exact ⟨cv,rfl,g',t1,t2,t3,t4,t5,t6⟩
theorem Zwm [NW] {x:AV}{v:Value}(h:AVR g w x v):AVR g w (nlA x) v:=by
 cases x with
 |nil e m=>exact ⟨[],⟨h,rfl⟩,yG⟩
 |_=>exact h
theorem Zug [NW]:∀{xs:List AV}{vs:List Value},ZD (AVR g w) xs vs->ZD (AVR g w) (xs.map nlA) vs
 | [],[],_=>trivial
 | [],_::_,h=>h.elim
 |_::_,[],h=>h.elim
 |_::_,_::_,h=>⟨Zwm h.1,Zug h.2⟩
theorem ZAK [NW] {x:SV}{v:Value}(h:SVR g w x v):SVR g w (nlS x) v:=by
 cases x with
 |p a cs=>
  cases a with
  |true=>obtain ⟨vs,h1,h2⟩:=h;exact ⟨vs,h1,Zug h2⟩
  |false=>obtain ⟨y,rfl,h2⟩:=h;exact ⟨_,rfl,Zwm h2⟩
 |_=>exact h
theorem Ztx [NW]:∀{xs:List SV}{vs:List Value},ZD (SVR g w) xs vs->ZD (SVR g w) (xs.map nlS) vs
 | [],[],_=>trivial
 | [],_::_,h=>h.elim
 |_::_,[],h=>h.elim
 |_::_,_::_,h=>⟨ZAK h.1,Ztx h.2⟩
theorem Zw8 {x:SV}(h:svU U x):svU U (nlS x):=by
 cases x with
 |p a cs=>
  intro y my
  obtain ⟨z,mz,rfl⟩:=AJ.1 my
  have hz:=h z mz
  cases z<;>first|exact hz|trivial
 |_=>exact h
theorem ZvQ [NW] (hI:HI W g st.ob w) {x:AV}{ct:Bool×CT}{ks:List Nat}{v:Value}(h:Zfi st x=some (ct,ks)) (hx:AVR g w x v):OC w 0 g.own ct v (g.F ks)/\∀k∈ks,∃e m xs,st.ob k=.row e m xs 2:=by
 cases x with
 |c y=>
  obtain ⟨L,h1,h2⟩:=hx
  cases y<;>simp only[Zfi,A0,AD,reduceCtorEq]at h<;>obtain ⟨rfl,rfl⟩:=h
  .exact ⟨⟨⟨h1.1,rfl⟩,by simp [Gh.F]⟩,yG⟩
  .exact ⟨⟨⟨h1.1,rfl⟩,by simp [Gh.F]⟩,yG⟩
  .exact ⟨⟨⟨h1.1,rfl,h1.2.2⟩,by simp [Gh.F]⟩,yG⟩
  .exact ⟨⟨by simp [Gh.F],L,h1,h2⟩,yG⟩
 |row k=>
  simp only[Zfi]at h
  split at h
  .rename_i e m xs d hk
   split at h
   .rename_i hd
    subst hd
    simp only[A0,AD]at h
    obtain ⟨rfl,rfl⟩:=h
    have ho:=hI.obs k
    rw [hk]at ho
    obtain ⟨hm,cs,L,o1,o2,o3⟩:=ho
    rcases o3 with ⟨_,q1,q2⟩|⟨q,_⟩|⟨q,_⟩
    .refine ⟨⟨hm,cs,L,by rw [hx.1];exact o1,o2,by simp [Gh.F,q1,q2,hx.1],fun b mb=>.inl ⟨k,by rw [q1,<-hx.1];exact mb⟩⟩,fun j mj=>?_⟩
     simp only[AY]at mj
     subst mj
     exact ⟨e,m,xs,hk⟩
    .omega
    .omega
   .simp at h
  .simp at h
 |nil e m=>
  simp only[Zfi]at h
  split at h
  .rename_i hm
   simp only[A0,AD]at h
   obtain ⟨rfl,rfl⟩:=h
   have hv:v=.slice none 0 0:=hx
   subst hv
   exact ⟨⟨hm,[],[],Zfg _ _ _ _,⟨rfl,rfl⟩,by simp [Gh.F,Value.ownBlock],by simp [Value.ownBlock]⟩,yG⟩
  .simp at h
 |n _=>simp [Zfi]at h
 |dead=>simp [Zfi]at h
theorem Zhq [NW] (hI:HI W g st.ob w):∀{xs:List AV}{cts:List (Bool×CT)}{ks:List Nat}{vs:List Value},YC st xs=some (cts,ks)->ZD (AVR g w) xs vs->OCs w 0 g.own cts vs (g.F ks)/\∀k∈ks,∃e m xs,st.ob k=.row e m xs 2
 | [],_,_,[],h,_=>by simp [YC]at h;obtain ⟨rfl,rfl⟩:=h;exact ⟨⟨rfl,by simp [Gh.F]⟩,yG⟩
 | [],_,_,_::_,_,h=>h.elim
 |_::_,_,_,[],_,h=>h.elim
 |x::r,cts,ks,v::vs,h,hr=>by
  simp only[YC]at h
  obtain ⟨⟨c1,k1⟩,h1,h⟩:=AC.1 h
  obtain ⟨⟨c2,k2⟩,h2,h⟩:=AB.1 h
  simp only[AD]at h
  obtain ⟨rfl,rfl⟩:=h
  obtain ⟨a1,a2⟩:=ZvQ hI h1 hr.1
  obtain ⟨b1,b2⟩:=Zhq hI h2 hr.2
  exact ⟨⟨v,vs,_,_,rfl,by simp [Gh.F],a1,b1⟩,fun k mk=>(AA.1 mk).elim (a2 k) (b2 k)⟩
theorem OC.low {n m:Nat->Prop}{B:Nat}{x:Bool×CT}{v:Value}{F:List Nat}(h:OC w B n x v F) (h1:∀b,m b->n b) (h2:∀b∈F,n b->m b):OC w B m x v F:=by
 obtain ⟨l,c⟩:=x
 cases l with
 |true=>obtain ⟨e,L,q1,q2⟩:=h;exact ⟨e,L,q1,fun b mb hm=>q2 b mb (h1 b hm)⟩
 |false=>
  cases c with
  |sl e k xs=>
   obtain ⟨q1,cs,L,q2,q3,q4,q5⟩:=h
   exact ⟨q1,cs,L,q2,q3,q4,fun b mb=>h2 b (by rw [q4];simp only[AA];exact .inl mb) (q5 b mb)⟩
  |_=>exact h
theorem OCs.low {n m:Nat->Prop}{B:Nat}:∀{cts:List (Bool×CT)}{vs:List Value}{F:List Nat},OCs w B n cts vs F->(∀b,m b->n b)->(∀b∈F,n b->m b)->OCs w B m cts vs F
 | [],_,_,h,_,_=>h
 |_::_,_,_,⟨v,vs,F1,F2,e1,e2,h3,h4⟩,h1,h2=>⟨v,vs,F1,F2,e1,e2,h3.low h1 fun b mb=>h2 b (by simp [e2,mb]),h4.low h1 fun b mb=>h2 b (by simp [e2,mb])⟩
theorem Zgn {st st':St}:∀{xs:List AV}{cts:List (Bool×CT)}{ks:List Nat},YC st xs=some (cts,ks)->(∀j∈ks,st'.ob j=st.ob j)->YC st' xs=some (cts,ks)
 | [],_,_,h,_=>h
 |x::r,cts,ks,h,hk=>by
  simp only[YC]at h ⊢
  obtain ⟨⟨c1,k1⟩,h1,h⟩:=AC.1 h
  obtain ⟨⟨c2,k2⟩,h2,h⟩:=AB.1 h
  simp only[AD]at h
  obtain ⟨rfl,rfl⟩:=h
  have e1:Zfi st' x=some (c1,k1):=by
   cases x with
   |row k=>
    simp only[Zfi]at h1 ⊢
    split at h1
    .rename_i e m xs d a
     split at h1
     .rename_i hd
      simp only[A0,AD]at h1
      obtain ⟨rfl,rfl⟩:=h1
      rw [hk k yG,a]
      simp [hd]
     .simp at h1
    .simp at h1
   |c y=>cases y<;>exact h1
   |nil e m=>exact h1
   |n _=>exact h1
   |dead=>exact h1
  rw [e1,Zgn h2 fun j mj=>hk j (by simp [mj])]
  rfl
theorem Zrw [NW] {a:Nat->Value}{n:Nat->Prop}{l:Bool}{lo hi:Nat}{g':Gh}{V:Nat->Prop}{xs:List (Bool×List AV)}{vs:List Value}{v:Value}(hA:ZD (PR a w' n l lo hi) xs vs) (hv:v=(if h:vs.toArray.size=1 then vs.toArray[0] else .tuple vs.toArray))
  (c:∀x u,CR a w' n l lo hi x u->AVR g' w' x u/\avU V x):SVR g' w' (Qr xs) v/\svU V (Qr xs):=by
 have f:∀(ys:List AV) (us:List Value),ZD (CR a w' n l lo hi) ys us->ZD (AVR g' w') ys us/\XD V ys:=fun ys us h=>by
  induction ys generalizing us with
  |nil=>cases us with
   |nil=>exact ⟨trivial,fun _ m=>by simp at m⟩
   |cons _ _=>exact h.elim
  |cons y ys ih=>cases us with
   |nil=>exact h.elim
   |cons u us=>
    obtain ⟨i1,i2⟩:=ih us h.2
    refine ⟨⟨(c y u h.1).1,i1⟩,fun z mz=>?_⟩
    rcases AE.1 mz with rfl|mz
    .exact (c z u h.1).2
    .exact i2 z mz
 have d:∀(y:Bool×List AV) (u:Value),PR a w' n l lo hi y u->PVR g' w' y.1 y.2 u/\XD V y.2:=fun y u h=>by
  rcases h with ⟨h1,us,rfl,h3⟩|⟨h1,z,h2,h3⟩
  .obtain ⟨i1,i2⟩:=f _ _ h3
   exact ⟨by rw [h1];exact ⟨us,rfl,i1⟩,i2⟩
  .obtain ⟨i1,i2⟩:=c z u h3
   exact ⟨by rw [h1];exact ⟨z,h2,i1⟩,by rw [h2];intro q mq;simp at mq;subst mq;exact i2⟩
 have b:=hA.len
 by_cases hl:xs.length=1
 .obtain ⟨x,rfl⟩:=BG.1 hl
  cases vs with
  |nil=>simp at b
  |cons u us=>
   cases us with
   |cons _ _=>simp at b
   |nil=>
    have g:v=u:=by rw [hv];rfl
    rw [g]
    exact d x u hA.1
 .have j:¬vs.toArray.size=1:=by simp;omega
  rw [dif_neg j]at hv
  have e:Qr xs=.tup xs:=by
   cases xs with
   |nil=>rfl
   |cons x xs=>cases xs with
    |nil=>simp at hl
    |cons _ _=>rfl
  rw [e]
  refine ⟨⟨vs,hv,hA.mono fun y u _ h=>(d y u h).1⟩,fun y my=>?_⟩
  obtain ⟨i,k⟩:=Aq.1 my
  obtain ⟨u,_,hu⟩:=hA.at k
  exact (d y u hu).2
theorem Ztd {v:SV}{kh:Nat×Nat×List (Bool×CT)×List Nat}(h:Zdn st v=some kh):∃ds,v=.bp kh.1 0/\st.ob kh.1=.box kh.2.1 ds/\YC st ds=some (kh.2.2.1,kh.2.2.2)/\kh.2.2.2.Nodup:=by
 unfold Zdn at h
 split at h
 .rename_i k
  split at h
  .rename_i t ds hk
   obtain ⟨x,hx,h⟩:=AC.1 h
   split at h
   .rename_i a
    simp only[A0]at h
    subst h
    exact ⟨ds,rfl,hk,hx,a⟩
   .simp at h
  .simp at h
 .simp at h
theorem ZhP {st:St}:∀{xs ys:List AV}{c1 c2:List (Bool×CT)}{k1 k2:List Nat},YC st xs=some (c1,k1)->YC st ys=some (c2,k2)->YC st (xs++ys)=some (c1++c2,k1++k2)
 | [],ys,c1,c2,k1,k2,h,h'=>by simp [YC]at h;obtain ⟨rfl,rfl⟩:=h;exact h'
 |x::r,ys,c1,c2,k1,k2,h,h'=>by
  simp only[YC,AQ]at h ⊢
  obtain ⟨⟨c3,k3⟩,h1,h⟩:=AC.1 h
  obtain ⟨⟨c4,k4⟩,h2,h⟩:=AB.1 h
  simp only[AD]at h
  obtain ⟨rfl,rfl⟩:=h
  rw [h1,ZhP h2 h']
  simp
theorem Zil {st:St}:∀{xs:List AV}{c:List (Bool×CT)}{k:List Nat},YC st xs=some (c,k)->xs.length=c.length
 | [],_,_,h=>by simp [YC]at h;simp [h.1]
 |x::r,_,_,h=>by
  simp only[YC]at h
  obtain ⟨⟨c3,k3⟩,h1,h⟩:=AC.1 h
  obtain ⟨⟨c4,k4⟩,h2,h⟩:=AB.1 h
  simp only[AD]at h
  obtain ⟨rfl,rfl⟩:=h
  simp [Zil h2]
theorem Zr3 [NW] {vs:List SV}{b:List Value}{gv:Option (Bool×List (Bool×CT))}{ks:List Nat}(h:Zic st vs=some (gv,ks)) (hv:ZD (SVR g w) vs b):∃ds,YC st ds=some (gvC gv,ks)/\∃us,ZD (AVR g w) ds us/\GVr gv b us:=by
 unfold Zic at h
 split at h
 .simp only[A0,AD]at h
  obtain ⟨rfl,rfl⟩:=h
  cases b with
  |nil=>exact ⟨[],rfl,[],trivial,rfl,rfl⟩
  |cons _ _=>exact hv.elim
 .rename_i a xs
  obtain ⟨x,hx,h⟩:=AB.1 h
  simp only[AD]at h
  obtain ⟨rfl,rfl⟩:=h
  cases b with
  |nil=>exact hv.elim
  |cons c cr=>
   cases cr with
   |cons _ _=>exact hv.2.elim
   |nil=>
    have hl:=Zil hx
    cases a with
    |true=>
     obtain ⟨us,rfl,h2⟩:=hv.1
     exact ⟨xs,hx,us,h2,rfl,by rw [<-h2.len,hl]⟩
    |false=>
     obtain ⟨y,rfl,h2⟩:=hv.1
     exact ⟨[y],hx,[c],⟨h2,trivial⟩,rfl,rfl,by rw [<-hl];rfl⟩
 .simp at h
theorem ZiK [NW] (htt:MOk P J JF W tt) {f:FuncId}(N:Nat) {vs:List SV}{ah:List Value}{v:SV}{u:List (Nat×Ob)}(h:∃v0 r kh gh l Q B,vs=v0::r/\Zdn st v0=some kh/\Zic st (r.take N)=some gh/\ZU st (r.drop N)=some l/\Zf4 P J JF f kh.2.1 kh.2.2.1 gh.1 l Q B/\(kh.2.2.2++gh.2).Nodup/\(ZF (r.drop N)).all (Zgm (kh.2.2.2++gh.2))=true/\(Zx key Q).2.2=key/\(ZA key B).2.2<=key+16/\v=Qr (Zx key Q).1/\u=ZI st (ZF (r.drop N))++(Yc (kh.2.2.2++gh.2)++((kh.1,.box kh.2.1 (ZA key B).1)::(ZA key B).2.1))) (hH:HI W g st.ob w) (hU:StU U st) (a2:∀k,key<=k->k<key+16->¬U k) (a3:ZD (SVR g w) vs ah) (_hvU:∀x∈vs,svU U x):
  Q1 P f/\Calls P f ah.toArray w fun e w'=>∃cv,e=.returned cv/\Ztt W U key st g w v u cv w':=by
 classical
 obtain ⟨v0,r0,⟨k,t,cs,a4⟩,⟨gv,a5⟩,l,Q,B,rfl,hk,hg,hl,hs,a6,a7,bx,hn,rfl,rfl⟩:=h
 obtain ⟨ds,rfl,X,ai,_⟩:=Ztd hk
 simp only at hs a7 X ai a6 ⊢
 generalize hr0:r0.drop N=r at *
 obtain ⟨hc,hC⟩:=hs
 refine ⟨hc,?_⟩
 cases ah with
 |nil=>exact a3.elim
 |cons c0 cr=>
 obtain ⟨bz,Y⟩:=a3
 have b0:ZD (SVR g w) r (cr.drop N):=hr0 ▸ Y.drop N
 obtain ⟨aj,b1,b2⟩:=Zr3 hg (Y.take N)
 have hx:YC st (ds++aj)=some (cs++gvC gv,a4++a5):=ZhP ai b1
 generalize hks0:a4++a5=ks at *
 have b3:cr=cr.take N++cr.drop N:=(Ak _ _).symm
 obtain ⟨g1,i1,i2,i3,i4⟩:=Zhw st (ZF r) hH (fun k=>.inl rfl)
 let st1:St:=⟨st.sl,Zh st.ob (ZI st (ZF r)),st.n⟩
 have K:∀k,st1.ob k=(if k∈ZF r then Z6 (st.ob k) else st.ob k):=i4
 have ak:∀k,st1.ob k=st.ob k\/st1.ob k=Z6 (st.ob k):=fun k=>by
  rw [K k];split
  .exact .inr rfl
  .exact .inl rfl
 have b4:ZU st1 r=some l:=by rw [Zcu ak];exact hl
 have a8:=ZlQ (st1:=st1) K hl
 have b5:∀j,st.ob j≠.gone->U j:=fun j hg=>Classical.byContradiction fun hn=>hg (hU.gone j hn)
 have R:∀j,obU U (st1.ob j):=Zqe hU.ob K
 have M:∀j,¬U j->st1.ob j=.gone:=fun j hj=>by
  have e:=hU.gone j hj
  rcases ak j with h|h<;>rw [h,e]<;>rfl
 have a9:SVR g1 w (.bp k 0) c0:=bz.less i2 i3
 have ba:ZD (SVR g1 w) r (cr.drop N):=b0.mono fun x c _ hx=>hx.less i2 i3
 have b6:∀j∈ks,j∉ZF r:=fun j hj hm=>by
  have:=AO.1 a7 j hm
  simp [Zgm,hj]at this
 have al:st1.ob k=.box t ds:=by
  rcases ak k with h|h
  .rw [h,X]
  .rw [h,X];rfl
 have b7:YC st1 (ds++aj)=some (cs++gvC gv,ks):=Zgn hx fun j hj=>by rw [K j,if_neg (b6 j hj)]
 have ho:=i1.obs k
 rw [show Zh st.ob (ZI st (ZF r)) k=.box t ds from al]at ho
 obtain ⟨b,us,h1,h2,h3,h4,h5⟩:=ho
 obtain ⟨b',h6,h7⟩:=a9
 have b8:b'=b:=by rw [h6]at h1;simpa using h1
 subst b8
 obtain ⟨am,b9,ca⟩:=b2
 have bb:ZD (AVR g1 w) aj am:=b9.mono fun x c _ hx=>AVR.less hx i2 i3
 obtain ⟨bc,G⟩:=Zhq (st:=st1) i1 b7 (h5.append bb)
 have bd:us.length=cs.length:=by rw [<-h5.len,Zil ai]
 have aa:k∉ks:=fun m=>by
  obtain ⟨e,m',xs,hr⟩:=G k m
  rw [al]at hr;simp at hr
 have be:U k:=b5 k (by rw [X];simp)
 have ab:∀j∈ks,U j:=fun j hj=>Classical.byContradiction fun hn=>by
  obtain ⟨e,m',xs,hr⟩:=G j hj
  rw [M j hn]at hr;simp at hr
 let F:=g1.F ks
 let q:Nat->Prop:=fun x=>g1.own x/\x∈b'::F
 let z:Nat->Prop:=fun x=>g1.own x/\x∉b'::F
 have S:(fun x=>z x\/q x)=g1.own:=funext fun x=>propext ⟨fun h=>h.elim And.left And.left,fun h=>by
  by_cases hm:x∈b'::F
  .exact .inr ⟨h,hm⟩
  .exact .inl ⟨h,hm⟩⟩
 have H:∀x∈F,∃j∈ks,x∈g1.O j++g1.D j:=fun x mx=>Zfj mx
 have cb:b'∉F:=fun m=>by
  obtain ⟨j,hj,mj⟩:=H _ m
  exact i1.apart k j (fun e=>aa (e ▸ hj)) b' (by simp [h2]) mj
 have d:∀x∈b'::F,(W.heap.size<=x\/W.x x\/W.y x)/\∃cc e,w.heap[x]?=some (.cells cc e (0,0)):=fun x mx=>by
  rcases AE.1 mx with rfl|mx
  .have:=i1.plain k x (by simp [h2])
   rw [show Zh st.ob (ZI st (ZF r)) k=.box t ds from al]at this
   exact this
  .obtain ⟨j,hj,mj⟩:=H x mx
   obtain ⟨e,m',xs,hr⟩:=G j hj
   have:=i1.plain j x mj
   rw [show Zh st.ob (ZI st (ZF r)) j=.row e m' xs 2 from hr]at this
   exact this
 have an:ZtX w (fun x=>z x\/q x) t (cs++gvC gv) c0 b' us am F:=⟨h7,h4,by rw [S];exact bc,⟨Aa.2 ⟨cb,i1.nodupF a6⟩,fun _ _=>AN _,fun x mx=>(d x mx).2⟩⟩
 have ao:ZD (ZhI w fun x=>z x\/q x) l (cr.drop N):=by rw [S];exact Zbw (st:=st1) i1 b4 ba (.inr ⟨a8,fun _ h=>h⟩)
 have cd:q b':=⟨.inl ⟨k,by simp [h2]⟩,yG⟩
 have bf:∀x,q x->x=b'\/∃j∈ks,x∈g1.O j:=fun x hx=>by
  rcases AE.1 hx.2 with h|mx
  .exact .inl h
  .obtain ⟨j,hj,mj⟩:=H x mx
   rcases AA.1 mj with m1|m1
   .exact .inr ⟨j,hj,m1⟩
   .rcases hx.1 with ⟨j',bg⟩|hz
    .by_cases e:j=j'
     .subst e
      exact absurd rfl ((AK.1 (i1.nodup j)).2.2 x bg x m1)
     .exact absurd (by simp [bg]:x∈g1.O j'++g1.D j') (i1.apart j j' e x mj)
    .exact absurd hz (i1.nz mj)
 have bh:∀x,q x->W.heap.size<=x\/W.x x:=fun x hx=>by
  rcases bf x hx with rfl|⟨j,_,mj⟩
  .exact i1.oy k x (by simp [h2])
  .exact i1.oy j x mj
 rw [b3]
 refine (hC w z q c0 (cr.take N) (cr.drop N) b' us am F (htt.at hH.below) cd (fun x hx=>⟨(bh x hx).elim (htt.jf x) (htt.xf x),hx.2⟩) (fun x hx=>⟨i1.ownlt hx.1,fun h=>hx.2 h.2,hx.2⟩) bd ca an ao).mono ?_
 rintro e w' ⟨cv,n,bi,F',rfl,hr,bj,ce,cf,T,ap,C⟩
 have bk:Bel W w':=⟨C.os.trans hH.below.os,C.tape.trans hH.below.tape,C.output.trans hH.below.output,AI hH.below.size C.size,fun i hi hx=>by
  rw [C.block i (Ag hi hH.below.size) fun cg=>?_]
  .exact hH.below.block i hi hx
  .rcases bh i cg with h|h
   .omega
   .exact hx h⟩
 obtain ⟨aq,O,D,hB,hA⟩:=XN (l:=true) key (by simpa using T.ocs) (fun _=>rfl)
 obtain ⟨rvs,RF,bl,hRF,ch⟩:=hr
 obtain ⟨bm,O0,D0,hB0,bn⟩:=ZhF (l:=true) key bl (fun _=>rfl)
 rw [bx]at bn
 generalize (ZA key B).2.2=hi at *
 generalize (ZA key B).2.1=up at *
 generalize (ZA key B).1=I at *
 generalize (Zx key Q).1=rxs at *
 have hle:=hB.le
 have ar:∀j,(key<=j/\j<hi)->¬U j:=fun j hj=>a2 j hj.1 yE
 let g':Gh:=⟨fun j=>if key<=j/\j<hi then aq j else g1.val j,fun j=>if key<=j/\j<hi then O j else if j∈ks then [] else g1.O j,fun j=>if key<=j/\j<hi then D j else if j∈ks then [] else g1.D j,g1.Z⟩
 have gT:∀j,(key<=j/\j<hi)->g'.val j=aq j/\g'.O j=O j/\g'.D j=D j:=fun j hj=>⟨if_pos hj,if_pos hj,if_pos hj⟩
 have gK:∀j∈ks,g'.O j=[]/\g'.D j=[]:=fun j hj=>by
  have hn:¬(key<=j/\j<hi):=fun h=>ar j h (ab j hj)
  exact ⟨by simp only[g',if_neg hn,if_pos hj],by simp only[g',if_neg hn,if_pos hj]⟩
 have gV:∀j,¬(key<=j/\j<hi)->g'.val j=g1.val j:=fun j hj=>if_neg hj
 have gN:∀j,¬(key<=j/\j<hi)->j∉ks->g'.O j=g1.O j/\g'.D j=g1.D j:=fun j hj hk=>⟨by simp only[g',if_neg hj,if_neg hk],by simp only[g',if_neg hj,if_neg hk]⟩
 have hmemF:∀j,(key<=j/\j<hi)->∀x∈O j++D j,x∈F':=fun j hj x mx=>by
  rw [hB.foot]
  exact Ae.2 ⟨j,AP.2 ⟨hj.1,yE⟩,mx⟩
 have ac:=(Aa.1 T.own.nodup)
 have ad:=Zek (hB.foot ▸ ac.2)
 have ae:∀j,U j->g'.val j=g1.val j:=fun j hj=>gV j fun h=>ar j h hj
 have hkT:¬(key<=k/\k<hi):=fun h=>ar k h be
 have au:∀x∈F,g1.low x:=fun x mx=>by
  obtain ⟨j,_,mj⟩:=H x mx
  rcases AA.1 mj with m1|m1
  .exact .inl (.inl ⟨j,m1⟩)
  .exact .inr ⟨j,m1⟩
 have bo:∀j,(key<=j/\j<hi)->∀x∈O j,n x:=fun j hj x mx=>by
  obtain ⟨_,_,_,_,_,_,_,_,_,p6⟩:=hB.at_ j hj.1 hj.2
  exact p6 x mx
 have av:∀x,g'.own x->g1.own x\/w.heap.size<=x:=fun x hx=>by
  rcases hx with ⟨j,mj⟩|hz
  .by_cases hj:key<=j/\j<hi
   .rw [(gT j hj).2.1]at mj
    rcases cf x (bo j hj x mj) with h|h|h
    .exact .inl h.1
    .exact .inl h.1
    .exact .inr h
   .by_cases a:j∈ks
    .rw [(gK j a).1]at mj;simp at mj
    .rw [(gN j hj a).1]at mj;exact .inl (.inl ⟨j,mj⟩)
  .exact .inl (.inr hz)
 have af:X7 g1 g' w.heap.size:=.of av fun j x mj=>by
  by_cases hj:key<=j/\j<hi
  .rw [(gT j hj).2.2]at mj
   exact (ap x (hmemF j hj x (by simp [mj]))).imp (au x) id
  .by_cases a:j∈ks
   .rw [(gK j a).2]at mj;simp at mj
   .rw [(gN j hj a).2]at mj;exact .inl (.inr ⟨j,mj⟩)
 have ci:∀x,x<w.heap.size->¬g1.own x->w'.heap[x]?=w.heap[x]?:=fun x hx cj=>C.block x hx fun hq=>cj hq.1
 have aw:∀x c,svU U x->SVR g1 w x c->SVR g' w' x c:=fun x c hx hc=>hc.move hx ae ci af C.size
 have V:∀x,g'.own x->n x:=fun x hx=>by
  rcases hx with ⟨j,mj⟩|hz
  .by_cases hj:key<=j/\j<hi
   .rw [(gT j hj).2.1]at mj;exact bo j hj x mj
   .by_cases a:j∈ks
    .rw [(gK j a).1]at mj;simp at mj
    .rw [(gN j hj a).1]at mj
     by_cases e:j=k
     .subst e
      rw [h2]at mj
      simp only[AY]at mj
      rw [mj];exact ce
     .refine bj x ⟨.inl ⟨j,mj⟩,fun m=>?_⟩
      rcases AE.1 m with rfl|m
      .exact i1.apart k j (fun h=>e h.symm) x (by simp [h2]) (by simp [mj])
      .obtain ⟨i,ax,mi⟩:=H x m
       exact i1.apart i j (fun h=>a (h ▸ ax)) x mi (by simp [mj])
  .refine bj x ⟨.inr hz,fun m=>?_⟩
   rcases AE.1 m with rfl|m
   .exact i1.nz (k:=k) (by simp [h2]) hz
   .obtain ⟨i,_,mi⟩:=H x m
    exact i1.nz mi hz
 have bq:∀x c,CR aq w' n true key hi x c->AVR g' w' x c/\avU (Uk U key) x:=fun x c h=>by
  cases x with
  |row j=>
   obtain ⟨c1,c2,c3,c4⟩:=h
   exact ⟨⟨by rw [(gT j ⟨c1,c2⟩).1];exact c3,c4⟩,.inr ⟨c1,yE⟩⟩
  |c y=>
   obtain ⟨L,h1,h2⟩:=h
   exact ⟨⟨L,h1,fun x mx o=>(h2 x mx).2 (V x o)⟩,trivial⟩
  |n _=>exact h.elim
  |nil _ _=>exact h.elim
  |dead=>exact h.elim
 have br:∀x c,CR bm w' n true key key x c->AVR g' w' x c/\avU (Uk U key) x:=fun x c h=>by
  cases x with
  |row j=>obtain ⟨c1,c2,_⟩:=h;omega
  |c y=>
   obtain ⟨L,h1,h2⟩:=h
   exact ⟨⟨L,h1,fun x mx o=>(h2 x mx).2 (V x o)⟩,trivial⟩
  |n _=>exact h.elim
  |nil _ _=>exact h.elim
  |dead=>exact h.elim
 obtain ⟨ay,az⟩:=Zrw bn ch br
 have ag:ZD (AVR g' w') I bi/\XD (Uk U key) I:=⟨hA.mono fun x c _ h=>(bq x c h).1,fun x mx=>by
  obtain ⟨i,ax⟩:=Aq.1 mx
  obtain ⟨c,_,hc'⟩:=hA.at ax
  exact (bq x c hc').2⟩
 let ob2:Nat->Ob:=upd (Zh st1.ob (Yc ks)) k (.box t I)
 have a0:Zh st.ob (ZI st (ZF r)++(Yc ks++((k,.box t I)::up)))=Zh ob2 up:=by rw [Yd,Yd];rfl
 have bs:∀j,ob2 j=if j=k then .box t I else if j∈ks then .gone else st1.ob j:=fun j=>by
  show upd (Zh st1.ob (Yc ks)) k (.box t I) j=_
  unfold upd
  split
  .rfl
  .exact ZeN ks st1.ob j
 have E:∀j,¬(key<=j/\j<hi)->Zh ob2 up j=if j=k then .box t I else if j∈ks then .gone else st1.ob j:=fun j hj=>by rw [hB.out j hj];exact bs j
 have bt:∀j,(key<=j/\j<hi)->b'∉O j++D j:=fun j hj m=>ac.1 (hmemF j hj b' m)
 have ck:HI W g' (Zh ob2 up) w':=by
  refine i1.step (U:=U) (fun j=>(key<=j/\j<hi)\/j∈ks\/j=k) bk rfl (fun x hx hq=>C.block x hx fun bu=>?_) (fun j hj=>?_) R ae af (fun j hj=>?_)
  .rcases bf x bu with rfl|⟨j,hj,mj⟩
   .exact hq k (.inr (.inr rfl)) (by simp [h2])
   .exact hq j (.inr (.inl hj)) mj
  .have j1:¬(key<=j/\j<hi):=fun h=>hj (.inl h)
   have j2:j∉ks:=fun h=>hj (.inr (.inl h))
   have j3:¬j=k:=fun h=>hj (.inr (.inr h))
   exact ⟨by rw [E j j1,if_neg j3,if_neg j2],gV j j1,(gN j j1 j2).1,(gN j j1 j2).2⟩
  .by_cases hT:key<=j/\j<hi
   .obtain ⟨e1,e2,e3⟩:=gT j hT
    obtain ⟨e,m,ys,bv,p1,p2,p3,p4,p5,_⟩:=hB.at_ j hT.1 hT.2
    rw [p1,e2,e3]
    refine ⟨⟨p2,bv,D j,?_,p4,.inl ⟨rfl,by rw [e1,e2];exact p5,e3⟩⟩,ad.1 j hT.1 yE,fun x mx=>?_,fun i a1 x mx mi=>?_⟩
    .rw [e1];exact Zix p3 (AN _)
    .refine ⟨?_,T.own.plain x (by simp [hmemF j hT x mx])⟩
     rcases ap x (hmemF j hT x mx) with h|h
     .exact (d x (by simp [h])).1
     .exact .inl (AI hH.below.size h)
    .by_cases p:key<=i/\i<hi
     .rw [(gT i p).2.1,(gT i p).2.2]at mi
      exact ad.2 j i hT.1 yE p.1 yE a1 x mx mi
     .by_cases A:i∈ks
      .rw [(gK i A).1,(gK i A).2]at mi;simp at mi
      .rw [(gN i p A).1,(gN i p A).2]at mi
       rcases ap x (hmemF j hT x mx) with h|h
       .obtain ⟨i',cl,cm⟩:=H x h
        exact i1.apart i' i (by rintro rfl;exact A cl) x cm mi
       .have:=i1.lt i x mi;omega
   .by_cases a:j∈ks
    .obtain ⟨e2,e3⟩:=gK j a
     rw [E j hT,if_neg (fun h:j=k=>aa (h ▸ a)),if_pos a,e2,e3]
     exact ⟨⟨e2,e3⟩,yG,yG,yG⟩
    .obtain rfl:j=k:=by
      rcases hj with h|h|h
      .exact absurd h hT
      .exact absurd h a
      .exact h
     obtain ⟨e2,e3⟩:=gN j hT a
     rw [E j hT,if_pos rfl,e2,e3,h2,h3]
     refine ⟨⟨b',bi,by rw [gV j hT];exact h1,by rw [e2,h2],by rw [e3,h3],T.cell,ag.1⟩,yG,fun x mx=>?_,fun i a1 x mx mi=>?_⟩
     .simp at mx;subst mx
      exact ⟨(d x yG).1,_,_,T.cell⟩
     .simp at mx;subst mx
      by_cases p:key<=i/\i<hi
      .rw [(gT i p).2.1,(gT i p).2.2]at mi;exact bt i p mi
      .by_cases A:i∈ks
       .rw [(gK i A).1,(gK i A).2]at mi;simp at mi
       .rw [(gN i p A).1,(gN i p A).2]at mi
        exact i1.apart j i a1 x (by simp [h2]) mi
 refine ⟨cv,rfl,g',?_,ay,fun x c hx hc=>aw x c hx (hc.less i2 i3),az,fun j=>?_,fun j hj=>?_⟩
 .rw [a0];exact ck
 .rw [a0]
  by_cases hT:key<=j/\j<hi
  .obtain ⟨e,m,ys,bv,p1,_⟩:=hB.at_ j hT.1 hT.2
   rw [p1];trivial
  .rw [E j hT]
   split
   .exact ag.2
   .split
    .trivial
    .exact (R j).mono fun _=>.inl
 .have hT:¬(key<=j/\j<hi):=fun h=>hj (.inr ⟨h.1,yE⟩)
  have a:j∉ks:=fun h=>hj (.inl (ab j h))
  have bw:¬j=k:=fun h=>hj (.inl (h ▸ be))
  rw [a0,E j hT,if_neg bw,if_neg a]
  exact M j fun h=>hj (.inl h)
theorem ZpK [NW] (htt:MOk P J JF W tt) {f:FuncId}{vs:List SV}{R:List Value}{v:SV}{u:List (Nat×Ob)}(h:QU (SC P J JF hd) f 7 key st vs v u) (hH:HI W g st.ob w) (hU:StU U st) (ag:∀k,key<=k->k<key+16->¬U k) (ah:ZD (SVR g w) vs R) (_hvU:∀x∈vs,svU U x):
  Q1 P f/\Calls P f R.toArray w fun e w'=>∃cv,e=.returned cv/\Ztt W U key st g w v u cv w':=by
 classical
 obtain ⟨v0,r,gv,ks,l,S,rfl,hg,hl,hs,a0,a1,hn,rfl,rfl⟩:=h
 obtain ⟨hc,hC⟩:=hs
 refine ⟨hc,?_⟩
 cases R with
 |nil=>exact ah.elim
 |cons c0 cr=>
 obtain ⟨a2,a3⟩:=ah
 obtain ⟨ds,hx,us,a4,a5⟩:=Zr3 hg (show ZD (SVR g w) [v0] [c0] from ⟨a2,trivial⟩)
 obtain ⟨g1,i1,i2,i3,i4⟩:=Zhw st (ZF r) hH (fun k=>.inl rfl)
 let st1:St:=⟨st.sl,Zh st.ob (ZI st (ZF r)),st.n⟩
 have p:∀k,st1.ob k=(if k∈ZF r then Z6 (st.ob k) else st.ob k):=i4
 have ai:∀k,st1.ob k=st.ob k\/st1.ob k=Z6 (st.ob k):=fun k=>by
  rw [p k];split
  .exact .inr rfl
  .exact .inl rfl
 have a6:ZU st1 r=some l:=by rw [Zcu ai];exact hl
 have aj:=ZlQ (st1:=st1) p hl
 have C:∀j,obU U (st1.ob j):=Zqe hU.ob p
 have t:∀j,¬U j->st1.ob j=.gone:=fun j hj=>by
  have e:=hU.gone j hj
  rcases ai j with h|h<;>rw [h,e]<;>rfl
 have ak:ZD (SVR g1 w) r cr:=a3.mono fun x c _ hx=>hx.less i2 i3
 have a7:∀j∈ks,j∉ZF r:=fun j hj hm=>by
  have:=AO.1 a1 j hm
  simp [Zgm,hj]at this
 have a8:YC st1 ds=some (gv.2,ks):=Zgn hx fun j hj=>by rw [p j,if_neg (a7 j hj)]
 have al:ZD (AVR g1 w) ds us:=a4.mono fun x c _ hx=>AVR.less hx i2 i3
 obtain ⟨am,E⟩:=Zhq (st:=st1) i1 a8 al
 have K:∀j∈ks,U j:=fun j hj=>Classical.byContradiction fun hn=>by
  obtain ⟨e,m',xs,hr⟩:=E j hj
  rw [t j hn]at hr;simp at hr
 let F:=g1.F ks
 let q:Nat->Prop:=fun x=>g1.own x/\x∈F
 let z:Nat->Prop:=fun x=>g1.own x/\x∉F
 have G:(fun x=>z x\/q x)=g1.own:=funext fun x=>propext ⟨fun h=>h.elim And.left And.left,fun h=>by
  by_cases hm:x∈F
  .exact .inr ⟨h,hm⟩
  .exact .inl ⟨h,hm⟩⟩
 have B:∀x∈F,∃j∈ks,x∈g1.O j++g1.D j:=fun x mx=>Zfj mx
 have b:∀x∈F,(W.heap.size<=x\/W.x x\/W.y x)/\∃a9 e,w.heap[x]?=some (.cells a9 e (0,0)):=fun x mx=>by
  obtain ⟨j,hj,mj⟩:=B x mx
  obtain ⟨e,m',xs,hr⟩:=E j hj
  have:=i1.plain j x mj
  rw [show Zh st.ob (ZI st (ZF r)) j=.row e m' xs 2 from hr]at this
  exact this
 have T:ZD (ZhI w fun x=>z x\/q x) l cr:=by rw [G];exact Zbw (st:=st1) i1 a6 ak (.inr ⟨aj,fun _ h=>h⟩)
 have an:∀x,q x->∃j∈ks,x∈g1.O j:=fun x hx=>by
  obtain ⟨j,hj,mj⟩:=B x hx.2
  rcases AA.1 mj with m1|m1
  .exact ⟨j,hj,m1⟩
  .rcases hx.1 with ⟨j',ao⟩|hz
   .by_cases e:j=j'
    .subst e
     exact absurd rfl ((AK.1 (i1.nodup j)).2.2 x ao x m1)
    .exact absurd (by simp [ao]:x∈g1.O j'++g1.D j') (i1.apart j j' e x mj)
   .exact absurd hz (i1.nz mj)
 have ap:∀x,q x->W.heap.size<=x\/W.x x:=fun x hx=>by
  obtain ⟨j,_,mj⟩:=an x hx
  exact i1.oy j x mj
 refine (hC w z q [c0] cr us F (htt.at hH.below) (fun x hx=>⟨(ap x hx).elim (htt.jf x) (htt.xf x),hx.2⟩) (fun x hx=>⟨i1.ownlt hx.1,fun h=>hx.2 h.2,hx.2⟩) a5 (by rw [G];exact am) ⟨i1.nodupF a0,fun _ _=>AN _,fun x mx=>(b x mx).2⟩ T).mono ?_
 rintro e w' ⟨cv,n,rvs,F',rfl,aq,ar,ba,au,bb,V,d⟩
 have av:Bel W w':=⟨d.os.trans hH.below.os,d.tape.trans hH.below.tape,d.output.trans hH.below.output,AI hH.below.size d.size,fun i hi hx=>by
  rw [d.block i (Ag hi hH.below.size) fun bc=>?_]
  .exact hH.below.block i hi hx
  .rcases ap i bc with h|h
   .omega
   .exact hx h⟩
 obtain ⟨X,O,D,hB,hA⟩:=ZhF (l:=true) key aq (fun _=>rfl)
 generalize (Zx key S).2.2=hi at *
 generalize (Zx key S).2.1=up at *
 generalize (Zx key S).1=rxs at *
 have hle:=hB.le
 have aw:∀j,(key<=j/\j<hi)->¬U j:=fun j hj=>ag j hj.1 yE
 let g':Gh:=⟨fun j=>if key<=j/\j<hi then X j else g1.val j,fun j=>if key<=j/\j<hi then O j else if j∈ks then [] else g1.O j,fun j=>if key<=j/\j<hi then D j else if j∈ks then [] else g1.D j,g1.Z⟩
 have gT:∀j,(key<=j/\j<hi)->g'.val j=X j/\g'.O j=O j/\g'.D j=D j:=fun j hj=>⟨if_pos hj,if_pos hj,if_pos hj⟩
 have gK:∀j∈ks,g'.O j=[]/\g'.D j=[]:=fun j hj=>by
  have hn:¬(key<=j/\j<hi):=fun h=>aw j h (K j hj)
  exact ⟨by simp only[g',if_neg hn,if_pos hj],by simp only[g',if_neg hn,if_pos hj]⟩
 have gV:∀j,¬(key<=j/\j<hi)->g'.val j=g1.val j:=fun j hj=>if_neg hj
 have gN:∀j,¬(key<=j/\j<hi)->j∉ks->g'.O j=g1.O j/\g'.D j=g1.D j:=fun j hj hk=>⟨by simp only[g',if_neg hj,if_neg hk],by simp only[g',if_neg hj,if_neg hk]⟩
 have hmemF:∀j,(key<=j/\j<hi)->∀x∈O j++D j,x∈F':=fun j hj x mx=>by
  rw [hB.foot]
  exact Ae.2 ⟨j,AP.2 ⟨hj.1,yE⟩,mx⟩
 have M:=Zek (hB.foot ▸ ar.nodup)
 have N:∀j,U j->g'.val j=g1.val j:=fun j hj=>gV j fun h=>aw j h hj
 have Y:∀x∈F,g1.low x:=fun x mx=>by
  obtain ⟨j,_,mj⟩:=B x mx
  rcases AA.1 mj with m1|m1
  .exact .inl (.inl ⟨j,m1⟩)
  .exact .inr ⟨j,m1⟩
 have ax:∀j,(key<=j/\j<hi)->∀x∈O j,n x:=fun j hj x mx=>by
  obtain ⟨_,_,_,_,_,_,_,_,_,p6⟩:=hB.at_ j hj.1 hj.2
  exact p6 x mx
 have aa:∀x,g'.own x->g1.own x\/w.heap.size<=x:=fun x hx=>by
  rcases hx with ⟨j,mj⟩|hz
  .by_cases hj:key<=j/\j<hi
   .rw [(gT j hj).2.1]at mj
    rcases bb x (ax j hj x mj) with h|h|h
    .exact .inl h.1
    .exact .inl h.1
    .exact .inr h
   .by_cases a:j∈ks
    .rw [(gK j a).1]at mj;simp at mj
    .rw [(gN j hj a).1]at mj;exact .inl (.inl ⟨j,mj⟩)
  .exact .inl (.inr hz)
 have Q:X7 g1 g' w.heap.size:=.of aa fun j x mj=>by
  by_cases hj:key<=j/\j<hi
  .rw [(gT j hj).2.2]at mj
   exact (V x (hmemF j hj x (by simp [mj]))).imp (Y x) id
  .by_cases a:j∈ks
   .rw [(gK j a).2]at mj;simp at mj
   .rw [(gN j hj a).2]at mj;exact .inl (.inr ⟨j,mj⟩)
 have bd:∀x,x<w.heap.size->¬g1.own x->w'.heap[x]?=w.heap[x]?:=fun x hx be=>d.block x hx fun hq=>be hq.1
 have ab:∀x c,svU U x->SVR g1 w x c->SVR g' w' x c:=fun x c hx hc=>hc.move hx N bd Q d.size
 have ac:∀x,g'.own x->n x:=fun x hx=>by
  rcases hx with ⟨j,mj⟩|hz
  .by_cases hj:key<=j/\j<hi
   .rw [(gT j hj).2.1]at mj;exact ax j hj x mj
   .by_cases a:j∈ks
    .rw [(gK j a).1]at mj;simp at mj
    .rw [(gN j hj a).1]at mj
     refine au x ⟨.inl ⟨j,mj⟩,fun m=>?_⟩
     obtain ⟨i,bf,mi⟩:=B x m
     exact i1.apart i j (fun h=>a (h ▸ bf)) x mi (by simp [mj])
  .refine au x ⟨.inr hz,fun m=>?_⟩
   obtain ⟨i,_,mi⟩:=B x m
   exact i1.nz mi hz
 have bg:∀x c,CR X w' n true key hi x c->AVR g' w' x c/\avU (Uk U key) x:=fun x c h=>by
  cases x with
  |row j=>
   obtain ⟨c1,c2,c3,c4⟩:=h
   exact ⟨⟨by rw [(gT j ⟨c1,c2⟩).1];exact c3,c4⟩,.inr ⟨c1,yE⟩⟩
  |c y=>
   obtain ⟨L,h1,h2⟩:=h
   exact ⟨⟨L,h1,fun x mx o=>(h2 x mx).2 (ac x o)⟩,trivial⟩
  |n _=>exact h.elim
  |nil _ _=>exact h.elim
  |dead=>exact h.elim
 obtain ⟨ad,ae⟩:=Zrw hA ba bg
 have af:Zh st.ob (ZI st (ZF r)++(Yc ks++up))=Zh (Zh st1.ob (Yc ks)) up:=by rw [Yd,Yd]
 have A:∀j,¬(key<=j/\j<hi)->Zh (Zh st1.ob (Yc ks)) up j=if j∈ks then .gone else st1.ob j:=fun j hj=>by rw [hB.out j hj];exact ZeN ks st1.ob j
 have bh:HI W g' (Zh (Zh st1.ob (Yc ks)) up) w':=by
  refine i1.step (U:=U) (fun j=>(key<=j/\j<hi)\/j∈ks) av rfl (fun x hx hq=>d.block x hx fun ay=>?_) (fun j hj=>?_) C N Q (fun j hj=>?_)
  .obtain ⟨j,hj,mj⟩:=an x ay
   exact hq j (.inr hj) mj
  .have j1:¬(key<=j/\j<hi):=fun h=>hj (.inl h)
   have j2:j∉ks:=fun h=>hj (.inr h)
   exact ⟨by rw [A j j1,if_neg j2],gV j j1,(gN j j1 j2).1,(gN j j1 j2).2⟩
  .by_cases hT:key<=j/\j<hi
   .obtain ⟨e1,e2,e3⟩:=gT j hT
    obtain ⟨e,m,ys,az,p1,p2,p3,p4,p5,_⟩:=hB.at_ j hT.1 hT.2
    rw [p1,e2,e3]
    refine ⟨⟨p2,az,D j,?_,p4,.inl ⟨rfl,by rw [e1,e2];exact p5,e3⟩⟩,M.1 j hT.1 yE,fun x mx=>?_,fun i bi x mx mi=>?_⟩
    .rw [e1];exact Zix p3 (AN _)
    .refine ⟨?_,ar.plain x (hmemF j hT x mx)⟩
     rcases V x (hmemF j hT x mx) with h|h
     .exact (b x h).1
     .exact .inl (AI hH.below.size h)
    .by_cases H:key<=i/\i<hi
     .rw [(gT i H).2.1,(gT i H).2.2]at mi
      exact M.2 j i hT.1 yE H.1 yE bi x mx mi
     .by_cases I:i∈ks
      .rw [(gK i I).1,(gK i I).2]at mi;simp at mi
      .rw [(gN i H I).1,(gN i H I).2]at mi
       rcases V x (hmemF j hT x mx) with h|h
       .obtain ⟨i',bj,bk⟩:=B x h
        exact i1.apart i' i (by rintro rfl;exact I bj) x bk mi
       .have:=i1.lt i x mi;omega
   .have a:j∈ks:=hj.resolve_left hT
    obtain ⟨e2,e3⟩:=gK j a
    rw [A j hT,if_pos a,e2,e3]
    exact ⟨⟨e2,e3⟩,yG,yG,yG⟩
 refine ⟨cv,rfl,g',?_,ad,fun x c hx hc=>ab x c hx (hc.less i2 i3),ae,fun j=>?_,fun j hj=>?_⟩
 .rw [af];exact bh
 .rw [af]
  by_cases hT:key<=j/\j<hi
  .obtain ⟨e,m,ys,az,p1,_⟩:=hB.at_ j hT.1 hT.2
   rw [p1];trivial
  .rw [A j hT]
   split
   .trivial
   .exact (C j).mono fun _=>.inl
 .have hT:¬(key<=j/\j<hi):=fun h=>hj (.inr ⟨h.1,yE⟩)
  have a:j∉ks:=fun h=>hj (.inl (K j h))
  rw [af,A j hT,if_neg a]
  exact t j fun h=>hj (.inl h)
theorem Zgj [NW] (htt:MOk P J JF W tt) {f:FuncId}{n:Nat}{vs:List SV}{I:List Value}{v:SV}{u:List (Nat×Ob)}(h:QU (SC P J JF hd) f n key st vs v u) (hH:HI W g st.ob w) (hU:StU U st) (B:∀k,key<=k->k<key+16->¬U k) (E:ZD (SVR g w) vs I) (R:∀x∈vs,svU U x):
  Q1 P f/\Calls P f I.toArray w fun e w'=>∃cv,e=.returned cv/\Ztt W U key st g w v u cv w':=by
 unfold QU at h
 split at h
 .exact ZjH htt (f:=f) (vs:=vs) h hH hU B E R
 .obtain ⟨v0,r,k,hh,l,N,h',rfl,hk,hl,hs,a0,hn,rfl,rfl⟩:=h
  obtain ⟨hc,hC⟩:=hs
  refine ⟨hc,?_⟩
  cases I with
  |nil=>exact E.elim
  |cons c0 cr=>
  obtain ⟨a1,a2⟩:=E
  obtain ⟨g1,i1,i2,i3,i4⟩:=Zhw st (ZF r) hH (fun k=>.inl rfl)
  let st1:St:=⟨st.sl,Zh st.ob (ZI st (ZF r)),st.n⟩
  have a:∀k,st1.ob k=(if k∈ZF r then Z6 (st.ob k) else st.ob k):=i4
  have F:∀k,st1.ob k=st.ob k\/st1.ob k=Z6 (st.ob k):=fun k=>by
   rw [a k];split
   .exact .inr rfl
   .exact .inl rfl
  have S:ZU st1 r=some l:=by rw [Zcu F];exact hl
  have G:=ZlQ (st1:=st1) a hl
  have a3:k∉ZF r:=fun hm=>by
   have:=AO.1 a0 k hm
   simp at this
  have ap:st1.ob k=st.ob k:=by rw [a k,if_neg a3]
  have a4:st.ob k≠.gone->U k:=fun hg=>Classical.byContradiction fun hn=>hg (hU.gone k hn)
  have A:∀j,obU U (st1.ob j):=Zqe hU.ob a
  have z:∀j,¬U j->st1.ob j=.gone:=fun j hj=>by
   have e:=hU.gone j hj
   rcases F j with h|h<;>rw [h,e]<;>rfl
  have ag:SVR g1 w v0 c0:=a1.less i2 i3
  have aq:ZD (SVR g1 w) r cr:=a2.mono fun x c _ hx=>hx.less i2 i3
  have aj:∃q:Option Nat,ZtU w (inQ (fun b=>g1.own b/\¬q=some b) q) q hh c0/\g1.O k=q.toList/\g1.D k=[]/\c0=g1.val k/\st.ob k≠.gone:=by
   unfold Zf8 at hk
   split at hk
   .rename_i k'
    split at hk
    .rename_i t cs K
     split at hk
     .rename_i a5
      obtain ⟨l',a6,e⟩:=AB.1 hk
      simp only[AD]at e
      obtain ⟨rfl,rfl⟩:=e
      have ho:=i1.obs k'
      rw [show Zh st.ob (ZI st (ZF r)) k'=.box t cs from ap.trans K]at ho
      obtain ⟨b,vs,h1,h2,h3,h4,h5⟩:=ho
      obtain ⟨b',h6,h7⟩:=ag
      have hb:b'=b:=by rw [h6]at h1;simpa using h1
      subst hb
      have ar:YI st1 cs=some l':=by
       have:=ZoO F (.p true cs)
       simp only[Zdr,a6]at this
       obtain ⟨x,hx,Q⟩:=AB.1 this
       simp only[AD,true_and]at Q
       rw [hx,Q]
      obtain ⟨L,hL,a7⟩:=Zj0 (st:=st1) i1 ar h5
      refine ⟨some b',⟨b',vs,L,rfl,h7,h4,hL,fun x mx hx=>?_⟩,by simp [h2],h3,by rw [h7,h6],by rw [K];simp⟩
      refine a7 (fun y my=>?_) x mx ?_
      .have:=AO.1 a5 y my
       cases y<;>simp [ZcD]at this<;>trivial
      .rcases hx with hx|hx
       .exact hx.1
       .simp only[A0]at hx
        subst hx
        exact .inl ⟨k',by simp [h2]⟩
     .simp at hk
    .simp at hk
   .rename_i k'
    split at hk
    .rename_i e m xs d K
     split at hk
     .rename_i au
      simp only[A0,AD]at hk
      obtain ⟨rfl,rfl⟩:=hk
      have ho:=i1.obs k'
      rw [show Zh st.ob (ZI st (ZF r)) k'=.row e m xs d from ap.trans K]at ho
      obtain ⟨hm,cs,L,h1,h2,h3⟩:=ho
      obtain rfl:=ZjB h2 au.2
      obtain ⟨x,av,Q⟩:=ag
      simp only[Ac,and_true]at av
      subst av
      rcases h3 with ⟨_,h3,h4⟩|⟨h3,_⟩|⟨h3,_⟩
      .exact ⟨(g1.val k').ownBlock,⟨au.2,hm,by rw [Q.1],cs,by rw [Q.1];exact h1,h2⟩,h3,h4,Q.1,by rw [K];simp⟩
      .omega
      .omega
     .simp at hk
    .simp at hk
   .simp at hk
  obtain ⟨q,a8,H,Y,ak,a9⟩:=aj
  have al:=a4 a9
  have ba:∀b,q=some b->g1.own b:=fun b hb=>.inl ⟨k,by simp [H,hb]⟩
  have aw:∀b,g1.own b->inQ (fun b=>g1.own b/\¬q=some b) q b:=fun b hb=>by
   by_cases aa:q=some b
   .exact .inr aa
   .exact .inl ⟨hb,aa⟩
  have am:ZD (ZhI w (inQ (fun b=>g1.own b/\¬q=some b) q)) l cr:=Zbw (st:=st1) i1 S aq (.inr ⟨G,fun b hb=>by
   rcases hb with hb|hb
   .exact hb.1
   .exact ba b hb⟩)
  have bb:∀b,q=some b->JF b:=fun b hb=>by
   rcases i1.oy k b (by simp [H,hb]) with h|h
   .exact htt.jf b h
   .exact htt.xf b h
  refine (hC w _ q c0 cr (htt.at hH.below) bb (fun b hb=>⟨i1.ownlt hb.1,hb.2⟩) a8 am).mono ?_
  rintro e w' ⟨cv,n,rfl,hr,hz,ab,M⟩
  have C:Bel W w':=⟨M.os.trans hH.below.os,M.tape.trans hH.below.tape,M.output.trans hH.below.output,AI hH.below.size M.size,fun i hi hx=>by
   rw [M.block i (Ag hi hH.below.size) fun bc=>?_]
   .exact hH.below.block i hi hx
   .rcases i1.oy k i (by simp [H,bc]) with h|h
    .omega
    .exact hx h⟩
  obtain ⟨g',t1,t2,t3,t4,t5,t6⟩:=ZhB i1 A z B hr hn (fun j=>j=k) (fun j hj=>by rw [hj];exact al) (fun _=>ZdN h') (fun _ b hb=>hz b (aw b hb)) C M.size
   (fun b hb bd=>M.block b hb fun aa=>bd k rfl (by simp [H,aa]))
   (fun j _=>by
    cases h' with
    |row e m xs=>trivial
    |box t cs=>intro y my;simp only[AJ]at my;obtain ⟨x,_,rfl⟩:=my;trivial)
   (fun g' ho be j hj=>by
    subst hj
    obtain ⟨e1,e2,e3⟩:=be j rfl
    have an:∀b,¬n b->¬g'.own b:=fun b ac K=>by
     rcases ho b K with h|h
     .exact ac (hz b (aw b h))
     .exact ac h.2.2
    cases h' with
    |row e m xs=>
     obtain ⟨p1,p2,p3,cs,p4,p5⟩:=ab
     refine ⟨⟨p2,cs,[],by rw [e1,<-ak];exact p4,p5,.inl ⟨rfl,by rw [e2,H,e1,<-ak,p3],by rw [e3,Y]⟩⟩,fun b mb=>?_⟩
     rw [H,Y]at mb
     simp at mb
     rcases p4.2 with ⟨h0,_⟩|⟨gg,o,cap,cur,hv,_,bf,_⟩
     .rw [h0]at p3;simp [Value.ownBlock]at p3;rw [<-p3]at mb;simp at mb
     .rw [hv]at p3;simp only[Value.ownBlock]at p3;rw [mb]at p3;simp at p3;subst p3;exact ⟨_,_,bf⟩
    |box t cs=>
     obtain ⟨b,vs,L,p1,p2,p3,p4,p5⟩:=ab
     refine ⟨⟨b,vs,by rw [e1,<-ak];exact p2,by rw [e2,H,p1];rfl,by rw [e3,Y],p3,p4.avr fun x mx=>an x (p5 x mx)⟩,fun x mx=>?_⟩
     rw [H,Y,p1]at mx
     simp at mx
     subst mx
     exact ⟨_,_,p3⟩)
  have T:Zh st.ob (ZI st (ZF r)++((k,ZdN h')::(Zx key N).2.1))=Zh (upd (Zh st.ob (ZI st (ZF r))) k (ZdN h')) (Zx key N).2.1:=by rw [Yd];rfl
  have ao:=ZCQ (k:=k) (inst:=fun j=>Classical.propDecidable (j=k)) (Zh st.ob (ZI st (ZF r))) (ZdN h')
  have ax:HI W g' (Zh (upd (Zh st.ob (ZI st (ZF r))) k (ZdN h')) (Zx key N).2.1) w':=ao ▸ t1
  have ay:∀j,obU (Uk U key) (Zh (upd (Zh st.ob (ZI st (ZF r))) k (ZdN h')) (Zx key N).2.1 j):=ao ▸ t5
  have az:∀j,¬Uk U key j->Zh (upd (Zh st.ob (ZI st (ZF r))) k (ZdN h')) (Zx key N).2.1 j=.gone:=ao ▸ t6
  rw [<-T]at ax ay az
  exact ⟨cv,rfl,g',ax,t2,fun x c hx hc=>t3 x c hx (hc.less i2 i3),t4,ay,az⟩
 .obtain ⟨l,nb,hl,hs,rfl,rfl⟩:=h
  obtain ⟨hc,hC⟩:=hs
  refine ⟨hc,?_⟩
  obtain ⟨g1,i1,i2,i3,i4⟩:=Zhw st (ZF vs) hH (fun k=>.inl rfl)
  let st1:St:=⟨st.sl,Zh st.ob (ZI st (ZF vs)),st.n⟩
  have a:∀k,st1.ob k=(if k∈ZF vs then Z6 (st.ob k) else st.ob k):=i4
  have F:∀k,st1.ob k=st.ob k\/st1.ob k=Z6 (st.ob k):=fun k=>by
   rw [a k];split
   .exact .inr rfl
   .exact .inl rfl
  have S:ZU st1 vs=some l:=by rw [Zcu F];exact hl
  have G:=ZlQ (st1:=st1) a hl
  have A:∀j,obU U (st1.ob j):=Zqe hU.ob a
  have z:∀j,¬U j->st1.ob j=.gone:=fun j hj=>by
   have e:=hU.gone j hj
   rcases F j with h|h<;>rw [h,e]<;>rfl
  have V:ZD (SVR g1 w) vs I:=E.mono fun x c _ hx=>hx.less i2 i3
  refine (hC w g1.own I (htt.at hH.below) (fun b hb=>i1.ownlt hb) (Zbw (st:=st1) i1 S V (.inr ⟨G,fun _ h=>h⟩))).mono ?_
  rintro e w' ⟨b,n,rfl,hb,ad,ac,hz,C⟩
  have al:¬U key:=B key (AF _) yE
  let g':Gh:=⟨fun k=>if k=key then Zwg b nb else g1.val k,fun k=>if k=key then [b] else g1.O k,fun k=>if k=key then [] else g1.D k,g1.Z⟩
  have ah:∀k,U k->g'.val k=g1.val k:=fun k hk=>if_neg fun (e:k=key)=>al (e ▸ hk)
  have X:∀x,g'.own x->g1.own x\/x=b:=fun x hx=>by
   rcases hx with ⟨k,mk⟩|hx
   .simp only[g']at mk
    split at mk
    .exact .inr (by simpa using mk)
    .exact .inl (.inl ⟨k,mk⟩)
   .exact .inl (.inr hx)
  have ai:X7 g1 g' w.heap.size:=.of (fun x hx=>(X x hx).imp id fun (e:x=b)=>by rw [e];exact hb) fun j x mx=>by
   simp only[g']at mx
   split at mx
   .simp at mx
   .exact .inl (.inr ⟨j,mx⟩)
  have an:∀x,¬n x->¬g'.own x:=fun x mx hx=>mx (by
   rcases X x hx with h|h
   .exact hz x h
   .rw [h];exact ac)
  have T:Zh st.ob (ZI st (ZF vs)++[(key,ZvX nb)])=upd (Zh st.ob (ZI st (ZF vs))) key (ZvX nb):=by rw [Yd];rfl
  have ae:g'.val key=Zwg b nb:=if_pos rfl
  have af:YZ w' (ZvX nb) b:=by
   cases nb with
   |box t cs=>obtain ⟨us,L,p1,_⟩:=ad;exact ⟨_,_,p1⟩
   |map kk vk kv=>obtain ⟨es,c,p1,_⟩:=ad;exact ⟨_,_,p1⟩
  refine ⟨_,rfl,g',?_,?_,fun x c hx hc=>(hc.less i2 i3).move hx ah (fun b hb _=>C.block b hb) ai C.size,?_,fun k=>?_,fun k hk=>?_⟩
  .rw [T]
   refine i1.step (U:=U) (fun k=>k=key) (hH.below.trans C) rfl (fun b hb _=>C.block b hb) (fun k hk=>⟨ZP _ _ hk,if_neg hk,if_neg hk,if_neg hk⟩) A ah ai (fun k hk=>?_)
   subst hk
   have e1:g'.O k=[b]:=if_pos rfl
   have e2:g'.D k=[]:=if_pos rfl
   rw [ZB,e1,e2]
   refine ⟨?_,yG,fun x mx=>?_,fun j hj x mx mj=>?_⟩
   .cases nb with
    |box t cs=>obtain ⟨us,L,p1,p2,p3⟩:=ad;exact ⟨b,us,ae,e1,e2,p1,p2.avr fun x mx=>an x (p3 x mx)⟩
    |map kk vk kv=>obtain ⟨es,c,p1,p2⟩:=ad;exact ⟨b,es,c,ae,e1,e2,p1,p2⟩
   .simp at mx;subst mx;exact ⟨.inl (AI hH.below.size hb),af⟩
   .simp at mx;subst mx
    have e3:g'.O j=g1.O j:=if_neg fun e=>hj e.symm
    have e4:g'.D j=g1.D j:=if_neg fun e=>hj e.symm
    rw [e3,e4]at mj
    have:=i1.lt j x mj
    omega
  .cases nb with
   |box t cs=>exact ⟨b,ae,rfl⟩
   |map kk vk kv=>exact ⟨.row key,rfl,ae.symm,rfl⟩
  .cases nb with
   |box t cs=>exact .inr ⟨AF _,yE⟩
   |map kk vk kv=>intro y my;simp at my;subst my;exact .inr ⟨AF _,yE⟩
  .rw [T]
   by_cases hk:k=key
   .subst hk;rw [ZB]
    cases nb with
    |box t cs=>intro y my;simp only[AJ]at my;obtain ⟨x,_,rfl⟩:=my;trivial
    |map kk vk kv=>trivial
   .rw [ZP _ _ hk];exact (A k).mono fun _=>.inl
  .have bg:¬k=key:=fun e=>hk (.inr ⟨yE,yE⟩)
   rw [T,ZP _ _ bg]
   exact z k fun h=>hk (.inl h)
 .exact ZjH htt (f:=f) (vs:=vs.map nlS) h hH hU B (Ztx E) (fun x hx=>by
   obtain ⟨y,my,rfl⟩:=AJ.1 hx
   exact Zw8 (R y my))
 .exact ZiK htt (f:=f) 0 (vs:=vs) h hH hU B E R
 .exact ZiK htt (f:=f) 1 (vs:=vs) h hH hU B E R
 .exact ZpK htt (f:=f) (vs:=vs) h hH hU B E R
 .obtain ⟨l,N,hl,hs,hn,rfl,rfl⟩:=h
  obtain ⟨hc,hC⟩:=hs
  refine ⟨hc,?_⟩
  obtain ⟨g1,i1,i2,i3,i4⟩:=Zhw st (ZF vs) hH (fun k=>.inl rfl)
  let st1:St:=⟨st.sl,Zh st.ob (ZI st (ZF vs)),st.n⟩
  have a:∀k,st1.ob k=(if k∈ZF vs then Z6 (st.ob k) else st.ob k):=i4
  have F:∀k,st1.ob k=st.ob k\/st1.ob k=Z6 (st.ob k):=fun k=>by
   rw [a k];split
   .exact .inr rfl
   .exact .inl rfl
  have S:ZU st1 vs=some l:=by rw [Zcu F];exact hl
  have G:=ZlQ (st1:=st1) a hl
  have A:∀j,obU U (st1.ob j):=Zqe hU.ob a
  have z:∀j,¬U j->st1.ob j=.gone:=fun j hj=>by
   have e:=hU.gone j hj
   rcases F j with h|h<;>rw [h,e]<;>rfl
  have V:ZD (SVR g1 w) vs I:=E.mono fun x c _ hx=>hx.less i2 i3
  refine (hC w g1.own I (htt.at hH.below) (fun b hb=>i1.ownlt hb) (Zbw (st:=st1) i1 S V (.inr ⟨G,fun _ h=>h⟩))).mono ?_
  rintro e w' ⟨cv,n,rfl,hr,hz,hb⟩
  obtain ⟨g',t1,t2,t3,t4,t5,t6⟩:=ZhB i1 A z B hr hn (fun _=>False) (fun _ h=>h.elim) (fun _=>.gone) (fun _ b hb=>hz b hb) (hH.below.trans hb) hb.size (fun b ab _=>hb.block b ab) (fun _ h=>h.elim) (fun _ _ _ _ h=>h.elim)
  simp only[if_false,<-Yd]at t1 t5 t6
  exact ⟨cv,rfl,g',t1,t2,fun x c hx hc=>t3 x c hx (hc.less i2 i3),t4,t5,t6⟩
end
end
section
open Go.RowKit
section
variable {P:Program} {J:World->Prop} {JF:Nat->Prop} {W:ZaA} {U:Nat->Prop} {key:Nat} {st:St} {w w':World} {a:Act} {tt:Nat->Option TI} {hs:FuncId->Nat} {Q:Exit->Act->World->Prop}
theorem Zc4 (a:Act) (d:Option Nat) (v:Value):(a.put d v).tmps.size=a.tmps.size:=by cases d<;>simp [Act.put]
theorem ZfJ [NW] {g g':Gh}{d:Option Nat}{v:SV}{u:List (Nat×Ob)}{cv:Value}(hS:∀t,SVR g w (st.sl t) (a.tmps.getD t undef)) (hU:StU U st) (b:a.defers=[]) (hh:∀v,W.hv=some v->a.tmps.getD 0 undef=v) (hd:∀t,d=some t->t<a.tmps.size/\(W.hv=none\/t≠0))
  (h1:HI W g' (Zh st.ob u) w') (h2:SVR g' w' v cv) (h3:∀x c,svU U x->SVR g w x c->SVR g' w' x c) (h4:svU (Uk U key) v) (h5:∀k,obU (Uk U key) (Zh st.ob u k)) (h6:∀k,¬Uk U key k->Zh st.ob u k=.gone):
  Inv W (Uk U key) ((st.put d v).app u) (a.put d cv) w':=by
 cases d with
 |none=>
  refine ⟨⟨g',h1,fun t=>h3 _ _ (hU.sl t) (hS t)⟩,⟨fun t=>(hU.sl t).mono fun _=>.inl,h5,h6⟩,b,hh⟩
 |some d=>
  have f:=(hd d rfl).1
  refine ⟨⟨g',h1,fun t=>?_⟩,⟨fun t=>?_,h5,h6⟩,b,fun u hu=>?_⟩
  .show SVR g' w' (upd st.sl d v t) ((a.tmps.setIfInBounds d cv).getD t undef)
   by_cases ht:t=d
   .subst ht
    rw [ZB]
    simpa [AS,Array.getElem?_setIfInBounds,f]using h2
   .rw [ZP _ _ ht]
    have:(a.tmps.setIfInBounds d cv).getD t undef=a.tmps.getD t undef:=by
     simp [AS,BH (fun e:d=t=>ht e.symm)]
    rw [this]
    exact h3 _ _ (hU.sl t) (hS t)
  .show svU (Uk U key) (upd st.sl d v t)
   by_cases ht:t=d
   .subst ht;rw [ZB];exact h4
   .rw [ZP _ _ ht];exact (hU.sl t).mono fun _=>.inl
  .show (a.tmps.setIfInBounds d cv).getD 0 undef=u
   have i:d≠0:=by
    rcases (hd d rfl).2 with h|h
    .rw [h]at hu;simp at hu
    .exact h
   rw [<-hh u hu]
   simp [AS,BH i]
theorem Zqb [NW] {g:Gh}{x:SV}{v:Value}{fc:FuncId×List CT}(a:Zon x=some fc) (hs:SVR g w x v):∃cs:List Value,v=.func (.func fc.1) #[] cs.toArray/\ZD (SVR g w) (fc.2.map ZkF) cs:=by
 unfold Zon at a
 split at a
 .rename_i f es
  simp only[A0]at a
  subst a
  obtain ⟨y,hy,hs⟩:=hs
  simp at hy;subst hy
  obtain ⟨L,⟨vs,h1,h2⟩,h3⟩:=hs
  refine ⟨vs,h1,?_⟩
  have:=h2.avr (g:=g) h3
  have b:∀(es:List CT) (vs:List Value),ZD (AVR g w) (es.map AV.c) vs->ZD (SVR g w) (es.map ZkF) vs:=by
   intro es
   induction es with
   |nil=>intro vs h;cases vs with
    |nil=>trivial
    |cons _ _=>exact h.elim
   |cons e es ih=>intro vs h;cases vs with
    |nil=>exact h.elim
    |cons v vs=>exact ⟨⟨_,rfl,h.1⟩,ih vs h.2⟩
  exact b _ _ this
 .rename_i f
  simp only[A0]at a
  subst a
  exact ⟨[],hs,trivial⟩
 .simp at a
theorem Zn2 [NW] (htt:MOk P J JF W tt) {o:Oper}{K:St->Prop}(h:opS tt (SC P J JF hs) key o K st) (hI:Inv W U st a w) (hkey:∀k,key<=k->k<key+16->¬U k) (hd:∀t,o.dst=some t->t<a.tmps.size/\(W.hv=none\/t≠0)):
  o.wp P a w (fun a' w'=>∃st',Inv W (Uk U key) st' a' w'/\a'.tmps.size=a.tmps.size/\K st') Q:=by
 obtain ⟨⟨g,hH,hS⟩,hU,hdef,hh⟩:=hI
 have evals:∀(args:Array Operand) (ts:Array TypeId),ZD (SVR g w) (evs tt st ts.toList args.toList) (args.toList.map a.eval)/\∀x∈evs tt st ts.toList args.toList,svU U x:=fun args ts=>by
  have he:args.toList.map a.eval=(ZiI ts.toList args.toList).map fun p=>a.eval p.2:=by
   have:=congrArg (List.map a.eval) (Zfu ts.toList args.toList)
   rw [<-this,List.map_map];rfl
  refine ⟨?_,fun x mx=>?_⟩
  .rw [he]
   exact ZD.of_map _ _ fun p _=>(ZkE htt.tt hS hU p.1 p.2).1
  .obtain ⟨p,_,rfl⟩:=AJ.1 mx
   exact (ZkE htt.tt hS hU p.1 p.2).2
 have arm:∀(f:FuncId) (n:Nat) (vs:List SV) (cvs:List Value),spK (SC P J JF hs) f n key o.dst K st vs->ZD (SVR g w) vs cvs->(∀x∈vs,svU U x)->(Q1 P f->(execOp a.eval o).run P w=.ok (.enter f cvs.toArray) w)->
   o.wp P a w (fun a' w'=>∃st',Inv W (Uk U key) st' a' w'/\a'.tmps.size=a.tmps.size/\K st') Q:=fun f n vs cvs h hargs hargU hrun=>by
  obtain ⟨v,u,hr,hK⟩:=Zlc.1 h
  obtain ⟨hc,hcall⟩:=Zgj htt hr hH hU hkey hargs hargU
  unfold Oper.wp
  rw [hrun hc,Oper.upon_enter]
  refine hcall.mono ?_
  rintro e w' ⟨cv,rfl,g',t1,t2,t3,t4,t5,t6⟩
  exact ⟨_,ZfJ hS hU hdef hh hd t1 t2 t3 t4 t5 t6,Zc4 _ _ _,hK⟩
 unfold opS at h
 split at h
 .rename_i c hc
  obtain ⟨f,l1,l2⟩:=c
  have hop:∃args ts,o.op=.call ⟨.value (.func f),args,ts⟩/\l1=ts.toList/\l2=args.toList:=by
   unfold YG at hc
   split at hc
   .rename_i f' args ts he
    simp only[A0,AD]at hc
    obtain ⟨rfl,rfl,rfl⟩:=hc
    exact ⟨args,ts,he,rfl,rfl⟩
   .simp at hc
  obtain ⟨args,ts,hop,rfl,rfl⟩:=hop
  refine arm f _ _ _ h (evals args ts).1 (evals args ts).2 ?_
  rintro ⟨fn,f1,f2,f3⟩
  have f2' : ¬ fn.name = "runtime.NumGoroutine" := by simpa using f2
  have f3':¬fn.body=none:=fun e=>by rw [e]at f3;simp at f3
  have e1:(args.toList.map a.eval).toArray=args.map a.eval:=by
   apply An
   simp
  rw [e1]
  simp [execOp,hop,resolve,Act.eval,Deferred.ofValue,invoke,callFunc,program,Sem.run,f1,f2',f3']
 .split at h
  .rename_i c hc
   obtain ⟨s,l1,l2⟩:=c
   have hop:∃args ts,o.op=.call ⟨.value (.tmp s),args,ts⟩/\l1=ts.toList/\l2=args.toList:=by
    unfold Xf at hc
    split at hc
    .rename_i s' args ts he
     simp only[A0,AD]at hc
     obtain ⟨rfl,rfl,rfl⟩:=hc
     exact ⟨args,ts,he,rfl,rfl⟩
    .simp at hc
   obtain ⟨args,ts,hop,rfl,rfl⟩:=hop
   unfold Ye at h
   split at h
   .rename_i fc hfc
    obtain ⟨_,h⟩:=h
    have hval:=Zqb hfc (hS s)
    obtain ⟨cs,hv',hcs⟩:=hval
    have hv:a.eval (.tmp s)=.func (.func fc.1) #[] cs.toArray:=hv'
    refine arm fc.1 0 _ (args.toList.map a.eval++cs) h ((evals args ts).1.append hcs) (fun x mx=>?_) ?_
    .rcases AA.1 mx with m|m
     .exact (evals args ts).2 x m
     .obtain ⟨c,_,rfl⟩:=AJ.1 m
      exact XE _
    .rintro ⟨fn,f1,f2,f3⟩
     have f2' : ¬ fn.name = "runtime.NumGoroutine" := by simpa using f2
     have f3':¬fn.body=none:=fun e=>by rw [e]at f3;simp at f3
     have e1:(args.toList.map a.eval++cs).toArray=args.map a.eval++cs.toArray:=by
      apply An
      simp
     rw [e1]
     simp [execOp,hop,resolve,hv,Deferred.ofValue,invoke,callFunc,program,Sem.run,f1,f2',f3']
   .exact h.elim
  .unfold Ye at h
   split at h
   .rename_i r hr
    obtain ⟨g',cv,w',hrun,t1,t2,t3,t4,t5,t6⟩:=Zoo (P:=P) (W:=W) (a:=a) htt.tt o hr hH hS hU (hkey key (AF _) yE)
    unfold Oper.wp
    rcases hrun with hrun|⟨hrun,rfl⟩
    .rw [hrun]
     exact ⟨_,ZfJ hS hU hdef hh hd t1 t2 t3 t4 t5 t6,Zc4 _ _ _,h⟩
    .rw [hrun]
     exact ⟨_,ZfJ hS hU hdef hh hd t1 t2 t3 t4 t5 t6,Zc4 _ _ _,h⟩
   .exact h.elim
theorem Zt8 [NW] (hI:Inv W U st a w) (d:Option Nat) (hd:∀t,d=some t->t<a.tmps.size/\(W.hv=none\/t≠0)):Inv W (Uk U key) (st.put d .und) (a.put d undef) w:=by
 obtain ⟨⟨g,hH,hS⟩,hU,b,hh⟩:=hI
 exact ZfJ (u:=[]) (key:=key) hS hU b hh hd hH rfl (fun _ _ _ h=>h) trivial (fun k=>(hU.ob k).mono fun _=>.inl) (fun k hk=>hU.gone k fun h=>hk (.inl h))
theorem ZoM [NW] (htt:MOk P J JF W tt) {d:Array Oper}{i:Nat}{o:Oper}{K:St->Prop}(ho:d[i]?=some o) (h:opG tt (SC P J JF hs) d.toList key o K st) (hI:Inv W U st a w) (v:∀k,key<=k->k<key+16->¬U k) (hd:∀t,o.dst=some t->t<a.tmps.size/\(W.hv=none\/t≠0)):
  wpOp P d Q i (fun a' w'=>∃st',Inv W (Uk U key) st' a' w'/\a'.tmps.size=a.tmps.size/\K st') a w:=by
 have f:K (st.put o.dst .und)->∃st',Inv W (Uk U key) st' (a.put o.dst undef) w/\(a.put o.dst undef).tmps.size=a.tmps.size/\K st':=fun hK=>⟨_,Zt8 hI _ hd,Zc4 _ _ _,hK⟩
 unfold wpOp
 simp only[ho]
 unfold opG ZaZ at h
 cases hg:o.guard with
 |none=>
  rw [hg]at h
  rw [if_pos (by simp [Region.wanted,hg])]
  exact .inl (Zn2 htt h hI v hd)
 |some jw=>
  obtain ⟨j,l⟩:=jw
  rw [hg]at h
  simp only at h
  cases hj:(d.toList[j]?).bind (·.dst) with
  |none=>
   rw [hj]at h
   have m:(d[j]?).bind (·.dst)=none:=by simpa using hj
   rw [if_neg (by simp [Region.wanted,hg,yielded,m])]
   exact f h
  |some t=>
   rw [hj]at h
   have m:(d[j]?).bind (·.dst)=some t:=by simpa using hj
   obtain ⟨⟨g,hH,hS⟩,hU,y,hh⟩:=hI
   have u:=hS t
   simp only at h
   unfold gK at h
   split at h
   .rename_i hb
    have:∃b,st.sl t=.p false [.c (.bool b)]:=by
     unfold Zam at hb
     split at hb
     .rename_i b he;exact ⟨b,he⟩
     .simp at hb
    obtain ⟨b,x⟩:=this
    rw [x]at u h
    have hv:=ZfZ u
    have hy:yielded d a.tmps j=some b:=by
     unfold yielded
     rw [m,Al]
     have:a.tmps[t]?=some (.bool b):=by
      rw [AS]at hv
      cases he:a.tmps[t]? with
      |none=>rw [he]at hv;simp [undef]at hv
      |some q=>rw [he]at hv;simpa using hv
     rw [this]
    by_cases hw:(b==l)=true
    .rw [if_pos (show (X8 (.p false [.c (.bool b)])==l)=true from hw)]at h
     rw [if_pos (by simpa [Region.wanted,hg,hy]using hw)]
     exact .inl (Zn2 htt h ⟨⟨g,hH,hS⟩,hU,y,hh⟩ v hd)
    .rw [if_neg (show ¬(X8 (.p false [.c (.bool b)])==l)=true from hw)]at h
     rw [if_neg (by simpa [Region.wanted,hg,hy]using hw)]
     exact f h
   .split at h
    .rename_i hu
     have x:st.sl t=.und:=by
      unfold Zp9 at hu
      split at hu
      .rename_i he;exact he
      .simp at hu
     rw [x]at u
     have e:a.tmps.getD t undef=undef:=u
     have hy:yielded d a.tmps j=none:=by
      unfold yielded
      rw [m,Al]
      rw [AS]at e
      cases he:a.tmps[t]? with
      |none=>rfl
      |some q=>rw [he]at e;simp at e;rw [e];rfl
     rw [if_neg (by simp [Region.wanted,hg,hy])]
     exact f h
    .exact h.elim
theorem Zn0 [NW] (htt:MOk P J JF W tt) {b:Array Oper}{N:Nat}(hN:∀o∈b.toList,∀t,o.dst=some t->t<N/\(W.hv=none\/t≠0)) {K:St->Prop}:∀(r:List Oper) (i key:Nat) (U:Nat->Prop) (st:St) (a:Act) (w:World),b.toList.drop i=r->Z4 tt (SC P J JF hs) b.toList key r K st->Inv W U st a w->(∀k,key<=k->¬U k)->a.tmps.size=N->
  (∀U' st' a' w',Inv W U' st' a' w'->(∀k,key+16*r.length<=k->¬U' k)->a'.tmps.size=N->K st'->Q .normal a' w')->wpOps P b Q (Ad i r.length) a w
 | [],i,key,U,st,a,w,_,h,hI,hk,hs,hQ=>hQ U st a w hI (by simpa using hk) hs h
 |o::r,i,key,U,st,a,w,hr,h,hI,hk,hs,hQ=>by
  have hi:b.toList[i]?=some o:=by
   have:=congrArg (fun l=>l[0]?) hr
   simpa using this
  have d:b.toList.drop (i+1)=r:=by
   have:=congrArg List.tail hr
   simpa using this
  rw [List.length_cons,BF,wpOps_cons]
  refine wpOp_mono ?_ (ZoM htt (by simpa using hi) h hI (fun k a _=>hk k a) (fun t ht=>by rw [hs];exact hN o (List.mem_of_getElem? hi) t ht))
  rintro a' w' ⟨st',e,hs',f⟩
  refine Zn0 htt hN r (i+1) (key+16) _ st' a' w' d f e (fun k c hU=>?_) yE (fun U' g a2 w2 h1 h2 h3 h4=>hQ U' g a2 w2 h1 (fun k c=>h2 k (by simp at c;omega)) h3 h4)
  rcases hU with hU|hU
  .exact hk k yE hU
  .omega
end
end
end Go.Proofs.YtcaokdmjlknmmaaGreatDoor
