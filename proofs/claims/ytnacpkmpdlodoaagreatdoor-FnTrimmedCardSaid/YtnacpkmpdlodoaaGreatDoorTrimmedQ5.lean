/- Parts of this proof, joined; what they hold is said at the theorems. -/
import Derived.Test.YtnacpkmpdlodoaaGreatDoorTrimmedQ1
import Derived.Laws.CopyRow
import Derived.Laws.OwnMore
import Derived.Laws.StructEq
import Derived.Laws.Tables
import Derived.Great.BuildSlice
import Derived.MapKept
import Derived.Test.YtnacpkmpdlodoaaGreatDoorTrimmedQ4
open Array renaming getElem?_eq_some_iff→AW
open Bool renaming and_eq_true→AP
open Go.ByteArray renaming toList_eq→BB
open List renaming mem_append→A9,mem_cons→AE,mem_flatMap→AI,nodup_append→AL,mem_map→AQ,flatMap_cons→AT,nil_sublist→AU,eq_nil_of_length_eq_zero→AY,getElem?_eq_some_iff→AZ,range'→Ab,replicate→Ac,map_cons→Ah,drop_append→Aj,drop_of_length_le→Ak,nodup_cons→An,singleton_append→Ap,all_eq_true→Aq,mem_range'_1→As,mem_of_getElem?→Ax,mem_of_mem_drop→Ay,mem_of_mem_take→Az,nil_append→B5,flatMap_append→B9,append_nil→BA,getElem?_take→BC,getElem?_drop→BD,take_length_add_append→BE,drop_take→BF,range'_succ→BG,take_left'→BH,replicate_succ→BI,flatten_cons→BJ,map_append→BK,all_cons→BM,sublist_append_right→BN,take_succ_cons→BO,cons_append→BP,drop_succ_cons→BR,drop_append_of_le_length→BS,map_nil→BT
open List.Sublist renaming refl→AK,append→AN
open List.cons renaming injEq→AX
open Nat renaming le_refl→AD,add_mul→AH,add_assoc→AJ,zero_le→AM,le_trans→AS,zero_add→Aa,lt_of_lt_of_le→Ad,add_sub_cancel_left→Am,mul_le_mul_right→B3,le_add_right→B4,mul_le_mul→BL
open Option renaming map_eq_some_iff→AA,bind_eq_some_iff→AB,map_some→Ae
open Option.some renaming injEq→A0
open Prod.mk renaming injEq→AC
open UInt8 renaming ofNat→Aw
set_option linter.unusedSimpArgs false
set_option linter.unusedVariables false
set_option maxRecDepth 1000000
set_option maxHeartbeats 4000000
namespace Go.Proofs.YtnacpkmpdlodoaaGreatDoor
open Go.IntKind
section
open Go.RowKit
def ZW{α β:Type}(R:α->β->Prop):List α->List β->Prop
 | [],[]=>True
 |a::l,b::r=>R a b/\ZW R l r
 |_,_=>False
section
variable {α β:Type} {R R':α->β->Prop}
theorem ZW.len:∀{l:List α}{r:List β},ZW R l r->l.length=r.length
 | [],[],_=>rfl
 |_::_,_::_,h=>by simp [h.2.len]
 | [],_::_,h=>h.elim
 |_::_,[],h=>h.elim
theorem ZW.mono:∀{l:List α}{r:List β},ZW R l r->(∀a b,a∈l->R a b->R' a b)->ZW R' l r
 | [],[],_,_=>trivial
 |_::_,_::_,h,f=>⟨f _ _ yG h.1,h.2.mono fun a b m=>f a b (by simp [m])⟩
 | [],_::_,h,_=>h.elim
 |_::_,[],h,_=>h.elim
theorem ZW.at:∀{l:List α}{r:List β}{i:Nat}{a:α},ZW R l r->l[i]?=some a->∃b,r[i]?=some b/\R a b
 | [],[],_,_,_,h=>by simp at h
 |_::_,b::_,0,_,h,e=>by simp at e;subst e;exact ⟨b,yG,h.1⟩
 |_::_,_::_,i+1,a,h,e=>by
  obtain ⟨b,B,A⟩:=h.2.at (i:=i) (a:=a) (by simpa using e);exact ⟨b,by simpa using B,A⟩
 | [],_::_,_,_,h,_=>h.elim
 |_::_,[],_,_,h,_=>h.elim
theorem ZW.set:∀{l:List α}{r:List β}{i:Nat}{a:α}{b:β},ZW R l r->R a b->ZW R (l.set i a) (r.set i b)
 | [],[],_,_,_,_,_=>trivial
 |_::_,_::_,0,_,_,h,e=>⟨e,h.2⟩
 |_::_,_::_,_+1,_,_,h,e=>⟨h.1,h.2.set e⟩
 | [],_::_,_,_,_,h,_=>h.elim
 |_::_,[],_,_,_,h,_=>h.elim
theorem ZW.drop:∀{l:List α}{r:List β}(n:Nat),ZW R l r->ZW R (l.drop n) (r.drop n)
 |_,_,0,h=>by simpa using h
 | [],[],n+1,_=>by simp [ZW]
 |_::_,_::_,n+1,h=>by simpa using h.2.drop n
 | [],_::_,_+1,h=>h.elim
 |_::_,[],_+1,h=>h.elim
theorem ZW.take:∀{l:List α}{r:List β}(n:Nat),ZW R l r->ZW R (l.take n) (r.take n)
 |_,_,0,h=>by simp [ZW]
 | [],[],n+1,_=>by simp [ZW]
 |_::_,_::_,n+1,h=>by simpa using ⟨h.1,h.2.take n⟩
 | [],_::_,_+1,h=>h.elim
 |_::_,[],_+1,h=>h.elim
theorem ZW.append:∀{l B:List α}{r A:List β},ZW R l r->ZW R B A->ZW R (l++B) (r++A)
 | [],_,[],_,_,h=>h
 |_::_,_,_::_,_,h,h'=>⟨h.1,h.2.append h'⟩
 | [],_,_::_,_,h,_=>h.elim
 |_::_,_,[],_,h,_=>h.elim
end
class NW where
 B0:Nat
structure Gh where
 val:Nat->Value
 O:Nat->List Nat
 D:Nat->List Nat
 Z:Nat->Prop
def Gh.own(g:Gh)(b:Nat):Prop:=(∃k,b∈g.O k)\/g.Z b
def Gh.low(g:Gh)(b:Nat):Prop:=g.own b\/∃k,b∈g.D k
structure Zal (g g':Gh) (n:Nat):Prop where
 own:∀b,g'.own b->g.own b\/n<=b
 low:∀b,g'.low b->g.low b\/n<=b
structure X4 (g' g:Gh):Prop where
 own:∀b,g'.own b->g.own b
 low:∀b,g'.low b->g.low b
theorem Zal.refl(g:Gh)(n:Nat):Zal g g n:=⟨fun _ h=>.inl h,fun _ h=>.inl h⟩
theorem X4.refl(g:Gh):X4 g g:=⟨fun _ h=>h,fun _ h=>h⟩
theorem X4.trans{a b c:Gh}(h:X4 a b)(k:X4 b c):X4 a c:=⟨fun x A=>k.own x (h.own x A),fun x A=>k.low x (h.low x A)⟩
theorem X4.grow{B g:Gh}(h:X4 B g)(n:Nat):Zal g B n:=⟨fun x A=>.inl (h.own x A),fun x A=>.inl (h.low x A)⟩
theorem X4.of{A g:Gh}(h:∀b,A.own b->g.own b)(k:∀j b,b∈A.D j->∃i,b∈g.D i):X4 A g:=⟨h,fun x C=>C.imp (h x) fun ⟨j,B⟩=>k j x B⟩
theorem Zal.of{g B:Gh}{n:Nat}(h:∀b,B.own b->g.own b\/n<=b)(k:∀j b,b∈B.D j->g.low b\/n<=b):Zal g B n:=⟨h,fun x A=>by
 rcases A with A|⟨j,C⟩
 .exact (h x A).imp (fun q=>.inl q) id
 .exact k j x C⟩
structure Zbb extends World where
 z:Nat->Prop
 x:Nat->Prop
 hv:Option Value
structure Bel (W:Zbb) (w:World):Prop where
 os:w.os=W.os
 tape:w.tape=W.tape
 output:w.output=W.output
 size:W.heap.size<=w.heap.size
 block:∀k,k<W.heap.size->¬W.x k->w.heap[k]?=W.heap[k]?
theorem Bel.trans{W:Zbb}{w w':World}(h:Bel W w)(k:Below w.heap.size w w'):Bel W w':=
 ⟨k.os.trans h.os,k.tape.trans h.tape,k.output.trans h.output,AS h.size k.size,fun i hi A=>(k.block i (Ad hi h.size)).trans (h.block i hi A)⟩
def NR[NW](g:Gh)(w:World)(x:CT)(v:Value):Prop:=
 ∃e m xs cs L,x=.sl e m xs/\0<m/\w.ownsV 0 e m v xs.length cs/\REs w m xs cs L/\(v.ownBlock.toList++L).Nodup/\∀b∈v.ownBlock.toList++L,¬g.low b/\NW.B0<=b/\∃cur t,w.heap[b]?=some (.cells cur t (0,0))
def AVR[NW](g:Gh)(w:World):AV->Value->Prop
 |.c x,v=>∃L,RC w x v L/\∀b∈L,¬g.own b
 |.n x,v=>NR g w x v
 |.row k,v=>v=g.val k/\v.oneCell'=true
 |.nil _ _,v=>v=.slice none 0 0
 |.dead,v=>v.oneCell'=true
def PVR[NW](g:Gh)(w:World):Bool->List AV->Value->Prop
 |true,cs,v=>∃vs:List Value,v=.agg vs.toArray/\ZW (AVR g w) cs vs
 |false,cs,v=>∃x,cs=[x]/\AVR g w x v
def SVR[NW](g:Gh)(w:World):SV->Value->Prop
 |.any,_=>True
 |.und,v=>v=undef
 |.p a cs,v=>PVR g w a cs v
 |.tup xs,v=>∃vs:List Value,v=.tuple vs.toArray/\ZW (fun x u=>PVR g w x.1 x.2 u) xs vs
 |.bp k off,v=>∃b,g.val k=.pointer (some ⟨b,0,none⟩)/\v=.pointer (some ⟨b,off,none⟩)
 |.rp k m i off,v=>∃b o n c,g.val k=.slice (some ⟨b,o,none⟩) n c/\v=.pointer (some ⟨b,o+(i*m+off),none⟩)
 |.ep e off,v=>∃b lo cs L,v=.pointer (some ⟨b,lo+off,none⟩)/\ZbE w b lo cs/\RCs w e cs L/\(∀x∈b::L,¬g.own x)/\b<w.heap.size
 |.fn f,v=>v=.func (.func f) #[] #[]
def ObR[NW](g:Gh)(w:World)(k:Nat):Ob->Prop
 |.gone=>g.O k=[]/\g.D k=[]
 |.box t cs=>∃b vs,g.val k=.pointer (some ⟨b,0,none⟩)/\g.O k=[b]/\g.D k=[]/\w.heap[b]?=some (.cells vs.toArray t (0,0))/\ZW (AVR g w) cs vs
 |.row e m xs d=>0<m/\∃cs L,w.ownsV 0 e m (g.val k) xs.length cs/\REs w m xs cs L/\((d=2/\g.O k=(g.val k).ownBlock.toList/\g.D k=L)\/(d=1/\g.O k=(g.val k).ownBlock.toList/\g.D k=[]/\∀b∈L,¬g.own b)\/(d=0/\g.O k=[]/\g.D k=[]/\∀b∈(g.val k).ownBlock.toList++L,¬g.own b))
 |.map kk vk kv=>∃b es c,g.val k=.map (some b)/\g.O k=[b]/\g.D k=[]/\w.heap[b]?=some (.map es c)/\Zfh es=kv/\Zlz kk vk kv
def Qp(w:World)(o:Ob)(b:Nat):Prop:=
 match o with
 |.map _ _ _=>∃es c,w.heap[b]?=some (.map es c)
 |_=>∃cur e,w.heap[b]?=some (.cells cur e (0,0))
theorem Qp.lt{w:World}{o:Ob}{b:Nat}(h:Qp w o b):b<w.heap.size:=by
 unfold Qp at h;split at h
 .obtain ⟨_,_,h⟩:=h;exact (AW.1 h).1
 .obtain ⟨_,_,h⟩:=h;exact (AW.1 h).1
theorem Qp.keep{w w':World}{o:Ob}{b:Nat}(h:Qp w o b)(e:w'.heap[b]?=w.heap[b]?):Qp w' o b:=by
 unfold Qp at h ⊢;rw [e];exact h
def Zk0:Ob->Bool
 |.map _ _ _=>true
 |_=>false
theorem Qp.of{w:World}{o o':Ob}{b:Nat}(h:Qp w o b)(e:Zk0 o'=Zk0 o):Qp w o' b:=by
 cases o<;>cases o'<;>simp [Zk0]at e<;>exact h
structure HI [NW] (W:Zbb) (g:Gh) (ob:Nat->Ob) (w:World):Prop where
 below:Bel W w
 obs:∀k,ObR g w k (ob k)
 nodup:∀k,(g.O k++g.D k).Nodup
 apart:∀k j,k≠j->∀b∈g.O k++g.D k,b∉g.O j++g.D j
 plain:∀k,∀b∈g.O k++g.D k,(W.heap.size<=b\/W.x b)/\Qp w (ob k) b
 gz:g.Z=W.z
 zx:∀b,W.z b->b<W.heap.size/\¬W.x b
 nw:∀b,(W.heap.size<=b\/W.x b)->NW.B0<=b
def avU(U:Nat->Prop):AV->Prop
 |.row k=>U k
 |_=>True
def Zag(U:Nat->Prop)(cs:List AV):Prop:=∀x∈cs,avU U x
def svU(U:Nat->Prop):SV->Prop
 |.p _ cs=>Zag U cs
 |.tup xs=>∀x∈xs,Zag U x.2
 |.bp k _=>U k
 |.rp k _ _ _=>U k
 |_=>True
def obU(U:Nat->Prop):Ob->Prop
 |.box _ cs=>Zag U cs
 |_=>True
structure StU (U:Nat->Prop) (st:St):Prop where
 sl:∀t,svU U (st.sl t)
 ob:∀k,obU U (st.ob k)
 gone:∀k,¬U k->st.ob k=.gone
theorem HI.lt[NW]{W:Zbb}{g:Gh}{ob:Nat->Ob}{w:World}(h:HI W g ob w)(k:Nat):∀b∈g.O k++g.D k,b<w.heap.size:=by
 intro b m;exact (h.plain k b m).2.lt
theorem HI.nz[NW]{W:Zbb}{g:Gh}{ob:Nat->Ob}{w:World}(h:HI W g ob w){k b:Nat}(m:b∈g.O k++g.D k):¬g.Z b:=fun A=>by
 rw [h.gz]at A;obtain ⟨E,C⟩:=h.zx b A;rcases (h.plain k b m).1 with B|B
 .omega
 .exact C B
section
variable {g g':Gh} {w w':World} {U:Nat->Prop}
theorem NR.move[NW]{x:CT}{v:Value}(h:NR g w x v)
  (C:∀b,b<w.heap.size->¬g.own b->w'.heap[b]?=w.heap[b]?) (D:Zal g g' w.heap.size):NR g' w' x v:=by
 obtain ⟨e,m,xs,cs,L,I,H,G,F,E,B⟩:=h;have a:∀b∈v.ownBlock.toList++L,b<w.heap.size:=fun b A=>by
  obtain ⟨_,_,_,_,q⟩:=B b A;exact (AW.1 q).1
 have hs:∀b∈v.ownBlock.toList++L,w'.heap[b]?=w.heap[b]?:=fun b A=>C b (a b A) fun o=>(B b A).1 (.inl o);refine ⟨e,m,xs,cs,L,I,H,YG G fun b A=>hs b (by simp [A]),F.keep fun b A=>hs b (by simp [A]),E,fun b A=>⟨fun o=>?_,(B b A).2.1,by rw [hs b A];exact (B b A).2.2⟩⟩;rcases D.low b o with o|o
 .exact (B b A).1 o
 .have:=a b A;omega
theorem AVR.move[NW]{x:AV}{v:Value}(h:AVR g w x v)(E:avU U x)(F:∀k,U k->g'.val k=g.val k)
  (A:∀b,b<w.heap.size->¬g.own b->w'.heap[b]?=w.heap[b]?) (B:Zal g g' w.heap.size):AVR g' w' x v:=by
 cases x with
 |c x=>
  obtain ⟨L,D,C⟩:=h;have a:=D.lt;refine ⟨L,D.keep fun b m=>A b (a b m) (C b m),fun b m o=>?_⟩;rcases B.own b o with o|o
  .exact C b m o
  .have:=a b m;omega
 |n x=>exact NR.move h A B
 |row k=>exact ⟨h.1.trans (F k E).symm,h.2⟩
 |nil e m=>exact h
 |dead=>exact h
theorem AVRs.move[NW]{cs:List AV}{vs:List Value}(h:ZW (AVR g w) cs vs)(A:Zag U cs)(C:∀k,U k->g'.val k=g.val k)
  (B:∀b,b<w.heap.size->¬g.own b->w'.heap[b]?=w.heap[b]?) (D:Zal g g' w.heap.size):ZW (AVR g' w') cs vs:=
 h.mono fun a _ m r=>r.move (A a m) C B D
theorem PVR.move[NW]{a:Bool}{cs:List AV}{v:Value}(h:PVR g w a cs v)(C:Zag U cs)(E:∀k,U k->g'.val k=g.val k)
  (D:∀b,b<w.heap.size->¬g.own b->w'.heap[b]?=w.heap[b]?) (F:Zal g g' w.heap.size):PVR g' w' a cs v:=by
 cases a with
 |true=>obtain ⟨vs,A,B⟩:=h;exact ⟨vs,A,AVRs.move B C E D F⟩
 |false=>obtain ⟨x,A,B⟩:=h;exact ⟨x,A,B.move (C x (by simp [A])) E D F⟩
theorem SVR.move[NW]{s:SV}{v:Value}(h:SVR g w s v)(C:svU U s)(E:∀k,U k->g'.val k=g.val k)
  (D:∀b,b<w.heap.size->¬g.own b->w'.heap[b]?=w.heap[b]?) (F:Zal g g' w.heap.size) (hs:w.heap.size<=w'.heap.size):SVR g' w' s v:=by
 cases s with
 |any=>exact h
 |und=>exact h
 |p a cs=>exact PVR.move h C E D F
 |tup xs=>
  obtain ⟨vs,B,A⟩:=h;exact ⟨vs,B,A.mono fun x _ m r=>r.move (C x m) E D F⟩
 |bp k off=>obtain ⟨b,B,A⟩:=h;exact ⟨b,(E k C).trans B,A⟩
 |rp k m i off=>obtain ⟨b,o,n,c,B,A⟩:=h;exact ⟨b,o,n,c,(E k C).trans B,A⟩
 |ep e off=>
  obtain ⟨b,I,cs,L,B,A,H,G,K⟩:=h;have d:=H.lt;refine ⟨b,I,cs,L,B,fun j u J=>?_,H.keep fun x m=>D x (d x m) (G x (by simp [m])),fun x m o=>?_,yE⟩
  .rw [<-A j u J];exact World.cell?_of_block (D b K (G b yG))
  .rcases F.own x o with o|o
   .exact G x m o
   .rcases AE.1 m with rfl|m
    .omega
    .have:=d x m;omega
 |fn f=>exact h
theorem HI.step[NW]{W:Zbb}{ob ob':Nat->Ob}(h:HI W g ob w)(T:Nat->Prop)
  (v:Bel W w') (hZ:g'.Z=g.Z)
  (hw:∀b,b<w.heap.size->(∀k,T k->b∉g.O k)->w'.heap[b]?=w.heap[b]?)
  (H:∀k,¬T k->ob' k=ob k/\g'.val k=g.val k/\g'.O k=g.O k/\g'.D k=g.D k)
  (y:∀k,obU U (ob k)) (hv:∀k,U k->g'.val k=g.val k)
  (ho:Zal g g' w.heap.size)
  (M:∀k,T k->ObR g' w' k (ob' k)/\(g'.O k++g'.D k).Nodup/\(∀b∈g'.O k++g'.D k,(W.heap.size<=b\/W.x b)/\Qp w' (ob' k) b)/\∀j,k≠j->∀b∈g'.O k++g'.D k,b∉g'.O j++g'.D j):
  HI W g' ob' w':=by
 have p:∀b,b<w.heap.size->¬g.own b->w'.heap[b]?=w.heap[b]?:=fun b hb V=>hw b hb fun k _ m=>V (.inl ⟨k,m⟩);have i:∀k,¬T k->∀b∈g.O k++g.D k,w'.heap[b]?=w.heap[b]?:=fun k H b m=>
  hw b (h.lt k b m) fun j hj R=>h.apart j k (fun e=>H (e ▸ hj)) b (by simp [R]) m
 refine ⟨v,fun k=>?_,fun k=>?_,fun k j q b m=>?_,fun k b m=>?_,hZ.trans h.gz,h.zx,h.nw⟩
 .by_cases a:T k
  .exact (M k a).1
  .obtain ⟨P,N,G,F⟩:=H k a;have f:=h.obs k;have hF:=i k a;have hU:=y k;rw [P];cases hok:ob k with
   |gone=>rw [hok]at f;exact ⟨G.trans f.1,F.trans f.2⟩
   |box t cs=>
    rw [hok]at f hU;obtain ⟨b,vs,K,J,E,B,I⟩:=f;exact ⟨b,vs,N.trans K,G.trans J,F.trans E,by rw [hF b (by simp [J])];exact B,AVRs.move I hU hv p ho⟩
   |map kk vk kv=>
    rw [hok]at f;obtain ⟨b,es,c,K,J,E,B,I⟩:=f;exact ⟨b,es,c,N.trans K,G.trans J,F.trans E,by rw [hF b (by simp [J])];exact B,I⟩
   |row e m xs d=>
    rw [hok]at f;obtain ⟨hm,cs,L,K,J,B⟩:=f;have l:=J.lt;have hL:∀b∈L,w'.heap[b]?=w.heap[b]?:=fun b C=>by
     rcases B with ⟨_,_,B⟩|⟨_,_,_,B⟩|⟨_,_,_,B⟩
     .exact hF b (by simp [B,C])
     .exact p b (l b C) (B b C)
     .exact p b (l b C) (B b (by simp [C]))
    have A:∀b∈(g.val k).ownBlock.toList,w'.heap[b]?=w.heap[b]?:=fun b C=>by
     rcases B with ⟨_,E,_⟩|⟨_,E,_⟩|⟨_,_,_,B⟩
     .exact hF b (by simp [E,C])
     .exact hF b (by simp [E,C])
     .exact p b (Zj2 K b C) (B b (by simp [C]))
    refine ⟨hm,cs,L,by rw [N];exact YG K A,J.keep hL,?_⟩;rw [N,G,F];have u:∀b,b<w.heap.size->¬g.own b->¬g'.own b:=fun b hb V o=>by
     rcases ho.own b o with o|o
     .exact V o
     .omega
    rcases B with B|⟨hd,E,B,I⟩|⟨hd,E,B,I⟩
    .exact .inl B
    .exact .inr (.inl ⟨hd,E,B,fun b C=>u b (l b C) (I b C)⟩)
    .refine .inr (.inr ⟨hd,E,B,fun b C=>?_⟩);rcases A9.1 C with S|S
     .exact u b (Zj2 K b S) (I b C)
     .exact u b (l b S) (I b C)
 .by_cases a:T k
  .exact (M k a).2.1
  .obtain ⟨P,N,G,F⟩:=H k a;rw [G,F];exact h.nodup k
 .by_cases a:T k
  .exact (M k a).2.2.2 j q b m
  .by_cases z:T j
   .exact fun R=>(M j z).2.2.2 k (fun e=>q e.symm) b R m
   .obtain ⟨_,_,G,F⟩:=H k a;obtain ⟨_,_,f3,f4⟩:=H j z;rw [G,F]at m;rw [f3,f4];exact h.apart k j q b m
 .by_cases a:T k
  .exact (M k a).2.2.1 b m
  .obtain ⟨_,_,G,F⟩:=H k a;rw [G,F]at m;obtain ⟨p1,p2⟩:=h.plain k b m;obtain ⟨P,_⟩:=H k a;exact ⟨p1,by rw [P];exact p2.keep (i k a b m)⟩
end
structure Inv [NW] (W:Zbb) (U:Nat->Prop) (st:St) (a:Act) (w:World):Prop where
 ex:∃g,HI W g st.ob w/\∀t,SVR g w (st.sl t) (a.tmps.getD t undef)
 wf:StU U st
 defers:a.defers=[]
 hand:∀v,W.hv=some v->a.tmps.getD 0 undef=v
end
section
open Go.RowKit
def Zbk:AV->Value->Bool
 |.c (.int k n),.int k' n'=>k==k'&&n==n'
 |.c (.bool b),.bool b'=>b==b'
 |.c (.str s),.string s'=>s.data.toList==s'.data.toList&&ZB s
 |.nil _ m,.slice none 0 0=>Nat.blt 0 m
 |_,_=>false
def Zjv:TypeDesc->AV->Bool
 |.int k,.c (.int k' _)=>k==k'
 |.bool,.c (.bool _)=>true
 |.string,.c (.str _)=>true
 |_,_=>false
def ZuU:TypeDesc->Bool
 |.struct _=>true
 |.array _ _=>true
 |_=>false
def ZeU:PK->TypeDesc->Bool
 |.int k,.int k'=>k==k'
 |.str,.string=>true
 |.bool,.bool=>true
 |_,_=>false
def EqF(P:Program):List PK->List Field->Nat->Prop
 | [],[],_=>True
 | k :: ks, f :: fs, n => f.name ≠ "_" ∧ f.offset = n ∧ (∃ d, P.underlying f.type = some d ∧ ZeU k d = true) ∧ EqF P ks fs (n + 1)
 |_,_,_=>False
def TOk(P:Program)(t:TypeId):TI->Prop
 |.atom z=>∃d zv i,P.underlying t=some d/\Zjv d z=true/\P.info? t=some i/\i.zero=some zv/\i.size=1/\Zbk z zv=true
 |.strct fs n z=>∃(fields:Array Field) (i:TypeInfo) (zvs:Array Value),P.underlying t=some (.struct fields)/\P.info? t=some i/\i.size=n/\i.zero=some (.agg zvs)/\ZW (fun a v=>Zbk a v=true) z zvs.toList/\
   ZW (fun (fi:FI) (f:Field)=>f.offset=fi.off/\fi.size≠0/\∃j d,P.info? f.type=some j/\j.size=fi.size/\P.underlying f.type=some d/\ZuU d=fi.agg) fs fields.toList
 |.slice e m bytes z=>P.underlying t=some (.slice e)/\0<m/\bytes<=131072/\(∃(i:TypeInfo) (zv:Value),P.info? e=some i/\i.size=m/\i.bytes=bytes/\i.zero=some zv/\ZW (fun a v=>Zbk a v=true) z zv.cells.toList/\z.length=m)/\
   ∃j:TypeInfo,P.info? t=some j/\j.size=1/\j.zero=some (.slice none 0 0)
 |.ifc=>∃ms,P.underlying t=some (.interface ms)
 |.map kk vk=>∃kt et dk dv i zv,P.underlying t=some (.map kt et)/\P.underlying kt=some dk/\ZeU kk dk=true/\P.underlying et=some dv/\ZeU vk dv=true/\P.info? et=some i/\i.zero=some zv/\Zbk (ZfL vk) zv=true
 |.eqs ks=>∃u,t=u+4000/\P.underlying u=some (.struct (P.fieldsOf u))/\P.stoodInHeld u=false/\P.eqGuardType P.depth u=false/\EqF P ks (P.fieldsOf u).toList 0
section
variable {P:Program} {w:World} {t:TypeId}
theorem ZvA{i:TypeInfo}(h:P.info? t=some i):(typeInfo t).run P w=.ok i w:=by simp [typeInfo,program,Sem.run,h]
theorem YQ{d:TypeDesc}(h:P.underlying t=some d):(underlying t).run P w=.ok d w:=by simp [underlying,program,Sem.run,h]
theorem Qc[NW]{i:TypeInfo}(h:P.info? t=some i):(sizeOf t).run P w=.ok i.size w:=by simp [sizeOf,ZvA h]
theorem ZkF[NW]{i:TypeInfo}{z:Value}(h:P.info? t=some i)(A:i.zero=some z):(zeroValue t).run P w=.ok z w:=by simp [zeroValue,ZvA h,A]
theorem ZiS[NW]{d:TypeDesc}(h:P.underlying t=some d):(isAgg t).run P w=.ok (ZuU d) w:=by
 simp only[isAgg,Sem.run_bind,YQ h,Result.andThen_ok];cases d<;>rfl
theorem ZA0{d:TypeDesc}{z:AV}(h:Zjv d z=true):ZuU d=false:=by
 unfold Zjv at h;split at h<;>first|rfl|simp at h
end
section
variable {g:Gh} {w:World}
theorem ZtR{s:BYT}(h:ZB s=true):s.size<=9223372036854775807:=by
 unfold ZB at h;have:=Nat.le_of_ble_eq_true h;rw [Array.length_toList]at this;exact this
theorem Zgc[NW]{x:AV}{v:Value}(h:Zbk x v=true):AVR g w x v:=by
 unfold Zbk at h;split at h
 .simp only[AP,beq_iff_eq]at h;exact ⟨[],⟨by rw [h.1,h.2],rfl⟩,yG⟩
 .simp only[beq_iff_eq]at h;exact ⟨[],⟨by rw [h],rfl⟩,yG⟩
 .rename_i s s';simp only[AP,beq_iff_eq]at h;have e:s=s':=by
   cases s;cases s';simpa using h.1
  exact ⟨[],⟨by rw [e],rfl,ZtR h.2⟩,yG⟩
 .rfl
 .simp at h
theorem AVR.one[NW]{x:AV}{v:Value}(h:AVR g w x v):v.oneCell'=true:=by
 cases x with
 |c x=>obtain ⟨L,B,_⟩:=h;exact B.one
 |n x=>
  obtain ⟨e,m,xs,cs,L,B,E,D,_⟩:=h;obtain ⟨A,c,C,_⟩:=YH D;simp [C,Value.oneCell']
 |row k=>exact h.2
 |nil e m=>simp [AVR]at h;simp [h,Value.oneCell']
 |dead=>exact h
theorem Zqm{v:Value}(h:v.oneCell'=true):v.cells=#[v]:=by
 cases v<;>simp [Value.oneCell']at h<;>rfl
theorem PVR.cells[NW]{a:Bool}{cs:List AV}{v:Value}(h:PVR g w a cs v):∃vs:List Value,v.cells=vs.toArray/\ZW (AVR g w) cs vs:=by
 cases a with
 |true=>obtain ⟨vs,rfl,A⟩:=h;exact ⟨vs,rfl,A⟩
 |false=>obtain ⟨x,rfl,A⟩:=h;exact ⟨[v],by rw [Zqm A.one],⟨A,trivial⟩⟩
theorem AVRs.one[NW]{cs:List AV}{vs:List Value}(h:ZW (AVR g w) cs vs):∀u∈vs,u.oneCell'=true:=by
 induction vs generalizing cs with
 |nil=>simp
 |cons v r ih=>
  cases cs with
  |nil=>exact h.elim
  |cons c cs=>
   intro u m;rcases AE.1 m with rfl|m
   .exact h.1.one
   .exact ih h.2 u m
end
theorem Zxx(x y:BYT):(x.toList==y.toList)=decide (x=y):=by
 rw [Bool.eq_iff_iff];simp only[beq_iff_eq,decide_eq_true_eq];constructor
 .intro h;have A:x.data.toList=y.data.toList:=by rw [<-BB,<-BB];exact h
  cases x;cases y;simpa using A
 .rintro rfl;rfl
end
section
open Go.RowKit
def Uk(U:Nat->Prop)(key:Nat):Nat->Prop:=fun k=>U k\/(key<=k/\k<key+16)
theorem avU.mono{U U':Nat->Prop}(h:∀k,U k->U' k){x:AV}(A:avU U x):avU U' x:=by cases x<;>first|exact h _ A|trivial
theorem Zag.mono[NW]{U U':Nat->Prop}(h:∀k,U k->U' k){x:List AV}(A:Zag U x):Zag U' x:=fun y m=>(A y m).mono h
theorem svU.mono[NW]{U U':Nat->Prop}(h:∀k,U k->U' k){x:SV}(A:svU U x):svU U' x:=by
 cases x<;>first|exact Zag.mono h A|exact fun y m=>Zag.mono h (A y m)|exact h _ A|trivial
theorem obU.mono[NW]{U U':Nat->Prop}(h:∀k,U k->U' k){x:Ob}(A:obU U x):obU U' x:=by
 cases x<;>first|exact Zag.mono h A|trivial
def Fin[NW](P:Program)(W:Zbb)(U:Nat->Prop)(key:Nat)(st:St)(g:Gh)(w:World)(s:Sem Next)(r:SV×List (Nat×Ob)):Prop:=
 ∃g' cv w',(s.run P w=.ok (.value cv) w'\/(s.run P w=.ok .skip w'/\cv=undef))/\HI W g' (Zv st.ob r.2) w'/\SVR g' w' r.1 cv/\(∀x v,svU U x->SVR g w x v->SVR g' w' x v)/\
  svU (Uk U key) r.1/\(∀k,obU (Uk U key) (Zv st.ob r.2 k))/\∀k,¬Uk U key k->Zv st.ob r.2 k=.gone
section
variable {P:Program} {W:Zbb} {U:Nat->Prop} {key:Nat} {st:St} {g:Gh} {w:World} {a:Act} {tt:Nat->Option TI}
theorem Zbw[NW]{s:Sem Next}{v:SV}{cv:Value}(E:HI W g st.ob w)(A:StU U st)(a:s.run P w=.ok (.value cv) w)(B:SVR g w v cv)(C:svU U v):Fin P W U key st g w s (v,[]):=
 ⟨g,cv,w,.inl a,E,B,fun _ _ _ h=>h,C.mono fun _=>.inl,fun k=>(A.ob k).mono fun _=>.inl,fun k D=>A.gone k fun h=>D (.inl h)⟩
theorem X5(x:CT):svU U (.p false [.c x]):=fun y m=>by simp at m;subst m;trivial
theorem Zck[NW](k:IntKind)(n:Int):SVR g w (.p false [.c (.int k n)]) (.int k n):=⟨_,rfl,[],⟨rfl,rfl⟩,yG⟩
theorem Zbp[NW](b:Bool):SVR g w (.p false [.c (.bool b)]) (.bool b):=⟨_,rfl,[],⟨rfl,rfl⟩,yG⟩
theorem Zni[NW]{s:BYT}(h:s.size<=9223372036854775807):SVR g w (.p false [.c (.str s)]) (.string s):=⟨_,rfl,[],⟨rfl,rfl,h⟩,yG⟩
theorem Zcz[NW]{k:IntKind}{n:Int}{v:Value}(h:SVR g w (.p false [.c (.int k n)]) v):v=.int k n:=by
 obtain ⟨x,A,h⟩:=h;simp at A;subst A;obtain ⟨L,B,_⟩:=h;exact B.1
theorem ZgL[NW]{b:Bool}{v:Value}(h:SVR g w (.p false [.c (.bool b)]) v):v=.bool b:=by
 obtain ⟨x,A,h⟩:=h;simp at A;subst A;obtain ⟨L,B,_⟩:=h;exact B.1
theorem Zj0[NW]{s:BYT}{v:Value}(h:SVR g w (.p false [.c (.str s)]) v):v=.string s/\s.size<=9223372036854775807:=by
 obtain ⟨x,A,h⟩:=h;simp at A;subst A;obtain ⟨L,B,_⟩:=h;exact ⟨B.1,B.2.2⟩
theorem ZIu[NW]{t:Nat}(A:∀t i,tt t=some i->TOk P t i)(v:Value):SVR g w (cvT (tt t) v) v/\svU U (cvT (tt t) v):=by
 unfold cvT;split
 .exact ⟨Zck _ _,X5 _⟩
 .exact ⟨Zbp _,X5 _⟩
 .split
  .rename_i h;exact ⟨Zni (ZtR h),X5 _⟩
  .exact ⟨trivial,trivial⟩
 .split
  .exact ⟨⟨_,rfl,rfl⟩,fun y m=>by simp at m;subst m;trivial⟩
  .exact ⟨trivial,trivial⟩
 .exact ⟨trivial,trivial⟩
theorem ZmP[NW](A:∀t i,tt t=some i->TOk P t i)(C:∀t,SVR g w (st.sl t) (a.tmps.getD t undef))(B:StU U st)(t:Nat)(x:Operand):
  SVR g w (st.ev tt t x) (a.eval x)/\svU U (st.ev tt t x):=by
 cases x with
 |tmp s=>exact ⟨C s,B.sl s⟩
 |const v=>exact ZIu A v
 |global _=>exact ⟨trivial,trivial⟩
 |func f=>exact ⟨rfl,trivial⟩
theorem ZBF[NW]{A:BinOp}{t:Nat}{ox oy:Operand}{k C:IntKind}{n n':Int}{z:CT}(D:k=C\/A=.shl\/A=.shr)(B:ZB3 A k n n'=some z):
  ∃cv,(do eqGuard A t ox oy (.int k n) (.int C n');binOp A t (.int k n) (.int C n'):Sem Value).run P w=.ok cv w/\SVR g w (.p false [.c z]) cv:=by
 have E:(eqGuard A t ox oy (.int k n) (.int C n')).run P w=.ok () w:=by
  cases A<;>rfl
 simp only[Sem.run_bind,E,Result.andThen_ok];cases A<;>simp only[ZB3,ZDu,ZoB,orI,ZCs,Zxl,ZGQ,Zzc,Option.map_none,Ae,A0,reduceCtorEq]at B<;>(try subst B)<;>
  (try (split at B<;>simp only[A0,reduceCtorEq]at B;subst B))<;>
  simp only[reduceCtorEq,or_false,or_true]at D<;>(try subst D)<;>
  first
   |(refine ⟨_,?_,Zck _ _⟩;simp [binOp,Op.intArith,Op.intDiv,Op.intBits,Op.shift, *];done)
   |(refine ⟨_,?_,Zbp _⟩;simp [binOp,Op.intCmp];done)
set_option maxHeartbeats 1000000 in
theorem ZCh[NW]{A:BinOp}{t:Nat}{ox oy:Operand}{s s' : BYT}{z:CT}(B:ZBQ A s s' = some z) :
    ∃ cv,(do eqGuard A t ox oy (.string s) (.string s');binOp A t (.string s) (.string s'):Sem Value).run P w=.ok cv w/\SVR g w (.p false [.c z]) cv:=by
  have E:(eqGuard A t ox oy (.string s) (.string s')).run P w=.ok () w:=by
    cases A<;>rfl
  simp only[Sem.run_bind,E,Result.andThen_ok];cases A<;>simp only[ZBQ,A0,reduceCtorEq] at B<;>(try subst B) <;>
    first
      | (refine ⟨_,?_,Zbp _⟩;simp only[binOp,Op.stringOp,sLt,sEq,← Zxx];rfl)
      | (split at B
         · rename_i D
           simp only[A0] at B;subst B;refine ⟨_,?_,Zni (by rw [ByteArray.size_append];exact D)⟩;have C:¬ ((s.size+s'.size:Nat):Int) > IntKind.i64.max:=by
             have:IntKind.i64.max=9223372036854775807:=by decide
             omega
           simp only[binOp,Op.stringOp,C,if_false];rfl
         · simp at B)
theorem ZtK[NW]{B:BinOp}{t:Nat}{ox oy:Operand}{b A r:Bool}(D:P.underlying t=some .bool)(a:(B=.eql/\r=(b==A))\/(B=.neq/\r=!(b==A))):
  (do eqGuard B t ox oy (.bool b) (.bool A);binOp B t (.bool b) (.bool A):Sem Value).run P w=.ok (.bool r) w:=by
 have E:(eqGuard B t ox oy (.bool b) (.bool A)).run P w=.ok () w:=by
  cases B<;>rfl
 have C:(Op.equal t (.bool b) (.bool A)).run P w=.ok (b==A) w:=by
  have key:∀d:Nat,(Op.equalIn (d+1) t (.bool b) (.bool A)).run P w=.ok (b==A) w:=fun d=>by
   rw [Op.equalIn];simp only[Sem.run_bind,YQ D,Result.andThen_ok,Sem.run_pure]
  exact key 9999
 simp only[Sem.run_bind,E,Result.andThen_ok];rcases a with ⟨rfl,rfl⟩|⟨rfl,rfl⟩
 .simp only[binOp,Sem.run_bind,C,Result.andThen_ok,Sem.run_pure]
 .simp only[binOp,Sem.run_bind,C,Result.andThen_ok,Sem.run_pure]
theorem ZEg[NW](C:∀t i,tt t=some i->TOk P t i){F:BinOp}{t:Nat}{ox oy:Operand}{x y v:SV}{E D:Value}(h:ZBZ (tt t) F x y=some v)(I:SVR g w x E)(H:SVR g w y D):
  ∃cv,(do eqGuard F t ox oy E D;binOp F t E D:Sem Value).run P w=.ok cv w/\SVR g w v cv/\svU U v:=by
 unfold ZBZ at h;split at h
 .have ex:=Zcz I;have ey:=Zcz H;subst ex ey;split at h
  .rename_i L;obtain ⟨z,G,rfl⟩:=AA.1 h;obtain ⟨cv,B,A⟩:=ZBF (P:=P) (g:=g) (w:=w) (t:=t) (ox:=ox) (oy:=oy) L G;exact ⟨cv,B,A,X5 _⟩
  .simp at h
 .obtain ⟨ex,N⟩:=Zj0 I;obtain ⟨ey,M⟩:=Zj0 H;subst ex ey;obtain ⟨z,G,rfl⟩:=AA.1 h;obtain ⟨cv,B,A⟩:=ZCh (P:=P) (g:=g) (w:=w) (t:=t) (ox:=ox) (oy:=oy) G;exact ⟨cv,B,A,X5 _⟩
 .have ex:=ZgL I;have ey:=ZgL H;subst ex ey;split at h
  .rename_i a;simp only[A0]at h;subst h;obtain ⟨d,K,i,B,A,_⟩:=C t _ a;have J:d=.bool:=by cases d<;>simp [Zjv]at A;rfl
   subst J;exact ⟨_,ZtK B (.inl ⟨rfl,rfl⟩),Zbp _,X5 _⟩
  .rename_i a;simp only[A0]at h;subst h;obtain ⟨d,K,i,B,A,_⟩:=C t _ a;have J:d=.bool:=by cases d<;>simp [Zjv]at A;rfl
   subst J;exact ⟨_,ZtK B (.inr ⟨rfl,rfl⟩),Zbp _,X5 _⟩
  .simp at h
 .simp at h
theorem Zq8{k:PK}{d:TypeDesc}(h:ZeU k d=true):ZuU d=false:=by
 unfold ZeU at h;split at h<;>first|rfl|simp at h
theorem ZGI[NW]{k:PK}{x y:AV}{H G:Value}{b:Bool}{t:Nat}{d:TypeDesc}(h:eqC k x y=some b)(F:P.underlying t=some d)(E:ZeU k d=true)(D:AVR g w x H)(C:AVR g w y G)(n:Nat):(Op.equalIn (n+1) t H G).run P w=.ok b w:=by
 unfold eqC at h;split at h
 .split at h<;>simp only[A0,reduceCtorEq]at h
  rename_i I;subst I h;obtain ⟨_,B,_⟩:=D;obtain ⟨_,A,_⟩:=C;have e1:=B.1;have e2:=A.1;subst e1 e2;cases d<;>simp [ZeU]at E
  exact run_equalIn_int w n t _ _ _ _ F
 .simp only[A0]at h;subst h;obtain ⟨_,B,_⟩:=D;obtain ⟨_,A,_⟩:=C;have e1:=B.1;have e2:=A.1;subst e1 e2;cases d<;>simp [ZeU]at E
  rw [run_equalIn_string w n t _ _ F,sEq,Zxx]
 .simp only[A0]at h;subst h;obtain ⟨_,B,_⟩:=D;obtain ⟨_,A,_⟩:=C;have e1:=B.1;have e2:=A.1;subst e1 e2;cases d<;>simp [ZeU]at E
  exact run_equalIn_bool' w n t _ _ F
 .simp at h
theorem ZwX[NW](n:Nat){X Y:Array Value}:∀{ks:List PK}{B:List Field}{o:Nat}{xs A:List AV}{D C:List Value}{b:Bool},ZpZ ks xs A=some b->EqF P ks B o->ZW (AVR g w) xs D->ZW (AVR g w) A C->(∀j v,D[j]?=some v->X[o+j]?=some v)->(∀j v,C[j]?=some v->Y[o+j]?=some v)->(Op.eqFields (n+1) X Y B).run P w=.ok b w
 | [],[],_,[],[],_,_,b,h,_,_,_,_,_=>by simp [ZpZ]at h;subst h;simp [Op.eqFields]
 |k::ks,f::B,o,x::xs,y::A,[],_,_,_,_,hx,_,_,_=>hx.elim
 |k::ks,f::B,o,x::xs,y::A,_::_,[],_,_,_,_,hy,_,_=>hy.elim
 |k::ks,f::B,o,x::xs,y::A,u::D,v::C,b,h,hf,hx,hy,hX,hY=>by
  simp only[ZpZ]at h;obtain ⟨O,L,h⟩:=AB.1 h;obtain ⟨R,K,rfl⟩:=AA.1 h;obtain ⟨N,H,⟨d,G,F⟩,M⟩:=hf;have e1:=ZGI L G F hx.1 hy.1 n;have e2:=ZwX n K M hx.2 hy.2 (fun j v E=>by have:=hX (j+1) v (by simpa using E);rwa [show o+(j+1)=o+1+j by omega]at this) (fun j v E=>by have:=hY (j+1) v (by simpa using E);rwa [show o+(j+1)=o+1+j by omega]at this)
  have J:(part f.type X f.offset).run P w=.ok u w:=by
   have:=hX 0 u yG;simp only[part,Sem.run_bind,ZiS G,Zq8 F,Result.andThen_ok];rw [H];simp at this;simp [this]
  have I:(part f.type Y f.offset).run P w=.ok v w:=by
   have:=hY 0 v yG;simp only[part,Sem.run_bind,ZiS G,Zq8 F,Result.andThen_ok];rw [H];simp at this;simp [this]
  simp only[Op.eqFields,N,ne_eq,not_false_eq_true,if_true,Sem.run_bind,J,I,e1,Result.andThen_ok];cases O
  .simp
  .simpa using e2
 | [],_::_,_,_,_,_,_,_,_,hf,_,_,_,_=>hf.elim
 |_::_,[],_,_,_,_,_,_,_,hf,_,_,_,_=>hf.elim
 | [],[],_,_::_,_,_,_,_,h,_,_,_,_,_=>by simp [ZpZ]at h
 | [],[],_,[],_::_,_,_,_,h,_,_,_,_,_=>by simp [ZpZ]at h
 |_::_,_::_,_,[],_,_,_,_,h,_,_,_,_,_=>by simp [ZpZ]at h
 |_::_,_::_,_,_::_,[],_,_,_,h,_,_,_,_,_=>by simp [ZpZ]at h
theorem ZuM{A:BinOp}{b:Bool}{v:SV}(h:Ztd A b=some v):(A=.eql/\v=.p false [.c (.bool b)])\/(A=.neq/\v=.p false [.c (.bool (!b))]):=by
 unfold Ztd at h;split at h<;>simp only[A0,reduceCtorEq]at h<;>subst h
 .exact .inl ⟨rfl,rfl⟩
 .exact .inr ⟨rfl,rfl⟩
theorem ZGi[NW](D:∀t i,tt t=some i->TOk P t i){A:BinOp}{t:Nat}{ox oy:Operand}{x y v:SV}{C B:Value}(h:ZBV (tt (t+4000)) A x y=some v)(J:SVR g w x C)(I:SVR g w y B):
  ∃cv,(do eqGuard A t ox oy C B;binOp A t C B:Sem Value).run P w=.ok cv w/\SVR g w v cv/\svU U v:=by
 unfold ZBV at h;split at h
 .obtain ⟨ks,a,N⟩:=AB.1 h;obtain ⟨b,K,d⟩:=AB.1 N;have c:tt (t+4000)=some (.eqs ks):=by
   unfold ZA2 at a;split at a<;>simp only[A0,reduceCtorEq]at a
   rename_i c;rw [c,a]
  obtain ⟨u,e,H,G,M,L⟩:=D _ _ c;have e:t=u:=Nat.add_right_cancel e;subst e;obtain ⟨F,rfl,f⟩:=J;obtain ⟨vs,rfl,k⟩:=I;have hq:=ZwX (X:=F.toArray) (Y:=vs.toArray) 9998 K L f k (fun j v E=>by simpa using E) (fun j v E=>by simpa using E);have hg:=run_eqGuard_agg (P:=P) w A t ox oy F.toArray vs.toArray M;rcases ZuM d with ⟨rfl,rfl⟩|⟨rfl,rfl⟩
  .refine ⟨_,?_,Zbp b,X5 _⟩;simp only[Sem.run_bind,hg,Result.andThen_ok,run_eql_struct,run_equalIn_struct w 9999 t _ _ H G,hq]
  .refine ⟨_,?_,Zbp (!b),X5 _⟩;simp only[Sem.run_bind,hg,Result.andThen_ok,run_neq_struct,run_equalIn_struct w 9999 t _ _ H G,hq]
 .simp at h
theorem ZFB[NW]{b:Bool}{v:Value}(h:SVR g w (.p false [.c (.ifc b)]) v):(b=true/\v=.nilIface)\/(b=false/\∃t x,v=.iface t x):=by
 obtain ⟨x,A,h⟩:=h;simp at A;subst A;obtain ⟨L,B,_⟩:=h;have h2:=B.2.2;cases b with
 |true=>exact .inl ⟨rfl,h2⟩
 |false=>exact .inr ⟨rfl,h2⟩
theorem ZBR[NW](A:∀t i,tt t=some i->TOk P t i){B:BinOp}{t:Nat}{ox oy:Operand}{x y v:SV}{C:Value}(h:ZzV tt t (ZlU oy) B x y=some v)(F:SVR g w x C)(G:SVR g w y (a.eval oy)):
  ∃cv,(do eqGuard B t ox oy C (a.eval oy);binOp B t C (a.eval oy):Sem Value).run P w=.ok cv w/\SVR g w v cv/\svU U v:=by
 unfold ZzV at h;split at h
 .rename_i H;have K:oy=.const .nilIface:=by
   cases oy with
   |const c=>cases c<;>first|rfl|(simp [ZlU,ZvS]at H;done)
   |_=>simp [ZlU]at H
  subst K;split at h
  rotate_left
  .simp at h
  rename_i d;have j:tt t=some .ifc:=by
   unfold ZBB at d;split at d
   .assumption
   .simp at d
  obtain ⟨M,e⟩:=A _ _ j;unfold ZFe at h;split at h
  .rename_i b;have hb:=ZFB F;have k:a.eval (.const .nilIface)=.nilIface:=rfl;rw [k];have L:∀v:Value,(v=.nilIface\/∃t x,v=.iface t x)->(eqGuard B t ox (.const .nilIface) v .nilIface).run P w=.ok () w:=fun v J=>by
    rcases J with rfl|⟨E,D,rfl⟩
    .simp only[eqGuard];cases ox<;>cases B<;>rfl
    .simp only[eqGuard];cases B<;>rfl
   have I:(Op.equal t C .nilIface).run P w=.ok b w:=by
    show (Op.equalIn (9999+1) t _ _).run P w=_
    rw [Op.equalIn];rcases hb with ⟨rfl,rfl⟩|⟨rfl,E,D,rfl⟩
    .simp only[Sem.run_bind,YQ e,Result.andThen_ok,Sem.run_pure]
    .simp only[Sem.run_bind,YQ e,Result.andThen_ok,Sem.run_pure]
   have f:=L C (hb.imp (fun h=>h.2) (fun h=>h.2));rcases ZuM h with ⟨rfl,rfl⟩|⟨rfl,rfl⟩
   .refine ⟨_,?_,Zbp b,X5 _⟩;simp only[Sem.run_bind,f,Result.andThen_ok];rcases hb with ⟨rfl,rfl⟩|⟨rfl,E,D,rfl⟩<;>simp only[binOp,Sem.run_bind,I,Result.andThen_ok,Sem.run_pure]
   .refine ⟨_,?_,Zbp (!b),X5 _⟩;simp only[Sem.run_bind,f,Result.andThen_ok];rcases hb with ⟨rfl,rfl⟩|⟨rfl,E,D,rfl⟩<;>simp only[binOp,Sem.run_bind,I,Result.andThen_ok,Sem.run_pure]
  .simp at h
 .split at h
  .exact ZGi A h F G
  .exact ZEg A h F G
theorem ZID[NW]{B:UnOp}{x v:SV}{A:Value}(h:unV B x=some v)(C:SVR g w x A):∃cv,(Op.unary B A).run P w=.ok cv w/\SVR g w v cv/\svU U v:=by
 unfold unV at h;split at h
 .have ex:=ZgL C;subst ex;split at h<;>simp at h
  subst h;exact ⟨_,by simp [Op.unary],Zbp _,X5 _⟩
 .have ex:=Zcz C;subst ex;split at h<;>simp at h
  subst h;exact ⟨_,by simp [Op.unary,Op.intArith],Zck _ _,X5 _⟩
 .simp at h
end
end
section
open Go.RowKit
section
variable {P:Program} {W:Zbb} {U:Nat->Prop} {key:Nat} {st:St} {g:Gh} {w:World} {a:Act} {tt:Nat->Option TI}
theorem ZEL{t:Nat}{z:AV}(A:∀t i,tt t=some i->TOk P t i)(h:tt t=some (.atom z)):∃d,P.underlying t=some d:=by
 obtain ⟨d,_,_,h,_⟩:=A t _ h;exact ⟨d,h⟩
theorem ZtO{t:Nat}(A:∀t i,tt t=some i->TOk P t i)(h:Zcs (tt t)=true):∃e,P.underlying t=some (.slice e):=by
 unfold Zcs at h;split at h
 .rename_i B;exact ⟨_,(A t _ B).1⟩
 .simp at h
theorem ZiP{t:Nat}(A:∀t i,tt t=some i->TOk P t i)(h:Zdu (tt t)=true):P.underlying t=some .string:=by
 unfold Zdu at h;split at h
 .rename_i E;obtain ⟨d,F,i,B,D,_⟩:=A t _ E;have C:d=.string:=by cases d<;>simp [Zjv]at D;rfl
  rw [C]at B;exact B
 .simp at h
theorem ZCx[NW](A:∀t i,tt t=some i->TOk P t i){s t:Nat}{x v:SV}{C:Value}(h:Zuy (tt s) (tt t) x=some v)(D:SVR g w x C):∃cv,(convert s t C).run P w=.ok cv w/\SVR g w v cv/\svU U v:=by
 unfold Zuy at h;split at h
 .have ex:=Zcz D;subst ex;split at h
  .rename_i H G;simp only[A0]at h;subst h;obtain ⟨d,I,i,F,B,_⟩:=A t _ G;have E:∃k,d=.int k:=by cases d<;>simp [Zjv]at B;exact ⟨_,rfl⟩
   obtain ⟨k,rfl⟩:=E;simp only[Zjv,beq_iff_eq]at B;subst B;obtain ⟨ds,hs⟩:=ZEL A H;refine ⟨_,?_,Zck _ _,X5 _⟩;simp [convert,YQ hs,YQ F,Conv.intToInt]
  .simp at h
 .simp at h
theorem Ziu[NW]{e m:Nat}{xs:List (List CT)}{v:Value}(h:SVR g w (.p false [.c (.sl e m xs)]) v):∃A cap cs L0 L1,v=.slice A xs.length cap/\xs.length<=cap/\cap<=maxLen/\0<m/\Sl w m A xs.length cs L0/\REs w m xs cs L1/\(∀b∈L0++L1,¬g.own b):=by
 obtain ⟨x,B,h⟩:=h;simp at B;subst B;obtain ⟨L,⟨A,cap,cs,L0,L1,J,I,H,G,F,E,D⟩,C⟩:=h;exact ⟨A,cap,cs,L0,L1,J,I,H,F,E,D,fun b m=>C b (G ▸ m)⟩
theorem Zg8[NW]{k:Nat}{v:Value}(h:SVR g w (.p false [.row k]) v):v=g.val k:=by
 obtain ⟨x,A,h⟩:=h;simp at A;subst A;exact h.1
theorem ZwW[NW]{e m:Nat}{v:Value}(h:SVR g w (.p false [.nil e m]) v):v=.slice none 0 0:=by
 obtain ⟨x,A,h⟩:=h;simp at A;subst A;exact h
theorem ZbG{B e m n:Nat}{v:Value}{cs:List Value}(h:w.ownsV B e m v n cs):∃A cap,v=.slice A n cap:=by
 obtain ⟨A,c,C,_⟩:=YH h;exact ⟨A,c,C⟩
theorem ZHM[NW]{x:CT}{v:Value}(h:SVR g w (.p false [.n x]) v):NR g w x v:=by
 obtain ⟨y,A,h⟩:=h;simp at A;subst A;exact h
theorem ZGn[NW](C:∀t i,tt t=some i->TOk P t i)(H:HI W g st.ob w){t:Nat}{ts:Array TypeId}{ty:TypeId}(a:ts[0]?=some t){x v:SV}{E:Value}(h:ZpB st (tt t) x=some v)(B:SVR g w x E):
  ∃cv,(Builtin.len_ ts ty #[E]).run P w=.ok cv w/\SVR g w v cv/\svU U v:=by
 have fin:∀(A:Option Addr) (n c:Nat),Zcs (tt t)=true->(Builtin.len_ ts ty #[.slice A n c]).run P w=.ok (.int .i64 n) w:=fun A n c hs=>by
  obtain ⟨e,G⟩:=ZtO C hs;simp [Builtin.len_,a,YQ G,goInt]
 unfold ZpB at h;split at h
 .split at h<;>simp at h
  rename_i hs;subst h;obtain ⟨A,cap,_,_,_,rfl,_⟩:=Ziu B;exact ⟨_,fin _ _ _ hs,Zck _ _,X5 _⟩
 .split at h<;>simp at h
  rename_i hs;subst h;obtain ⟨_,_,_,_,_,D,_,I,_⟩:=ZHM B;simp only[CT.sl.injEq]at D;obtain ⟨_,_,rfl⟩:=D;obtain ⟨A,cap,rfl⟩:=ZbG I;exact ⟨_,fin _ _ _ hs,Zck _ _,X5 _⟩
 .split at h<;>simp at h
  rename_i hs;subst h;obtain ⟨rfl,_⟩:=Zj0 B;refine ⟨_,?_,Zck _ _,X5 _⟩;simp [Builtin.len_,a,YQ (ZiP C hs),goInt]
 .split at h<;>simp at h
  rename_i hs;subst h;have:=ZwW B;subst this;exact ⟨_,fin _ _ _ hs,Zck _ _,X5 _⟩
 .split at h
  .rename_i k _ e m xs d F;split at h<;>simp at h
   rename_i hs;subst h;have hv:=Zg8 B;subst hv;have ho:=H.obs k;rw [F]at ho;obtain ⟨_,cs,L,D,_⟩:=ho;obtain ⟨A,cap,hv⟩:=ZbG D;rw [hv];exact ⟨_,fin _ _ _ hs,Zck _ _,X5 _⟩
  .simp at h
 .simp at h
theorem ZoR{f:Value->BYT->Sem (ForInStep BYT)}(A:∀n s,f (.int .u8 n) s=pure (ForInStep.yield (s.push (Aw n.toNat)))):∀(l:List Int) (s:BYT),(forIn (l.map fun n=>Value.int .u8 n) s f).run P w=.ok ⟨s.data++(l.map fun n=>Aw n.toNat).toArray⟩ w
 | [],s=>by simp
 |n::l,s=>by
  have ih:=ZoR A l (s.push (Aw n.toNat));simp only[Ah,List.forIn_cons,A,Sem.run_bind,Sem.run_pure,Result.andThen_ok,ih];congr 2
  apply Array.ext';simp [ByteArray.push]
theorem Zx8[NW]{b o cap:Nat}(l:List Int)(B:∀j u,(l.map fun n=>Value.int .u8 n)[j]?=some u->w.cell? ⟨b,o+j,none⟩=some u):(Conv.bytesToString (.slice (some ⟨b,o,none⟩) l.length cap)).run P w=.ok (.string (Xz l)) w:=by
 have h1:=run_loadCells_list (P:=P) w ⟨b,o,none⟩ (l.map fun n=>Value.int .u8 n) (fun j u A=>by rw [Zcl];exact B j u A);rw [List.length_map]at h1;unfold Conv.bytesToString;simp only[Sem.run_bind,h1,Result.andThen_ok,<-Array.forIn_toList];rw [ZoR (fun _ _=>rfl)];simp [Xz,ByteArray.empty,ByteArray.emptyWithCapacity];rfl
theorem ZnX{m:Nat}:∀{xs:List (List CT)}{l:List Int}{cs:List Value}{L:List Nat},ZfW xs=some l->REs w m xs cs L->cs=l.map (fun n=>Value.int .u8 n)/\xs.length=l.length
 | [],_,_,_,h,⟨h1,_⟩=>by simp [ZfW]at h;subst h h1;simp
 |x::r,l,_,_,h,⟨c1,c2,L1,L2,rfl,rfl,h3,h4⟩=>by
  unfold ZfW at h;split at h
  .rename_i A;simp at A
  .rename_i n H A;simp only[AX]at A;obtain ⟨rfl,rfl⟩:=A;obtain ⟨I,D,rfl⟩:=AA.1 h;obtain ⟨C,B⟩:=ZnX D h4;obtain ⟨v,E,_,_,rfl,rfl,G,F⟩:=h3.1;obtain ⟨rfl,_⟩:=F;rw [G.1,C];exact ⟨rfl,by simp [B]⟩
  .simp at h
theorem Zte(l:List Int):(Xz l).size=l.length:=by simp [Xz,ByteArray.size]
theorem ZBm[NW](E:∀t i,tt t=some i->TOk P t i)(hI:HI W g st.ob w){s t:Nat}{x v:SV}{N:Value}(y:Zdu (tt t)=true)(f:ZnO (ZsW tt (tt s))=true)(h:ZjB st x=some v)(O:SVR g w x N):∃cv,(convert s t N).run P w=.ok cv w/\SVR g w v cv/\svU U v:=by
 have ht:=ZiP E y;have hs:∃e,P.underlying s=some (.slice e)/\P.underlying e=some (.int .u8):=by
  unfold ZsW at f;split at f
  .rename_i e m b z B;have h1:=(E _ _ B).1;unfold ZnO at f;split at f
   .rename_i C;obtain ⟨d,zv,i,G,D,_⟩:=E _ _ C;cases d<;>simp [Zjv]at D
    subst D;exact ⟨e,h1,G⟩
   .simp at f
  .simp [ZnO]at f
 obtain ⟨e,hs,he⟩:=hs;have go:∀A n c,(convert s t (.slice A n c)).run P w=(Conv.bytesToString (.slice A n c)).run P w:=fun A n c=>by
  unfold convert;simp only[Sem.run_bind,YQ hs,YQ ht,YQ he,Result.andThen_ok]
 have fin:∀(A:Option Addr) (n cap:Nat) (cs:List Value) (L:List Nat) (xs:List (List CT)) (l:List Int) (m:Nat),n=xs.length->0<m->ZfW xs=some l->REs w m xs cs L->n<=9223372036854775807->(n=0\/∃b o,A=some ⟨b,o,none⟩/\ZbE w b o cs)->∃cv,(convert s t (.slice A n cap)).run P w=.ok cv w/\SVR g w (.p false [.c (.str (Xz l))]) cv/\svU U (.p false [.c (.str (Xz l))]):=by
  intro A n cap cs L xs l m hn I F hR aa hA;obtain ⟨i1,V⟩:=ZnX F hR;have q:(Xz l).size<=9223372036854775807:=by rw [Zte];omega
  refine ⟨.string (Xz l),?_,Zni q,X5 _⟩;rw [go];rcases hA with H|⟨b,o,rfl,K⟩
  .have:l=[]:=AY yE;subst this;cases A with
   |none=>rfl
   |some a=>
    have h1:=run_loadCells_list (P:=P) w a [] yG;rw [H];unfold Conv.bytesToString;simp only[List.length_nil]at h1;simp only[Sem.run_bind,h1,Result.andThen_ok];rfl
  .rw [hn,V];exact Zx8 l fun j u J=>K j u (by rw [i1];exact J)
 unfold ZjB at h;split at h
 .split at h
  .rename_i k _ e' m xs d hk;obtain ⟨l,F,rfl⟩:=AA.1 h;have hv:=Zg8 O;have ho:=hI.obs k;rw [hk]at ho;obtain ⟨I,cs,L,h1,G,_⟩:=ho;rw [hv];rcases h1.2 with ⟨D,h4⟩|⟨b,o,cap,ac,D,h4,T,S,M,R,h9⟩
   .rw [D];exact fin _ _ _ cs L xs l m yE I F G yE (.inl rfl)
   .rw [D];refine fin _ _ _ cs L xs l m rfl I F G (by unfold maxLen at M;omega) (.inr ⟨b,o,rfl,fun j u J=>?_⟩);exact Zah h1 D j u J
  .simp at h
 .obtain ⟨l,F,rfl⟩:=AA.1 h;obtain ⟨A,cap,cs,L0,L1,rfl,G,D,T,S,M,_⟩:=Ziu O;rename_i e' m' xs _;refine fin _ _ _ cs L1 xs l _ rfl T F M (by unfold maxLen at D;omega) ?_;rcases Nat.eq_zero_or_pos xs.length with H|H
  .exact .inl H
  .obtain ⟨b,off,R,h9,K⟩:=S.at_ H;exact .inr ⟨b,off,R,K⟩
 .simp at h
theorem ZAp[NW](A:∀t i,tt t=some i->TOk P t i)(E:HI W g st.ob w){s t:Nat}{x v:SV}{C:Value}(h:ZhW tt st s t x=some v)(D:SVR g w x C):∃cv,(convert s t C).run P w=.ok cv w/\SVR g w v cv/\svU U v:=by
 unfold ZhW at h;split at h
 .rename_i B;simp only[AP]at B;exact ZBm A E B.1 B.2 h D
 .exact ZCx A h D
theorem RCs.avr[NW]{e:List CT}{cs:List Value}{L:List Nat}:RCs w e cs L->(∀b∈L,¬g.own b)->ZW (AVR g w) (e.map .c) cs:=by
 induction e generalizing cs L with
 |nil=>intro h _;obtain ⟨rfl,rfl⟩:=h;trivial
 |cons x r ih=>
  rintro ⟨v,D,L1,L2,rfl,rfl,C,B⟩ A;exact ⟨⟨L1,C,fun b m=>A b (by simp [m])⟩,ih B fun b m=>A b (by simp [m])⟩
theorem Zpl(a:Bool)(e:List CT):Zag U (e.map AV.c):=fun y m=>by
 obtain ⟨x,_,rfl⟩:=AQ.1 m;trivial
theorem Zsi[NW](A:∀t i,tt t=some i->TOk P t i){t b F off:Nat}{cs:List AV}{vs:List Value}{v:SV}(h:cut (tt t) cs off=some v)(K:ZbE w b F vs)(H:ZW (AVR g w) cs vs)(J:Zag U cs):
  ∃cv,(Instr.loadAt t (.pointer (some ⟨b,F+off,none⟩))).run P w=.ok cv w/\SVR g w v cv/\svU U v:=by
 have hlen:=H.len;have B:∀d,P.underlying t=some d->ZuU d=false->∀x,cs[off]?=some x->∃cv,(Instr.loadAt t (.pointer (some ⟨b,F+off,none⟩))).run P w=.ok cv w/\SVR g w (.p false [x]) cv/\svU U (.p false [x]):=fun d M ha x D=>by
  obtain ⟨u,C,E⟩:=H.at D;refine ⟨u,?_,⟨x,rfl,E⟩,fun y m=>by simp at m;subst m;exact J y (Ax D)⟩;simp [Instr.loadAt,Instr.sureAddr,loadVar,ZiS M,ha,load,Sem.run,K off u C]
 unfold cut at h;split at h
 .rename_i N n z f;split at h<;>simp at h
  rename_i T;subst h;obtain ⟨G,i,zvs,C,E,V,_⟩:=A t _ f;refine ⟨.agg ((vs.drop off).take n).toArray,?_,⟨_,rfl,(H.drop off).take n⟩,fun y m=>J y (Ay (Az m))⟩;have L:((vs.drop off).take n).length=i.size:=by simp;omega
  have a:=run_loadCells_list (P:=P) w ⟨b,F+off,none⟩ ((vs.drop off).take n) (fun j u I=>by
   rw [Zcl,AJ];refine K _ u ?_;have k:j<n:=by
    have:=(AZ.1 I).1;simp at this;omega
   rw [BC,yp k,BD]at I;exact I)
  rw [L]at a;simp [Instr.loadAt,Instr.sureAddr,loadVar,ZiS C,ZuU,Qc E,a]
 .simp at h
 .rename_i i f l c;obtain ⟨x,D,rfl⟩:=AA.1 h;cases i with
  |atom z=>obtain ⟨d,O,i,C,E,_⟩:=A t _ c;exact B d C (ZA0 E) x D
  |strct N n z=>exact absurd rfl (f _ _ _)
  |slice e m b z=>exact B _ (A t _ c).1 rfl x D
  |map kk vk=>
   obtain ⟨S,W,_,_,_,_,C,_⟩:=A t _ c;exact B _ C rfl x D
  |ifc=>obtain ⟨R,C⟩:=A t _ c;exact B _ C rfl x D
  |eqs ks=>exact absurd rfl (l _)
 .simp at h
end
end
section
open Go.RowKit
section
variable {P:Program} {W:Zbb} {U:Nat->Prop} {key:Nat} {st:St} {g:Gh} {w:World} {a:Act} {tt:Nat->Option TI}
theorem HI.deep[NW]{ob:Nat->Ob}{k e m:Nat}{xs:List (List CT)}{d:Nat}(C:HI W g ob w)(M:ob k=.row e m xs d):0<m/\∃cs L,w.ownsV 0 e m (g.val k) xs.length cs/\REs w m xs cs L/\(∀b∈L,¬g.own b)/\((d=2/\g.O k=(g.val k).ownBlock.toList/\g.D k=L)\/(d=1/\g.O k=(g.val k).ownBlock.toList/\g.D k=[])\/(d=0/\g.O k=[]/\g.D k=[]/\∀b∈(g.val k).ownBlock.toList,¬g.own b)):=by
 have ho:=C.obs k;rw [M]at ho;obtain ⟨K,cs,L,P,N,A⟩:=ho;refine ⟨K,cs,L,P,N,?_,?_⟩
 .rcases A with ⟨_,_,A⟩|⟨_,_,_,A⟩|⟨_,_,_,A⟩
  .rintro b B (⟨j,H⟩|J)
   .by_cases a:j=k
    .subst a;have:=C.nodup j;rw [AL]at this;exact this.2.2 b H b (A ▸ B) rfl
    .exact C.apart j k a b (by simp [H]) (by simp [A,B])
   .exact C.nz (k:=k) (by simp [A,B]) J
  .exact A
  .exact fun b B=>A b (by simp [B])
 .rcases A with A|⟨G,F,E,_⟩|⟨G,F,E,I⟩
  .exact .inl A
  .exact .inr (.inl ⟨G,F,E⟩)
  .exact .inr (.inr ⟨G,F,E,fun b B=>I b (by simp [B])⟩)
theorem HI.deepO[NW]{ob:Nat->Ob}{k e m:Nat}{xs:List (List CT)}{d:Nat}(H:HI W g ob w)(F:ob k=.row e m xs d)(G:¬d=0):0<m/\∃cs L,w.ownsV 0 e m (g.val k) xs.length cs/\REs w m xs cs L/\(∀b∈L,¬g.own b)/\g.O k=(g.val k).ownBlock.toList/\((d=2/\g.D k=L)\/(d=1/\g.D k=[])):=by
 obtain ⟨E,cs,L,M,K,J,I⟩:=H.deep F;refine ⟨E,cs,L,M,K,J,?_⟩;rcases I with ⟨A,C,B⟩|⟨A,C,B⟩|⟨A,_⟩
 .exact ⟨C,.inl ⟨A,B⟩⟩
 .exact ⟨C,.inr ⟨A,B⟩⟩
 .exact absurd A G
theorem REs.at{m:Nat}:∀{xs:List (List CT)}{cs:List Value}{L:List Nat}{i:Nat}{e:List CT},REs w m xs cs L->xs[i]?=some e->
  ∃c L',RCs w e c L'/\c.length=m/\(∀b∈L',b∈L)/\∀j u,c[j]?=some u->cs[i*m+j]?=some u
 | [],_,_,_,_,_,h=>by simp at h
 |x::r,_,_,0,e,⟨c1,c2,L1,L2,rfl,rfl,h3,h4⟩,h=>by
  simp at h;subst h;exact ⟨c1,L1,h3.1,h3.2,fun b B=>by simp [B],fun j u A=>by
   rw [Nat.zero_mul,Aa,List.getElem?_append_left (AZ.1 A).1];exact A⟩
 |x::r,_,_,i+1,e,⟨c1,c2,L1,L2,rfl,rfl,h3,h4⟩,h=>by
  obtain ⟨c,L',F,E,D,C⟩:=REs.at h4 (i:=i) (e:=e) (by simpa using h);refine ⟨c,L',F,E,fun b B=>by simp [D b B],fun j u A=>?_⟩;have hl:=h3.2;rw [List.getElem?_append_right (by rw [AH];omega)];rw [<-C j u A];congr 1
  rw [hl,AH];omega
theorem REs.len{m:Nat}:∀{xs:List (List CT)}{cs:List Value}{L:List Nat},REs w m xs cs L->cs.length=xs.length*m
 | [],_,_,h=>by simp [h.1]
 |x::r,_,_,⟨c1,c2,L1,L2,rfl,rfl,h3,h4⟩=>by simp [h3.2,REs.len h4,AH];omega
theorem ZFm[NW](G:∀t i,tt t=some i->TOk P t i)(hI:HI W g st.ob w)(hU:StU U st){t e m a:Nat}{z:List AV}(p:tt t=some (.slice e m a z)){x i v:SV}{J vi:Value}(h:Zcy st m x i=some v)(K:SVR g w x J)(B:svU U x)(hi:SVR g w i vi):
  ∃cv,(Instr.indexAt t J vi).run P w=.ok cv w/\SVR g w v cv/\svU U v:=by
 obtain ⟨R,hm,_,⟨ie,zv,C,D,_⟩,_⟩:=G t _ p;have f:∀(b o n c:Nat) (k:IntKind) (q:Int),0<=q->q<n->(Instr.indexAt t (.slice (some ⟨b,o,none⟩) n c) (.int k q)).run P w=.ok (.pointer (some ⟨b,o+q.toNat*m,none⟩)) w:=fun b o n c k q E I=>by
  simp [Instr.indexAt,asIntOf,YQ R,E,I,Qc C,D,Zcl]
 unfold Zcy at h;split at h
 .have ei:=Zcz hi;subst ei;split at h
  .rename_i H;obtain ⟨x,l,rfl⟩:=AA.1 h;obtain ⟨A,cap,cs,L0,L1,rfl,h2,h3,h5,N,h7,M⟩:=Ziu K;obtain ⟨E,rfl⟩:=H;have hlt:=(AZ.1 l).1;obtain ⟨b,off,rfl,rfl,V⟩:=N.at_ yE;obtain ⟨c,L',a1,a2,a3,a4⟩:=h7.at l;refine ⟨_,f b off _ _ _ _ E yE,⟨b,off+_,c,L',by rw [Nat.add_zero],fun j u T=>?_,a1,fun y F=>?_,?_⟩,trivial⟩
   .rw [AJ];exact V _ u (a4 j u T)
   .rcases AE.1 F with rfl|F
    .exact M _ yG
    .exact M _ (by simp [a3 y F])
   .exact N.lt h5 b yG
  .simp at h
 .rename_i k _ _;have ei:=Zcz hi;subst ei;split at h
  .rename_i e' m' xs d S;split at h
   .rename_i H;obtain ⟨E,I,rfl⟩:=H;simp only[A0]at h;subst h;have hv:=Zg8 K;subst hv;obtain ⟨_,cs,L,O,_⟩:=hI.deep S;rcases O.2 with ⟨_,hn⟩|⟨b,o,cap,aa,hv,_⟩
    .omega
    .refine ⟨_,by rw [hv];exact f b o _ _ _ _ E I,⟨b,o,_,_,hv,yG⟩,by have:=B (.row k) yG;exact this⟩
   .simp at h
  .simp at h
 .simp at h
theorem ZCe[NW](A:∀t i,tt t=some i->TOk P t i){t:Nat}{x i v:SV}{B vi:Value}(h:Zpb (tt t) x i=some v)(D:SVR g w x B)(hi:SVR g w i vi):
  ∃cv,(Instr.index t B vi).run P w=.ok cv w/\SVR g w v cv/\svU U v:=by
 unfold Zpb at h;split at h
 .have ei:=Zcz hi;subst ei;obtain ⟨rfl,_⟩:=Zj0 D;split at h
  .rename_i C;obtain ⟨b,E,rfl⟩:=AA.1 h;refine ⟨_,?_,Zck _ _,X5 _⟩;simp [Instr.index,asIntOf,YQ (ZiP A C.2),C.1,E]
  .simp at h
 .simp at h
theorem ZxI[NW]{e:List CT}{v:Value}(h:SVR g w (.p false [.c (.pt e)]) v):∃b cs L,v=.pointer (some ⟨b,0,none⟩)/\b<w.heap.size/\ZbE w b 0 cs/\RCs w e cs L/\∀x∈b::L,¬g.own x:=by
 obtain ⟨x,A,h⟩:=h;simp at A;subst A;obtain ⟨_,⟨b,cs,L,F,E,rfl,D,C⟩,B⟩:=h;exact ⟨b,cs,L,F,E,D,C,B⟩
theorem Zxd[NW](A:∀t i,tt t=some i->TOk P t i)(R:HI W g st.ob w)(hU:StU U st){t:Nat}{x v:SV}{M:Value}(h:Zat st (tt t) x=some v)(C:SVR g w x M):
  ∃cv,(Instr.loadAt t M).run P w=.ok cv w/\SVR g w v cv/\svU U v:=by
 unfold Zat at h;split at h
 .rename_i k off;split at h
  .rename_i tb cs D;obtain ⟨b,E,rfl⟩:=C;have ho:=R.obs k;rw [D]at ho;obtain ⟨b',vs,F,O,N,o4,V⟩:=ho;have hb:b=b':=by rw [F]at E;simpa using E.symm
   subst hb;have hu:=hU.ob k;rw [D]at hu;have H:ZbE w b 0 vs:=fun j u G=>by
    rw [Aa,cell_of_row w b j vs.toArray tb (0,0) o4];simpa using G
   have:=Zsi (P:=P) A h H V hu;simpa using this
  .simp at h
 .rename_i k m i off;split at h
  .rename_i e m' xs d D;obtain ⟨x,a,K⟩:=AB.1 h;obtain ⟨b,o,n,c,E,rfl⟩:=C;obtain ⟨hm,cs,L,F,O,N,_⟩:=R.deep D;split at K
   .rename_i f;subst f;obtain ⟨c',L',a1,a2,a3,a4⟩:=O.at a;have H:ZbE w b (o+i*m) c':=fun j u G=>by
     rw [AJ];exact Zah F E (i*m+j) u (a4 j u G)
    rw [<-AJ];exact Zsi A K H (a1.avr fun y B=>N y (a3 y B)) (Zpl true _)
   .simp at K
  .simp at h
 .obtain ⟨b,lo,cs,L,rfl,T,J,I,S⟩:=C;exact Zsi A h T (J.avr fun y B=>I y (by simp [B])) (Zpl true _)
 .obtain ⟨b,cs,L,rfl,T,J,I,S⟩:=ZxI C;have:=Zsi (P:=P) (U:=U) A h J (I.avr fun y B=>S y (by simp [B])) (Zpl true _);simpa using this
 .simp at h
theorem ZGf[NW]{d:Nat}{x v:SV}{C:Value}(h:ZlW d x=some v)(A:SVR g w x C)(D:svU U x):∃b o,C=.pointer (some ⟨b,o,none⟩)/\SVR g w v (.pointer (some ⟨b,o+d,none⟩))/\svU U v:=by
 unfold ZlW at h;split at h<;>simp at h<;>subst h
 .obtain ⟨b,B,rfl⟩:=A;exact ⟨b,_,rfl,⟨b,B,rfl⟩,D⟩
 .obtain ⟨b,o,n,c,B,rfl⟩:=A;exact ⟨b,_,rfl,⟨b,o,n,c,B,by simp only[AJ]⟩,D⟩
 .obtain ⟨b,E,cs,L,rfl,h⟩:=A;exact ⟨b,_,rfl,⟨b,E,cs,L,by rw [AJ],h⟩,trivial⟩
 .obtain ⟨b,cs,L,rfl,I,H,G,F⟩:=ZxI A;exact ⟨b,0,rfl,⟨b,0,cs,L,rfl,H,G,F,I⟩,trivial⟩
theorem ZDX[NW](A:∀t i,tt t=some i->TOk P t i){t f n:Nat}{C:List FI}{z:List AV}(c:tt t=some (.strct C n z)){D:FI}(G:C[f]?=some D){x v:SV}{B:Value}(h:ZlW D.off x=some v)(E:SVR g w x B)(F:svU U x):
  ∃cv,(Instr.fieldAt t B f).run P w=.ok cv w/\SVR g w v cv/\svU U v:=by
 obtain ⟨b,o,rfl,I,H⟩:=ZGf h E F;obtain ⟨a,i,zvs,u1,_,_,_,_,u2⟩:=A t _ c;obtain ⟨fl,N,M,L,j,d,K,J,_⟩:=u2.at G;have e:a[f]?=some fl:=by simpa using N
 refine ⟨_,?_,I,H⟩;simp [Instr.fieldAt,YQ u1,e,Instr.sureAddr,fieldPlace,Qc K,J,L,Zcl,M]
theorem ZEb[NW](A:∀t i,tt t=some i->TOk P t i){t f n:Nat}{G:List FI}{z:List AV}(c:tt t=some (.strct G n z)){x v:SV}{C:Value}(h:ZnM G f x=some v)(L:SVR g w x C)(F:svU U x):
  ∃cv,(Instr.field t C f).run P w=.ok cv w/\SVR g w v cv/\svU U v:=by
 unfold ZnM at h;split at h
 .rename_i cs;obtain ⟨H,M,h⟩:=AB.1 h;obtain ⟨vs,rfl,B⟩:=L;obtain ⟨a,i,zvs,u1,_,_,_,_,u2⟩:=A t _ c;obtain ⟨fl,R,K,W,j,d,O,N,J,I⟩:=u2.at M;have b:a[f]?=some fl:=by simpa using R
  have hlen:=B.len;split at h
  .rename_i ha;split at h<;>simp at h
   rename_i V;subst h;refine ⟨.agg ((vs.drop H.off).take H.size).toArray,?_,⟨_,rfl,(B.drop _).take _⟩,fun y m=>F y (Ay (Az m))⟩;simp [Instr.field,YQ u1,b,asAgg,part,ZiS J,I,ha,Qc O,N,K]
  .rename_i ha;obtain ⟨y,E,rfl⟩:=AA.1 h;obtain ⟨u,T,S⟩:=B.at E;refine ⟨u,?_,⟨y,rfl,S⟩,fun z D=>by simp at D;subst D;exact F z (Ax E)⟩;simp [Instr.field,YQ u1,b,asAgg,part,ZiS J,I,ha,K,T]
 .simp at h
theorem ZCL[NW]{c:Bool}{x y:SV}{C B A:Value}(F:SVR g w (.p false [.c (.bool c)]) C)(E:SVR g w x B/\svU U x)(D:SVR g w y A/\svU U y):
  ∃cv,(do pure (Next.value (if <-asBool C then B else A)):Sem Next).run P w=.ok (.value cv) w/\SVR g w (if c=true then x else y) cv/\svU U (if c=true then x else y):=by
 have:=ZgL F;subst this;cases c
 .exact ⟨A,by simp [asBool],by simpa using D.1,by simpa using D.2⟩
 .exact ⟨B,by simp [asBool],by simpa using E.1,by simpa using E.2⟩
theorem ZD4[NW]{i:Nat}{x v:SV}{A:Value}(h:ZzC i x=some v)(C:SVR g w x A)(D:svU U x):∃cv,(Instr.extract A i).run P w=.ok cv w/\SVR g w v cv/\svU U v:=by
 unfold ZzC at h;split at h
 .obtain ⟨y,B,rfl⟩:=AA.1 h;obtain ⟨vs,rfl,E⟩:=C;obtain ⟨u,G,F⟩:=E.at B;exact ⟨u,by simp [Instr.extract,G],F,D y (Ax B)⟩
 .simp at h
theorem ZAP[NW]{C:Bool}{x y v:SV}{B A:Value}{ts:Array TypeId}{ty:TypeId}(h:ZAD C x y=some v)(E:SVR g w x B)(D:SVR g w y A):
  ∃cv,((if C then Builtin.min_ ts ty #[B,A] else Builtin.max_ ts ty #[B,A]):Sem Value).run P w=.ok cv w/\SVR g w v cv/\svU U v:=by
 unfold ZAD at h;split at h
 .have ex:=Zcz E;have ey:=Zcz D;subst ex ey;simp only[A0]at h;subst h;refine ⟨_,?_,Zck _ _,X5 _⟩;cases C
  .simp [Builtin.max_,Builtin.max2]
  .simp [Builtin.min_,Builtin.min2]
 .simp at h
end
end
section
open Go.RowKit
theorem Zg5{α:Type}(l:List α)(off:Nat)(vs:List α)(h:off+vs.length<=l.length):(splice l off vs).length=l.length:=by
 simp [splice];omega
theorem ZtU{α:Type}(l:List α)(n:Nat)(v:α)(r:List α)(h:n+(r.length+1)<=l.length):splice (l.set n v) (n+1) r=splice l n (v::r):=by
 unfold splice;have B:(l.set n v).take (n+1)=l.take n++[v]:=by
  rw [List.take_succ_eq_append_getElem (by simp;omega)];simp [List.take_set_of_le]
 have A:(l.set n v).drop (n+1+r.length)=l.drop (n+(v::r).length):=by
  rw [List.drop_set_of_lt yE];congr 1
  simp;omega
 rw [B,A];simp
theorem ZqY[NW](off:Nat):∀(vs:List Value) (k:Nat) (a:Array Value),off+k+vs.length<=a.size->
  (vs.zipIdx k).foldl (fun (cs:Array Value) (p:Value×Nat)=>cs.setIfInBounds (off+p.2) p.1) a=(splice a.toList (off+k) vs).toArray
 | [],k,a,h=>by simp [splice]
 |v::r,k,a,h=>by
  rw [List.zipIdx_cons,List.foldl_cons,ZqY off r (k+1) _ (by simp at h ⊢;omega)];have:=ZtU a.toList (off+k) v r (by simpa using h);rw [<-this];simp [AJ]
theorem Zo2[NW](off:Nat)(v:Value)(vs:List Value)(A:v.cells=vs.toArray)(a:Array Value)(h:off+vs.length<=a.size):
  v.cells.zipIdx.foldl (fun cs (c,j)=>cs.setIfInBounds (off+j) c) a=(splice a.toList off vs).toArray:=by
 have:=ZqY off vs 0 a (by simpa using h);rw [A,<-Array.foldl_toList];simpa using this
section
variable {P:Program} {W:Zbb} {U:Nat->Prop} {key:Nat} {st:St} {g:Gh} {w:World} {a:Act} {tt:Nat->Option TI}
theorem ZW.splice{α β:Type}{R:α->β->Prop}{l vs:List α}{r A:List β}(h:ZW R l r)(B:ZW R vs A)(off:Nat):ZW R (splice l off vs) (splice r off A):=by
 unfold Go.Proofs.YtnacpkmpdlodoaaGreatDoor.splice;rw [B.len];exact (h.take _).append (B.append (h.drop _))
theorem Zmy{l vs:List AV}(h:Zag U l)(A:Zag U vs)(off:Nat):Zag U (splice l off vs):=by
 intro y m;unfold splice at m;rcases A9.1 m with m|m
 .exact h y (Az m)
 .rcases A9.1 m with m|m
  .exact A y m
  .exact h y (Ay m)
theorem Zxf[NW]{a:Nat->Option (Nat×Nat)}{D:List FI}(C:∀i B,D[i]?=some B->a i=some (B.off,B.size)):
  ∀{b:List (Nat×SV)} {A:List (Nat×Value)} {cs c:List AV} {vs:List Value},Zlp D cs b=some c->ZW (fun p q=>p.1=q.1/\SVR g w p.2 q.2/\svU U p.2) b A->ZW (AVR g w) cs vs->Zag U cs->
   ∃d:List Value,Instr.fill a vs.toArray A=some d.toArray/\ZW (AVR g w) c d/\Zag U c
 | [],[],cs,c,vs,h,_,hr,hu=>by simp [Zlp]at h;subst h;exact ⟨vs,rfl,hr,hu⟩
 | [],_::_,_,_,_,_,h,_,_=>h.elim
 |_::_,[],_,_,_,_,h,_,_=>h.elim
 |(i,s)::r,(j,v)::A,cs,c,vs,h,⟨⟨e,hs,hsu⟩,hps⟩,hr,hu=>by
  simp only at e hs hsu;subst e;cases s with
  |p ag us=>
   simp only[Zlp]at h;obtain ⟨f,G,h⟩:=AB.1 h;split at h
   .rename_i K;obtain ⟨k,F,E⟩:=PVR.cells hs;have hlen:=E.len;have hlen2:=hr.len;obtain ⟨d,J,I,H⟩:=Zxf C h hps (hr.splice E f.off) (Zmy hu hsu f.off);refine ⟨d,?_,I,H⟩;have l:v.cells.size=k.length:=by simp [F]
    rw [Instr.fill,C i f G];simp only;rw [yn (by simp [l];omega),Zo2 f.off v k F _ (by simp;omega)];simpa using J
   .simp at h
  |_=>simp [Zlp]at h
theorem ZW.of_map{α β γ:Type}{R:β->γ->Prop}(f:α->β)(h:α->γ):∀{l:List α},(∀x∈l,R (f x) (h x))->ZW R (l.map f) (l.map h)
 | [],_=>trivial
 |x::l,hh=>⟨hh x yG,ZW.of_map f h fun y m=>hh y (by simp [m])⟩
theorem Zj6[NW]:∀{z:List AV}{zvs:List Value},ZW (fun a v=>Zbk a v=true) z zvs->ZW (AVR g w) z zvs/\Zag U z
 | [],[],_=>⟨trivial,fun _ m=>by simp at m⟩
 |x::z,v::zvs,h=>by
  obtain ⟨B,A⟩:=Zj6 (z:=z) (zvs:=zvs) h.2;refine ⟨⟨Zgc h.1,B⟩,fun y m=>?_⟩;rcases AE.1 m with rfl|m
  .have:=h.1;cases y<;>first|trivial|simp [Zbk]at this
  .exact A y m
 | [],_::_,h=>h.elim
 |_::_,[],h=>h.elim
theorem Zrd:∀{B:List FI}{a:List Field},ZW (fun (A:FI) (f:Field)=>f.offset=A.off/\A.size≠0/\∃j d,P.info? f.type=some j/\j.size=A.size/\P.underlying f.type=some d/\ZuU d=A.agg) B a->
  a.mapM (fun f=>(P.info? f.type).map fun i=>(f.offset,i.size))=some (B.map fun A=>(A.off,A.size))
 | [],[],_=>rfl
 |A::B,f::a,⟨⟨h1,_,j,d,h2,h3,_⟩,h⟩=>by
  simp [List.mapM_cons,h2,h3,h1,Zrd h]
 | [],_::_,h=>h.elim
 |_::_,[],h=>h.elim
theorem ZzK[NW](C:∀t i,tt t=some i->TOk P t i)(L:∀t,SVR g w (st.sl t) (a.tmps.getD t undef))(K:StU U st){t n:Nat}{B:List FI}{z:List AV}(f:tt t=some (.strct B n z)){b:Array (Nat×Operand)}{cs:List AV}(h:Zlp B z (b.toList.map (Zhs tt st B z))=some cs):
  ∃cv,(Instr.build t (b.map fun (i,x)=>(i,a.eval x))).run P w=.ok cv w/\SVR g w (.p true cs) cv/\svU U (.p true cs):=by
 obtain ⟨D,i,zvs,u1,u2,u3,G,F,E⟩:=C t _ f;obtain ⟨H,j⟩:=Zj6 (g:=g) (w:=w) (U:=U) F;have c:ZW (fun (p:Nat×SV) (q:Nat×Value)=>p.1=q.1/\SVR g w p.2 q.2/\svU U p.2) (b.toList.map (Zhs tt st B z)) (b.toList.map fun p=>(p.1,a.eval p.2)):=by
  refine ZW.of_map _ _ fun p _=>?_;unfold Zhs;split
  .rename_i J;rw [J];refine ⟨rfl,?_⟩;dsimp only;split
   .exact ⟨⟨_,rfl,rfl⟩,fun y m=>by simp at m;subst m;trivial⟩
   .exact ⟨trivial,trivial⟩
  .have:=ZmP C L K 0 p.2;exact ⟨rfl,this⟩
 have k:∀(i:Nat) (A:FI),B[i]?=some A->((B.map fun (A:FI)=>(A.off,A.size)).toArray[i]?)=some (A.off,A.size):=fun i A I=>by simp [I]
 obtain ⟨d,R,O,N⟩:=Zxf k h c H j;refine ⟨.agg d.toArray,run_build w t _ _ ?_,⟨d,rfl,O⟩,N⟩;unfold Program.built;simp only[u1,u2,G,Zrd E];have e:(b.map fun (x:Nat×Operand)=>(x.1,a.eval x.2)).toList=b.toList.map fun p=>(p.1,a.eval p.2):=by simp
 have M:(b.map fun x=>match x with|(i,x)=>(i,a.eval x))=b.map fun (x:Nat×Operand)=>(x.1,a.eval x.2):=rfl;rw [M,e];exact R
theorem Sl.sub{m n:Nat}{A:Option Addr}{cs:List Value}{L:List Nat}(h:Sl w m A n cs L)(l q cap:Nat)(H:0<m)(E:l+q<=n)(D:n<=cap):
  ∃A' L',A'=(if cap=l then A else A.map (·.add (l*m)))/\Sl w m A' q ((cs.drop (l*m)).take (q*m)) L'/\∀b∈L',b∈L:=by
 have hlen:=h.1;have F:l*m+q*m<=n*m:=by rw [<-AH];exact B3 m E
 refine ⟨_,if q=0 then [] else L,rfl,⟨by simp;omega,?_⟩,fun b B=>?_⟩
 .by_cases a:q=0
  .exact .inl ⟨a,by simp [a]⟩
  .rcases h.2 with ⟨I,_⟩|⟨_,b,off,rfl,rfl,G⟩
   .omega
   .refine .inr ⟨yE,b,off+l*m,by rw [yn yE];simp [Zcl],by simp [a],fun j u C=>?_⟩;rw [AJ];refine G _ u ?_;have c:j<q*m:=by
     have:=(AZ.1 C).1;simp at this;omega
    rw [BC,yp c,BD]at C;exact C
 .split at B
  .simp at B
  .exact B
theorem REs.drop{m:Nat}:∀{xs:List (List CT)}{cs:List Value}{L:List Nat}(l:Nat),REs w m xs cs L->∃L',REs w m (xs.drop l) (cs.drop (l*m)) L'/\∀b∈L',b∈L
 |xs,cs,L,0,h=>⟨L,by simpa using h,fun _ A=>A⟩
 | [],cs,L,l+1,h=>⟨[],by obtain ⟨rfl,rfl⟩:=h;simp [REs],yG⟩
 |x::r,_,_,l+1,⟨c1,c2,L1,L2,rfl,rfl,h3,h4⟩=>by
  obtain ⟨L',C,B⟩:=REs.drop l h4;refine ⟨L',?_,fun b A=>by simp [B b A]⟩;have e:(l+1)*m=c1.length+l*m:=by rw [h3.2,AH];omega
  have D:(c1++c2).drop (c1.length+l*m)=c2.drop (l*m):=by
   rw [Aj,Ak (B4 _ _),B5,Am]
  rw [e,D];simpa using C
theorem REs.take{m:Nat}:∀{xs:List (List CT)}{cs:List Value}{L:List Nat}(l:Nat),REs w m xs cs L->∃L',REs w m (xs.take l) (cs.take (l*m)) L'/\∀b∈L',b∈L
 |xs,cs,L,0,h=>⟨[],by simp [REs],yG⟩
 | [],cs,L,l+1,h=>⟨[],by obtain ⟨rfl,rfl⟩:=h;simp [REs],yG⟩
 |x::r,_,_,l+1,⟨c1,c2,L1,L2,rfl,rfl,h3,h4⟩=>by
  obtain ⟨L',C,B⟩:=REs.take l h4;refine ⟨L1++L',?_,fun b A=>by
   rcases A9.1 A with A|A
   .simp [A]
   .simp [B b A]⟩
  have e:(l+1)*m=c1.length+l*m:=by rw [h3.2,AH];omega
  rw [e,BE];exact ⟨c1,_,L1,L',rfl,rfl,h3,C⟩
theorem Zrb{k:IntKind}{i:Int}{y:Nat}{a:BoundsCode}(B:0<=i)(A:i<=y):(Instr.sliceBound (.int k i) y a).run P w=.ok i.toNat w:=by
 simp [Instr.sliceBound,asIntOf,B,A]
def Zo8[NW](g:Gh)(w:World):Option SV->Option Value->Prop
 |none,none=>True
 |some s,some u=>SVR g w s u
 |_,_=>False
theorem ZjW[NW]{lo hi:Option SV}{vlo vhi:Option Value}{len cap l h:Nat}{b:Bool}(hh:hiB len hi=some h)(hl:loB h lo=some l)(hlo:Zo8 g w lo vlo)(hhi:Zo8 g w hi vhi)(hc:len<=cap):
  (Instr.sliceBounds b len cap vlo vhi none).run P w=.ok (l,h,cap) w/\l<=h/\h<=len:=by
 have e1 : ((match vhi, (none : Option Value) with | some v, some _ => Instr.sliceBound v cap .slice3B | some v, none => Instr.sliceBound v cap (if b then .sliceAcap else .sliceAlen) | none, none => pure len | none, some _ => stuck "Slice: max without high") : Sem Nat).run P w = .ok h w ∧ h ≤ len := by
  unfold hiB at hh
  split at hh
  .simp only[A0]at hh
   subst hh
   cases vhi with
   |none=>exact ⟨rfl,AD _⟩
   |some v=>exact hhi.elim
  .split at hh<;>simp only[A0,reduceCtorEq]at hh
   rename_i hq
   subst hh
   cases vhi with
   |none=>exact hhi.elim
   |some v=>
    have e:=Zcz hhi
    subst e
    exact ⟨Zrb hq.1 yE,yE⟩
  .simp at hh
 have e2:((match vlo with|some v=>Instr.sliceBound v h .sliceB|none=>pure 0):Sem Nat).run P w=.ok l w/\l<=h:=by
  unfold loB at hl
  split at hl
  .simp only[A0]at hl
   subst hl
   cases vlo with
   |none=>exact ⟨rfl,AM _⟩
   |some v=>exact hlo.elim
  .split at hl<;>simp only[A0,reduceCtorEq]at hl
   rename_i hq
   subst hl
   cases vlo with
   |none=>exact hlo.elim
   |some v=>
    have e:=Zcz hlo
    subst e
    exact ⟨Zrb hq.1 hq.2,yE⟩
  .simp at hl
 refine ⟨?_,e2.2,e1.2⟩
 unfold Instr.sliceBounds
 simp only[Sem.run_bind,Sem.run_pure,Result.andThen_ok,Option.isSome_none,Bool.false_eq_true,if_false]
 have e1':=e1.1
 have e2':=e2.1
 cases vhi<;>cases vlo<;>simp_all
theorem Zu0[NW](C:∀t i,tt t=some i->TOk P t i){t:Nat}{x v:SV}{J hi:Option SV}{H:Value}{vlo vhi:Option Value}(h:Zou (tt t) J hi x=some v)(K:SVR g w x H)
  (f:Zo8 g w J vlo) (j:Zo8 g w hi vhi):∃cv,(Instr.sliceAt t H vlo vhi none).run P w=.ok cv w/\SVR g w v cv/\svU U v:=by
 unfold Zou at h;split at h
 .rename_i s;split at h
  .rename_i k;have hu:=ZiP C k;obtain ⟨q,D,h⟩:=AB.1 h;obtain ⟨l,E,rfl⟩:=AA.1 h;obtain ⟨rfl,hs⟩:=Zj0 K;obtain ⟨F,b2,b3⟩:=ZjW (P:=P) (b:=false) D E f j (AD _);refine ⟨_,?_,Zni (by rw [ByteArray.size_extract];omega),X5 _⟩;simp [Instr.sliceAt,YQ hu,Instr.slice,F]
  .simp at h
 .rename_i e m xs;split at h
  .rename_i d;obtain ⟨q,D,h⟩:=AB.1 h;obtain ⟨l,E,rfl⟩:=AA.1 h;obtain ⟨A,cap,cs,L0,L1,rfl,N,h3,M,h6,h7,L⟩:=Ziu K;obtain ⟨F,b2,b3⟩:=ZjW (P:=P) (b:=true) D E f j N;obtain ⟨O,R,G,o⟩:∃O R G,tt t=some (.slice O m R G):=by
    unfold Zl4 at d;split at d
    .rename_i h1;subst d;exact ⟨_,_,_,h1⟩
    .omega
   obtain ⟨hu,_,_,⟨ie,zv,u,y,_⟩,_⟩:=C t _ o;have fin:SVR g w (.p false [.c (.sl e m ((xs.take q).drop l))]) (.slice (if cap=l then A else A.map (·.add (l*m))) (q - l) (cap - l)):=by
    obtain ⟨A',L',rfl,I,S⟩:=h6.sub l (q - l) cap M yE N;obtain ⟨M1,r1,W⟩:=h7.take q;obtain ⟨M2,V,T⟩:=r1.drop l;have a:((xs.take q).drop l).length=q - l:=by simp;omega
    have e1:(cs.drop (l*m)).take ((q - l)*m)=(cs.take (q*m)).drop (l*m):=by
     rw [BF,Nat.sub_mul]
    rw [e1]at I;refine ⟨_,rfl,L'++M2,⟨_,_,_,L',M2,by rw [a],by rw [a];omega,yE,rfl,M,by rw [a];exact I,V⟩,fun b B=>?_⟩;rcases A9.1 B with B|B
    .exact L b (by simp [S b B])
    .exact L b (by simp [W b (T b B)])
   refine ⟨_,?_,fin,X5 _⟩;simp [Instr.sliceAt,YQ hu,Instr.slice,F,Qc u,y]
  .simp at h
 .simp at h
end
end
section
open Go.RowKit
theorem ZN{α:Type}(f:Nat->α)(k:Nat)(v:α):upd f k v k=v:=by simp [upd]
theorem ZZ{α:Type}(f:Nat->α){k j:Nat}(v:α)(h:j≠k):upd f k v j=f j:=by simp [upd,h]
theorem Xk(ob:Nat->Ob)(u v:List (Nat×Ob)):Zv ob (u++v)=Zv (Zv ob u) v:=by
 induction u generalizing ob with
 |nil=>rfl
 |cons p r ih=>exact ih _
theorem Zmr:∀(ks:List Nat) (ob:Nat->Ob) (k:Nat),Zv ob (ZbD ks) k=if k∈ks then .gone else ob k
 | [],ob,k=>by simp [ZbD,Zv]
 |x::ks,ob,k=>by
  have:ZbD (x::ks)=(x,Ob.gone)::ZbD ks:=rfl;rw [this,Zv,Zmr ks];by_cases B:k∈ks
  .simp [B]
  .by_cases A:k=x
   .subst A;simp [upd]
   .simp [B,A,upd]
theorem Zb2[NW](ks:List Nat)(ob:Nat->Ob)(key:Nat)(o:Ob)(k:Nat):Zv ob (ZbD ks++[(key,o)]) k=if k=key then o else if k∈ks then .gone else ob k:=by
 rw [Xk];simp only[Zv,upd,Zmr]
def Gh.turn(g:Gh)(ks:List Nat)(key:Nat)(v:Value)(O D:List Nat):Gh:=
 ⟨upd g.val key v,fun k=>if k=key then O else if k∈ks then [] else g.O k,fun k=>if k=key then D else if k∈ks then [] else g.D k,g.Z⟩
section
variable {P:Program} {W:Zbb} {U:Nat->Prop} {key:Nat} {st:St} {g:Gh} {w w':World} {a:Act} {tt:Nat->Option TI}
theorem Zgy{ks:List Nat}{v:Value}{O D:List Nat}{b:Nat}(h:(g.turn ks key v O D).own b):b∈O\/(∃k,k∉ks/\k≠key/\b∈g.O k)\/g.Z b:=by
 rcases h with ⟨k,A⟩|h
 .simp only[Gh.turn]at A;split at A
  .exact .inl A
  .rename_i C;split at A
   .simp at A
   .rename_i B;exact .inr (.inl ⟨k,B,C,A⟩)
 .exact .inr (.inr h)
theorem Zrc{n:Nat}{ks:List Nat}{v:Value}{O D:List Nat}(F:∀b∈O,(∃k∈ks,b∈g.O k)\/n<=b)(G:∀b∈D,(∃k∈ks,b∈g.O k++g.D k)\/n<=b):Zal g (g.turn ks key v O D) n:=by
 refine .of (fun b E=>?_) fun j b A=>?_
 .rcases Zgy E with m|⟨k,_,_,m⟩|m
  .rcases F b m with ⟨k,_,m⟩|m
   .exact .inl (.inl ⟨k,m⟩)
   .exact .inr m
  .exact .inl (.inl ⟨k,m⟩)
  .exact .inl (.inr m)
 .simp only[Gh.turn]at A;split at A
  .refine (G b A).imp (fun ⟨k,_,C⟩=>?_) id;rcases A9.1 C with B|B
   .exact .inl (.inl ⟨k,B⟩)
   .exact .inr ⟨k,B⟩
  .split at A
   .simp at A
   .exact .inl (.inr ⟨j,A⟩)
theorem HI.turn[NW]{ob:Nat->Ob}(h:HI W g ob w)(i:∀k,obU U (ob k))(c:¬U key)(ks:List Nat)(y:∀k∈ks,U k)
  (l:Bel W w') (z:w.heap.size<=w'.heap.size) (M:∀b,b<w.heap.size->(∀k∈ks,b∉g.O k)->w'.heap[b]?=w.heap[b]?)
  {v:Value} {O D:List Nat} {o:Ob} (N:∀b∈O,(∃k∈ks,b∈g.O k)\/w.heap.size<=b) (P:∀b∈D,(∃k∈ks,b∈g.O k++g.D k)\/w.heap.size<=b)
  (A:(O++D).Nodup) (B:∀b∈O++D,(W.heap.size<=b\/W.x b)/\Qp w' o b)
  (C:Zal g (g.turn ks key v O D) w.heap.size->ObR (g.turn ks key v O D) w' key o):
  HI W (g.turn ks key v O D) (Zv ob (ZbD ks++[(key,o)])) w'/\∀x u,svU U x->SVR g w x u->SVR (g.turn ks key v O D) w' x u:=by
 have aa:key∉ks:=fun m=>c (y key m);have d:∀k,U k->(g.turn ks key v O D).val k=g.val k:=fun k G=>ZZ _ _ fun e=>c (e ▸ G);have a:Zal g (g.turn ks key v O D) w.heap.size:=Zrc N P;have f:∀b∈O++D,(∃k∈ks,b∈g.O k++g.D k)\/w.heap.size<=b:=fun b m=>by
  rcases A9.1 m with m|m
  .exact (N b m).imp (fun ⟨k,F,E⟩=>⟨k,F,by simp [E]⟩) id
  .exact P b m
 refine ⟨h.step (fun k=>k=key\/k∈ks) l rfl (fun b K J=>M b K fun k G=>J k (.inr G)) (fun k G=>?_) i d a (fun k G=>?_),fun x u T V=>V.move T d (fun b K J=>M b K fun k _ m=>J (.inl ⟨k,m⟩)) a z⟩
 .have F:k≠key:=fun e=>G (.inl e);have E:k∉ks:=fun e=>G (.inr e);rw [Zb2];simp [Gh.turn,F,E,upd]
 .rw [Zb2];by_cases F:k=key
  .subst F;have H:(g.turn ks k v O D).O k=O:=by simp [Gh.turn]
   have I:(g.turn ks k v O D).D k=D:=by simp [Gh.turn]
   rw [yp rfl,H,I];refine ⟨C a,A,B,fun j hj b m L=>?_⟩;have p:¬j=k:=fun e=>hj e.symm;by_cases E:j∈ks
   .simp [Gh.turn,p,E]at L
   .have t:b∈g.O j++g.D j:=by simpa [Gh.turn,p,E]using L
    rcases f b m with ⟨q,S,R⟩|q
    .exact h.apart q j (fun e=>E (e ▸ S)) b R t
    .have:=h.lt j b t;omega
  .have E:k∈ks:=G.resolve_left F;have H:(g.turn ks key v O D).O k=[]:=by simp [Gh.turn,F,E]
   have I:(g.turn ks key v O D).D k=[]:=by simp [Gh.turn,F,E]
   rw [yn F,yp E,H,I];exact ⟨⟨H,I⟩,yG,yG,yG⟩
theorem ZlA[NW](B:StU U st)(ks:List Nat){o:Ob}(C:obU (Uk U key) o):(∀k,obU (Uk U key) (Zv st.ob (ZbD ks++[(key,o)]) k))/\∀k,¬Uk U key k->Zv st.ob (ZbD ks++[(key,o)]) k=.gone:=by
 constructor
 .intro k;rw [Zb2];split
  .exact C
  .split
   .trivial
   .exact (B.ob k).mono fun _=>.inl
 .intro k A;rw [Zb2,yn (fun e=>A (.inr yE))];split
  .rfl
  .exact B.gone k fun h=>A (.inl h)
theorem ZlC:Uk U key key:=.inr yE
theorem ZAn[NW](B:HI W g st.ob w)(E:StU U st)(a:¬U key){t:TypeId}{cs:List AV}{vs:List Value}(F:ZW (AVR g w) cs vs)(C:Zag U cs){s:Sem Next}
  (d:s.run P w=.ok (.value (.pointer (some ⟨w.heap.size,0,none⟩))) (w.alloc (.cells vs.toArray t))):Fin P W U key st g w s (.bp key 0,[(key,.box t cs)]):=by
 have A:Below w.heap.size w (w.alloc (.cells vs.toArray t)):=(Below.refl _ _).alloc (AD _) _;obtain ⟨I,H⟩:=B.turn (key:=key) (U:=U) (w':=w.alloc (.cells vs.toArray t)) (v:=.pointer (some ⟨w.heap.size,0,none⟩)) (O:=[w.heap.size]) (D:=[]) (o:=.box t cs) E.ob a [] yG
  (B.below.trans A) A.size (fun b c _=>A.block b c) yG yG yG (fun b m=>by
   simp at m;subst m;exact ⟨.inl B.below.size,_,_,heap_alloc_new w _⟩) (fun f=>⟨w.heap.size,vs,by simp [Gh.turn,upd],by simp [Gh.turn],by simp [Gh.turn],heap_alloc_new w _,
    AVRs.move F C (fun k G=>ZZ _ _ fun e=>a (e ▸ G)) (fun b c _=>A.block b c) f⟩)
 have i:=ZlA (key:=key) (o:=.box t cs) E [] (Zag.mono (fun _=>.inl) C);exact ⟨_,_,_,.inl d,I,⟨w.heap.size,by simp [Gh.turn,upd],rfl⟩,H,ZlC,i.1,i.2⟩
theorem ZqF(b:Nat)(cs a:Array Value)(t:TypeId)(B:w.heap[b]?=some (.cells cs t (0,0))):(w.setRow b a).heap[b]?=some (.cells a t (0,0))/\(∀k,k≠b->(w.setRow b a).heap[k]?=w.heap[k]?)/\(w.setRow b a).heap.size=w.heap.size/\(w.setRow b a).os=w.os/\(w.setRow b a).tape=w.tape/\(w.setRow b a).output=w.output:=by
 refine ⟨setRow_heap w b cs a t _ B,fun k A=>?_,?_,rfl,rfl,rfl⟩
 .have c:¬b=k:=fun e=>A e.symm;simp [World.setRow,Array.getElem?_modify,c]
 .simp [World.setRow]
theorem ZBk[NW](H:∀t i,tt t=some i->TOk P t i)(D:HI W g st.ob w)(J:StU U st){t k off tb:Nat}{cs vs:List AV}{V T:Value}{ag:Bool}(R:st.ob k=.box tb cs)(G:vs.length=Zj5 (tt t))(ho:off+vs.length<=cs.length)
  (ha:SVR g w (.bp k off) V) (hv:SVR g w (.p ag vs) T) (o:Zag U vs) (a:0<vs.length) {s:Sem Next} (hs:s=(do Instr.storeAt t V T;pure .skip)):Fin P W U key st g w s (.und,[(k,.box tb (splice cs off vs))]):=by
 obtain ⟨b,h1,rfl⟩:=ha;have v:=D.obs k;rw [R]at v;obtain ⟨b',E,o1,I,o3,o4,o5⟩:=v;have hb:b=b':=by rw [o1]at h1;simpa using h1.symm
 subst hb;have hlen:=o5.len;obtain ⟨xs,c1,S⟩:=PVR.cells hv;have C:=S.len;have c:=J.ob k;rw [R]at c;obtain ⟨r1,N,r3,r4,r5,r6⟩:=ZqF b E.toArray (splice E off xs).toArray tb o4;have f:(sizeOf t).run P w=.ok xs.length w:=by
  rw [<-C,G];unfold Zj5 at G ⊢;cases hti:tt t with
  |none=>rw [hti]at G;simp at G;simp [G]at a
  |some i=>
   cases i with
   |atom z=>obtain ⟨d,zv,i,_,_,L,_,K,_⟩:=H t _ hti;rw [Qc L,K]
   |strct fs n z=>obtain ⟨_,i,_,_,L,K,_⟩:=H t _ hti;rw [Qc L,K]
   |slice e m b z=>obtain ⟨_,_,_,_,j,L,K,_⟩:=H t _ hti;rw [Qc L,K]
   |_=>rw [hti]at G;simp at G;simp [G]at a
 have y:=run_storeCells_at (P:=P) b off tb xs 0 E.toArray w o4 (by simp;omega) (AVRs.one S);have A:s.run P w=.ok .skip (w.setRow b (splice E off xs).toArray):=by
  subst hs;have e:(E.toArray.toList.take (off+0)++xs++E.toArray.toList.drop (off+0+xs.length)).toArray=(splice E off xs).toArray:=by simp [splice]
  rw [e]at y;simp [Instr.storeAt,Instr.sureAddr,storeVar,c1,f,y]
 have l:∀b',b'<w.heap.size->¬g.own b'->(w.setRow b (splice E off xs).toArray).heap[b']?=w.heap[b']?:=fun b' _ O=>N b' fun e=>O (.inl ⟨k,by simp [I,e]⟩);have B:W.heap.size<=b\/W.x b:=(D.plain k b (by simp [I])).1;refine ⟨g,undef,_,.inr ⟨A,rfl⟩,?_,rfl,fun x u M hu=>hu.move M (fun _ _=>rfl) l (Zal.refl _ _) yE,trivial,fun q=>?_,fun q F=>?_⟩
 .refine D.step (U:=U) (fun q=>q=k) ?_ rfl (fun b' _ O=>N b' fun e=>O k rfl (by simp [I,e])) (fun q F=>⟨ZZ _ _ F,rfl,rfl,rfl⟩) J.ob (fun _ _=>rfl) (Zal.refl _ _) (fun q F=>?_)
  .exact ⟨r4.trans D.below.os,r5.trans D.below.tape,r6.trans D.below.output,by have:=D.below.size;omega,fun q F M=>by rw [N q (fun e=>by subst e;rcases B with h|h;omega;exact M h)];exact D.below.block q F M⟩
  .subst F;refine ⟨?_,D.nodup q,fun b' m=>?_,D.apart q⟩
   .simp only[Zv,ZN];exact ⟨b,_,o1,I,o3,r1,(AVRs.move o5 c (fun _ _=>rfl) l (Zal.refl _ _)).splice (AVRs.move S o (fun _ _=>rfl) l (Zal.refl _ _)) off⟩
   .simp [I,o3]at m;subst m;refine ⟨B,?_⟩;simp only[Zv,ZN];exact ⟨_,_,r1⟩
 .simp only[Zv,upd];split
  .exact Zag.mono (fun _=>.inl) (Zmy c o off)
  .exact (J.ob q).mono fun _=>.inl
 .simp only[Zv,upd];split
  .rename_i e;subst e;exact absurd (J.gone q fun h=>F (.inl h)) (by simp [R])
  .exact J.gone q fun h=>F (.inl h)
end
end
section
open Go.RowKit
section
variable {P:Program} {W:Zbb} {U:Nat->Prop} {key:Nat} {st:St} {g:Gh} {w w':World} {a:Act} {tt:Nat->Option TI}
def Gh.F(g:Gh)(ks:List Nat):List Nat:=ks.flatMap fun k=>g.O k++g.D k
def FP(g:Gh)(ks:List Nat)(d:Nat)(L:List Nat):Prop:=(d=2->L.Sublist (g.F ks))/\d<=2/\0<d/\∀b∈L,¬g.own b\/∃k∈ks,b∈g.O k
theorem FP.nil:FP g [] 2 []:=⟨fun _=>by simp [Gh.F],yG⟩
theorem FP.append{ks a:List Nat}{d D:Nat}{L L':List Nat}(h:FP g ks d L)(A:FP g a D L'):FP g (ks++a) (Zg6 d D) (L++L'):=by
 have q1:=h.2.1;have q2:=A.2.1;have q3:=h.2.2.1;have q4:=A.2.2.1;refine ⟨fun E=>?_,by unfold Zg6;split<;>omega,by unfold Zg6;split<;>omega,fun b m=>?_⟩
 .have c:d=2/\D=2:=by unfold Zg6 at E;split at E<;>omega
  simp only[Gh.F,B9];exact AN (h.1 c.1) (A.1 c.2)
 .rcases A9.1 m with m|m
  .exact (h.2.2.2 b m).imp id fun ⟨k,C,B⟩=>⟨k,by simp [C],B⟩
  .exact (A.2.2.2 b m).imp id fun ⟨k,C,B⟩=>⟨k,by simp [C],B⟩
theorem HI.nodupF[NW]{ob:Nat->Ob}(B:HI W g ob w):∀{ks:List Nat},ks.Nodup->(g.F ks).Nodup
 | [],_=>by simp [Gh.F]
 |k::ks,h=>by
  simp only[Gh.F,AT,AL];rw [An]at h;refine ⟨AL.1 (B.nodup k),B.nodupF h.2,fun x C y A e=>?_⟩;subst e;obtain ⟨j,D,A⟩:=AI.1 A;exact B.apart k j (fun e=>h.1 (e ▸ D)) x C A
theorem Zkz{ks:List Nat}{b:Nat}(h:b∈g.F ks):∃k∈ks,b∈g.O k++g.D k:=by simpa [Gh.F]using h
theorem Sl.row{B e m n:Nat}{v:Value}{cs:List Value}(h:w.ownsV B e m v n cs):∃A cap L0,v=.slice A n cap/\n<=cap/\cap<=maxLen/\Sl w m A n cs L0/\L0.Sublist v.ownBlock.toList:=by
 obtain ⟨A,cap,rfl,E,D⟩:=YH h;obtain ⟨L0,C,_,F⟩:=Sl.of_ownV h;refine ⟨A,cap,L0,rfl,E,D,C,?_⟩;rcases C.2 with ⟨_,rfl⟩|⟨_,b,off,rfl,rfl,_⟩
 .exact AU _
 .simp [Value.ownBlock]
theorem NR.toC[NW]{x:CT}{v:Value}(h:NR g w x v):∃L,RC w x v L/\∀b∈L,¬g.own b:=by
 obtain ⟨e,m,xs,cs,L,rfl,M,K,J,N,I⟩:=h;obtain ⟨A,cap,L0,G,F,E,D,C⟩:=Sl.row K;refine ⟨L0++L,⟨A,cap,cs,L0,L,G,F,E,rfl,M,D,J⟩,fun b H o=>(I b ?_).1 (.inl o)⟩;rcases A9.1 H with B|B
 .simp [C.subset B]
 .simp [B]
theorem ZFE[NW](hI:HI W g st.ob w){x:AV}{M:CT}{ks:List Nat}{d:Nat}{v:Value}(h:avT st x=some (M,ks,d))(G:AVR g w x v)(hu:avU U x):∃L,RC w M v L/\FP g ks d L/\∀k∈ks,U k:=by
 cases x with
 |c y=>
  obtain ⟨L,C,D⟩:=G;cases y<;>simp only[avT,A0,AC]at h<;>obtain ⟨rfl,rfl,rfl⟩:=h
  .exact ⟨L,C,⟨fun _=>by rw [C.2];simp [Gh.F],yG,yG,fun b m=>.inl (D b m)⟩,yG⟩
  .exact ⟨L,C,⟨fun _=>by rw [C.2];simp [Gh.F],yG,yG,fun b m=>.inl (D b m)⟩,yG⟩
  .exact ⟨L,C,⟨fun _=>by rw [C.2.1];simp [Gh.F],yG,yG,fun b m=>.inl (D b m)⟩,yG⟩
  all_goals exact ⟨L,C,⟨fun e=>by simp at e,yG,yG,fun b m=>.inl (D b m)⟩,yG⟩
 |row k=>
  simp only[avT]at h;split at h
  .rename_i e m xs d' hk;obtain ⟨H,cs,L1,V,T,I,B⟩:=hI.deep hk;obtain ⟨A,cap,L0,S,R,P,N,E⟩:=Sl.row V;have a:RC w (.sl e m xs) v (L0++L1):=⟨A,cap,cs,L0,L1,by rw [G.1,S],R,P,rfl,H,N,T⟩
   split at h
   .rename_i f;simp only[A0,AC]at h;obtain ⟨rfl,rfl,rfl⟩:=h;refine ⟨L0++L1,a,⟨fun e=>by simp at e,yG,yG,fun b m=>.inl ?_⟩,yG⟩;rcases B with ⟨q,_⟩|⟨q,_⟩|⟨_,_,_,q⟩
    .omega
    .omega
    .rcases A9.1 m with m|m
     .exact q b (E.subset m)
     .exact I b m
   .rename_i f;simp only[A0,AC]at h;obtain ⟨rfl,rfl,rfl⟩:=h;have K:g.O k=(g.val k).ownBlock.toList:=by
     rcases B with ⟨_,q,_⟩|⟨_,q,_⟩|⟨q,_⟩
     .exact q
     .exact q
     .exact absurd q f
    refine ⟨L0++L1,a,⟨fun hd=>?_,?_,yE,fun b m=>?_⟩,fun q J=>by simp at J;subst J;exact hu⟩
    .rcases B with ⟨_,_,B⟩|⟨B,_⟩|⟨B,_⟩
     .simp only[Gh.F,AT,List.flatMap_nil,BA,K,B];exact AN E (AK _)
     .omega
     .omega
    .rcases B with ⟨B,_⟩|⟨B,_⟩|⟨B,_⟩<;>omega
    .rcases A9.1 m with m|m
     .exact .inr ⟨k,yG,by rw [K];exact E.subset m⟩
     .exact .inl (I b m)
  .simp at h
 |nil e m=>
  simp only[avT]at h;split at h
  .rename_i H;simp only[A0,AC]at h;obtain ⟨rfl,rfl,rfl⟩:=h;refine ⟨[],⟨none,0,[],[],[],G,yG,AM _,rfl,H,Sl.zero,rfl,rfl⟩,FP.nil,yG⟩
  .simp at h
 |n x=>simp [avT]at h
 |dead=>simp [avT]at h
theorem Zxr[NW](A:HI W g st.ob w):∀{xs:List AV}{cts:List CT}{ks:List Nat}{d:Nat}{vs:List Value},ZhB st xs=some (cts,ks,d)->ZW (AVR g w) xs vs->Zag U xs->∃L,RCs w cts vs L/\FP g ks d L/\∀k∈ks,U k
 | [],_,_,_,[],h,_,_=>by
  simp only[ZhB,A0,AC]at h;obtain ⟨rfl,rfl,rfl⟩:=h;exact ⟨[],⟨rfl,rfl⟩,FP.nil,yG⟩
 | [],_,_,_,_::_,_,h,_=>h.elim
 |_::_,_,_,_,[],_,h,_=>h.elim
 |x::r,cts,ks,d,v::vs,h,hr,hu=>by
  simp only[ZhB]at h;obtain ⟨⟨P,K,N⟩,C,h⟩:=AB.1 h;obtain ⟨⟨O,J,M⟩,B,h⟩:=AA.1 h;simp only[AC]at h;obtain ⟨rfl,rfl,rfl⟩:=h;obtain ⟨L1,I,H,G⟩:=ZFE A C hr.1 (hu x yG);obtain ⟨L2,F,E,D⟩:=Zxr A B hr.2 (fun y m=>hu y (by simp [m]));exact ⟨L1++L2,⟨v,vs,L1,L2,rfl,rfl,I,F⟩,H.append E,fun k m=>(A9.1 m).elim (G k) (D k)⟩
theorem Zun[NW](C:HI W g st.ob w){m:Nat}:∀{xs:List SV}{B:List (List CT)}{ks:List Nat}{d:Nat}{vs:List Value},Xt st m xs=some (B,ks,d)->ZW (fun s v=>SVR g w s v/\svU U s) xs vs->
  ∃(cs:List (List Value)) (L:List Nat),ZW (fun (c:List Value) (v:Value)=>v.cells=c.toArray/\c.length=m/\∀u∈c,u.oneCell'=true) cs vs/\REs w m B cs.flatten L/\FP g ks d L/\∀k∈ks,U k
 | [],_,_,_,[],h,_=>by
  simp only[Xt,A0,AC]at h;obtain ⟨rfl,rfl,rfl⟩:=h;exact ⟨[],[],trivial,⟨rfl,rfl⟩,FP.nil,yG⟩
 | [],_,_,_,_::_,_,h=>h.elim
 |_::_,_,_,_,[],_,h=>h.elim
 |s::r,B,ks,d,v::vs,h,⟨⟨hs,hsu⟩,hr⟩=>by
  cases s with
  |p ag us=>
   simp only[Xt]at h;split at h
   .rename_i F;obtain ⟨⟨c1,S,V⟩,H,h⟩:=AB.1 h;obtain ⟨⟨c2,R,T⟩,G,h⟩:=AA.1 h;simp only[AC]at h;obtain ⟨rfl,rfl,rfl⟩:=h;obtain ⟨a,D,A⟩:=PVR.cells hs;obtain ⟨L1,P,O,N⟩:=Zxr C H A hsu;obtain ⟨cs,L2,M,K,J,I⟩:=Zun C G hr;have b:a.length=m:=by rw [<-A.len];exact F
    exact ⟨a::cs,L1++L2,⟨⟨D,b,AVRs.one A⟩,M⟩,⟨a,cs.flatten,L1,L2,yG,rfl,⟨P,b⟩,K⟩,O.append J,fun k E=>(A9.1 E).elim (N k) (I k)⟩
   .simp at h
  |_=>simp [Xt]at h
theorem ZuR[NW]{m:Nat}:∀(cs:List (List Value)) (vs:List Value) (i:Nat) (a base:List Value),ZW (fun (c:List Value) (v:Value)=>v.cells=c.toArray/\c.length=m/\∀u∈c,u.oneCell'=true) cs vs->a.length=i*m->base.length=vs.length*m->
  Instr.fill (fun i=>some (i*m,m)) (a++base).toArray ((Ab i vs.length).zip vs)=some (a++cs.flatten).toArray
 | [],[],i,a,base,_,_,hb=>by
  have:base=[]:=AY (by simpa using hb);subst this;simp [Instr.fill]
 | [],_::_,_,_,_,h,_,_=>h.elim
 |_::_,[],_,_,_,h,_,_=>h.elim
 |c::cs,v::vs,i,a,base,⟨⟨h1,h2,_⟩,h⟩,hp,hb=>by
  have A:base.length=m+vs.length*m:=by rw [hb];simp [AH];omega
  have b:v.cells.size=m:=by simp [h1,h2]
  simp only[List.length_cons,BG,List.zip_cons_cons,Instr.fill];rw [yn (by simp [b];omega),Zo2 (i*m) v c h1 _ (by simp;omega)];have e:splice (a++base).toArray.toList (i*m) c=(a++c)++base.drop m:=by
   unfold splice;simp only[<-hp];rw [BH,Aj,Ak yE]
   .simp [h2]
   .rfl
  rw [e,ZuR cs vs (i+1) (a++c) (base.drop m) h (by simp [hp,h2,AH]) (by simp;omega)];simp
theorem ZxY[NW](J:HI W g st.ob w)(hU:StU U st)(i:¬U key){e m:Nat}(hm:0<m){xs:List (List CT)}{ks:List Nat}{d:Nat}{L:List Nat}{cs:List Value}{v:Value}(f:w'.ownsV 0 e m v xs.length cs)(hv:v.ownBlock=some w.heap.size)
  (K:Below w.heap.size w w') (x:∃z e,w'.heap[w.heap.size]?=some (.cells z e (0,0))) (hr:REs w m xs cs L) (H:FP g ks d L) (B:∀k∈ks,U k) (j:∀k∈ks,∃e m xs d,st.ob k=.row e m xs d) (C:ks.Nodup) {s:Sem Next} (l:s.run P w=.ok (.value v) w'):
  Fin P W U key st g w s (.p false [.row key],ZbD ks++[(key,.row e m xs d)]):=by
 have c:=hr.lt;have hF:=J.nodupF C;have a:∀b∈(if d=2 then L else []),b∈L/\d=2:=fun b G=>by
  split at G
  .rename_i I;exact ⟨G,I⟩
  .simp at G
 obtain ⟨h1,h2⟩:=J.turn (key:=key) (U:=U) (w':=w') (v:=v) (O:=[w.heap.size]) (D:=if d=2 then L else []) (o:=.row e m xs d) hU.ob i ks B
  (J.below.trans K) K.size (fun b t _=>K.block b t) yG (fun b G=>by
   obtain ⟨N,R⟩:=a b G;exact .inl (Zkz ((H.1 R).subset N)))
  (by
   simp only[Ap,An];refine ⟨fun G=>?_,?_⟩
   .have:=c _ (a _ G).1;omega
   .split
    .rename_i I;exact hF.sublist (H.1 I)
    .simp)
  (fun b G=>by
   simp only[Ap,AE]at G;rcases G with rfl|G
   .exact ⟨.inl J.below.size,x⟩
   .obtain ⟨N,R⟩:=a b G;obtain ⟨k,S,M⟩:=Zkz ((H.1 R).subset N);obtain ⟨p1,V⟩:=J.plain k b M;obtain ⟨_,_,_,_,E⟩:=j k S;rw [E]at V;exact ⟨p1,V.keep (K.block b (c b N))⟩)
  (fun _=>⟨hm,cs,L,by simpa [Gh.turn,upd]using f,hr.keep fun b G=>K.block b (c b G),by
   have q1:=H.2.1;have q2:=H.2.2.1;by_cases I:d=2
   .exact .inl ⟨I,by simp [Gh.turn,upd,hv],by simp [Gh.turn,I]⟩
   .refine .inr (.inl ⟨yE,by simp [Gh.turn,upd,hv],by simp [Gh.turn,I],fun b G ho=>?_⟩);have t:=c b G;rcases Zgy ho with mo|⟨k,S,_,M⟩|hz
    .simp at mo;omega
    .rcases H.2.2.2 b G with T|⟨q,q1,q2⟩
     .exact T (.inl ⟨k,M⟩)
     .exact J.apart k q (fun e=>S (e ▸ q1)) b (by simp [M]) (by simp [q2])
    .rcases H.2.2.2 b G with T|⟨q,q1,q2⟩
     .exact T (.inr hz)
     .exact J.nz (k:=q) (by simp [q2]) hz⟩)
 have u:=ZlA (key:=key) (o:=.row e m xs d) hU ks trivial;refine ⟨_,_,_,.inl l,h1,⟨_,rfl,⟨by simp [Gh.turn,upd],?_⟩⟩,h2,fun y my=>by simp at my;subst my;exact ZlC,u.1,u.2⟩;obtain ⟨A,cap,F⟩:=ZbG f;simp [F,Value.oneCell']
theorem ZoE(st:St):∀(ks:List Nat) (ob:Nat->Ob) (k:Nat),Zv ob (Z8 st ks) k=if k∈ks then Yv (st.ob k) else ob k
 | [],ob,k=>by simp [Z8,Zv]
 |j::r,ob,k=>by
  show Zv (upd ob j (Yv (st.ob j))) (Z8 st r) k=_
  rw [ZoE st r];by_cases h:k∈r
  .simp [h]
  .by_cases A:k=j
   .subst A;simp [h,upd]
   .simp [h,A,upd]
theorem Zd3[NW](st:St)(ks:List Nat)(ob:Nat->Ob)(key:Nat)(o:Ob)(k:Nat):Zv ob (Z8 st ks++[(key,o)]) k=if k=key then o else if k∈ks then Yv (st.ob k) else ob k:=by
 rw [Xk];show upd (Zv ob (Z8 st ks)) key o k=_
 by_cases h:k=key
 .simp [upd,h]
 .simp only[upd,h,if_false];exact ZoE st ks ob k
theorem ZBe{x:AV}{C:CT}{ks:List Nat}{d:Nat}(h:avT st x=some (C,ks,d)):∀k∈ks,∃e m xs d,st.ob k=.row e m xs d:=by
 intro k A;cases x with
 |c y=>cases y<;>simp only[avT,A0,AC]at h<;>(rw [<-h.2.1]at A;simp at A)
 |nil e m=>
  simp only[avT]at h;split at h<;>simp only[A0,AC,reduceCtorEq]at h
  rw [<-h.2.1]at A;simp at A
 |row j=>
  simp only[avT]at h;split at h
  .rename_i e m xs D B;split at h<;>simp only[A0,AC]at h
   .rw [<-h.2.1]at A;simp at A
   .rw [<-h.2.1]at A;simp at A;subst A;exact ⟨_,_,_,_,B⟩
  .simp at h
 |n x=>simp [avT]at h
 |dead=>simp [avT]at h
theorem ZqG[NW]:∀{xs:List AV}{cts:List CT}{ks:List Nat}{d:Nat},ZhB st xs=some (cts,ks,d)->∀k∈ks,∃e m xs d,st.ob k=.row e m xs d
 | [],_,_,_,h,k,A=>by simp only[ZhB,A0,AC]at h;rw [<-h.2.1]at A;simp at A
 |x::r,_,_,_,h,k,A=>by
  simp only[ZhB]at h;obtain ⟨⟨I,E,G⟩,C,h⟩:=AB.1 h;obtain ⟨⟨H,D,F⟩,B,h⟩:=AA.1 h;simp only[AC]at h;rw [<-h.2.1]at A;rcases A9.1 A with A|A
  .exact ZBe C k A
  .exact ZqG B k A
theorem Zmc[NW]{m:Nat}:∀{xs:List SV}{D:List (List CT)}{ks:List Nat}{d:Nat},Xt st m xs=some (D,ks,d)->∀k∈ks,∃e m xs d,st.ob k=.row e m xs d
 | [],_,_,_,h,k,A=>by simp only[Xt,A0,AC]at h;rw [<-h.2.1]at A;simp at A
 |x::r,_,_,_,h,k,A=>by
  cases x with
  |p a cs=>
   simp only[Xt]at h;split at h
   .obtain ⟨⟨J,F,H⟩,C,h⟩:=AB.1 h;obtain ⟨⟨I,E,G⟩,B,h⟩:=AA.1 h;simp only[AC]at h;rw [<-h.2.1]at A;rcases A9.1 A with A|A
    .exact ZqG C k A
    .exact Zmc B k A
   .simp at h
  |_=>simp [Xt]at h
theorem ZwN[NW](V:HI W g st.ob w)(hU:StU U st)(t:¬U key){e m:Nat}(hm:0<m){xs:List (List CT)}{ks:List Nat}{d:Nat}{L:List Nat}{cs:List Value}{v:Value}(u:w'.ownsV 0 e m v xs.length cs)(hv:v.ownBlock=some w.heap.size)
  (hb:Below w.heap.size w w') (H:∃I e,w'.heap[w.heap.size]?=some (.cells I e (0,0))) (hr:REs w m xs cs L) (hf:FP g ks d L) (z:∀k∈ks,U k) (i:∀k∈ks,∃e m xs d,st.ob k=.row e m xs d) (J:ks.Nodup) {s:Sem Next} (B:s.run P w=.ok (.value v) w'):
  Fin P W U key st g w s (.p false [.row key],Z8 st ks++[(key,.row e m xs d)]):=by
 have l:=hr.lt;have hF:=V.nodupF J;have c:∀b∈(if d=2 then L else []),b∈L/\d=2:=fun b S=>by
  split at S
  .rename_i hd;exact ⟨S,hd⟩
  .simp at S
 obtain ⟨h1,h2⟩:=V.turn (key:=key) (U:=U) (w':=w') (v:=v) (O:=[w.heap.size]) (D:=if d=2 then L else []) (o:=.row e m xs d) hU.ob t ks z
  (V.below.trans hb) hb.size (fun b C _=>hb.block b C) yG (fun b S=>by
   obtain ⟨T,m2⟩:=c b S;exact .inl (Zkz ((hf.1 m2).subset T)))
  (by
   simp only[Ap,An];refine ⟨fun S=>?_,?_⟩
   .have:=l _ (c _ S).1;omega
   .split
    .rename_i hd;exact hF.sublist (hf.1 hd)
    .simp)
  (fun b S=>by
   simp only[Ap,AE]at S;rcases S with rfl|S
   .exact ⟨.inl V.below.size,H⟩
   .obtain ⟨T,m2⟩:=c b S;obtain ⟨k,k1,mk⟩:=Zkz ((hf.1 m2).subset T);obtain ⟨p1,p2⟩:=V.plain k b mk;obtain ⟨_,_,_,_,f⟩:=i k k1;rw [f]at p2;exact ⟨p1,p2.keep (hb.block b (l b T))⟩)
  (fun _=>⟨hm,cs,L,by simpa [Gh.turn,upd]using u,hr.keep fun b S=>hb.block b (l b S),by
   have q1:=hf.2.1;have q2:=hf.2.2.1;by_cases hd:d=2
   .exact .inl ⟨hd,by simp [Gh.turn,upd,hv],by simp [Gh.turn,hd]⟩
   .refine .inr (.inl ⟨yE,by simp [Gh.turn,upd,hv],by simp [Gh.turn,hd],fun b S ho=>?_⟩);have C:=l b S;rcases Zgy ho with mo|⟨k,k1,_,mk⟩|hz
    .simp at mo;omega
    .rcases hf.2.2.2 b S with hn|⟨q,q1,q2⟩
     .exact hn (.inl ⟨k,mk⟩)
     .exact V.apart k q (fun e=>k1 (e ▸ q1)) b (by simp [mk]) (by simp [q2])
    .rcases hf.2.2.2 b S with hn|⟨q,q1,q2⟩
     .exact hn (.inr hz)
     .exact V.nz (k:=q) (by simp [q2]) hz⟩)
 have aa:∀k∈ks,k≠key:=fun k mk e=>t (e ▸ z k mk);have K:HI W (g.turn ks key v [w.heap.size] (if d=2 then L else [])) (Zv st.ob (Z8 st ks++[(key,.row e m xs d)])) w':=by
  refine ⟨h1.below,fun k=>?_,h1.nodup,h1.apart,fun k b S=>?_,h1.gz,h1.zx,h1.nw⟩
  rotate_left
  .have hp:=h1.plain k b S;rw [Zb2]at hp;rw [Zd3];by_cases hk:k=key
   .rw [yp hk]at hp ⊢;exact hp
   .rw [yn hk]at hp ⊢;by_cases a:k∈ks
    .rw [yp a]at hp ⊢;obtain ⟨e2,m2,M,d2,f⟩:=i k a;rw [f];exact hp
    .rw [yn a]at hp ⊢;exact hp
  have ho:=h1.obs k;rw [Zb2]at ho;rw [Zd3];by_cases hk:k=key
  .rw [yp hk]at ho ⊢;exact ho
  .rw [yn hk]at ho ⊢;by_cases a:k∈ks
   .rw [yp a]at ho ⊢;obtain ⟨e2,m2,M,d2,f⟩:=i k a;obtain ⟨p1,N,L2,p2,p3,p4,p5⟩:=V.deep f;rw [f];have x:(g.turn ks key v [w.heap.size] (if d=2 then L else [])).val k=g.val k:=by simp [Gh.turn,upd,hk]
    have E:=p3.lt;have F:=Zj2 p2;refine ⟨p1,N,L2,by rw [x];exact YG p2 fun b S=>hb.block b (F b S),p3.keep fun b S=>hb.block b (E b S),.inr (.inr ⟨rfl,ho.1,ho.2,fun b S G=>?_⟩)⟩;rw [x]at S;have ac:b<w.heap.size:=by
     rcases A9.1 S with T|T
     .exact F b T
     .exact E b T
    rcases Zgy G with mo|⟨j,j1,_,mj⟩|hz
    .simp at mo;omega
    .rcases A9.1 S with T|T
     .rcases p5 with ⟨_,q1,_⟩|⟨_,q1,_⟩|⟨_,_,_,q⟩
      .exact V.apart j k (fun e=>j1 (e ▸ a)) b (by simp [mj]) (by simp [q1,T])
      .exact V.apart j k (fun e=>j1 (e ▸ a)) b (by simp [mj]) (by simp [q1,T])
      .exact q b T (.inl ⟨j,mj⟩)
     .exact p4 b T (.inl ⟨j,mj⟩)
    .rcases A9.1 S with T|T
     .rcases p5 with ⟨_,q1,_⟩|⟨_,q1,_⟩|⟨_,_,_,q⟩
      .exact V.nz (k:=k) (by simp [q1,T]) hz
      .exact V.nz (k:=k) (by simp [q1,T]) hz
      .exact q b T (.inr hz)
     .exact p4 b T (.inr hz)
   .rw [yn a]at ho ⊢;exact ho
 have Q:∀k,obU U (Yv (st.ob k)):=fun k=>by
  have:=hU.ob k;cases hk:st.ob k<;>simp only[Yv]<;>first|trivial|(rw [hk]at this;exact this)
 refine ⟨_,_,_,.inl B,K,⟨_,rfl,⟨by simp [Gh.turn,upd],?_⟩⟩,h2,fun y my=>by simp at my;subst my;exact ZlC,fun k=>?_,fun k hk=>?_⟩
 .obtain ⟨A,cap,R⟩:=ZbG u;simp [R,Value.oneCell']
 .rw [Zd3];split
  .trivial
  .split
   .exact (Q k).mono fun _=>.inl
   .exact (hU.ob k).mono fun _=>.inl
 .rw [Zd3,yn (fun e=>hk (.inr yE))];have e:=hU.gone k fun h=>hk (.inl h);split
  .rw [e];rfl
  .exact e
end
end
section
open Go.RowKit
section
variable {P:Program} {W:Zbb} {U:Nat->Prop} {key:Nat} {st:St} {g:Gh} {w w':World} {a:Act} {tt:Nat->Option TI}
theorem ZDy[NW](K:∀t i,tt t=some i->TOk P t i)(hI:HI W g st.ob w)(hS:∀t,SVR g w (st.sl t) (a.tmps.getD t undef))(hU:StU U st)(q:¬U key){t len e m l:Nat}{z:List AV}(H:tt t=some (.slice e m l z)){b:Array (Nat×Operand)}{xs:List (List CT)}{ks:List Nat}{d:Nat}
  (h:Xt st m (b.toList.map fun p=>st.ev tt e p.2)=some (xs,ks,d)) (hr:b.toList.map (·.1)=List.range len) (hl:len*m<=16777216) (I:ks.Nodup) {s:Sem Next} (hs:s=(do pure (.value (<-Instr.buildSlice t len (b.map fun (i,x)=>(i,a.eval x)))))):
  Fin P W U key st g w s (.p false [.row key],Z8 st ks++[(key,.row e m xs d)]):=by
 obtain ⟨V,N,_,⟨T,M,y,o,ad,hz,ac,aa⟩,_⟩:=K t _ H;have A:ZW (fun s v=>SVR g w s v/\svU U s) (b.toList.map fun p=>st.ev tt e p.2) (b.toList.map fun p=>a.eval p.2):=ZW.of_map _ _ fun p _=>ZmP K hS hU e p.2;obtain ⟨cs,L,S,R,c3,c4⟩:=Zun hI h A;have f:b.toList.length=len:=by have:=congrArg List.length hr;simpa using this
 have B:cs.length=len:=by rw [S.len];simpa using f
 have C:xs.length=len:=by
  have h1:=R.len;have h2:cs.flatten.length=len*m:=by
   have:∀(cs:List (List Value)) (vs:List Value),ZW (fun (c:List Value) (v:Value)=>v.cells=c.toArray/\c.length=m/\∀u∈c,u.oneCell'=true) cs vs->cs.flatten.length=cs.length*m:=by
    intro cs;induction cs with
    |nil=>intro _ _;simp
    |cons c cs ih=>
     intro vs O;cases vs with
     |nil=>exact O.elim
     |cons v vs=>simp [ih vs O.2,O.1.2.1,AH];omega
   rw [this cs _ S,B]
  rw [h2]at h1;exact (Nat.eq_of_mul_eq_mul_right N h1).symm
 have j:(b.map fun x=>match x with|(i,x)=>(i,a.eval x)).toList=(Ab 0 (b.toList.map fun p=>a.eval p.2).length).zip (b.toList.map fun p=>a.eval p.2):=by
  have e1:(b.map fun x=>match x with|(i,x)=>(i,a.eval x)).toList=(b.toList.map (·.1)).zip (b.toList.map fun p=>a.eval p.2):=by
   rw [List.zip_map'];simp
  rw [e1,hr,List.range_eq_range'];simp [f]
 have D:(Instr.buildSlice t len (b.map fun (i,x)=>(i,a.eval x))).run P w=.ok (.slice (some ⟨w.heap.size,0,none⟩) len len) (w.alloc (.cells cs.flatten.toArray e)):=by
  have k:∀base:List Value,base.length=len*m->Instr.fill (fun i=>some (i*m,m)) base.toArray (b.map fun x=>match x with|(i,x)=>(i,a.eval x)).toList=some cs.flatten.toArray:=fun base hb=>by
   rw [j];have:=ZuR cs (b.toList.map fun p=>a.eval p.2) 0 [] base S yG (by simpa [f]using hb);simpa using this
  by_cases h0:len=0
  .subst h0;have E:cs=[]:=AY B;subst E;have J:b=#[]:=by
    have:b.toList=[]:=AY f;simpa using this
   subst J;simp [Instr.buildSlice,YQ V,Qc y,Instr.fill,newRow,Array.range_zero']
  .have F:¬len*T.size=0:=by
    rw [o];intro e;rcases Nat.mul_eq_zero.1 e with e|e<;>omega
   refine run_buildSlice w t e len _ _ T M V y hz (by rw [o];omega) F ?_;rw [o];have hb:=k ((Array.range (len*m)).map (M.cells[· % M.cells.size]!)).toList yG;rw [Array.toArray_toList]at hb;exact hb
 have G:=Zet <| World.ownsRow_lit (base:=0) (e:=e) (size:=m) w cs.flatten.toArray len (AM _) (by unfold maxLen;have:=Nat.le_mul_of_pos_right len N;omega) (by
  have h1:=R.len;rw [C]at h1;simpa using h1)
 refine ZwN hI hU q N (v:=.slice (some ⟨w.heap.size,0,none⟩) len len) (cs:=cs.flatten) (w':=w.alloc (.cells cs.flatten.toArray e)) (by rw [C];simpa using G) rfl ((Below.refl _ _).alloc (AD _) _) ⟨_,_,heap_alloc_new w _⟩ R c3 c4 (Zmc h) I ?_;subst hs;simp only[Sem.run_bind,D,Result.andThen_ok,Sem.run_pure]
theorem Zjp{m:Nat}{B:List CT}{A:List Value}(h:RCs w B A [])(C:A.length=m):∀n:Nat,REs w m (Ac n B) (Ac n A).flatten []
 |0=>by simp [REs]
 |n+1=>by
  rw [BI,BI,BJ];exact ⟨A,_,[],[],rfl,rfl,⟨h,C⟩,Zjp h C n⟩
theorem ZsR[NW]:∀{z:List AV}{A:List Value}{B:List CT},Zm4 z=some B->ZW (fun a v=>Zbk a v=true) z A->RCs w B A []
 | [],[],B,h,_=>by simp [Zm4]at h;subst h;exact ⟨rfl,rfl⟩
 | [],_::_,_,_,h=>h.elim
 |_::_,[],_,_,h=>h.elim
 |.c x::z,v::A,B,h,hr=>by
  simp only[Zm4]at h;obtain ⟨b,D,rfl⟩:=AA.1 h;have hx:=Zgc (g:=⟨fun _=>undef,fun _=>[],fun _=>[],fun _=>False⟩) (w:=w) hr.1;obtain ⟨L,C,_⟩:=hx;have d:L=[]:=by
   have:=hr.1;cases x with
   |int k n=>exact C.2
   |bool b=>exact C.2
   |str s=>exact C.2.1
   |_=>simp [Zbk]at this
  subst d;exact ⟨v,A,[],[],rfl,rfl,C,ZsR D hr.2⟩
 |.nil e m::z,v::A,B,h,hr=>by
  simp only[Zm4]at h;split at h
  .rename_i F;obtain ⟨b,D,rfl⟩:=AA.1 h;have E:v=.slice none 0 0:=Zgc (g:=⟨fun _=>undef,fun _=>[],fun _=>[],fun _=>False⟩) (w:=w) hr.1;subst E;exact ⟨_,A,[],[],rfl,rfl,⟨none,0,[],[],[],rfl,yG,AM _,rfl,F,Sl.zero,rfl,rfl⟩,ZsR D hr.2⟩
  .simp at h
 |.row k::z,v::A,B,h,_=>by simp [Zm4]at h
 |.n x::z,v::A,B,h,_=>by simp [Zm4]at h
 |.dead::z,v::A,B,h,_=>by simp [Zm4]at h
theorem Zqn(z:Array Value)(m:Nat)(B:z.size=m)(C:0<m):∀n:Nat,(madeCells z (n*m)).toList=(Ac n z.toList).flatten
 |0=>by simp [madeCells]
 |n+1=>by
  have ih:=Zqn z m B C n;rw [List.replicate_succ',List.flatten_append,<-ih];simp only[madeCells,Array.toList_map,Array.toList_range,AH,Nat.one_mul,List.range_add,BK,List.map_map,BJ,List.flatten_nil,BA];congr 1
  apply List.ext_getElem?;intro j;by_cases A:j<m
  .simp only[List.getElem?_map,List.getElem?_range A,Ae,Function.comp];have e:(n*m+j) % z.size=j:=by
    rw [B,Nat.add_comm,Nat.add_mul_mod_self_right,Nat.mod_eq_of_lt A]
   have a:j<z.size:=by omega
   simp [e,a]
  .have D:z.size<=j:=by omega
   simp [A,D]
theorem ZB9[NW](F:∀t i,tt t=some i->TOk P t i)(V:HI W g st.ob w)(T:StU U st)(c:¬U key){t e m a:Nat}{z:List AV}(k:tt t=some (.slice e m a z)){n:Nat}{C:List CT}(M:Zm4 z=some C)(O:n<=1073741824){s:Sem Next}
  (hs:s=(do pure (.value (<-Instr.makeSlice t (.int .i64 n) (.int .i64 n))))):Fin P W U key st g w s (.p false [.row key],[(key,.row e m (Ac n C) 2)]):=by
 obtain ⟨N,G,I,⟨E,B,l,o,R,q,f,u⟩,_⟩:=F t _ k;have v:E.bytes*n<=281474976710656:=by
  have:=BL (show E.bytes<=131072 by omega) O;omega
 obtain ⟨w',L,D,K⟩:=run_make_full (P:=P) w 0 t e E B m N l q o .i64 .i64 n v (by unfold maxLen;omega) (AM _);have j:B.cells.size=m:=by rw [<-u,f.len];simp
 rw [Zqn B.cells m j G n]at D;have x:=Zjp (ZsR (w:=w) M f) (by simpa using j) n;have S:Below w.heap.size w w':=(Below.refl _ _).grown K (AD _) yG;have y:∃b e,w'.heap[w.heap.size]?=some (.cells b e (0,0)):=by
  rcases D.2 with ⟨A,_⟩|⟨g',J,b,A,_,H,_⟩
  .simp at A
  .simp at A;rw [<-A.1]at H;exact ⟨b,e,H⟩
 have:=ZxY (ks:=[]) (d:=2) V T c G (xs:=Ac n C) (by simpa using Zet D) rfl S y x FP.nil yG yG yG (s:=s) (P:=P) (by subst hs;simp only[Sem.run_bind,L,Result.andThen_ok,Sem.run_pure]);simpa [ZbD]using this
theorem ZtA[NW]{t e ty:TypeId}{C:TypeInfo}(D:P.underlying t=some (.slice e))(a:P.info? e=some C)(A B:Option Addr)(n c E:Nat)(b:n<=c):
  (Builtin.append_ #[t,t] ty #[.slice A n c,.slice B 0 E]).run P w=.ok (.slice A n c) w:=by
 cases A<;>cases B<;>simp [Builtin.append_,YQ D,Qc a,Builtin.lenOf,Builtin.firstCells,loadCells,loadCellsFrom,storeCells,b]
theorem Zuh:∀{e:List CT}{cs:List Value}{L:List Nat},RCs w e cs L->e.all CT.flat=true->L=[]
 | [],_,_,h,_=>h.2
 |x::r,_,_,⟨v,cs',L1,L2,rfl,rfl,h1,h2⟩,hf=>by
  simp only[BM,AP]at hf;have A:L1=[]:=by
   cases x with
   |int k n=>exact h1.2
   |bool b=>exact h1.2
   |str s=>exact h1.2.1
   |_=>simp [CT.flat]at hf
  rw [A,Zuh h2 hf.2];rfl
theorem ZhU[NW]{m:Nat}:∀{xs:List (List CT)}{cs:List Value}{L:List Nat},REs w m xs cs L->ZbI xs=true->L=[]
 | [],_,_,h,_=>h.2
 |x::r,_,_,⟨c1,c2,L1,L2,rfl,rfl,h1,h2⟩,hf=>by
  simp only[ZbI,BM,AP]at hf;rw [Zuh h1.1 hf.1,ZhU h2 hf.2];rfl
theorem REs.append{m:Nat}:∀{xs A:List (List CT)}{B vs:List Value}{L M:List Nat},REs w m xs B L->REs w m A vs M->REs w m (xs++A) (B++vs) (L++M)
 | [],_,_,_,_,_,h,h'=>by obtain ⟨rfl,rfl⟩:=h;simpa using h'
 |_::_,_,_,_,_,_,⟨c1,c2,L1,L2,rfl,rfl,h3,h4⟩,h'=>⟨c1,c2++_,L1,L2++_,yG,yG,h3,h4.append h'⟩
theorem REs.one{m:Nat}:∀{xs:List (List CT)}{cs:List Value}{L:List Nat},REs w m xs cs L->∀u∈cs,u.oneCell'=true
 | [],_,_,h=>by simp [h.1]
 |_::_,_,_,⟨c1,c2,L1,L2,rfl,rfl,h3,h4⟩=>fun u A=>by
  rcases A9.1 A with A|A
  .exact h3.1.one u A
  .exact h4.one u A
theorem ZAQ{a b:Nat}(h:Zg6 a b=2)(ha:a<=2)(A:b<=2):a=2/\b=2:=by unfold Zg6 at h;split at h<;>omega
theorem Zq9{A:Bool}{xs:List (List CT)}(h:Zk6 A xs=2):ZbI xs=true:=by unfold Zk6 at h;split at h<;>simp_all
theorem ZtM(A:Bool)(xs:List (List CT)):Zk6 A xs<=2:=by unfold Zk6;split<;>omega
theorem Zq3(A:Bool)(xs:List (List CT)):0<Zk6 A xs:=by unfold Zk6;split<;>omega
theorem HI.plainD[NW]{ob:Nat->Ob}(h:HI W g ob w){k b:Nat}(m:b∈g.D k):(W.heap.size<=b\/W.x b)/\∃a e,w.heap[b]?=some (.cells a e (0,0)):=by
 have h1:=h.plain k b (by simp [m]);have h2:=h.obs k;cases hk:ob k with
 |map kk vk kv=>
  rw [hk]at h2;obtain ⟨_,_,_,_,_,A,_⟩:=h2;rw [A]at m;simp at m
 |_=>rw [hk]at h1;exact h1
theorem ZDO[NW](M:HI W g st.ob w){x:SV}{v:Value}{e m:Nat}{xs:List (List CT)}{ks:List Nat}{d:Nat}(h:Zha st x=some (xs,ks,d))(hok:ZnV st e m x=true)(C:SVR g w x v)(K:svU U x):
  ∃cs L,w.ownsV 0 e m v xs.length cs/\REs w m xs cs L/\(∀b∈L,¬g.own b)/\(d=2->L=ks.flatMap g.D)/\v.ownBlock.toList=ks.flatMap g.O/\(∀k∈ks,U k)/\d<=2/\0<d:=by
 unfold Zha at h;split at h
 .simp only[A0,AC]at h;obtain ⟨rfl,rfl,rfl⟩:=h;have:=ZwW C;subst this;exact ⟨[],[],ZiU _ _ _ _,⟨rfl,rfl⟩,yG,yG,by simp [Value.ownBlock],yG,yG,yG⟩
 .rename_i k;split at h
  .rename_i S N F T E;split at h
   .simp at h
   rename_i a;simp only[A0,AC]at h;obtain ⟨rfl,rfl,rfl⟩:=h;simp only[ZnV,E,AP,beq_iff_eq]at hok;obtain ⟨rfl,rfl⟩:=hok;have:=Zg8 C;subst this;obtain ⟨P,cs,L,J,I,H,G,A⟩:=M.deepO E a;refine ⟨cs,L,J,I,H,fun R=>?_,by simp [G],fun q B=>by simp at B;subst B;exact K (.row q) yG,?_,yE⟩
   .rcases A with ⟨_,A⟩|⟨A,_⟩
    .simp [A]
    .omega
   .rcases A with ⟨A,_⟩|⟨A,_⟩<;>omega
  .simp at h
 .simp at h
theorem ZDK[NW](hI:HI W g st.ob w){x:SV}{v:Value}{m:Nat}{xs:List (List CT)}{ks:List Nat}{d:Nat}{fl:Bool}(h:ZgX st fl x=some (xs,ks,d))(hok:Zmf st m x=true)(F:SVR g w x v)(T:svU U x):
  ∃A c cs L,v=.slice A xs.length c/\REs w m xs cs L/\(0<xs.length->∃b off,A=some ⟨b,off,none⟩/\ZbE w b off cs)/\(∀b∈L,¬g.own b)/\(d=2->L.Sublist (ks.flatMap g.D))/\(∀k∈ks,U k)/\d<=2/\0<d:=by
 unfold ZgX at h;split at h
 .simp only[A0,AC]at h;obtain ⟨rfl,rfl,rfl⟩:=h;simp only[Zmf,beq_iff_eq]at hok;subst hok;obtain ⟨A,cap,cs,L0,L1,rfl,h2,h3,h5,h6,O,V⟩:=Ziu F;refine ⟨A,cap,cs,L1,rfl,O,fun G=>?_,fun b S=>V b (by simp [S]),fun C=>by rw [ZhU O (Zq9 C)];simp,yG,ZtM _ _,Zq3 _ _⟩;obtain ⟨b,off,I,_,H⟩:=h6.at_ G;exact ⟨b,off,I,H⟩
 .simp only[A0,AC]at h;obtain ⟨rfl,rfl,rfl⟩:=h;have:=ZwW F;subst this;exact ⟨none,0,[],[],rfl,⟨rfl,rfl⟩,yG,yG,yG,yG,yG,yG⟩
 .rename_i k;split at h
  .rename_i e' m' e d' N;simp only[Zmf,N,beq_iff_eq]at hok;subst hok;have:=Zg8 F;subst this;obtain ⟨hm,cs,L,R,E,K,B⟩:=hI.deep N;obtain ⟨A,cap,L0,J,s2,s3,P,s5⟩:=Sl.row R;have a:0<e.length->∃b off,A=some ⟨b,off,none⟩/\ZbE w b off cs:=fun G=>by
    obtain ⟨b,off,I,_,H⟩:=P.at_ G;exact ⟨b,off,I,H⟩
   split at h
   .simp only[A0,AC]at h;obtain ⟨rfl,rfl,rfl⟩:=h;exact ⟨A,cap,cs,L,J,E,a,K,fun C=>by rw [ZhU E (Zq9 C)];simp,yG,ZtM _ _,Zq3 _ _⟩
   .rename_i aa;simp only[A0,AC]at h;obtain ⟨rfl,rfl,rfl⟩:=h;refine ⟨A,cap,cs,L,J,E,a,K,fun C=>?_,fun q M=>by simp at M;subst M;exact T (.row q) yG,?_,yE⟩
    .rcases B with ⟨_,_,B⟩|⟨B,_⟩|⟨B,_⟩
     .simp [B]
     .omega
     .omega
    .rcases B with ⟨B,_⟩|⟨B,_⟩|⟨B,_⟩<;>omega
  .simp at h
 .simp at h
theorem HI.nodupD[NW]{ob:Nat->Ob}(B:HI W g ob w):∀{ks:List Nat},ks.Nodup->(ks.flatMap g.D).Nodup
 | [],_=>by simp
 |k::ks,h=>by
  simp only[AT,AL];rw [An]at h;refine ⟨(AL.1 (B.nodup k)).2.1,B.nodupD h.2,fun x C y A e=>?_⟩;subst e;obtain ⟨j,E,A⟩:=AI.1 A;exact B.apart k j (fun e=>h.1 (e ▸ E)) x (by simp [C]) (by simp [A])
theorem ZGc[NW](al:∀t i,tt t=some i->TOk P t i)(hI:HI W g st.ob w)(hU:StU U st)(I:¬U key){t:Nat}{s x:SV}{vs vx:Value}{r:SV×List (Nat×Ob)}(h:ZpD st key (tt t) s x=some r)(hs:SVR g w s vs/\svU U s)(hx:SVR g w x vx/\svU U x){ty:TypeId}{q:Sem Next}
  (hq:q=(do pure (.value (<-Builtin.append_ #[t,t] ty #[vs,vx])))):Fin P W U key st g w q r:=by
 unfold ZpD at h;split at h
 .rename_i e m p z V;obtain ⟨⟨xs,k1,d1⟩,h1,h⟩:=AB.1 h;obtain ⟨⟨ys,k2,d2⟩,h2,h⟩:=AB.1 h;split at h
  .rename_i hc;simp only[A0]at h;subst h;obtain ⟨X,Y,J,K⟩:=hc;simp only at J K;obtain ⟨hu,hm,L,⟨ie,zv,M,Z,aa,ab,ac,ad⟩,_⟩:=al t _ V;obtain ⟨cs,Lx,a1,a2,a3,a4,a5,a6,a7,a8⟩:=ZDO hI h1 X hs.1 hs.2;obtain ⟨A,c,a,Ly,b0,b1,b2,b3,b4,b5,b7,b8⟩:=ZDK hI h2 Y hx.1 hx.2;subst b0;obtain ⟨A1,ao,ae,af,aq⟩:=YH a1;have N:a.length=ys.length*m:=b1.len;obtain ⟨v',w',r1,r2,r3,r4⟩:∃v' w',(Builtin.append_ #[t,t] ty #[vs,.slice A ys.length c]).run P w=.ok v' w'/\w'.ownsV 0 e m v' (xs.length+ys.length) (cs++a)/\w.grownBy w' vs.ownBlock/\(v'.ownBlock=vs.ownBlock\/v'.ownBlock=some w.heap.size):=by
    by_cases hy:ys.length=0
    .have ag:a=[]:=AY (by rw [N,hy];simp);refine ⟨vs,w,?_,by rw [ag,hy,BA];exact a1,World.grownBy.refl _ _,.inl rfl⟩;rw [ae,hy];exact ZtA hu M A1 A _ _ _ af
    .obtain ⟨b,off,rfl,E⟩:=b2 yE;have B:(xs.length+ys.length)*p<=140737488355328:=by
      have:=BL K L;omega
     obtain ⟨v',w',q1,q2,q3,q5⟩:=Zhr (P:=P) w 0 t ty e ie zv m p hu M ab Z aa (by rw [<-ad,ac.len];simp) hm vs xs.length cs a1 ⟨b,off,none⟩ ys.length c a N
      (fun j u hj=>by rw [Zcl];exact E j u hj) b1.one (by unfold maxLen;omega) B (AM _)
     exact ⟨v',w',q1,q2,q3,q5⟩
   have C:∀b,¬g.own b->some b≠vs.ownBlock:=fun b hn e=>hn (by
    have:b∈vs.ownBlock.toList:=by simp [<-e]
    rw [a5]at this;obtain ⟨k,_,mk⟩:=AI.1 this;exact .inl ⟨k,mk⟩)
   have d:∀b∈Lx++Ly,w'.heap[b]?=w.heap[b]?:=fun b mb=>by
    rcases A9.1 mb with mb|mb
    .exact r3.block b (a2.lt b mb) (C b (a3 b mb))
    .exact r3.block b (b1.lt b mb) (C b (b3 b mb))
   have Q:REs w' m (xs++ys) (cs++a) (Lx++Ly):=(a2.keep fun b mb=>d b (by simp [mb])).append (b1.keep fun b mb=>d b (by simp [mb]));have l:∀b∈v'.ownBlock.toList,b∈k1.flatMap g.O\/b=w.heap.size:=fun b mb=>by
    rcases r4 with r4|r4
    .rw [r4,a5]at mb;exact .inl mb
    .rw [r4]at mb;simp at mb;exact .inr mb
   have f:(Zg6 d1 d2)=2->(Lx++Ly).Sublist ((k1++k2).flatMap g.D):=fun hd=>by
    have hd:=ZAQ hd a7 b7;rw [B9];exact AN (by rw [a4 hd.1];exact AK _) (b4 hd.2)
   have F:∀b∈(if (Zg6 d1 d2)=2 then Lx++Ly else []),b∈Lx++Ly/\(Zg6 d1 d2)=2:=fun b mb=>by
    split at mb
    .rename_i hd;exact ⟨mb,hd⟩
    .simp at mb
   have R:Bel W w':=by
    refine ⟨r3.os.trans hI.below.os,r3.tape.trans hI.below.tape,r3.output.trans hI.below.output,AS hI.below.size r3.size,fun b hb S=>?_⟩;rw [r3.block b (Ad hb hI.below.size) fun e=>?_]
    .exact hI.below.block b hb S
    .have:b∈vs.ownBlock.toList:=by simp [<-e]
     rw [a5]at this;obtain ⟨k,_,mk⟩:=AI.1 this;rcases (hI.plain k b (by simp [mk])).1 with h|h
     .omega
     .exact S h
   obtain ⟨t1,t2⟩:=hI.turn (key:=key) (U:=U) (w':=w') (v:=v') (O:=v'.ownBlock.toList) (D:=if (Zg6 d1 d2)=2 then Lx++Ly else []) (o:=.row e m (xs++ys) (Zg6 d1 d2)) hU.ob I (k1++k2)
    (fun k mk=>(A9.1 mk).elim (a6 k) (b5 k)) R r3.size (fun b hb hn=>r3.block b hb fun e=>by
     have:b∈vs.ownBlock.toList:=by simp [<-e]
     rw [a5]at this;obtain ⟨k,hk,mk⟩:=AI.1 this;exact hn k (by simp [hk]) mk)
    (fun b mb=>by
     rcases l b mb with mb|rfl
     .obtain ⟨k,hk,mk⟩:=AI.1 mb;exact .inl ⟨k,by simp [hk],mk⟩
     .exact .inr (AD _))
    (fun b mb=>by
     obtain ⟨m1,m2⟩:=F b mb;obtain ⟨k,hk,mk⟩:=AI.1 ((f m2).subset m1);exact .inl ⟨k,hk,by simp [mk]⟩)
    (by
     rw [AL];refine ⟨by cases v'.ownBlock<;>simp,?_,fun b mb b' ah e=>?_⟩
     .split
      .rename_i hd;exact (hI.nodupD J).sublist (f hd)
      .simp
     .subst e;obtain ⟨m1,m2⟩:=F b ah;rcases l b mb with mb|rfl
      .obtain ⟨k,_,mk⟩:=AI.1 mb;rcases A9.1 m1 with m1|m1
       .exact a3 b m1 (.inl ⟨k,mk⟩)
       .exact b3 b m1 (.inl ⟨k,mk⟩)
      .rcases A9.1 m1 with m1|m1
       .have:=a2.lt _ m1;omega
       .have:=b1.lt _ m1;omega)
    (fun b mb=>by
     rcases A9.1 mb with mb|mb
     .have ai:W.heap.size<=b\/W.x b:=by
       rcases l b mb with mb|rfl
       .obtain ⟨k,_,mk⟩:=AI.1 mb;exact (hI.plain k b (by simp [mk])).1
       .exact .inl hI.below.size
      rcases r2.2 with ⟨h',_⟩|⟨g',o',ap,G,h',ar,hg,_⟩
      .simp [h',Value.ownBlock]at mb
      .simp [h',Value.ownBlock]at mb;subst mb;exact ⟨ai,G,e,hg⟩
     .obtain ⟨m1,m2⟩:=F b mb;obtain ⟨k,hk,mk⟩:=AI.1 ((f m2).subset m1);obtain ⟨p1,G,e',p2⟩:=hI.plainD mk;exact ⟨p1,G,e',by rw [d b m1];exact p2⟩)
    (fun am=>⟨hm,cs++a,Lx++Ly,by simpa [Gh.turn,upd]using r2,Q,by
     by_cases hd:Zg6 d1 d2=2
     .exact .inl ⟨hd,by simp [Gh.turn,upd],by simp [Gh.turn,hd]⟩
     .have aj:Zg6 d1 d2=1:=by unfold Zg6 at hd ⊢;split<;>simp_all<;>omega
      refine .inr (.inl ⟨aj,by simp [Gh.turn,upd],by simp [Gh.turn,hd],fun b mb ho=>?_⟩);have H:¬g.own b:=by
       rcases A9.1 mb with m1|m1
       .exact a3 b m1
       .exact b3 b m1
      rcases Zgy ho with mo|⟨k,_,_,mk⟩|hz
      .rcases l b mo with mo|rfl
       .obtain ⟨k,_,mk⟩:=AI.1 mo;exact H (.inl ⟨k,mk⟩)
       .rcases A9.1 mb with m1|m1
        .have:=a2.lt _ m1;omega
        .have:=b1.lt _ m1;omega
      .exact H (.inl ⟨k,mk⟩)
      .exact H (.inr hz)⟩)
   have T:=ZlA (key:=key) (o:=.row e m (xs++ys) (Zg6 d1 d2)) hU (k1++k2) trivial;refine ⟨_,v',w',.inl (by subst hq;simp only[Sem.run_bind,r1,Result.andThen_ok,Sem.run_pure]),t1,⟨_,rfl,⟨by simp [Gh.turn,upd],?_⟩⟩,t2,fun y my=>by simp at my;subst my;exact ZlC,T.1,T.2⟩;obtain ⟨A2,an,ak⟩:=ZbG r2;simp [ak,Value.oneCell']
  .simp at h
 .simp at h
end
end
section
open Go.RowKit
section
variable {P:Program} {W:Zbb} {U:Nat->Prop} {key:Nat} {st:St} {g:Gh} {w w':World} {a:Act} {tt:Nat->Option TI}
theorem RCs.dropS:∀{x:List CT}{c:List Value}{L:List Nat}(n:Nat),RCs w x c L->∃L',RCs w (x.drop n) (c.drop n) L'/\L'.Sublist L
 |x,c,L,0,h=>⟨L,by simpa using h,AK _⟩
 | [],c,L,n+1,h=>⟨[],by obtain ⟨rfl,rfl⟩:=h;simp [RCs],AU _⟩
 |x::r,_,_,n+1,⟨v,cs',L1,L2,rfl,rfl,h1,h2⟩=>by
  obtain ⟨L',B,A⟩:=RCs.dropS n h2;exact ⟨L',by simpa using B,A.trans (BN L1 L2)⟩
theorem RCs.spliceS[NW]{x:List CT}{c:List Value}{L:List Nat}{ys:List CT}{us:List Value}(h:RCs w x c L)(A:RCs w ys us []):∀(off:Nat),∃L',RCs w (splice x off ys) (splice c off us) L'/\L'.Sublist L:=by
 have D:us.length=ys.length:=A.len;intro off;induction off generalizing x c L with
 |zero=>
  obtain ⟨L',C,B⟩:=h.dropS (0+ys.length);refine ⟨[]++L',?_,B⟩;simp only[splice,List.take_zero,B5,D];exact A.append C
 |succ off ih=>
  cases x with
  |nil=>
   obtain ⟨rfl,rfl⟩:=h;refine ⟨[],?_,AU _⟩;simpa [splice]using A
  |cons x r=>
   obtain ⟨v,a,L1,L2,rfl,rfl,F,E⟩:=h;obtain ⟨L',C,B⟩:=ih E;refine ⟨L1++L',?_,AN (AK _) B⟩;have H:splice (x::r) (off+1) ys=x::splice r off ys:=by
    simp only[splice,BO,BP];rw [show off+1+ys.length=(off+ys.length)+1 by omega,BR]
   have G:splice (v::a) (off+1) us=v::splice a off us:=by
    simp only[splice,BO,BP];rw [show off+1+us.length=(off+us.length)+1 by omega,BR]
   rw [H,G];exact ⟨v,_,L1,L',rfl,rfl,F,C⟩
theorem Zl7{α:Type}(A B:List α)(off:Nat)(us:List α):splice (A++B) (A.length+off) us=A++splice B off us:=by
 simp only[splice];rw [BE,AJ,Aj,Ak (B4 _ _),Am];simp
theorem Zho{α:Type}(B c2:List α)(off:Nat)(A:List α)(h:off+A.length<=B.length):splice (B++c2) off A=splice B off A++c2:=by
 simp only[splice];rw [List.take_append_of_le_length yE,BS h];simp
theorem REs.set[NW]{m:Nat}{D:List CT}{A:List Value}(E:RCs w D A []):∀{xs:List (List CT)}{cs:List Value}{L:List Nat}{i off:Nat}{x:List CT},REs w m xs cs L->xs[i]?=some x->off+A.length<=m->
  ∃L',REs w m (xs.set i (splice x off D)) (splice cs (i*m+off) A) L'/\L'.Sublist L
 | [],_,_,_,_,_,_,hx,_=>by simp at hx
 |e::r,_,_,0,off,x,⟨c1,c2,L1,L2,rfl,rfl,h3,h4⟩,hx,ho=>by
  simp at hx;subst hx;obtain ⟨L',C,B⟩:=h3.1.spliceS E off;refine ⟨L'++L2,?_,AN B (AK _)⟩;rw [Nat.zero_mul,Aa,Zho _ _ _ _ (by rw [h3.2];exact ho)];exact ⟨splice c1 off A,c2,L',L2,rfl,rfl,⟨C,by rw [Zg5 _ _ _ (by rw [h3.2];exact ho)];exact h3.2⟩,h4⟩
 |e::r,_,_,i+1,off,x,⟨c1,c2,L1,L2,rfl,rfl,h3,h4⟩,hx,ho=>by
  obtain ⟨L',C,B⟩:=REs.set E h4 (i:=i) (off:=off) (x:=x) (by simpa using hx) ho;refine ⟨L1++L',?_,AN (AK _) B⟩;have e:(i+1)*m+off=c1.length+(i*m+off):=by rw [h3.2,AH];omega
  rw [e,Zl7];exact ⟨c1,_,L1,L',rfl,rfl,h3,C⟩
theorem ZqE[NW]:∀{vs:List AV}{C:List CT}{A:List Value},ZjN vs=some C->ZW (AVR g w) vs A->RCs w C A []
 | [],_,[],h,_=>by simp [ZjN]at h;subst h;exact ⟨rfl,rfl⟩
 | [],_,_::_,_,h=>h.elim
 |_::_,_,[],_,h=>h.elim
 |x::vs,C,u::A,h,hr=>by
  simp only[ZjN]at h;obtain ⟨y,D,h⟩:=AB.1 h;obtain ⟨b,G,rfl⟩:=AA.1 h;have E:x=.c y/\y.flat=true:=by
   cases x with
   |c z=>cases z<;>simp [Zxj]at D<;>subst D<;>exact ⟨rfl,rfl⟩
   |_=>simp [Zxj]at D
  obtain ⟨rfl,F⟩:=E;obtain ⟨L,B,_⟩:=hr.1;have a:L=[]:=by
   cases y with
   |int k n=>exact B.2
   |bool b=>exact B.2
   |str s=>exact B.2.1
   |_=>simp [CT.flat]at F
  subst a;exact ⟨u,A,[],[],rfl,rfl,B,ZqE G hr.2⟩
theorem ZAi[NW](af:∀t i,tt t=some i->TOk P t i)(hI:HI W g st.ob w)(hU:StU U st){t k m i off e:Nat}{xs:List (List CT)}{d:Nat}{x ys:List CT}{vs:List AV}{va vv:Value}{ag:Bool}(hk:st.ob k=.row e m xs d)(S:¬d=0)(hx:xs[i]?=some x)(T:ZjN vs=some ys)(hl:vs.length=Zj5 (tt t))(ho:off+vs.length<=m)
  (ha:SVR g w (.rp k m i off) va) (hv:SVR g w (.p ag vs) vv) (l:0<vs.length) {s:Sem Next} (hs:s=(do Instr.storeAt t va vv;pure .skip)):Fin P W U key st g w s (.und,[(k,.row e m (xs.set i (splice x off ys)) d)]):=by
 obtain ⟨b,o,n,c,h1,rfl⟩:=ha;obtain ⟨hm,cs,L,o1,o2,o3,o4,o5⟩:=hI.deepO hk S;obtain ⟨us,c1,c2⟩:=PVR.cells hv;have V:=c2.len;have hi:i<xs.length:=(AZ.1 hx).1;rcases o1.2 with ⟨_,hn⟩|⟨b',o',cap,a,y,X,hg,F,Y,aa,ab⟩
 .omega
 have ac:b=b'/\o=o':=by rw [y]at h1;simp at h1;exact ⟨h1.1.1.symm,h1.1.2.symm⟩
 obtain ⟨rfl,rfl⟩:=ac;have ai:i*m+off+us.length<=xs.length*m:=by
  have:=B3 m (show i+1<=xs.length by omega);rw [AH]at this;omega
 have ah:xs.length*m<=cap*m:=B3 m F;have A:(sizeOf t).run P w=.ok us.length w:=by
  rw [<-V,hl];unfold Zj5 at hl ⊢;cases hti:tt t with
  |none=>rw [hti]at hl;simp at hl;simp [hl]at l
  |some i=>
   cases i with
   |atom z=>obtain ⟨d,zv,i,_,_,h3,_,h4,_⟩:=af t _ hti;rw [Qc h3,h4]
   |strct fs n z=>obtain ⟨_,i,_,_,h3,h4,_⟩:=af t _ hti;rw [Qc h3,h4]
   |slice e m b z=>obtain ⟨_,_,_,_,j,h3,h4,_⟩:=af t _ hti;rw [Qc h3,h4]
   |_=>rw [hti]at hl;simp at hl;simp [hl]at l
 have G:=run_storeCells_at (P:=P) b (o+(i*m+off)) e us 0 a w hg yE (AVRs.one c2);obtain ⟨r1,r2,r3,r4,r5,r6⟩:=ZqF b a (splice a.toList (o+(i*m+off)) us).toArray e hg;have H:s.run P w=.ok .skip (w.setRow b (splice a.toList (o+(i*m+off)) us).toArray):=by
  subst hs;have e:(a.toList.take (o+(i*m+off)+0)++us++a.toList.drop (o+(i*m+off)+0+us.length)).toArray=(splice a.toList (o+(i*m+off)) us).toArray:=by simp [splice]
  rw [e]at G;simp [Instr.storeAt,Instr.sureAddr,storeVar,c1,A,G]
 have B:g.O k=[b]:=by rw [o4,y];rfl
 have I:∀b',b'<w.heap.size->¬g.own b'->(w.setRow b (splice a.toList (o+(i*m+off)) us).toArray).heap[b']?=w.heap[b']?:=fun b' _ hn=>r2 b' fun e=>hn (.inl ⟨k,by simp [B,e]⟩);obtain ⟨L',q1,q2⟩:=o2.set (ZqE T c2) hx (show off+us.length<=m by omega);have C:(w.setRow b (splice a.toList (o+(i*m+off)) us).toArray).ownsV 0 e m (g.val k) (xs.set i (splice x off ys)).length (splice cs (i*m+off) us):=by
  have J:cs.length=xs.length*m:=o1.1;refine ⟨by rw [Zg5 _ _ _ yE,J];simp,.inr ⟨b,o,cap,_,by simpa using y,X,r1,by simpa using F,Y,by rw [List.size_toArray,Zg5 _ _ _ (show o+(i*m+off)+us.length<=a.toList.length by simp;omega)];simpa using aa,?_⟩⟩;have h0:((splice a.toList (o+(i*m+off)) us).toArray.toList).drop o=splice (a.toList.drop o) (i*m+off) us:=by
   show (splice a.toList (o+(i*m+off)) us).drop o=_
   unfold splice;have ad:o<=(a.toList.take (o+(i*m+off))).length:=by simp;omega
   rw [BS ad,BF,Am,List.drop_drop,AJ]
  rw [h0];have:a.toList.drop o=cs++(a.toList.drop o).drop (xs.length*m):=by rw [<-ab];exact (List.take_append_drop _ _).symm
  rw [this,Zho _ _ _ _ yE];have e2:(xs.set i (splice x off ys)).length*m=(splice cs (i*m+off) us).length:=by rw [Zg5 _ _ _ yE,J];simp
  rw [e2];exact BH rfl
 have K:=o2.lt;have E:REs (w.setRow b (splice a.toList (o+(i*m+off)) us).toArray) m (xs.set i (splice x off ys)) (splice cs (i*m+off) us) L':=q1.keep fun b' mb=>I b' (K b' (q2.subset mb)) (o3 b' (q2.subset mb));let g':Gh:=⟨g.val,g.O,upd g.D k (if d=2 then L' else []),g.Z⟩
 have aj:∀b',g'.own b'↔g.own b':=fun b'=>Iff.rfl;have M:(∀b'∈g'.D k,b'∈g.D k)->Zal g g' w.heap.size:=fun hs=>.of (fun b' h=>.inl h) fun j b' mb=>by
  by_cases hj:j=k
  .subst hj;exact .inl (.inr ⟨j,hs b' mb⟩)
  .exact .inl (.inr ⟨j,by simpa [g',ZZ _ _ hj]using mb⟩)
 have f:∀b'∈g'.D k,b'∈g.D k:=fun b' mb=>by
  simp only[g',ZN]at mb;split at mb
  .rename_i hd;rcases o5 with ⟨_,o5⟩|⟨o5,_⟩
   .rw [o5];exact q2.subset mb
   .omega
  .simp at mb
 refine ⟨g',undef,_,.inr ⟨H,rfl⟩,?_,rfl,fun x u hx hu=>hu.move hx (fun _ _=>rfl) I (M f) yE,trivial,fun q=>?_,fun q hq=>?_⟩
 .refine hI.step (U:=U) (fun q=>q=k) ?_ rfl (fun b' _ hn=>r2 b' fun e=>hn k rfl (by simp [B,e])) (fun q hq=>⟨ZZ _ _ hq,rfl,rfl,ZZ _ _ hq⟩) hU.ob (fun _ _=>rfl) (M f) (fun q hq=>?_)
  .exact ⟨r4.trans hI.below.os,r5.trans hI.below.tape,r6.trans hI.below.output,by have:=hI.below.size;omega,fun q hq N=>by rw [r2 q (fun e=>by subst e;rcases (hI.plain k q (by simp [B])).1 with h|h;omega;exact N h)];exact hI.below.block q hq N⟩
  .subst hq;have v:∀b'∈g'.O q++g'.D q,b'∈g.O q++g.D q:=fun b' mb=>by
    rcases A9.1 mb with mb|mb
    .exact A9.2 (.inl mb)
    .exact A9.2 (.inr (f b' mb))
   refine ⟨?_,?_,fun b' mb=>?_,fun j hj b' mb mj=>?_⟩
   .simp only[Zv,ZN];refine ⟨hm,_,L',C,E,?_⟩;rcases o5 with ⟨o5,_⟩|⟨o5,_⟩
    .exact .inl ⟨o5,o4,by simp [g',upd,o5]⟩
    .exact .inr (.inl ⟨o5,o4,by simp [g',upd,o5],fun b' mb=>o3 b' (q2.subset mb)⟩)
   .have hn:=hI.nodup q;refine hn.sublist (AN (AK _) ?_);simp only[g',ZN];split
    .rename_i hd;rcases o5 with ⟨_,o5⟩|⟨o5,_⟩
     .rw [o5];exact q2
     .omega
    .exact AU _
   .have hp:=hI.plain q b' (v b' mb);rw [hk]at hp;obtain ⟨p1,Q,e',p2⟩:=hp;refine ⟨p1,?_⟩;simp only[Zv,ZN];show ∃a e,_=_
    by_cases R:b'=b
    .subst R;exact ⟨_,_,r1⟩
    .exact ⟨Q,e',by rw [r2 b' R];exact p2⟩
   .have ae:b'∈g.O j++g.D j:=by
     rcases A9.1 mj with mj|mj
     .exact A9.2 (.inl mj)
     .simp only[g',ZZ _ _ (fun e:j=q=>hj e.symm)]at mj;exact A9.2 (.inr mj)
    exact hI.apart q j hj b' (v b' mb) ae
 .simp only[Zv,upd];split
  .trivial
  .exact (hU.ob q).mono fun _=>.inl
 .simp only[Zv,upd];split
  .rename_i e;subst e;exact absurd (hU.gone q fun h=>hq (.inl h)) (by simp [hk])
  .exact hU.gone q fun h=>hq (.inl h)
end
end
section
open Go.RowKit
section
variable {P:Program} {W:Zbb} {U:Nat->Prop} {key:Nat} {st:St} {g:Gh} {w w':World} {a:Act} {tt:Nat->Option TI}
theorem ZwQ[NW]{α:Type}(f:Nat->α)(k:Nat):upd f k (f k)=f:=by
 funext j;by_cases A:j=k
 .subst A;rw [ZN]
 .rw [ZZ _ _ A]
theorem AVR.less[NW]{A:Gh}{x:AV}{v:Value}(h:AVR g w x v)(D:A.val=g.val)(B:X4 A g):AVR A w x v:=by
 cases x with
 |c x=>obtain ⟨L,G,F⟩:=h;exact ⟨L,G,fun b C E=>F b C (B.own b E)⟩
 |n x=>exact NR.move h (fun _ _ _=>rfl) (B.grow _)
 |row k=>exact ⟨h.1.trans (by rw [D]),h.2⟩
 |nil e m=>exact h
 |dead=>exact h
theorem SVR.less[NW]{A:Gh}{x:SV}{v:Value}(h:SVR g w x v)(C:A.val=g.val)(D:X4 A g):SVR A w x v:=
 h.move (U:=fun _=>True) (by (cases x<;>try trivial);(intro y B;cases y<;>trivial);(intro y B z E;cases z<;>trivial)) (fun k _=>by rw [C]) (fun _ _ _=>rfl) (D.grow _) (AD _)
theorem ZkD[NW]{ob:Nat->Ob}(E:HI W g ob w)(k:Nat):∃A:Gh,HI W A (upd ob k (Yv (ob k))) w/\A.val=g.val/\X4 A g/\((∃e m xs d,ob k=.row e m xs d)->∀b∈g.O k++g.D k,¬A.low b):=by
 cases hk:ob k with
 |gone=>exact ⟨g,by rw [show Yv Ob.gone=ob k from hk.symm,ZwQ];exact E,rfl,X4.refl _,yG⟩
 |box t cs=>exact ⟨g,by rw [show Yv (Ob.box t cs)=ob k from hk.symm,ZwQ];exact E,rfl,X4.refl _,yG⟩
 |map kk vk kv=>exact ⟨g,by rw [show Yv (Ob.map kk vk kv)=ob k from hk.symm,ZwQ];exact E,rfl,X4.refl _,yG⟩
 |row e m xs d=>
  obtain ⟨hm,cs,L,o1,o2,o3,o5⟩:=E.deep hk;let A:Gh:=⟨g.val,upd g.O k [],upd g.D k [],g.Z⟩
  have I:∀j b,b∈A.O j->j≠k/\b∈g.O j:=fun j b B=>by
   by_cases C:j=k
   .subst C;simp [A,upd]at B
   .exact ⟨C,by simpa [A,upd,C]using B⟩
  have M:∀j b,b∈A.D j->j≠k/\b∈g.D j:=fun j b B=>by
   by_cases C:j=k
   .subst C;simp [A,upd]at B
   .exact ⟨C,by simpa [A,upd,C]using B⟩
  have l:∀j b,b∈A.O j++A.D j->j≠k/\b∈g.O j++g.D j:=fun j b B=>by
   rcases A9.1 B with H|H
   .exact ⟨(I j b H).1,by simp [(I j b H).2]⟩
   .exact ⟨(M j b H).1,by simp [(M j b H).2]⟩
  have a:∀b,A.own b->g.own b:=fun b G=>by
   rcases G with ⟨j,F⟩|J
   .exact .inl ⟨j,(I j b F).2⟩
   .exact .inr J
  have f:X4 A g:=.of a fun j b B=>⟨j,(M j b B).2⟩
  have o:∀b∈(g.val k).ownBlock.toList,¬A.own b:=fun b B G=>by
   rcases o5 with ⟨_,q,_⟩|⟨_,q,_⟩|⟨_,_,_,q⟩
   .have K:b∈g.O k++g.D k:=by simp [q,B]
    rcases G with ⟨j,F⟩|J
    .exact E.apart k j (fun e=>(I j b F).1 e.symm) b K (by simp [(I j b F).2])
    .exact E.nz K J
   .have K:b∈g.O k++g.D k:=by simp [q,B]
    rcases G with ⟨j,F⟩|J
    .exact E.apart k j (fun e=>(I j b F).1 e.symm) b K (by simp [(I j b F).2])
    .exact E.nz K J
   .exact q b B (a b G)
  refine ⟨A,⟨E.below,fun j=>?_,fun j=>?_,fun i j p b B F=>?_,fun j b B=>?_,E.gz,E.zx,E.nw⟩,rfl,f,fun _ b B G=>?_⟩
  rotate_right
  .rcases G with (⟨j,F⟩|J)|⟨j,F⟩
   .exact E.apart k j (fun e=>(I j b F).1 e.symm) b B (by simp [(I j b F).2])
   .exact E.nz B J
   .exact E.apart k j (fun e=>(M j b F).1 e.symm) b B (by simp [(M j b F).2])
  .by_cases C:j=k
   .subst C;rw [ZN];refine ⟨hm,cs,L,o1,o2,.inr (.inr ⟨rfl,by simp [A,upd],by simp [A,upd],fun b B=>?_⟩)⟩;rcases A9.1 B with H|H
    .exact o b H
    .exact fun G=>o3 b H (a b G)
   .rw [ZZ _ _ C];have ho:=E.obs j;cases hoj:ob j with
    |gone=>rw [hoj]at ho;exact ⟨by simpa [A,upd,C]using ho.1,by simpa [A,upd,C]using ho.2⟩
    |box t ds=>
     rw [hoj]at ho;obtain ⟨b,vs,h1,h2,V,U,h5⟩:=ho;exact ⟨b,vs,h1,by simpa [A,upd,C]using h2,by simpa [A,upd,C]using V,U,h5.mono fun x u _ hx=>AVR.less hx rfl f⟩
    |map kk vk kv=>
     rw [hoj]at ho;obtain ⟨b,es,c,h1,h2,V,U⟩:=ho;exact ⟨b,es,c,h1,by simpa [A,upd,C]using h2,by simpa [A,upd,C]using V,U⟩
    |row e' m' xs' d'=>
     rw [hoj]at ho;obtain ⟨v,y,L',p1,p2,T⟩:=ho;refine ⟨v,y,L',p1,p2,?_⟩;have e1:A.O j=g.O j:=by simp [A,upd,C]
     have e2:A.D j=g.D j:=by simp [A,upd,C]
     rw [e1,e2];rcases T with T|⟨S,R,P,N⟩|⟨S,R,P,N⟩
     .exact .inl T
     .exact .inr (.inl ⟨S,R,P,fun b B G=>N b B (a b G)⟩)
     .exact .inr (.inr ⟨S,R,P,fun b B G=>N b B (a b G)⟩)
  .by_cases C:j=k
   .subst C;simp [A,upd]
   .have:=E.nodup j;simpa [A,upd,C]using this
  .exact E.apart i j p b (l i b B).2 (l j b F).2
  .rw [ZZ _ _ (l j b B).1];exact E.plain j b (l j b B).2
theorem Zz0[NW]{ob:Nat->Ob}(B:HI W g ob w){k t:Nat}{cs:List AV}(hk:ob k=.box t cs):∃A:Gh,HI W A (upd ob k .gone) w/\A.val=g.val/\X4 A g/\∃b vs,g.val k=.pointer (some ⟨b,0,none⟩)/\¬A.own b/\b<w.heap.size/\ZbE w b 0 vs/\ZW (AVR g w) cs vs:=by
 have ho:=B.obs k;rw [hk]at ho;obtain ⟨b,vs,K,H,M,G,h5⟩:=ho;let A:Gh:=⟨g.val,upd g.O k [],upd g.D k [],g.Z⟩
 have F:∀j x,x∈A.O j++A.D j->j≠k/\x∈g.O j++g.D j:=fun j x C=>by
  by_cases hj:j=k
  .subst hj;simp [A,upd]at C
  .exact ⟨hj,by simpa [A,upd,hj]using C⟩
 have a:∀x,A.own x->g.own x/\x≠b:=fun x I=>by
  rcases I with ⟨j,L⟩|hz
  .have:=F j x (by simp [L]);refine ⟨.inl ⟨j,?_⟩,fun e=>?_⟩
   .have hj:=this.1;simpa [A,upd,hj]using L
   .subst e;exact B.apart j k this.1 x this.2 (by simp [H])
  .exact ⟨.inr hz,fun e=>by subst e;exact B.nz (k:=k) (by simp [H]) hz⟩
 have d:X4 A g:=.of (fun x I=>(a x I).1) fun j b E=>⟨j,by
  have hj:=(F j b (by simp [E])).1;simpa [A,upd,hj]using E⟩
 refine ⟨A,⟨B.below,fun j=>?_,fun j=>?_,fun i j f x C L=>?_,fun j x C=>?_,B.gz,B.zx,B.nw⟩,rfl,d,b,vs,K,fun J=>(a b J).2 rfl,(AW.1 G).1,fun j u hj=>?_,h5⟩
 .by_cases hj:j=k
  .subst hj;rw [ZN];exact ⟨by simp [A,upd],by simp [A,upd]⟩
  .rw [ZZ _ _ hj];have ho:=B.obs j;have P:A.O j=g.O j:=by simp [A,upd,hj]
   have N:A.D j=g.D j:=by simp [A,upd,hj]
   cases hoj:ob j with
   |gone=>rw [hoj]at ho;exact ⟨P.trans ho.1,N.trans ho.2⟩
   |box t ds=>
    rw [hoj]at ho;obtain ⟨b,vs,K,H,M,G,h5⟩:=ho;exact ⟨b,vs,K,P.trans H,N.trans M,G,h5.mono fun x u _ I=>AVR.less I rfl d⟩
   |map kk vk kv=>
    rw [hoj]at ho;obtain ⟨b,es,c,K,H,M,G⟩:=ho;exact ⟨b,es,c,K,P.trans H,N.trans M,G⟩
   |row e' m' xs' d'=>
    rw [hoj]at ho;obtain ⟨l,m,L',p1,p2,V⟩:=ho;refine ⟨l,m,L',p1,p2,?_⟩;rw [P,N];rcases V with V|⟨U,T,S,R⟩|⟨U,T,S,R⟩
    .exact .inl V
    .exact .inr (.inl ⟨U,T,S,fun b E J=>R b E (a b J).1⟩)
    .exact .inr (.inr ⟨U,T,S,fun b E J=>R b E (a b J).1⟩)
 .by_cases hj:j=k
  .subst hj;simp [A,upd]
  .have:=B.nodup j;simpa [A,upd,hj]using this
 .exact B.apart i j f x (F i x C).2 (F j x L).2
 .rw [ZZ _ _ (F j x C).1];exact B.plain j x (F j x C).2
 .rw [Aa,cell_of_row w b j vs.toArray t (0,0) G];simpa using hj
theorem Ztb[NW]{ob:Nat->Ob}(P:HI W g ob w){k e m:Nat}{xs:List (List CT)}(O:ob k=.row e m xs 0):∃L,RC w (.sl e m xs) (g.val k) L/\∀b∈L,¬g.own b:=by
 obtain ⟨N,cs,L1,K,J,I,H⟩:=P.deep O;obtain ⟨A,cap,L0,G,F,E,D,C⟩:=Sl.row K;refine ⟨L0++L1,⟨A,cap,cs,L0,L1,G,F,E,rfl,N,D,J⟩,fun b M=>?_⟩;rcases A9.1 M with B|B
 .rcases H with ⟨q,_⟩|⟨q,_⟩|⟨_,_,_,q⟩
  .omega
  .omega
  .exact q b (C.subset B)
 .exact I b B
theorem REs.dropS{m:Nat}:∀{xs:List (List CT)}{cs:List Value}{L:List Nat}(l:Nat),REs w m xs cs L->∃L',REs w m (xs.drop l) (cs.drop (l*m)) L'/\L'.Sublist L
 |xs,cs,L,0,h=>⟨L,by simpa using h,AK _⟩
 | [],cs,L,l+1,h=>⟨[],by obtain ⟨rfl,rfl⟩:=h;simp [REs],AU _⟩
 |x::r,_,_,l+1,⟨c1,c2,L1,L2,rfl,rfl,h3,h4⟩=>by
  obtain ⟨L',B,A⟩:=REs.dropS l h4;refine ⟨L',?_,A.trans (BN _ _)⟩;have e:(l+1)*m=c1.length+l*m:=by rw [h3.2,AH];omega
  have C:(c1++c2).drop (c1.length+l*m)=c2.drop (l*m):=by
   rw [Aj,Ak (B4 _ _),B5,Am]
  rw [e,C];simpa using B
theorem ZAH[NW](aa:∀t i,tt t=some i->TOk P t i)(T:HI W g st.ob w)(hU:StU U st)(c:¬U key){t k e m d l:Nat}{xs:List (List CT)}(hk:st.ob k=.row e m xs d)(E:¬d=0)(a:Zl4 (tt t)=m){lo:Option SV}{vx:Value}{vlo:Option Value}(hl:loB xs.length lo=some l)(hx:SVR g w (.p false [.row k]) vx)
  (F:Zo8 g w lo vlo) {s:Sem Next} (hs:s=(do pure (.value (<-Instr.sliceAt t vx vlo none none)))):Fin P W U key st g w s (.p false [.row key],[(k,.gone),(key,.row e m (xs.drop l) d)]):=by
 obtain ⟨hm,cs,L,o1,o2,o3,o4,o5⟩:=T.deepO hk E;have hv:=Zg8 hx;subst hv;obtain ⟨A,cap,hv,G,ad⟩:=YH o1;obtain ⟨b1,b2,_⟩:=ZjW (P:=P) (w:=w) (g:=g) (b:=true) (len:=xs.length) (cap:=cap) (h:=xs.length) (hi:=none) (vhi:=none) rfl hl F trivial G;obtain ⟨e',b',z',H⟩:∃e' b' z',tt t=some (.slice e' m b' z'):=by
  unfold Zl4 at a;split at a
  .rename_i h1;subst a;exact ⟨_,_,_,h1⟩
  .omega
 obtain ⟨hu,_,_,⟨ie,zv,I,J,_⟩,_⟩:=aa t _ H;have hO:g.O k=(Value.slice A xs.length cap).ownBlock.toList:=by rw [o4,hv]
 have f:=o1;rw [hv]at f;obtain ⟨t1,R⟩:=ZoS (l:=l) f b2;generalize hw:(Value.slice (if cap=l then A else A.map (·.add (l*m))) (xs.length - l) (cap - l))=v' at t1 R
 have u:s.run P w=.ok (.value v') w:=by
  subst hs;have:(Instr.sliceAt t (.slice A xs.length cap) vlo none none).run P w=.ok v' w:=by
   rw [<-hw];simp [Instr.sliceAt,YQ hu,Instr.slice,b1,Qc I,J]
  rw [hv];simp only[Sem.run_bind,this,Result.andThen_ok,Sem.run_pure]
 obtain ⟨M,r1,S⟩:=o2.dropS l;have K:U k:=Classical.byContradiction fun hn=>by have:=hU.gone _ hn;rw [hk]at this;simp at this
 have x:∀b∈(if d=2 then M else []),b∈g.D k:=fun b N=>by
  split at N
  .rename_i hd;rcases o5 with ⟨_,q⟩|⟨q,_⟩
   .rw [q];exact S.subset N
   .omega
  .simp at N
 have z:(xs.drop l).length=xs.length - l:=by simp
 obtain ⟨i1,i2⟩:=T.turn (key:=key) (U:=U) (w':=w) (v:=v') (O:=v'.ownBlock.toList) (D:=if d=2 then M else []) (o:=.row e m (xs.drop l) d) hU.ob c [k]
  (fun j V=>by simp at V;subst V;exact K) T.below (AD _) (fun b hb hn=>rfl)
  (fun b N=>.inl ⟨k,yG,by rw [hO,<-R];exact N⟩)
  (fun b N=>.inl ⟨k,yG,A9.2 (.inr (x b N))⟩)
  (by
   have hn:=T.nodup k;refine hn.sublist (AN (by rw [hO,<-R];exact AK _) ?_);split
   .rename_i hd;rcases o5 with ⟨_,q⟩|⟨q,_⟩
    .rw [q];exact S
    .omega
   .exact AU _)
  (fun b N=>by
   have B:b∈g.O k++g.D k:=by
    rcases A9.1 N with N|N
    .exact A9.2 (.inl (by rw [hO,<-R];exact N))
    .exact A9.2 (.inr (x b N))
   obtain ⟨p1,p2⟩:=T.plain k b B;exact ⟨p1,p2.of (by rw [hk];rfl)⟩)
  (fun ac=>⟨hm,cs.drop (l*m),M,by simp only[Gh.turn,ZN];rw [z];exact t1,r1,by
   rcases o5 with ⟨q,_⟩|⟨q,_⟩
   .exact .inl ⟨q,by simp [Gh.turn,ZN],by simp [Gh.turn,q]⟩
   .refine .inr (.inl ⟨q,by simp [Gh.turn,ZN],by simp [Gh.turn,q],fun b N ho=>?_⟩);rcases Zgy ho with mo|⟨j,_,_,V⟩|hz
    .exact o3 b (S.subset N) (.inl ⟨k,by rw [hO,<-R];exact mo⟩)
    .exact o3 b (S.subset N) (.inl ⟨j,V⟩)
    .exact o3 b (S.subset N) (.inr hz)⟩)
 have C:=ZlA (key:=key) (o:=.row e m (xs.drop l) d) hU [k] trivial;refine ⟨_,v',w,.inl u,i1,⟨_,rfl,⟨by simp [Gh.turn,ZN],?_⟩⟩,i2,fun y my=>by simp at my;subst my;exact ZlC,C.1,C.2⟩;rw [<-hw];simp [Value.oneCell']
theorem Zzh[NW](G:∀t i,tt t=some i->TOk P t i)(T:HI W g st.ob w)(I:StU U st)(o:¬U key){t:Nat}{x:SV}{r:SV×List (Nat×Ob)}{J hi:Option SV}{vx:Value}{vlo vhi:Option Value}(h:ZaE st key (tt t) J hi x=some r)(O:SVR g w x vx)
  (a:Zo8 g w J vlo) (b:Zo8 g w hi vhi) {s:Sem Next} (hs:s=(do pure (.value (<-Instr.sliceAt t vx vlo vhi none)))):Fin P W U key st g w s r:=by
 unfold ZaE at h;split at h
 .rename_i k;split at h
  rotate_left
  .simp at h
  split at h
  .rename_i e m xs d S;split at h
   .rename_i u;split at h
    .rename_i f;obtain ⟨l,R,rfl⟩:=AA.1 h;unfold mvS at f;split at f
     .have A:¬d=0:=fun e=>by subst e;simp at f
      cases vhi with
      |some _=>exact b.elim
      |none=>exact ZAH G T I o S A u R O a hs
     .simp at f
    obtain ⟨q,hq,h⟩:=AB.1 h;obtain ⟨l,R,rfl⟩:=AA.1 h;obtain ⟨H,N,K,M,_⟩:=ZkD T k;rw [S]at N;obtain ⟨L,t1,t2⟩:=Ztb N (ZN st.ob k (.row e m xs 0));have B:vx=H.val k:=by rw [K];exact Zg8 O
    have C:SVR H w (.p false [.c (.sl e m xs)]) vx:=⟨_,rfl,L,B ▸ t1,t2⟩
    have D:Zo8 H w J vlo:=by
     cases J<;>cases vlo<;>simp only[Zo8]at a ⊢
     exact a.less K M
    have E:Zo8 H w hi vhi:=by
     cases hi<;>cases vhi<;>simp only[Zo8]at b ⊢
     exact b.less K M
    obtain ⟨cv,c1,c2,V⟩:=Zu0 (t:=t) (U:=U) (g:=H) (P:=P) (x:=.p false [.c (.sl e m xs)]) (v:=.p false [.c (.sl e m ((xs.take q).drop l))]) G (by simp only[Zou,u,if_true,hq,R,Option.bind_some,Ae]) C D E;have F:U k:=Classical.byContradiction fun hn=>by have:=I.gone _ hn;rw [S]at this;simp at this
    refine ⟨H,cv,w,.inl (by rw [hs];simp only[Sem.run_bind,c1,Result.andThen_ok,Sem.run_pure]),N,c2,fun y v _ hy=>hy.less K M,V.mono fun _=>.inl,fun j=>?_,fun j hj=>?_⟩
    .show obU _ (upd st.ob k (.row e m xs 0) j)
     by_cases z:j=k
     .subst z;rw [ZN];trivial
     .rw [ZZ _ _ z];exact (I.ob j).mono fun _=>.inl
    .show upd st.ob k (.row e m xs 0) j=_
     rw [ZZ _ _ (show j≠k from fun e=>hj (.inl (e ▸ F)))];exact I.gone j fun h=>hj (.inl h)
   .simp at h
  .simp at h
 .obtain ⟨v,hv,rfl⟩:=AA.1 h;obtain ⟨cv,c1,c2,V⟩:=Zu0 (U:=U) G hv O a b;exact Zbw T I (by rw [hs];simp only[Sem.run_bind,c1,Result.andThen_ok,Sem.run_pure]) c2 V
 .simp at h
end
end
section
open Go.RowKit Go.MapKept
theorem Zpe{A:PK}{d:TypeDesc}{k:Value}(B:ZeU A d=true)(C:Zjg A k):IsKey d k:=by
 cases A<;>cases d<;>simp [ZeU]at B<;>cases k<;>simp_all [Zjg,IsKey]
theorem Zw9{A:PK}{a b:Value}(ha:Zjg A a)(B:Zjg A b):vEq a b=true↔a=b:=by
 cases A<;>cases a<;>simp [Zjg]at ha<;>cases b<;>simp [Zjg]at B<;>simp_all [vEq,sEq]
theorem Zkc[NW]{B H:PK}{d:TypeDesc}{k:Value}(D:ZeU B d=true)(A:Zjg B k):∀(l:List MapEntry) (i:Nat),Zlz B H (l.map fun e=>(e.key,e.val))->
  (Instr.findNow d k l i=some none/\ZmY (l.map fun e=>(e.key,e.val)) k=none/\∀v,Zf3 (l.map fun e=>(e.key,e.val)) k v=(l.map fun e=>(e.key,e.val))++[(k,v)])\/
  ∃j e,Instr.findNow d k l i=some (some (i+j,e.val))/\l[j]?=some e/\e.key=k/\ZmY (l.map fun e=>(e.key,e.val)) k=some e.val/\Zjg H e.val/\∀v,Zf3 (l.map fun e=>(e.key,e.val)) k v=(l.modify j fun e=>{ e with key:=k,val:=v }).map fun e=>(e.key,e.val)
 | [],i,_=>.inl ⟨rfl,rfl,fun _=>rfl⟩
 |e::l,i,h=>by
  have he:=h (e.key,e.val) yG;obtain ⟨r,C,b⟩:=sameNow_of_keys (Zpe D A) (Zpe D he.1);cases r with
  |true=>
   have c:=b.1 rfl;have I:vEq k e.key=true:=(Zw9 A he.1).2 c;exact .inr ⟨0,e,by simp [Instr.findNow,C],rfl,c.symm,by simp [ZmY,I],he.2,fun v=>by simp [Zf3,I]⟩
  |false=>
   have a:¬vEq k e.key=true:=fun q=>by have:=b.2 ((Zw9 A he.1).1 q);cases this
   rcases Zkc D A l (i+1) (fun p m=>h p (by simp only[Ah,AE];exact .inr m)) with ⟨G,F,E⟩|⟨j,M,G,F,E,L,K,J⟩
   .exact .inl ⟨by simp [Instr.findNow,C,G],by simp [ZmY,a,F],fun v=>by simp [Zf3,a,E]⟩
   .exact .inr ⟨j+1,M,by simp [Instr.findNow,C,G];omega,by simpa using F,E,by simp [ZmY,a,L],K,fun v=>by simp [Zf3,a,J]⟩
section
variable {P:Program} {W:Zbb} {U:Nat->Prop} {key:Nat} {st:St} {g:Gh} {w w':World} {a:Act} {tt:Nat->Option TI}
theorem ZFu[NW]{A:PK}{v:Value}(h:Zjg A v):AVR g w (avV v) v:=by
 cases A<;>cases v<;>simp [Zjg]at h<;>first|exact ⟨[],⟨rfl,rfl⟩,yG⟩|exact ⟨[],⟨rfl,rfl,h⟩,yG⟩
theorem ZIF(v:Value):avU U (avV v):=by cases v<;>trivial
theorem Zsa[NW]{B:PK}{x:SV}{v k:Value}(h:ZxT B x=some k)(A:SVR g w x v):v=k/\Zjg B k:=by
 unfold ZxT at h;split at h
 .split at h<;>simp only[A0,reduceCtorEq]at h
  rename_i e;subst e h;exact ⟨Zcz A,rfl⟩
 .simp only[A0]at h;subst h;exact ⟨(Zj0 A).1,(Zj0 A).2⟩
 .simp only[A0]at h;subst h;exact ⟨ZgL A,trivial⟩
 .simp at h
theorem Zpf(A:∀t i,tt t=some i->TOk P t i){t:Nat}{C B:PK}(h:Zfu C B (tt t)=true):TOk P t (.map C B):=by
 unfold Zfu at h;split at h
 .rename_i a b c;simp only[AP,decide_eq_true_eq]at h;rw [h.1,h.2]at c;exact A _ _ c
 .simp at h
theorem ZxS[NW]{A:PK}{B:Value}(h:Zbk (ZfL A) B=true):AVR g w (ZfL A) B/\avU U (ZfL A):=by
 refine ⟨Zgc h,?_⟩;cases A<;>trivial
theorem ZuY[NW](G:∀t i,tt t=some i->TOk P t i){t:Nat}{F C:PK}{E:List (Value×Value)}{i v:SV}{vi:Value}{ok:Bool}{b c:Nat}{A:Array MapEntry}(hm:Zfu F C (tt t)=true)(h:Zu7 F C E i ok=some v)(hi:SVR g w i vi)(hb:w.heap[b]?=some (.map A c))(m:Zfh A=E)(hok:Zlz F C E):
  ∃cv,(Instr.lookup t (.map (some b)) vi ok).run P w=.ok cv w/\SVR g w v cv/\svU U v:=by
 obtain ⟨N,et,dk,dv,aa,J,T,H,S,h4,h5,h6,h7,h8⟩:=Zpf G hm;unfold Zu7 at h;obtain ⟨k,hk,rfl⟩:=AA.1 h;obtain ⟨rfl,d⟩:=Zsa hk hi;subst m;have hz:=ZxS (g:=g) (w:=w) (U:=U) h8;have o:(zeroValue et).run P w=.ok J w:=ZkF h6 h7;have key:∃r:Option (Nat×Value),(Instr.findKey N vi A.toList).run P w=.ok r w/\(match r with|some p=>ZmY (Zfh A) vi=some p.2/\Zjg C p.2|none=>ZmY (Zfh A) vi=none):=by
  rcases Zkc S d A.toList 0 hok with ⟨I,V,_⟩|⟨j,e,I,V,f3,f4,f5,_⟩
  .exact ⟨none,run_findKey H I,V⟩
  .exact ⟨some _,run_findKey H I,f4,f5⟩
 obtain ⟨r,O,a⟩:=key;have f:(Instr.checkKey A.isEmpty 10000 N vi).run P w=.ok () w:=run_checkKey (P:=P) (w:=w) H (Zpe S d) A.isEmpty 9999;have R:(getObj b).run P w=.ok (.map A c) w:=by simp [getObj,Sem.run,hb]
 have l:∃D rb,(Instr.lookup t (.map (some b)) vi ok).run P w=.ok (if ok then .tuple #[D,.bool rb] else D) w/\AVR g w (ZcF (Zfh A) vi (ZfL C)) D/\avU U (ZcF (Zfh A) vi (ZfL C))/\ZfH (Zfh A) vi=rb:=by
  cases r with
  |none=>
   simp only at a;refine ⟨J,false,?_,by simp only[ZcF,a];exact hz.1,by simp only[ZcF,a];exact hz.2,by simp [ZfH,a]⟩;unfold Instr.lookup;simp only[Sem.run_bind,YQ T,Result.andThen_ok,R,Sem.run_pure,f,O,o]
  |some p=>
   simp only at a;refine ⟨p.2,true,?_,by simp only[ZcF,a.1];exact ZFu a.2,by simp only[ZcF,a.1];exact ZIF _,by simp [ZfH,a.1]⟩;unfold Instr.lookup;simp only[Sem.run_bind,YQ T,Result.andThen_ok,R,Sem.run_pure,f,O]
 obtain ⟨D,rb,q1,L,K,W⟩:=l;refine ⟨_,q1,?_,?_⟩
 .cases ok with
  |true=>exact ⟨[D,.bool rb],rfl,⟨_,rfl,L⟩,⟨_,rfl,[],⟨by rw [W],rfl⟩,yG⟩,trivial⟩
  |false=>exact ⟨_,rfl,L⟩
 .cases ok with
  |true=>
   intro y M;simp only[AE,List.not_mem_nil,or_false]at M;rcases M with rfl|rfl
   .intro z B;simp at B;subst B;exact K
   .intro z B;simp at B;subst B;trivial
  |false=>intro z B;simp at B;subst B;exact K
theorem ZCW[NW](A:∀t i,tt t=some i->TOk P t i)(N:HI W g st.ob w){t:Nat}{x i v:SV}{G vi:Value}{ok:Bool}(h:ZhF st (tt t) x i ok=some v)(B:SVR g w x G)(hi:SVR g w i vi):
  ∃cv,(Instr.lookup t G vi ok).run P w=.ok cv w/\SVR g w v cv/\svU U v:=by
 unfold ZhF at h;split at h
 .rename_i k;split at h
  .rename_i K I J M;split at h
   .rename_i C;have hv:=Zg8 B;have ho:=N.obs k;rw [M]at ho;obtain ⟨b,R,c,O,_,_,F,E,D⟩:=ho;rw [hv,O];exact ZuY A C h hi F E D
   .simp at h
  .simp at h
 .rename_i K I J;split at h
  .rename_i C;obtain ⟨y,H,B⟩:=B;simp at H;subst H;obtain ⟨L,⟨b,R,c,rfl,F,E,D,_⟩,_⟩:=B;exact ZuY A C h hi F E D
  .simp at h
 .simp at h
theorem ZEj[NW](I:∀t i,tt t=some i->TOk P t i)(B:HI W g st.ob w)(H:StU U st)(c:¬U key){t:Nat}{r:SV×List (Nat×Ob)}(h:ZqV key (tt t)=some r){s:Sem Next}(hs:s=(do pure (.value (<-Instr.makeMap t none)))):Fin P W U key st g w s r:=by
 unfold ZqV at h;split at h
 .rename_i G C J;simp only[A0]at h;subst h;have d:s.run P w=.ok (.value (.map (some w.heap.size))) (w.alloc (.map #[] 0)):=by
   subst hs;have M:(Instr.makeMap t none).run P w=.ok (.map (some w.heap.size)) (w.alloc (.map #[] 0)):=rfl;simp only[Sem.run_bind,M,Result.andThen_ok,Sem.run_pure]
  have A:Below w.heap.size w (w.alloc (.map #[] 0)):=(Below.refl _ _).alloc (AD _) _;have a:=heap_alloc_new w (.map #[] 0);obtain ⟨L,K⟩:=B.turn (key:=key) (U:=U) (w':=w.alloc (.map #[] 0)) (v:=.map (some w.heap.size)) (O:=[w.heap.size]) (D:=[]) (o:=.map G C []) H.ob c [] yG
   (B.below.trans A) A.size (fun b f _=>A.block b f) yG yG yG (fun b F=>by
    simp at F;subst F;exact ⟨.inl B.below.size,_,_,a⟩)
   (fun _=>⟨w.heap.size,#[],0,by simp [Gh.turn,upd],by simp [Gh.turn,upd],by simp [Gh.turn,upd],a,rfl,fun _ m=>by simp at m⟩)
  have e:=ZlA (key:=key) (o:=.map G C []) H [] trivial;exact ⟨_,_,_,.inl d,L,⟨_,rfl,⟨by simp [Gh.turn,upd],by simp [Value.oneCell']⟩⟩,K,fun y E=>by simp at E;subst E;exact ZlC,e.1,e.2⟩
 .simp at h
theorem ZCE[NW](G:∀t i,tt t=some i->TOk P t i){t:Nat}{D C:PK}{A:List (Value×Value)}{k v:Value}{b c:Nat}{B:Array MapEntry}(T:Zfu D C (tt t)=true)(E:Zjg D k)(K:Zjg C v)(M:w.heap[b]?=some (.map B c))(u:Zfh B=A)(hok:Zlz D C A):
  ∃d c',(Instr.mapUpdate t (.map (some b)) k v).run P w=.ok () { w with heap:=w.heap.setIfInBounds b (.map d c') }/\Zfh d=Zf3 A k v/\Zlz D C (Zf3 A k v):=by
 obtain ⟨R,et,dk,dv,S,zv,N,I,H,h4,h5,h6,h7,h8⟩:=Zpf G T;subst u;have f:(Instr.checkKey false 10000 R k).run P w=.ok () w:=run_checkKey (P:=P) (w:=w) I (Zpe H E) false 9999;have L:(getObj b).run P w=.ok (.map B c) w:=by simp [getObj,Sem.run,M]
 have g:∀o,(setObj b o).run P w=.ok () { w with heap:=w.heap.setIfInBounds b o }:=fun o=>by simp [setObj,Sem.run,M]
 have a:∀{A:List (Value×Value)},Zlz D C A->Zlz D C (Zf3 A k v):=fun {A}=>by
  induction A with
  |nil=>intro _ p m;simp [Zf3]at m;subst m;exact ⟨E,K⟩
  |cons q r ih=>
   intro h p m;simp only[Zf3]at m;split at m
   .rcases AE.1 m with rfl|m
    .exact ⟨E,K⟩
    .exact h p (by simp [m])
   .rcases AE.1 m with rfl|m
    .exact h p yG
    .exact ih (fun q O=>h q (by simp [O])) p m
 rcases Zkc H E B.toList 0 hok with ⟨F,_,J⟩|⟨j,e,F,J,W,_,_,V⟩
 .refine ⟨B.push { key:=k,val:=v,born:=c },c+1,?_,?_,a hok⟩
  .have hf:=run_findKey (P:=P) (w:=w) I F;unfold Instr.mapUpdate;simp only[Sem.run_bind,YQ N,Result.andThen_ok,L,f,hf,g]
  .rw [show Zf3 (Zfh B) k v=_ from J v];simp [Zfh]
 .rw [Aa]at F;have hf:=run_findKey (P:=P) (w:=w) I F;have U:B[j]?=some e:=by simpa using J
  have l:(Instr.keyThatStays k k).run P w=.ok k w:=run_keyThatStays (Zpe H E);refine ⟨B.modify j fun e=>{ e with key:=k,val:=v },c,?_,?_,a hok⟩
  .unfold Instr.mapUpdate;simp only[Sem.run_bind,YQ N,Result.andThen_ok,L,f,hf,g,U,Ae,Option.getD_some,W,l]
  .rw [show Zf3 (Zfh B) k v=_ from V v];simp [Zfh]
theorem ZD5[NW](L:∀t i,tt t=some i->TOk P t i)(C:HI W g st.ob w)(J:StU U st){t:Nat}{x i v:SV}{u:List (Nat×Ob)}{N vi O:Value}(h:Zyf st (tt t) x i v=some u)(F:SVR g w x N)(hi:SVR g w i vi)(hv:SVR g w v O){s:Sem Next}(hs:s=(do Instr.mapUpdate t N vi O;pure .skip)):Fin P W U key st g w s (.und,u):=by
 unfold Zyf at h;split at h
 .rename_i k;split at h
  .rename_i kk vk kv S;split at h
   .rename_i hm;obtain ⟨a,ha,h⟩:=AB.1 h;obtain ⟨D,o,rfl⟩:=AA.1 h;obtain ⟨rfl,p⟩:=Zsa ha hi;obtain ⟨rfl,y⟩:=Zsa o hv;have z:=Zg8 F;have ho:=C.obs k;rw [S]at ho;obtain ⟨b,es,c,V,I,T,M,h5,h6⟩:=ho;obtain ⟨d,G,r1,r2,r3⟩:=ZCE (w:=w) L hm p y M h5 h6;have f:s.run P w=.ok .skip { w with heap:=w.heap.setIfInBounds b (.map d G) }:=by
     rw [hs,z,V];simp only[Sem.run_bind,r1,Result.andThen_ok,Sem.run_pure]
    obtain ⟨R,K⟩:=heap_set (o':=.map d G) M;have aa:b<w.heap.size:=(AW.1 M).1;have j:({ w with heap:=w.heap.setIfInBounds b (.map d G) }:World).heap.size=w.heap.size:=by simp
    have l:W.heap.size<=b\/W.x b:=(C.plain k b (by simp [I])).1;have A:U k:=Classical.byContradiction fun H=>by have:=J.gone _ H;rw [S]at this;simp at this
    have B:∀D,D<w.heap.size->¬g.own D->({ w with heap:=w.heap.setIfInBounds b (.map d G) }:World).heap[D]?=w.heap[D]?:=fun D _ H=>K D fun e=>H (.inl ⟨k,by simp [I,e]⟩);refine ⟨g,undef,_,.inr ⟨f,rfl⟩,?_,rfl,fun x u F hu=>hu.move F (fun _ _=>rfl) B (Zal.refl _ _) (Nat.le_of_eq j.symm),trivial,fun q=>?_,fun q E=>?_⟩
    .refine C.step (U:=U) (fun q=>q=k) ?_ rfl (fun D _ H=>K D fun e=>H k rfl (by simp [I,e])) (fun q E=>⟨ZZ _ _ E,rfl,rfl,rfl⟩) J.ob (fun _ _=>rfl) (Zal.refl _ _) (fun q E=>?_)
     .exact ⟨C.below.os,C.below.tape,C.below.output,AS C.below.size (Nat.le_of_eq j.symm),fun q E F=>by
       show (w.heap.setIfInBounds b (.map d G))[q]?=_
       rw [K q (fun e=>by subst e;rcases l with h|h;omega;exact F h)];exact C.below.block q E F⟩
     .subst E;refine ⟨?_,C.nodup q,fun D m=>?_,C.apart q⟩
      .simp only[Zv,ZN];exact ⟨b,d,G,V,I,T,R,r2,r3⟩
      .simp [I,T]at m;subst m;refine ⟨l,?_⟩;simp only[Zv,ZN];exact ⟨_,_,R⟩
    .simp only[Zv,upd];split
     .trivial
     .exact (J.ob q).mono fun _=>.inl
    .simp only[Zv,upd];split
     .rename_i e;subst e;exact absurd (.inl A) E
     .exact J.gone q fun h=>E (.inl h)
   .simp at h
  .simp at h
 .simp at h
theorem Zw1[NW]:∀{cs:List AV}{l:List CT}{vs:List Value},ZlB.zBox cs=some l->ZW (AVR g w) cs vs->∃L,RCs w l vs L/\∀b∈L,¬g.own b
 | [],l,[],h,_=>by simp [ZlB.zBox]at h;subst h;exact ⟨[],⟨rfl,rfl⟩,yG⟩
 | [],_,_::_,_,h=>h.elim
 |_::_,_,[],_,h=>h.elim
 |x::r,l,v::vs,h,hr=>by
  cases x with
  |c x=>
   simp only[ZlB.zBox]at h;obtain ⟨b,B,rfl⟩:=AA.1 h;obtain ⟨L,F,E⟩:=Zw1 B hr.2;obtain ⟨L0,D,C⟩:=hr.1;refine ⟨L0++L,⟨v,vs,L0,L,rfl,rfl,D,F⟩,fun b A=>?_⟩;rcases A9.1 A with m|m
   .exact C b m
   .exact E b m
  |_=>simp [ZlB.zBox]at h
theorem Zzg{x:SV}{r:CT×List (Nat×Ob)}(h:ZlB st x=some r):(∀p∈r.2,p.2=Ob.gone/\∃t cs,st.ob p.1=.box t cs):=by
 unfold ZlB at h;split at h
 .split at h
  .rename_i k _ t cs B;obtain ⟨l,_,rfl⟩:=AA.1 h;intro p A;simp at A;subst A;exact ⟨rfl,t,cs,B⟩
  .simp at h
 .simp only[A0]at h;subst h;intro p A;simp at A
 .simp at h
theorem ZBU[NW]{ob:Nat->Ob}(G:HI W g ob w){x:SV}{r:CT×List (Nat×Ob)}{v:Value}(h:ZlB st x=some r)(a:∀p∈r.2,ob p.1=st.ob p.1)(A:SVR g w x v):
  ∃B:Gh,HI W B (Zv ob r.2) w/\B.val=g.val/\X4 B g/\∃L,RC w r.1 v L/\∀b∈L,¬B.own b:=by
 unfold ZlB at h;split at h
 .rename_i k;split at h
  .rename_i t cs T;obtain ⟨l,S,rfl⟩:=AA.1 h;have c:ob k=.box t cs:=(a (k,.gone) yG).trans T;obtain ⟨B,R,P,E,b,vs,O,N,M,K,J⟩:=Zz0 G c;obtain ⟨L,I,H⟩:=Zw1 S J;obtain ⟨b',D,rfl⟩:=A;rw [O]at D;simp at D;subst D;refine ⟨B,R,P,E,b::L,⟨b,vs,L,rfl,M,rfl,K,I⟩,fun x C=>?_⟩;rcases AE.1 C with rfl|C
   .exact N
   .exact fun A=>H x C (E.own x A)
  .simp at h
 .simp only[A0]at h;subst h;obtain ⟨y,F,A⟩:=A;simp at F;subst F;obtain ⟨L,V,U⟩:=A;exact ⟨g,G,rfl,X4.refl _,L,V,U⟩
 .simp at h
theorem Zvj[NW]:∀{xs:List SV}{ob:Nat->Ob}{g:Gh}{r:List CT×List (Nat×Ob)}{vs:List Value},HI W g ob w->Zfr st xs=some r->(r.2.map (·.1)).Nodup->(∀p∈r.2,ob p.1=st.ob p.1)->ZW (SVR g w) xs vs->
  ∃A:Gh,HI W A (Zv ob r.2) w/\A.val=g.val/\X4 A g/\∃L,RCs w r.1 vs L/\∀b∈L,¬A.own b
 | [],ob,g,r,vs,hI,h,_,_,hr=>by
  simp [Zfr]at h;subst h;cases vs with
  |nil=>exact ⟨g,hI,rfl,X4.refl _,[],⟨rfl,rfl⟩,yG⟩
  |cons _ _=>exact hr.elim
 |x::xs,ob,g,r,[],hI,h,_,_,hr=>hr.elim
 |x::xs,ob,g,r,v::vs,hI,h,hn,hob,hr=>by
  simp only[Zfr]at h;obtain ⟨a,ha,h⟩:=AB.1 h;obtain ⟨b,U,rfl⟩:=AA.1 h;simp only[BK,AL]at hn;obtain ⟨n1,H,G⟩:=hn;obtain ⟨A,T,F,E,L1,P,O⟩:=ZBU hI ha (fun p m=>hob p (by simp [m])) hr.1;have c:∀p∈b.2,Zv ob a.2 p.1=st.ob p.1:=fun p C=>by
   have d:∀q∈a.2,q.1≠p.1:=fun q K=>G q.1 (AQ.2 ⟨q,K,rfl⟩) p.1 (AQ.2 ⟨p,C,rfl⟩);have:∀(u:List (Nat×Ob)) (ob:Nat->Ob),(∀q∈u,q.1≠p.1)->Zv ob u p.1=ob p.1:=by
    intro u;induction u with
    |nil=>intro ob _;rfl
    |cons q u ih=>intro ob h;rw [Zv,ih _ fun z I=>h z (by simp [I])];exact ZZ _ _ fun e=>h q yG e.symm
   rw [this _ _ d];exact hob p (by simp [C])
  have f:ZW (SVR A w) xs vs:=hr.2.mono fun x u _ B=>B.less F E;obtain ⟨V,S,R,D,L2,N,M⟩:=Zvj T U H c f;refine ⟨V,?_,R.trans F,D.trans E,L1++L2,⟨v,vs,L1,L2,rfl,rfl,P,N⟩,fun x J=>?_⟩
  .rw [Xk];exact S
  .rcases A9.1 J with m|m
   .exact fun B=>O x m (D.own x B)
   .exact M x m
theorem ZnI[NW]:∀{xs:List SV}{r:List CT×List (Nat×Ob)},Zfr st xs=some r->∀p∈r.2,p.2=Ob.gone/\∃t cs,st.ob p.1=.box t cs
 | [],r,h=>by simp [Zfr]at h;subst h;intro p m;simp at m
 |x::xs,r,h=>by
  simp only[Zfr]at h;obtain ⟨a,ha,h⟩:=AB.1 h;obtain ⟨b,A,rfl⟩:=AA.1 h;intro p m;rcases A9.1 m with m|m
  .exact Zzg ha p m
  .exact ZnI A p m
theorem ZF6[NW](K:HI W g st.ob w)(B:StU U st){f:FuncId}{xs:List SV}{vs:List Value}{r:List CT×List (Nat×Ob)}(h:Zfr st xs=some r)(J:(r.2.map (·.1)).Nodup)(I:ZW (SVR g w) xs vs){s:Sem Next}(hs:s.run P w=.ok (.value (.func (.func f) #[] vs.toArray)) w):Fin P W U key st g w s (.p false [.c (.fn f r.1)],r.2):=by
 obtain ⟨M,G,F,E,L,D,C⟩:=Zvj K h J (fun _ _=>rfl) I;have hg:=ZnI h;have a:∀(u:List (Nat×Ob)) (ob:Nat->Ob) (k:Nat),(∀p∈u,p.2=Ob.gone)->Zv ob u k=ob k\/Zv ob u k=.gone:=by
  intro u;induction u with
  |nil=>intro ob k _;exact .inl rfl
  |cons q u ih=>
   intro ob k h;rw [Zv];rcases ih (upd ob q.1 q.2) k (fun p m=>h p (by simp [m])) with e|e
   .rw [e];by_cases A:k=q.1
    .right;rw [A,ZN];exact h q yG
    .left;exact ZZ _ _ A
   .exact .inr e
 refine ⟨M,_,w,.inl hs,G,⟨_,rfl,L,⟨vs,rfl,D⟩,C⟩,fun x u _ H=>H.less F E,X5 _,fun k=>?_,fun k A=>?_⟩
 .rcases a r.2 st.ob k (fun p m=>(hg p m).1) with e|e
  .rw [e];exact (B.ob k).mono fun _=>.inl
  .rw [e];trivial
 .rcases a r.2 st.ob k (fun p m=>(hg p m).1) with e|e
  .rw [e];exact B.gone k fun h=>A (.inl h)
  .exact e
end
end
section
open Go.RowKit
section
variable {P:Program} {W:Zbb} {U:Nat->Prop} {key:Nat} {st:St} {g:Gh} {w w':World} {a:Act} {tt:Nat->Option TI}
theorem Zgj:∀(ts:List TypeId) (xs:List Operand),(Zlg ts xs).map (·.2)=xs
 |_,[]=>by cases ‹List TypeId›<;>rfl
 | [],x::xs=>by simp [Zlg,Zgj [] xs]
 |t::ts,x::xs=>by simp [Zlg,Zgj ts xs]
theorem Zya[NW](A:∀t i,tt t=some i->TOk P t i){t:Nat}{z:List AV}(h:ZoJ (tt t)=some z):∃zv vs,(zeroValue t).run P w=.ok zv w/\zv.cells=(vs:List Value).toArray/\ZW (AVR g w) z vs/\Zag U z:=by
 unfold ZoJ at h;split at h<;>simp only[A0,reduceCtorEq]at h<;>subst h<;>rename_i a
 .obtain ⟨d,zv,i,F,E,B,D,I,H⟩:=A t _ a;have G:AVR g w _ zv:=Zgc H;exact ⟨zv,[zv],ZkF B D,by rw [Zqm G.one],⟨G,trivial⟩,fun y m=>by
   simp at m;subst m;cases y<;>first|trivial|simp [Zbk]at H⟩
 .obtain ⟨C,i,zvs,F,E,B,D,I,_⟩:=A t _ a;obtain ⟨K,J⟩:=Zj6 (g:=g) (w:=w) (U:=U) I;exact ⟨.agg zvs,zvs.toList,ZkF E D,by simp [Value.cells],K,J⟩
 .obtain ⟨_,L,_,_,j,F,E,B⟩:=A t _ a;exact ⟨_,[.slice none 0 0],ZkF F B,rfl,⟨rfl,trivial⟩,fun y m=>by simp at m;subst m;trivial⟩
theorem Zru[NW](T:∀t i,tt t=some i->TOk P t i)(o:Oper){r:SV×List (Nat×Ob)}(R:opE tt key o st=some r)(V:HI W g st.ob w)(hS:∀t,SVR g w (st.sl t) (a.tmps.getD t undef))(hU:StU U st)(A:¬U key):
  Fin P W U key st g w (execOp a.eval o) r:=by
 have ev:=fun t x=>ZmP (P:=P) (a:=a) (g:=g) (w:=w) (U:=U) T hS hU t x;have j:∀{v:Option SV} {s:Sem Value},Zce v=some r->execOp a.eval o=(do pure (.value (<-s)))->(∀u,v=some u->∃cv,s.run P w=.ok cv w/\SVR g w u cv/\svU U u)->Fin P W U key st g w (execOp a.eval o) r:=fun {v s} hp he hv=>by
  obtain ⟨u,S,rfl⟩:=AA.1 hp;obtain ⟨cv,c1,c2,c3⟩:=hv u S;exact Zbw V hU (by rw [he];simp only[Sem.run_bind,c1,Result.andThen_ok,Sem.run_pure]) c2 c3
 obtain ⟨ah,op,ty,ac,af,gd⟩:=o;cases op with
 |move x=>
  simp only[opE,A0]at R;subst R;exact Zbw V hU rfl (ev ty x).1 (ev ty x).2
 |assign x=>
  simp only[opE,A0]at R;subst R;exact Zbw V hU rfl (ev ty x).1 (ev ty x).2
 |pick c x y=>
  simp only[opE]at R;split at R
  .rename_i b hb;simp only[A0]at R;subst R;have hc:=(ev 0 c).1;rw [hb]at hc;obtain ⟨cv,c1,c2,c3⟩:=ZCL (P:=P) hc (ev ty x) (ev ty y);exact Zbw V hU c1 c2 c3
  .simp at R
 |alloc t=>
  simp only[opE]at R;obtain ⟨z,hz,rfl⟩:=AA.1 R;obtain ⟨zv,vs,h1,h2,h3,h4⟩:=Zya (P:=P) (g:=g) (w:=w) (U:=U) T hz;exact ZAn V hU A h3 h4 (by simp [execOp,Instr.alloc,h1,newVar,newRow,h2])
 |box t x=>
  simp only[opE]at R;split at R
  .rename_i ag cs hx;simp only[A0]at R;subst R;have hv:=ev t x;rw [hx]at hv;obtain ⟨vs,h2,h3⟩:=PVR.cells hv.1;exact ZAn V hU A h3 hv.2 (by simp [execOp,Instr.box,newVar,newRow,h2])
  .simp at R
 |build t G=>
  simp only[opE]at R;split at R
  .rename_i fs n z B;obtain ⟨cs,K,rfl⟩:=AA.1 R;obtain ⟨cv,c1,c2,c3⟩:=ZzK (P:=P) T hS hU B K;exact Zbw V hU (by simp only[execOp,Sem.run_bind,c1,Result.andThen_ok,Sem.run_pure]) c2 c3
  .simp at R
 |buildSlice t len G=>
  simp only[opE]at R;split at R
  .rename_i e m E z B;obtain ⟨⟨xs,ks,d⟩,h1,R⟩:=AB.1 R;split at R
   .rename_i hc;simp only[A0]at R;subst R;exact ZDy T V hS hU A B h1 hc.1 hc.2.1 hc.2.2.1 rfl
   .simp at R
  .simp at R
 |load t x=>exact j R rfl fun u S=>Zxd T V hU S (ev 0 x).1
 |store t x v=>
  simp only[opE]at R;obtain ⟨u,S,rfl⟩:=AA.1 R;have hx:=ev 0 x;have hv:=ev t v;unfold Zol at S;split at S
  .rename_i k off ag vs C p;rw [C]at hx;rw [p]at hv;split at S
   .rename_i tb cs hk;split at S
    .rename_i hc;simp only[A0]at S;subst S;exact ZBk T V hU hk hc.1 hc.2.2 hx.1 hv.1 hv.2 hc.2.1 rfl
    .simp at S
   .simp at S
  .rename_i k m i off ag vs C p;rw [C]at hx;rw [p]at hv;split at S
   .rename_i e m' xs d hk;obtain ⟨y,hy,S⟩:=AB.1 S;obtain ⟨ys,L,S⟩:=AB.1 S;split at S
    .rename_i hc;simp only[A0]at S;subst S;obtain ⟨rfl,M,N,O,ae⟩:=hc;exact ZAi T V hU hk yE hy L M O hx.1 hv.1 N rfl
    .simp at S
   .simp at S
  .simp at S
 |nilCheck x=>
  simp only[opE]at R;have hx:=ev 0 x;split at R<;>simp only[A0,reduceCtorEq]at R<;>subst R<;>rename_i he<;>rw [he]at hx
  .obtain ⟨b,_,hv⟩:=hx.1;exact Zbw V hU (cv:=a.eval x) (by simp [execOp,hv]) hx.1 hx.2
  .obtain ⟨b,_,_,_,hv⟩:=hx.1;exact Zbw V hU (cv:=a.eval x) (by simp [execOp,hv]) hx.1 hx.2
  .obtain ⟨b,_,_,_,hv,_⟩:=hx.1;exact Zbw V hU (cv:=a.eval x) (by simp [execOp,hv]) hx.1 hx.2
  .obtain ⟨b,_,_,hv,_⟩:=ZxI hx.1;exact Zbw V hU (cv:=a.eval x) (by simp [execOp,hv]) hx.1 hx.2
 |binOp op t x y t'=>exact j R rfl fun u S=>ZBR T S (ev t x).1 (ev t y).1
 |unOp op t x=>exact j R rfl fun u S=>ZID S (ev 0 x).1
 |convert s t x=>exact j R rfl fun u S=>ZAp T V S (ev 0 x).1
 |makeSlice t n c=>
  simp only[opE]at R;have hn:=(ev 0 n).1;have hc:=(ev 0 c).1;unfold Zuu at R;split at R
  .rename_i n' c' C p;rw [C]at hn;rw [p]at hc;split at R
   .rename_i e m E z B;obtain ⟨ze,hz,R⟩:=AB.1 R;split at R
    .rename_i hq;simp only[A0]at R;subst R;obtain ⟨h0,rfl,h1⟩:=hq;have e1:=Zcz hn;have e2:=Zcz hc;obtain ⟨ad,rfl⟩:=Int.eq_ofNat_of_zero_le h0;simp only[Int.toNat_natCast];exact ZB9 T V hU A B hz yE (by simp only[execOp,e1,e2])
    .simp at R
   .simp at R
  .simp at R
 |slice t x lo hi mx=>
  cases mx with
  |some _=>simp [opE]at R
  |none=>
   refine Zzh (vlo:=lo.map a.eval) (vhi:=hi.map a.eval) T V hU A R (ev 0 x).1 ?_ ?_ rfl
   .cases lo with
    |none=>trivial
    |some y=>exact (ev 0 y).1
   .cases hi with
    |none=>trivial
    |some y=>exact (ev 0 y).1
 |fieldAddr t x f=>
  simp only[opE]at R;split at R
  .rename_i fs n z B;refine j R rfl fun u S=>?_;obtain ⟨fi,hf,S⟩:=AB.1 S;exact ZDX T B hf S (ev 0 x).1 (ev 0 x).2
  .simp at R
 |field t x f=>
  simp only[opE]at R;split at R
  .rename_i fs n z B;exact j R rfl fun u S=>ZEb T B S (ev 0 x).1 (ev 0 x).2
  .simp at R
 |indexAddr t x i=>
  simp only[opE]at R;split at R
  .rename_i e m E z B;exact j R rfl fun u S=>ZFm T V hU B S (ev 0 x).1 (ev 0 x).2 (ev 0 i).1
  .simp at R
 |index t x i=>exact j R rfl fun u S=>ZCe T S (ev 0 x).1 (ev 0 i).1
 |makeFunc fn first D=>
  cases fn with
  |func f=>
   simp only[opE]at R;split at R
   .rename_i h0;obtain ⟨q,hq,R⟩:=AB.1 R;split at R
    .rename_i hn;simp only[A0]at R;subst R;have hf:first=#[]:=by simpa using h0
     have I:ZW (SVR g w) (D.toList.map (st.ev tt 0)) (D.toList.map a.eval):=ZW.of_map _ _ fun x _=>(ev 0 x).1;refine ZF6 V hU hq hn I ?_;have e1:(D.toList.map a.eval).toArray=D.map a.eval:=by apply Array.ext';simp
     rw [e1];simp [execOp,Instr.makeFunc,hf]
    .simp at R
   .simp at R
  |_=>simp [opE]at R
 |makeMap t Q=>
  cases Q with
  |none=>
   simp only[opE]at R;exact ZEj T V hU A R rfl
  |some _=>simp [opE]at R
 |lookup t x i ok=>exact j R rfl fun u S=>ZCW T V S (ev 0 x).1 (ev 0 i).1
 |mapUpdate t x i v=>
  simp only[opE]at R;obtain ⟨u,S,rfl⟩:=AA.1 R;exact ZD5 T V hU S (ev 0 x).1 (ev 0 i).1 (ev 0 v).1 rfl
 |extract x i=>exact j R rfl fun u S=>ZD4 S (ev 0 x).1 (ev 0 x).2
 |call c=>
  obtain ⟨F,args,ts⟩:=c;cases F with
  |builtin b=>
   simp only[opE]at R;have J:∀l:List TypeId,ts.toList=l->ts=l.toArray:=fun l h=>by rw [<-h]
   have aa:∀v,evs tt st ts.toList args.toList=[v]->∃x,args=#[x]/\SVR g w v (a.eval x)/\svU U v:=fun v h=>by
    obtain ⟨args⟩:=args;generalize ts.toList=l at h
    cases args with
    |nil=>cases l<;>simp [evs,Zlg]at h
    |cons x xs=>
     cases xs with
     |nil=>
      refine ⟨x,rfl,?_⟩;cases l with
      |nil=>simp only[evs,Zlg,Ah,BT,AX,and_true]at h;rw [<-h];exact ev _ _
      |cons t l=>cases l<;>(simp only[evs,Zlg,Ah,BT,AX,and_true]at h;rw [<-h];exact ev _ _)
     |cons y ys=>cases l with
      |nil=>simp [evs,Zlg]at h
      |cons t l=>cases l<;>simp [evs,Zlg]at h
   have H:∀v u,evs tt st ts.toList args.toList=[v,u]->∃x y,args=#[x,y]/\(SVR g w v (a.eval x)/\svU U v)/\SVR g w u (a.eval y)/\svU U u:=fun v u h=>by
    obtain ⟨args⟩:=args;have h2:=congrArg List.length h;have h3:(evs tt st ts.toList args).length=args.length:=by
     have:=congrArg List.length (Zgj ts.toList args);simpa [evs]using this
    have h4:args.length=2:=by rw [<-h3];exact h2
    obtain ⟨x,y,rfl⟩:∃x y,args=[x,y]:=by
     match args,h4 with
     | [x,y],_=>exact ⟨x,y,rfl⟩
    refine ⟨x,y,rfl,?_⟩;have h5:∃t1 t2,evs tt st ts.toList [x,y]=[st.ev tt t1 x,st.ev tt t2 y]:=by
     generalize ts.toList=l
     cases l with
     |nil=>exact ⟨0,0,rfl⟩
     |cons t1 l=>cases l with
      |nil=>exact ⟨t1,0,rfl⟩
      |cons t2 l=>exact ⟨t1,t2,by cases l<;>rfl⟩
    obtain ⟨t1,t2,h5⟩:=h5;rw [h5]at h;simp only[AX,and_true]at h;rw [<-h.1,<-h.2];exact ⟨ev _ _,ev _ _⟩
   unfold Zg3 at R;split at R
   .rename_i t _ v C p;have e1:=J _ C;obtain ⟨x,rfl,hx,_⟩:=aa _ p;exact j (s:=Builtin.len_ ts ty #[a.eval x]) R (by simp [execOp,resolve,invoke,builtin]) fun u S=>ZGn T V (by simp [e1]) S hx
   .rename_i t u v1 v2 C p;have e1:=J _ C;obtain ⟨x,y,rfl,hx,hy⟩:=H _ _ p;split at R
    .rename_i he;subst he;exact ZGc T V hU A R hx hy (ty:=ty) (by simp [execOp,resolve,invoke,builtin,e1])
    .simp at R
   .rename_i v1 v2 p;obtain ⟨x,y,rfl,hx,hy⟩:=H _ _ p;refine j (s:=Builtin.max_ ts ty #[a.eval x,a.eval y]) R (by simp [execOp,resolve,invoke,builtin]) fun u S=>?_;have:=ZAP (P:=P) (U:=U) (ts:=ts) (ty:=ty) S hx.1 hy.1;simpa using this
   .rename_i v1 v2 p;obtain ⟨x,y,rfl,hx,hy⟩:=H _ _ p;refine j (s:=Builtin.min_ ts ty #[a.eval x,a.eval y]) R (by simp [execOp,resolve,invoke,builtin]) fun u S=>?_;have:=ZAP (P:=P) (U:=U) (ts:=ts) (ty:=ty) S hx.1 hy.1;simpa using this
   .simp at R
  |value f=>simp [opE]at R
  |invoke r m=>simp [opE]at R
 |_=>simp [opE]at R
end
end
section
open Go.RowKit
theorem Zep{α β:Type}{f h:α->List β}:∀{l:List α},(∀x∈l,f x=h x)->l.flatMap f=l.flatMap h
 | [],_=>rfl
 |x::l,hh=>by rw [AT,AT,hh x yG,Zep fun y m=>hh y (by simp [m])]
def Zh3(w:World)(z:Nat->Prop)(x:Bool×List CT)(v:Value):Prop:=
 (x.1=true/\∃(vs:List Value) (L:List Nat),v=.agg vs.toArray/\RCs w x.2 vs L/\∀b∈L,¬z b)\/(x.1=false/\∃(ct:CT) (L:List Nat),x.2=[ct]/\RC w ct v L/\∀b∈L,¬z b)
def OC(w:World)(B:Nat)(n:Nat->Prop):Bool×CT->Value->List Nat->Prop
 |(false,.sl e m xs),v,F=>0<m/\∃cs L,w.ownsV B e m v xs.length cs/\REs w m xs cs L/\F=v.ownBlock.toList++L/\∀b∈v.ownBlock.toList,n b
 |(false,.int k i),v,F=>RC w (.int k i) v []/\F=[]
 |(false,.bool b),v,F=>RC w (.bool b) v []/\F=[]
 |(false,.str s),v,F=>RC w (.str s) v []/\F=[]
 |(false,.ifc b),v,F=>RC w (.ifc b) v []/\F=[]
 |(false,.any),v,F=>RC w .any v []/\F=[]
 |(false,.pt _),_,_=>False
 |(false,.fn _ _),_,_=>False
 |(false,.mp _ _ _),_,_=>False
 |(false,.nl _ _),_,_=>False
 |(true,x),v,F=>F=[]/\∃L,RC w x v L/\∀b∈L,¬n b
def OCs(w:World)(B:Nat)(n:Nat->Prop):List (Bool×CT)->List Value->List Nat->Prop
 | [],vs,F=>vs=[]/\F=[]
 |x::r,vs,F=>∃v vs' F1 F2,vs=v::vs'/\F=F1++F2/\OC w B n x v F1/\OCs w B n r vs' F2
def OP(w:World)(B:Nat)(n:Nat->Prop)(x:RT)(v:Value)(F:List Nat):Prop:=
 (x.1=true/\∃vs:List Value,v=.agg vs.toArray/\OCs w B n x.2 vs F)\/(x.1=false/\∃ct,x.2=[ct]/\OC w B n ct v F)
def OPs(w:World)(B:Nat)(n:Nat->Prop):List RT->List Value->List Nat->Prop
 | [],vs,F=>vs=[]/\F=[]
 |x::r,vs,F=>∃v vs' F1 F2,vs=v::vs'/\F=F1++F2/\OP w B n x v F1/\OPs w B n r vs' F2
def Zgi(w:World)(B:Nat)(n:Nat->Prop)(res:List RT)(v:Value):Prop:=
 ∃(vs:List Value) (F:List Nat),OPs w B n res vs F/\Own w B F/\v=(if h:vs.toArray.size=1 then vs.toArray[0] else .tuple vs.toArray)
def ZdI(P : Program)(f : FuncId) : Prop := ∃ fn, P.funcs[f]? = some fn ∧ (fn.name == "runtime.NumGoroutine") = false ∧ fn.body.isNone = false
def Zp(P:Program)(J:World->Prop)(f:FuncId)(args:List (Bool×List CT))(res:List RT):Prop:=
 ZdI P f/\∀(w:World) (z:Nat->Prop) (vs:List Value),J w->(∀b,z b->b<w.heap.size)->ZW (Zh3 w z) args vs->Calls P f vs.toArray w fun e w'=>∃v n,e=.returned v/\Zgi w' w.heap.size n res v/\(∀b,z b->n b)/\Below w.heap.size w w'
def Znp(w:World)(z:Nat->Prop)(q:Option Nat):Zhx->Value->Prop
 |.row e m xs,v=>ZbI xs=true/\0<m/\v.ownBlock=q/\∃cs,w.ownsV 0 e m v xs.length cs/\REs w m xs cs []
 |.box t cs,v=>∃b vs L,q=some b/\v=.pointer (some ⟨b,0,none⟩)/\w.heap[b]?=some (.cells (vs:List Value).toArray t (0,0))/\RCs w cs vs L/\∀a∈L,¬z a
def inQ(z:Nat->Prop)(q:Option Nat)(a:Nat):Prop:=z a\/q=some a
structure Zgo (q:Option Nat) (w w':World):Prop where
 os:w'.os=w.os
 tape:w'.tape=w.tape
 output:w'.output=w.output
 size:w.heap.size<=w'.heap.size
 block:∀k,k<w.heap.size->¬q=some k->w'.heap[k]?=w.heap[k]?
def Ys(P:Program)(J:World->Prop)(JF:Nat->Prop)(f:FuncId)(h:Zhx)(args:List (Bool×List CT))(res:List RT)(h':Zhx):Prop:=
 ZdI P f/\∀(w:World) (z:Nat->Prop) (q:Option Nat) (a:Value) (vs:List Value),J w->(∀b,q=some b->JF b)->(∀b,z b->b<w.heap.size/\¬q=some b)->Znp w (inQ z q) q h a->ZW (Zh3 w (inQ z q)) args vs->
  Calls P f (a::vs).toArray w fun e w'=>∃v n,e=.returned v/\Zgi w' w.heap.size n res v/\(∀b,inQ z q b->n b)/\Znp w' n q h' a/\Zgo q w w'
def Zqk(b:Nat):NB->Value
 |.box _ _=>.pointer (some ⟨b,0,none⟩)
 |.map _ _ _=>.map (some b)
def nbR(w:World)(n:Nat->Prop)(b:Nat):NB->Prop
 |.box t cs=>∃us L,w.heap[b]?=some (.cells (us:List Value).toArray t (0,0))/\RCs w cs us L/\∀x∈L,¬n x
 |.map kk vk kv=>∃es c,w.heap[b]?=some (.map es c)/\Zfh es=kv/\Zlz kk vk kv
def ZoH(P:Program)(J:World->Prop)(f:FuncId)(args:List (Bool×List CT))(nb:NB):Prop:=
 ZdI P f/\∀(w:World) (z:Nat->Prop) (vs:List Value),J w->(∀b,z b->b<w.heap.size)->ZW (Zh3 w z) args vs->
  Calls P f vs.toArray w fun e w'=>∃(b:Nat) (n:Nat->Prop),e=.returned (Zqk b nb)/\w.heap.size<=b/\nbR w' n b nb/\n b/\(∀x,z x->n x)/\Below w.heap.size w w'
def SC(P:Program)(J:World->Prop)(JF:Nat->Prop)(hd:FuncId->Nat):Ctx:=⟨Zp P J,Ys P J JF,hd,ZoH P J⟩
structure MOk (P:Program) (J:World->Prop) (JF:Nat->Prop) (W:Zbb) (tt:Nat->Option TI):Prop where
 tt:∀t i,tt t=some i->TOk P t i
 jb:∀w:World,Bel W w->J w
 jf:∀b,W.heap.size<=b->JF b
 xf:∀b,W.x b->JF b
section
variable {P:Program} {J:World->Prop} {W:Zbb} {U:Nat->Prop} {key:Nat} {st:St} {g:Gh} {w w':World} {a:Act} {tt:Nat->Option TI}
theorem MOk.at{JF:Nat->Prop}(h:MOk P J JF W tt)(A:Bel W w):J w:=h.jb _ A
def ZBl(ob:Nat->Ob):AV->Prop
 |.row k=>∃e m xs,ob k=.row e m xs 0
 |_=>True
theorem Ztk[NW](hI:HI W g st.ob w){x:AV}{I:CT}{v:Value}(h:ZcK st x=some I)(B:AVR g w x v):∃L,RC w I v L/\(ZBl st.ob x->∀b∈L,¬g.own b):=by
 cases x with
 |c y=>simp only[ZcK,A0]at h;subst h;obtain ⟨L,F,E⟩:=B;exact ⟨L,F,fun _=>E⟩
 |row k=>
  simp only[ZcK]at h;split at h
  .rename_i e m xs d H;simp only[A0]at h;subst h;obtain ⟨D,cs,L1,U,T,S,R⟩:=hI.deep H;obtain ⟨A,cap,L0,P,O,N,M,K⟩:=Sl.row U;refine ⟨L0++L1,⟨A,cap,cs,L0,L1,by rw [B.1,P],O,N,rfl,D,M,T⟩,?_⟩;rintro ⟨e',m',J,G⟩ b V;rw [H]at G;have hd:d=0:=by simp at G;exact G.2.2.2
   rcases A9.1 V with C|C
   .rcases R with ⟨q,_⟩|⟨q,_⟩|⟨_,_,_,q⟩
    .omega
    .omega
    .exact q b (K.subset C)
   .exact S b C
  .simp at h
 |nil e m=>
  simp only[ZcK]at h;split at h
  .rename_i D;simp only[A0]at h;subst h;exact ⟨[],⟨none,0,[],[],[],B,yG,AM _,rfl,D,Sl.zero,rfl,rfl⟩,yG⟩
  .simp at h
 |n y=>simp only[ZcK,A0]at h;subst h;obtain ⟨L,F,E⟩:=NR.toC B;exact ⟨L,F,fun _=>E⟩
 |dead=>simp [ZcK]at h
theorem Zgr[NW](B:HI W g st.ob w):∀{xs:List AV}{cts:List CT}{vs:List Value},Y9 st xs=some cts->ZW (AVR g w) xs vs->∃L,RCs w cts vs L/\((∀x∈xs,ZBl st.ob x)->∀b∈L,¬g.own b)
 | [],_,[],h,_=>by simp [Y9]at h;subst h;exact ⟨[],⟨rfl,rfl⟩,yG⟩
 | [],_,_::_,_,h=>h.elim
 |_::_,_,[],_,h=>h.elim
 |x::r,cts,v::vs,h,hr=>by
  simp only[Y9]at h;obtain ⟨M,F,h⟩:=AB.1 h;obtain ⟨K,E,rfl⟩:=AA.1 h;obtain ⟨L1,J,H⟩:=Ztk B F hr.1;obtain ⟨L2,I,G⟩:=Zgr B E hr.2;refine ⟨L1++L2,⟨v,vs,L1,L2,rfl,rfl,J,I⟩,fun A b D=>?_⟩;rcases A9.1 D with m|m
  .exact H (A x yG) b m
  .exact G (fun y C=>A y (by simp [C])) b m
def Zyx(ob:Nat->Ob):SV->Prop
 |.p _ cs=>∀x∈cs,ZBl ob x
 |_=>True
theorem ZA9[NW](G:HI W g st.ob w){x:SV}{r:Bool×List CT}{v:Value}(h:ZdX st x=some r)(F:SVR g w x v){z:Nat->Prop}(C:(∀b,¬z b)\/(Zyx st.ob x/\∀b,z b->g.own b)):Zh3 w z r v:=by
 cases x with
 |p ag cs=>
  simp only[ZdX]at h;obtain ⟨l,A,rfl⟩:=AA.1 h;have H:∀{L:List Nat},((∀x∈cs,ZBl st.ob x)->∀b∈L,¬g.own b)->∀b∈L,¬z b:=fun D b I=>by
   rcases C with C|⟨E,B⟩
   .exact C b
   .exact fun K=>D E b I (B b K)
  cases ag with
  |true=>
   obtain ⟨vs,rfl,B⟩:=F;obtain ⟨L,D,a⟩:=Zgr G A B;exact .inl ⟨rfl,vs,L,rfl,D,H a⟩
  |false=>
   obtain ⟨y,rfl,B⟩:=F;simp only[Y9]at A;obtain ⟨M,E,A⟩:=AB.1 A;simp at A;subst A;obtain ⟨L1,O,N⟩:=Ztk G E B;exact .inr ⟨rfl,M,L1,rfl,O,H fun J=>N (J y yG)⟩
 |_=>simp [ZdX]at h
theorem Zef[NW](A:HI W g st.ob w){z:Nat->Prop}:∀{xs:List SV}{l:List (Bool×List CT)}{vs:List Value},Yj st xs=some l->ZW (SVR g w) xs vs->((∀b,¬z b)\/((∀x∈xs,Zyx st.ob x)/\∀b,z b->g.own b))->ZW (Zh3 w z) l vs
 | [],_,[],h,_,_=>by simp [Yj]at h;subst h;trivial
 | [],_,_::_,_,h,_=>h.elim
 |_::_,_,[],_,h,_=>h.elim
 |x::r,l,v::vs,h,hr,hz=>by
  simp only[Yj]at h;obtain ⟨F,D,h⟩:=AB.1 h;obtain ⟨E,C,rfl⟩:=AA.1 h;exact ⟨ZA9 A D hr.1 (hz.imp id fun q=>⟨q.1 x yG,q.2⟩),Zef A C hr.2 (hz.imp id fun q=>⟨fun y B=>q.1 y (by simp [B]),q.2⟩)⟩
theorem ZCv{vs:List SV}{ob:Nat->Ob}(h:vs.all Zi4=true):∀x∈vs,Zyx ob x:=fun x B=>by
 have hx:=Aq.1 h x B;cases x with
 |p ag cs=>
  intro y A;have hy:=Aq.1 hx y A;cases y with
  |row k=>simp [ZbH]at hy
  |_=>trivial
 |_=>trivial
def CR(val:Nat->Value)(w:World)(n:Nat->Prop)(l:Bool)(lo hi:Nat):AV->Value->Prop
 |.row k,v=>lo<=k/\k<hi/\v=val k/\v.oneCell'=true
 |.c x,v=>∃L,RC w x v L/\∀b∈L,l=true/\¬n b
 |_,_=>False
structure Zvs (w:World) (B lo hi:Nat) (n:Nat->Prop) (up:List (Nat×Ob)) (F:List Nat) (val:Nat->Value) (O D:Nat->List Nat):Prop where
 le:lo<=hi
 at_:∀k,lo<=k->k<hi->∃e m xs cs,(∀ob,Zv ob up k=.row e m xs 2)/\0<m/\w.ownsV B e m (val k) xs.length cs/\REs w m xs cs (D k)/\O k=(val k).ownBlock.toList/\∀b∈O k,n b
 out:∀k,¬(lo<=k/\k<hi)->∀ob,Zv ob up k=ob k
 foot:F=(Ab lo (hi - lo)).flatMap fun k=>O k++D k
theorem Zvs.join[NW]{B C c hi:Nat}{n:Nat->Prop}{u1 u2:List (Nat×Ob)}{F1 F2:List Nat}{v1 H:Nat->Value}{O1 O2 D1 D2:Nat->List Nat}(E:Zvs w B C c n u1 F1 v1 O1 D1)(D:Zvs w B c hi n u2 F2 H O2 D2):
  Zvs w B C hi n (u1++u2) (F1++F2) (fun k=>if k<c then v1 k else H k) (fun k=>if k<c then O1 k else O2 k) (fun k=>if k<c then D1 k else D2 k):=by
 have hl:=E.le;have hr:=D.le;refine ⟨yE,fun k a b=>?_,fun k A ob=>?_,?_⟩
 .by_cases A:k<c
  .obtain ⟨e,m,xs,cs,G,F⟩:=E.at_ k a A;simp only[A,if_true];exact ⟨e,m,xs,cs,fun ob=>by rw [Xk,D.out k yE];exact G ob,F⟩
  .obtain ⟨e,m,xs,cs,G,F⟩:=D.at_ k yE b;simp only[A,if_false];exact ⟨e,m,xs,cs,fun ob=>by rw [Xk];exact G _,F⟩
 .rw [Xk,D.out k yE,E.out k yE]
 .rw [E.foot,D.foot,show hi - C=(c - C)+(hi - c) by omega,<-List.range'_append_1,B9,show C+(c - C)=c by omega];congr 1
  .refine Zep fun k A=>?_;have:=(As.1 A).2;simp [show k<c by omega]
  .refine Zep fun k A=>?_;have:=(As.1 A).1;simp [show ¬k<c by omega]
theorem CR.mono{f e:Nat->Value}{n:Nat->Prop}{l:Bool}{A hi g i:Nat}{x:AV}{v:Value}(h:CR f w n l A hi x v)(C:g<=A)(D:hi<=i)(B:∀k,A<=k->k<hi->e k=f k):CR e w n l g i x v:=by
 cases x with
 |row k=>obtain ⟨a,b,c,d⟩:=h;exact ⟨yE,yE,by rw [B k a b];exact c,d⟩
 |c x=>exact h
 |n _=>exact h.elim
 |nil _ _=>exact h.elim
 |dead=>exact h.elim
theorem Za8[NW]{B:Nat}{n:Nat->Prop}{l:Bool}:∀{cts:List (Bool×CT)}{vs:List Value}{F:List Nat}(key:Nat),OCs w B n cts vs F->(Zc2 cts=true->l=true)->∃c O D,Zvs w B key (Yr key cts).2.2 n (Yr key cts).2.1 F c O D/\ZW (CR c w n l key (Yr key cts).2.2) (Yr key cts).1 vs
 | [],vs,F,key,h,_=>by
  obtain ⟨rfl,rfl⟩:=h;exact ⟨fun _=>undef,fun _=>[],fun _=>[],⟨AD _,fun k a b=>by simp [Yr]at b;omega,fun _ _ _=>rfl,by simp [Yr]⟩,trivial⟩
 |(true,x)::r,_,_,key,⟨v,vs,F1,F2,rfl,rfl,C,h2⟩,hl=>by
  obtain ⟨rfl,L,S,R⟩:=C;obtain ⟨c,O,D,E,G⟩:=Za8 (l:=l) key h2 fun e=>hl (by simp [Zc2]);exact ⟨c,O,D,by simpa [Yr]using E,⟨⟨L,S,fun b K=>⟨hl (by simp [Zc2]),R b K⟩⟩,G⟩⟩
 |(false,.sl e m xs)::r,_,_,key,⟨v,vs,F1,F2,rfl,rfl,C,h2⟩,hl=>by
  obtain ⟨P,cs,L,H,J,rfl,I⟩:=C;obtain ⟨c,O,D,E,G⟩:=Za8 (l:=l) (key+1) h2 fun e=>hl (by simpa [Zc2]using e);have d:Zvs w B key (key+1) n [(key,.row e m xs 2)] (v.ownBlock.toList++L) (fun _=>v) (fun _=>v.ownBlock.toList) (fun _=>L):=
   ⟨yE,fun k a b=>⟨e,m,xs,cs,fun ob=>by simp [Zv,upd,show k=key by omega],P,H,J,rfl,I⟩,fun k T ob=>by simp [Zv,upd,show ¬k=key by omega],yG⟩
  refine ⟨_,_,_,d.join E,⟨?_,G.mono fun x u _ M=>M.mono yE (AD _) fun k a b=>by simp [show ¬k<key+1 by omega]⟩⟩;have hle:=E.le;obtain ⟨A,cap,N⟩:=ZbG H;exact ⟨AD _,by simp only[Yr];omega,yG,by simp [N,Value.oneCell']⟩
 |(false,.int k i)::r,_,_,key,⟨v,vs,F1,F2,rfl,rfl,C,h2⟩,hl=>by
  obtain ⟨C,rfl⟩:=C;obtain ⟨c,O,D,E,G⟩:=Za8 (l:=l) key h2 fun e=>hl (by simpa [Zc2]using e);exact ⟨c,O,D,by simpa [Yr]using E,⟨⟨[],C,yG⟩,G⟩⟩
 |(false,.bool k)::r,_,_,key,⟨v,vs,F1,F2,rfl,rfl,C,h2⟩,hl=>by
  obtain ⟨C,rfl⟩:=C;obtain ⟨c,O,D,E,G⟩:=Za8 (l:=l) key h2 fun e=>hl (by simpa [Zc2]using e);exact ⟨c,O,D,by simpa [Yr]using E,⟨⟨[],C,yG⟩,G⟩⟩
 |(false,.str s)::r,_,_,key,⟨v,vs,F1,F2,rfl,rfl,C,h2⟩,hl=>by
  obtain ⟨C,rfl⟩:=C;obtain ⟨c,O,D,E,G⟩:=Za8 (l:=l) key h2 fun e=>hl (by simpa [Zc2]using e);exact ⟨c,O,D,by simpa [Yr]using E,⟨⟨[],C,yG⟩,G⟩⟩
 |(false,.ifc s)::r,_,_,key,⟨v,vs,F1,F2,rfl,rfl,C,h2⟩,hl=>by
  obtain ⟨C,rfl⟩:=C;obtain ⟨c,O,D,E,G⟩:=Za8 (l:=l) key h2 fun e=>hl (by simpa [Zc2]using e);exact ⟨c,O,D,by simpa [Yr]using E,⟨⟨[],C,yG⟩,G⟩⟩
 |(false,.any)::r,_,_,key,⟨v,vs,F1,F2,rfl,rfl,C,h2⟩,hl=>by
  obtain ⟨C,rfl⟩:=C;obtain ⟨c,O,D,E,G⟩:=Za8 (l:=l) key h2 fun e=>hl (by simpa [Zc2]using e);exact ⟨c,O,D,by simpa [Yr]using E,⟨⟨[],C,yG⟩,G⟩⟩
 |(false,.pt _)::r,_,_,key,⟨v,vs,F1,F2,rfl,rfl,C,h2⟩,hl=>C.elim
 |(false,.fn _ _)::r,_,_,key,⟨v,vs,F1,F2,rfl,rfl,C,h2⟩,hl=>C.elim
 |(false,.mp _ _ _)::r,_,_,key,⟨v,vs,F1,F2,rfl,rfl,C,h2⟩,hl=>C.elim
 |(false,.nl _ _)::r,_,_,key,⟨v,vs,F1,F2,rfl,rfl,C,h2⟩,hl=>C.elim
def PR(val:Nat->Value)(w:World)(n:Nat->Prop)(l:Bool)(lo hi:Nat)(x:Bool×List AV)(v:Value):Prop:=
 (x.1=true/\∃vs:List Value,v=.agg vs.toArray/\ZW (CR val w n l lo hi) x.2 vs)\/(x.1=false/\∃y,x.2=[y]/\CR val w n l lo hi y v)
theorem PR.mono[NW]{d c:Nat->Value}{n:Nat->Prop}{l:Bool}{A hi e f:Nat}{x:Bool×List AV}{v:Value}(h:PR d w n l A hi x v)(F:e<=A)(G:hi<=f)(E:∀k,A<=k->k<hi->c k=d k):PR c w n l e f x v:=by
 rcases h with ⟨D,vs,C,B⟩|⟨D,y,C,B⟩
 .exact .inl ⟨D,vs,C,B.mono fun a b _ g=>g.mono F G E⟩
 .exact .inr ⟨D,y,C,B.mono F G E⟩
theorem ZrI[NW]{B:Nat}{n:Nat->Prop}{l:Bool}:∀{d:List RT}{vs:List Value}{F:List Nat}(key:Nat),OPs w B n d vs F->(ZdW d=true->l=true)->∃c O D,Zvs w B key (ZX key d).2.2 n (ZX key d).2.1 F c O D/\ZW (PR c w n l key (ZX key d).2.2) (ZX key d).1 vs
 | [],vs,F,key,h,_=>by
  obtain ⟨rfl,rfl⟩:=h;exact ⟨fun _=>undef,fun _=>[],fun _=>[],⟨AD _,fun k a b=>by simp [ZX]at b;omega,fun _ _ _=>rfl,by simp [ZX]⟩,trivial⟩
 |x::r,_,_,key,⟨v,vs,F1,F2,rfl,rfl,h1,h2⟩,hl=>by
  have f:Zc2 x.2=true->l=true:=fun e=>hl (by simp [ZdW,e]);have j:ZdW r=true->l=true:=fun e=>hl (by simp [ZdW,e]);have E:∃c O D,Zvs w B key (Yr key x.2).2.2 n (Yr key x.2).2.1 F1 c O D/\PR c w n l key (Yr key x.2).2.2 (x.1,(Yr key x.2).1) v:=by
   rcases h1 with ⟨E,I,rfl,G⟩|⟨E,M,L,G⟩
   .obtain ⟨c,O,D,C,A⟩:=Za8 key G f;exact ⟨c,O,D,C,.inl ⟨E,I,rfl,A⟩⟩
   .obtain ⟨c,O,D,C,A⟩:=Za8 (cts:=x.2) (vs:=[v]) (F:=F1) key (by rw [L];exact ⟨v,[],F1,[],rfl,yG,G,rfl,rfl⟩) f;refine ⟨c,O,D,C,.inr ⟨E,?_⟩⟩;generalize (Yr key x.2).1=l at A
    cases l with
    |nil=>exact A.elim
    |cons y l=>
     cases l with
     |nil=>exact ⟨y,rfl,A.1⟩
     |cons _ _=>exact A.2.elim
  obtain ⟨c,O,D,C,K⟩:=E;obtain ⟨H,O2,D2,g,m⟩:=ZrI (Yr key x.2).2.2 h2 j;have i:=g.le;have o:=C.le;refine ⟨_,_,_,C.join g,⟨K.mono (AD _) i fun k a b=>by simp [b],m.mono fun y u _ J=>J.mono o (AD _) fun k a b=>by simp [show ¬k<(Yr key x.2).2.2 by omega]⟩⟩
theorem Zwg{n:Nat}{G:Nat->List Nat}:∀{A:Nat},((Ab A n).flatMap G).Nodup->(∀k,A<=k->k<A+n->(G k).Nodup)/\∀k j,A<=k->k<A+n->A<=j->j<A+n->k≠j->∀b∈G k,b∉G j:=by
 induction n with
 |zero=>intro A _;exact ⟨fun k a b=>by omega,fun k j a b=>by omega⟩
 |succ n ih=>
  intro A h;rw [BG,AT,AL]at h;obtain ⟨I,H,D⟩:=h;obtain ⟨F,E⟩:=ih H;have c:∀k,A+1<=k->k<A+1+n->∀b∈G k,b∈(Ab (A+1) n).flatMap G:=fun k a b x B=>AI.2 ⟨k,As.2 ⟨a,b⟩,B⟩;refine ⟨fun k a b=>?_,fun k j a b L K d x B C=>?_⟩
  .by_cases e:k=A
   .subst e;exact I
   .exact F k yE yE
  .by_cases e:k=A
   .subst e;exact D x B x (c j yE yE x C) rfl
   .by_cases J:j=A
    .subst J;exact D x C x (c k yE yE x B) rfl
    .exact E k j yE yE yE yE d x B C
theorem ZiZ[NW]{ob:Nat->Ob}(hI:HI W g ob w)(J:∀k,obU U (ob k))(P:∀k,¬U k->ob k=.gone)(X:∀k,key<=k->k<key+16->¬U k){d:List RT}{v:Value}{n:Nat->Prop}(hr:Zgi w' w.heap.size n d v)(hn:(ZX key d).2.2<=key+16)
  (H:Nat->Prop) (Y:∀k,H k->U k) (p:Nat->Ob) (A:ZdW d=true->∀b,g.own b->n b)
  (aa:Bel W w') (af:w.heap.size<=w'.heap.size) (hw:∀b,b<w.heap.size->(∀k,H k->b∉g.O k)->w'.heap[b]?=w.heap[b]?)
  (ab:∀k,H k->obU (Uk U key) (p k)) (hH:∀g':Gh,(∀b,g'.own b->g.own b\/((∃k,b∈g'.O k)/\w.heap.size<=b/\n b))->(∀k,H k->g'.val k=g.val k/\g'.O k=g.O k/\g'.D k=g.D k)->∀k,H k->ObR g' w' k (p k)/\∀b∈g.O k++g.D k,Qp w' (p k) b):
  ∃g',HI W g' (fun k=>Zv (fun j=>open Classical in if H j then p j else ob j) (ZX key d).2.1 k) w'/\SVR g' w' (ZdY (ZX key d).1) v/\(∀x u,svU U x->SVR g w x u->SVR g' w' x u)/\svU (Uk U key) (ZdY (ZX key d).1)/\
   (∀k,obU (Uk U key) (Zv (fun j=>open Classical in if H j then p j else ob j) (ZX key d).2.1 k))/\∀k,¬Uk U key k->Zv (fun j=>open Classical in if H j then p j else ob j) (ZX key d).2.1 k=.gone:=by
 classical
 obtain ⟨vs,F,h1,hF,hv⟩:=hr;obtain ⟨E,O,D,hB,hA⟩:=ZrI (l:=ZdW d) key h1 id;generalize (ZX key d).2.2=hi at *
 generalize (ZX key d).2.1=up at *
 generalize (ZX key d).1=xs at *
 have hle:=hB.le;let T:Nat->Prop:=fun k=>key<=k/\k<hi
 have ac:∀k,T k->¬U k:=fun k hk=>X k hk.1 (by have:=hk.2;omega);let g':Gh:=⟨fun k=>if key<=k/\k<hi then E k else g.val k,fun k=>if key<=k/\k<hi then O k else g.O k,fun k=>if key<=k/\k<hi then D k else g.D k,g.Z⟩
 have gT:∀k,T k->g'.val k=E k/\g'.O k=O k/\g'.D k=D k:=fun k hk=>⟨yp hk,yp hk,yp hk⟩
 have gN:∀k,¬T k->g'.val k=g.val k/\g'.O k=g.O k/\g'.D k=g.D k:=fun k hk=>⟨yn hk,yn hk,yn hk⟩
 have ag:∀k,H k->¬T k:=fun k hk ht=>ac k ht (Y k hk);have G:∀k,T k->∀b∈O k++D k,b∈F:=fun k hk b mb=>by
  rw [hB.foot];exact AI.2 ⟨k,As.2 ⟨hk.1,by have:=hk.2;omega⟩,mb⟩
 have I:∀k,T k->∀b∈O k++D k,w.heap.size<=b:=fun k hk b mb=>hF.ge b (G k hk b mb);have ad:=Zwg (hB.foot ▸ hF.nodup);have K:∀k,U k->g'.val k=g.val k:=fun k hk=>(gN k fun h=>ac k h hk).1;have t:∀b,g'.own b->g.own b\/((∃k,b∈g'.O k)/\w.heap.size<=b/\n b):=fun b hb=>by
  rcases hb with ⟨k,mk⟩|hz
  .by_cases hk:T k
   .have Q:=mk;rw [(gT k hk).2.1]at Q;obtain ⟨e,m,ys,cs,_,_,_,_,_,p6⟩:=hB.at_ k hk.1 hk.2;exact .inr ⟨⟨k,mk⟩,I k hk b (by simp [Q]),p6 b Q⟩
   .rw [(gN k hk).2.1]at mk;exact .inl (.inl ⟨k,mk⟩)
  .exact .inl (.inr hz)
 have M:Zal g g' w.heap.size:=.of (fun b hb=>(t b hb).imp id fun h=>h.2.1) fun j b mb=>by
  by_cases hj:T j
  .rw [(gT j hj).2.2]at mb;exact .inr (I j hj b (by simp [mb]))
  .rw [(gN j hj).2.2]at mb;exact .inl (.inr ⟨j,mb⟩)
 have ah:∀b,b<w.heap.size->¬g.own b->w'.heap[b]?=w.heap[b]?:=fun b hb ai=>hw b hb fun k _ mk=>ai (.inl ⟨k,mk⟩);have R:∀x u,svU U x->SVR g w x u->SVR g' w' x u:=fun x u hx hu=>hu.move hx K ah M af;have B:∀k,¬T k->Zv (fun j=>if H j then p j else ob j) up k=if H k then p k else ob k:=fun k hk=>hB.out k hk _;have aj:HI W g' (Zv (fun j=>if H j then p j else ob j) up) w':=by
  refine hI.step (U:=U) (fun k=>T k\/H k) aa rfl (fun b ak hq=>hw b ak fun k hk=>hq k (.inr hk)) (fun k hk=>?_) J K M (fun k hk=>?_)
  .have k1:¬T k:=fun h=>hk (.inl h);have k2:¬H k:=fun h=>hk (.inr h);exact ⟨by rw [B k k1,yn k2],gN k k1⟩
  .by_cases a:T k
   .obtain ⟨e1,e2,e3⟩:=gT k a;obtain ⟨e,m,ys,cs,p1,p2,p3,p4,p5,_⟩:=hB.at_ k a.1 a.2;rw [p1,e2,e3];refine ⟨⟨p2,cs,D k,?_,p4,.inl ⟨rfl,by rw [e1,e2];exact p5,e3⟩⟩,ad.1 k a.1 (by have:=a.2;omega),fun b mb=>?_,fun j hj b mb mj=>?_⟩
    .rw [e1];exact Zoj p3 (AM _)
    .exact ⟨.inl (AS hI.below.size (I k a b mb)),hF.plain b (G k a b mb)⟩
    .by_cases f:T j
     .rw [(gT j f).2.1,(gT j f).2.2]at mj;exact ad.2 k j a.1 (by have:=a.2;omega) f.1 (by have:=f.2;omega) hj b mb mj
     .rw [(gN j f).2.1,(gN j f).2.2]at mj;have:=hI.lt j b mj;have:=I k a b mb;omega
   .have C:H k:=hk.resolve_left a;obtain ⟨e1,e2,e3⟩:=gN k a;obtain ⟨q1,q2⟩:=hH g' t (fun j hj=>gN j (ag j hj)) k C;rw [B k a,yp C,e2,e3];refine ⟨q1,hI.nodup k,fun b mb=>⟨(hI.plain k b mb).1,q2 b mb⟩,fun j hj b mb mj=>?_⟩;by_cases f:T j
    .rw [(gT j f).2.1,(gT j f).2.2]at mj;have:=hI.lt k b mb;have:=I j f b mj;omega
    .rw [(gN j f).2.1,(gN j f).2.2]at mj;exact hI.apart k j hj b mb mj
 have S:∀x u,CR E w' n (ZdW d) key hi x u->AVR g' w' x u/\avU (Uk U key) x:=fun x u h=>by
  cases x with
  |row k=>
   obtain ⟨c1,c2,c3,c4⟩:=h;exact ⟨⟨by rw [(gT k ⟨c1,c2⟩).1];exact c3,c4⟩,.inr ⟨c1,yE⟩⟩
  |c x=>
   obtain ⟨L,h1,h2⟩:=h;refine ⟨⟨L,h1,fun b mb o=>?_⟩,trivial⟩;rcases t b o with o|o
   .exact (h2 b mb).2 (A (h2 b mb).1 b o)
   .exact (h2 b mb).2 o.2.2
  |n _=>exact h.elim
  |nil _ _=>exact h.elim
  |dead=>exact h.elim
 have ae:∀(ys:List AV) (us:List Value),ZW (CR E w' n (ZdW d) key hi) ys us->ZW (AVR g' w') ys us/\Zag (Uk U key) ys:=fun ys us h=>by
  induction ys generalizing us with
  |nil=>cases us with
   |nil=>exact ⟨trivial,fun _ m=>by simp at m⟩
   |cons _ _=>exact h.elim
  |cons y ys ih=>cases us with
   |nil=>exact h.elim
   |cons u us=>
    obtain ⟨i1,i2⟩:=ih us h.2;refine ⟨⟨(S y u h.1).1,i1⟩,fun z mz=>?_⟩;rcases AE.1 mz with rfl|mz
    .exact (S z u h.1).2
    .exact i2 z mz
 have V:∀(y:Bool×List AV) (u:Value),PR E w' n (ZdW d) key hi y u->PVR g' w' y.1 y.2 u/\Zag (Uk U key) y.2:=fun y u h=>by
  rcases h with ⟨h1,us,rfl,h3⟩|⟨h1,z,h2,h3⟩
  .obtain ⟨i1,i2⟩:=ae _ _ h3;exact ⟨by rw [h1];exact ⟨us,rfl,i1⟩,i2⟩
  .obtain ⟨i1,i2⟩:=S z u h3;exact ⟨by rw [h1];exact ⟨z,h2,i1⟩,by rw [h2];intro q mq;simp at mq;subst mq;exact i2⟩
 have N:SVR g' w' (ZdY xs) v/\svU (Uk U key) (ZdY xs):=by
  have A:=hA.len;by_cases hl:xs.length=1
  .obtain ⟨x,rfl⟩:=List.length_eq_one_iff.1 hl;cases vs with
   |nil=>simp at A
   |cons u us=>
    cases us with
    |cons _ _=>simp at A
    |nil=>
     have al:v=u:=by rw [hv];rfl
     rw [al];exact V x u hA.1
  .have am:¬vs.toArray.size=1:=by simp;omega
   rw [dif_neg am]at hv;have e:ZdY xs=.tup xs:=by
    cases xs with
    |nil=>rfl
    |cons x xs=>cases xs with
     |nil=>simp at hl
     |cons _ _=>rfl
   rw [e];refine ⟨⟨vs,hv,hA.mono fun y u _ h=>(V y u h).1⟩,fun y my=>?_⟩;obtain ⟨i,an⟩:=List.mem_iff_getElem?.1 my;obtain ⟨u,_,hu⟩:=hA.at an;exact (V y u hu).2
 refine ⟨g',aj,N.1,R,N.2,fun k=>?_,fun k hk=>?_⟩
 .by_cases a:T k
  .obtain ⟨e,m,ys,cs,p1,_⟩:=hB.at_ k a.1 a.2;rw [p1];trivial
  .rw [B k a];split
   .rename_i C;exact ab k C
   .exact (J k).mono fun _=>.inl
 .have a:¬T k:=fun a=>hk (.inr ⟨a.1,by have:=a.2;omega⟩);have C:¬H k:=fun h=>hk (.inl (Y k h));rw [B k a,yn C];exact P k fun h=>hk (.inl h)
theorem Zna[NW](st:St):∀(ks:List Nat) {g:Gh}{ob:Nat->Ob},HI W g ob w->(∀k,ob k=st.ob k\/ob k=Yv (st.ob k))->∃B:Gh,HI W B (Zv ob (Z8 st ks)) w/\B.val=g.val/\X4 B g/\∀k,Zv ob (Z8 st ks) k=(if k∈ks then Yv (st.ob k) else ob k)
 | [],g,ob,hI,_=>⟨g,hI,rfl,X4.refl _,fun k=>by simp [Z8,Zv]⟩
 |k::r,g,ob,hI,hob=>by
  have b:Yv (ob k)=Yv (st.ob k):=by
   rcases hob k with h|h
   .rw [h]
   .rw [h];cases st.ob k<;>rfl
  obtain ⟨B,C,I,H,_⟩:=ZkD hI k;rw [b]at C;have a:∀j,upd ob k (Yv (st.ob k)) j=st.ob j\/upd ob k (Yv (st.ob k)) j=Yv (st.ob j):=fun j=>by
   by_cases A:j=k
   .subst A;right;rw [ZN]
   .rw [ZZ _ _ A];exact hob j
  obtain ⟨J,G,F,E,D⟩:=Zna st r C a;refine ⟨J,G,F.trans I,E.trans H,fun j=>?_⟩;show Zv (upd ob k (Yv (st.ob k))) (Z8 st r) j=_
  rw [D j];by_cases A:j=k
  .subst A;simp [upd]
  .simp [A,upd]
theorem Zrk{st st':St}(h:∀k,st'.ob k=st.ob k\/st'.ob k=Yv (st.ob k))(x:SV):ZdX st' x=ZdX st x:=by
 have B:∀y:AV,ZcK st' y=ZcK st y:=fun y=>by
  cases y with
  |row k=>
   simp only[ZcK];rcases h k with e|e
   .rw [e]
   .rw [e];cases st.ob k<;>rfl
  |_=>rfl
 have A:∀ys:List AV,Y9 st' ys=Y9 st ys:=fun ys=>by
  induction ys with
  |nil=>rfl
  |cons y ys ih=>simp only[Y9,B,ih]
 cases x<;>simp [ZdX,A]
theorem ZgM[NW]{st st':St}(h:∀k,st'.ob k=st.ob k\/st'.ob k=Yv (st.ob k)):∀xs:List SV,Yj st' xs=Yj st xs
 | []=>rfl
 |x::r=>by simp only[Yj];rw [Zrk h x,ZgM h r]
theorem Zpm{k:Nat}:∀{cs:List AV},AV.row k∈cs->k∈ZjY cs
 | [],h=>by simp at h
 |x::r,h=>by
  rcases AE.1 h with rfl|h
  .simp [ZjY]
  .have:=Zpm h;cases x<;>simp [ZjY,this]
theorem Zpg[NW]{k:Nat}{a:Bool}{cs:List AV}:∀{vs:List SV},SV.p a cs∈vs->AV.row k∈cs->k∈Yq vs
 | [],h,_=>by simp at h
 |x::r,h,hk=>by
  rcases AE.1 h with rfl|h
  .simp [Yq,Zpm hk]
  .have:=Zpg h hk;cases x<;>simp [Yq,this]
end
end
section
open Go.RowKit
def Zca(S:Ctx)(f:FuncId)(n key:Nat)(st:St)(vs:List SV)(v:SV)(u:List (Nat×Ob)):Prop:=
 match n with
 |0=>∃l res,Yj st vs=some l/\S.r f l res/\(!ZdW res||vs.all Zi4)=true/\(ZX key res).2.2<=key+16/\v=ZdY (ZX key res).1/\u=(ZX key res).2.1
 |1=>∃a r k h l res h',vs=a::r/\ZgW st a=some (k,h)/\Yj st r=some l/\S.h f h l res h'/\(Yq r).all (fun j=>j != k)=true/\(ZX key res).2.2<=key+16/\v=ZdY (ZX key res).1/\u=Z8 st (Yq r)++((k,Yh h')::(ZX key res).2.1)
 |3=>∃l nb,Yj st vs=some l/\S.b f l nb/\v=ZIL key nb/\u=Z8 st (Yq vs)++[(key,ZAk nb)]
 |4=>∃l res,Yj st (vs.map nlS)=some l/\S.r f l res/\(!ZdW res||(vs.map nlS).all Zi4)=true/\(ZX key res).2.2<=key+16/\v=ZdY (ZX key res).1/\u=(ZX key res).2.1
 |_=>∃l res,Yj st vs=some l/\S.r f l res/\(ZX key res).2.2<=key+16/\v=ZdY (ZX key res).1/\u=Z8 st (Yq vs)++(ZX key res).2.1
theorem Znh{S:Ctx}{f:FuncId}{n key:Nat}{d:Option Nat}{K:St->Prop}{st:St}{vs:List SV}:spK S f n key d K st vs↔∃v u,Zca S f n key st vs v u/\K ((st.put d v).app u):=by
 rcases n with _|_|_|_|_|n
 .simp only[spK,Zca];constructor
  .intro h;unfold Y8 at h;split at h
   .rename_i l A;obtain ⟨a,C,E,D,B⟩:=h;exact ⟨_,_,⟨l,a,A,C,E,D,rfl,rfl⟩,B⟩
   .exact h.elim
  .rintro ⟨v,u,⟨l,a,A,C,E,D,rfl,rfl⟩,B⟩;rw [A];exact ⟨a,C,E,D,B⟩
 .simp only[spK,Zca];constructor
  .intro h;cases vs with
   |nil=>exact h.elim
   |cons I r=>
    simp only[Zw4]at h;unfold Y8 at h;split at h
    .rename_i J G;split at h
     .rename_i l A;obtain ⟨a,H,C,E,D,B⟩:=h;exact ⟨_,_,⟨I,r,J.1,J.2,l,a,H,rfl,G,A,C,E,D,rfl,rfl⟩,B⟩
     .exact h.elim
    .exact h.elim
  .rintro ⟨v,u,⟨I,r,k,L,l,a,H,rfl,G,A,C,E,D,rfl,rfl⟩,B⟩;simp only[Zw4,G,A,Y8];exact ⟨a,H,C,E,D,B⟩
 .simp only[spK,Zca];constructor
  .intro h;unfold Y8 at h;split at h
   .rename_i l A;obtain ⟨a,C,D,B⟩:=h;exact ⟨_,_,⟨l,a,A,C,D,rfl,rfl⟩,B⟩
   .exact h.elim
  .rintro ⟨v,u,⟨l,a,A,C,D,rfl,rfl⟩,B⟩;rw [A];exact ⟨a,C,D,B⟩
 .simp only[spK,Zca];constructor
  .intro h;unfold Y8 at h;split at h
   .rename_i l A;obtain ⟨F,C,B⟩:=h;exact ⟨_,_,⟨l,F,A,C,rfl,rfl⟩,B⟩
   .exact h.elim
  .rintro ⟨v,u,⟨l,F,A,C,rfl,rfl⟩,B⟩;rw [A];exact ⟨F,C,B⟩
 .simp only[spK,Zca];constructor
  .intro h;unfold Y8 at h;split at h
   .rename_i l A;obtain ⟨a,C,E,D,B⟩:=h;exact ⟨_,_,⟨l,a,A,C,E,D,rfl,rfl⟩,B⟩
   .exact h.elim
  .rintro ⟨v,u,⟨l,a,A,C,E,D,rfl,rfl⟩,B⟩;rw [A];exact ⟨a,C,E,D,B⟩
 .simp only[spK,Zca];constructor
  .intro h;unfold Y8 at h;split at h
   .rename_i l A;obtain ⟨a,C,D,B⟩:=h;exact ⟨_,_,⟨l,a,A,C,D,rfl,rfl⟩,B⟩
   .exact h.elim
  .rintro ⟨v,u,⟨l,a,A,C,D,rfl,rfl⟩,B⟩;rw [A];exact ⟨a,C,D,B⟩
section
variable {P:Program} {J:World->Prop} {JF:Nat->Prop} {W:Zbb} {U:Nat->Prop} {key:Nat} {st:St} {g:Gh} {w w':World} {a:Act} {tt:Nat->Option TI} {hd:FuncId->Nat}
def ZDe[NW](W:Zbb)(U:Nat->Prop)(key:Nat)(st:St)(g:Gh)(w:World)(v:SV)(u:List (Nat×Ob))(cv:Value)(w':World):Prop:=
 ∃g',HI W g' (Zv st.ob u) w'/\SVR g' w' v cv/\(∀x c,svU U x->SVR g w x c->SVR g' w' x c)/\svU (Uk U key) v/\(∀k,obU (Uk U key) (Zv st.ob u k))/\∀k,¬Uk U key k->Zv st.ob u k=.gone
theorem HI.ownlt[NW]{ob:Nat->Ob}(A:HI W g ob w){b:Nat}(h:g.own b):b<w.heap.size:=by
 rcases h with ⟨k,C⟩|B
 .exact A.lt k b (by simp [C])
 .rw [A.gz]at B;exact Ad (A.zx b B).1 A.below.size
theorem ZAF{ks:List Nat}{ob:Nat->Ob}(a:∀k,obU U (st.ob k))(h:∀k,ob k=(if k∈ks then Yv (st.ob k) else st.ob k)):∀k,obU U (ob k):=fun k=>by
 rw [h k];have:=a k;split
 .cases hk:st.ob k<;>simp only[Yv]<;>first|trivial|(rw [hk]at this;exact this)
 .exact this
theorem Zww[NW]{vs:List SV}{l:List (Bool×List CT)}{st1:St}(h:∀k,st1.ob k=(if k∈Yq vs then Yv (st.ob k) else st.ob k))(A:Yj st vs=some l):∀x∈vs,Zyx st1.ob x:=by
 have key:∀(cs:List AV) (l:List CT),Y9 st cs=some l->(∀k,AV.row k∈cs->k∈Yq vs)->∀y∈cs,ZBl st1.ob y:=by
  intro cs;induction cs with
  |nil=>intro l _ _ y B;simp at B
  |cons c cs ih=>
   intro l A H y B;simp only[Y9]at A;obtain ⟨M,C,A⟩:=AB.1 A;obtain ⟨F,E,_⟩:=AA.1 A;rcases AE.1 B with rfl|B
   .cases y with
    |row k=>
     simp only[ZcK]at C;split at C
     .rename_i e m xs d a;exact ⟨e,m,xs,by rw [h k,yp (H k yG),a];rfl⟩
     .simp at C
    |_=>trivial
   .exact ih F E (fun k D=>H k (by simp [D])) y B
 have all:∀(xs:List SV) (l:List (Bool×List CT)),Yj st xs=some l->(∀x∈xs,x∈vs)->∀x∈xs,Zyx st1.ob x:=by
  intro xs;induction xs with
  |nil=>intro l _ _ x J;simp at J
  |cons x xs ih=>
   intro l A G y B;simp only[Yj]at A;obtain ⟨M,C,A⟩:=AB.1 A;obtain ⟨F,E,_⟩:=AA.1 A;rcases AE.1 B with rfl|B
   .cases y with
    |p ag cs=>
     simp only[ZdX]at C;obtain ⟨K,L,_⟩:=AA.1 C;exact key cs K L (fun k D=>Zpg (G (.p ag cs) yG) D)
    |_=>trivial
   .exact ih F E (fun z I=>G z (by simp [I])) y B
 exact all vs l A (fun _ h=>h)
theorem ZHQ{k:Nat}{inst:∀j,Decidable (j=k)}(ob:Nat->Ob)(o:Ob):(fun j=>@ite _ (j=k) (inst j) o (ob j))=upd ob k o:=by
 funext j
 simp only[upd];split<;>rfl
theorem Zkt[NW](F:MOk P J JF W tt){f:FuncId}{vs:List SV}{a:List Value}{v:SV}{u:List (Nat×Ob)}(h:Zca (SC P J JF hd) f 0 key st vs v u)(B:HI W g st.ob w)(G:StU U st)(c:∀k,key<=k->k<key+16->¬U k)(j:ZW (SVR g w) vs a)(T:∀x∈vs,svU U x):
  ZdI P f/\Calls P f a.toArray w fun e w'=>∃cv,e=.returned cv/\ZDe W U key st g w v u cv w':=by
 obtain ⟨l,o,R,hs,d,O,rfl,rfl⟩:=h;obtain ⟨V,S⟩:=hs;refine ⟨V,?_⟩;by_cases m:ZdW o=true
 .have p:∀x∈vs,Zyx st.ob x:=ZCv (by simpa [m]using d);refine (S w g.own a (F.at B.below) (fun b A=>B.ownlt A) (Zef B R j (.inr ⟨p,fun _ h=>h⟩))).mono ?_;rintro e w' ⟨cv,n,rfl,L,N,A⟩;obtain ⟨M,E,K,I,H,D,C⟩:=ZiZ B G.ob G.gone c L O (fun _=>False) (fun _ h=>h.elim) (fun _=>.gone) (fun _ b A=>N b A) (B.below.trans A) A.size (fun b i _=>A.block b i) (fun _ h=>h.elim) (fun _ _ _ _ h=>h.elim);simp only[if_false]at E D C;exact ⟨cv,rfl,M,E,K,I,H,D,C⟩
 .refine (S w (fun _=>False) a (F.at B.below) (fun b A=>A.elim) (Zef B R j (.inl fun _ h=>h))).mono ?_;rintro e w' ⟨cv,n,rfl,L,N,A⟩;obtain ⟨M,E,K,I,H,D,C⟩:=ZiZ B G.ob G.gone c L O (fun _=>False) (fun _ h=>h.elim) (fun _=>.gone) (fun h=>absurd h m) (B.below.trans A) A.size (fun b i _=>A.block b i) (fun _ h=>h.elim) (fun _ _ _ _ h=>h.elim);simp only[if_false]at E D C;exact ⟨cv,rfl,M,E,K,I,H,D,C⟩
theorem Zzw[NW]{x:AV}{v:Value}(h:AVR g w x v):AVR g w (nlA x) v:=by
 cases x with
 |nil e m=>exact ⟨[],⟨h,rfl⟩,yG⟩
 |_=>exact h
theorem Zxe[NW]:∀{xs:List AV}{vs:List Value},ZW (AVR g w) xs vs->ZW (AVR g w) (xs.map nlA) vs
 | [],[],_=>trivial
 | [],_::_,h=>h.elim
 |_::_,[],h=>h.elim
 |_::_,_::_,h=>⟨Zzw h.1,Zxe h.2⟩
theorem ZEu[NW]{x:SV}{v:Value}(h:SVR g w x v):SVR g w (nlS x) v:=by
 cases x with
 |p a cs=>
  cases a with
  |true=>obtain ⟨vs,B,A⟩:=h;exact ⟨vs,B,Zxe A⟩
  |false=>obtain ⟨y,rfl,A⟩:=h;exact ⟨_,rfl,Zzw A⟩
 |_=>exact h
theorem ZxG[NW]:∀{xs:List SV}{vs:List Value},ZW (SVR g w) xs vs->ZW (SVR g w) (xs.map nlS) vs
 | [],[],_=>trivial
 | [],_::_,h=>h.elim
 |_::_,[],h=>h.elim
 |_::_,_::_,h=>⟨ZEu h.1,ZxG h.2⟩
theorem ZAE{x:SV}(h:svU U x):svU U (nlS x):=by
 cases x with
 |p a cs=>
  intro y B;obtain ⟨z,A,rfl⟩:=AQ.1 B;have hz:=h z A;cases z<;>first|exact hz|trivial
 |_=>exact h
theorem ZiH[NW](as:MOk P J JF W tt){f:FuncId}{n:Nat}{vs:List SV}{H:List Value}{v:SV}{u:List (Nat×Ob)}(h:Zca (SC P J JF hd) f n key st vs v u)(hH:HI W g st.ob w)(hU:StU U st)(E:∀k,key<=k->k<key+16->¬U k)(M:ZW (SVR g w) vs H)(ao:∀x∈vs,svU U x):
  ZdI P f/\Calls P f H.toArray w fun e w'=>∃cv,e=.returned cv/\ZDe W U key st g w v u cv w':=by
 unfold Zca at h;split at h
 .exact Zkt as (f:=f) (vs:=vs) h hH hU E M ao
 .obtain ⟨v0,r,k,hh,l,N,h',rfl,hk,hl,hs,a0,hn,rfl,rfl⟩:=h;obtain ⟨hc,hC⟩:=hs;refine ⟨hc,?_⟩;cases H with
  |nil=>exact M.elim
  |cons c0 cr=>
  obtain ⟨a1,a2⟩:=M;obtain ⟨g1,i1,i2,i3,i4⟩:=Zna st (Yq r) hH (fun k=>.inl rfl);let st1:St:=⟨st.sl,Zv st.ob (Z8 st (Yq r)),st.n⟩
  have a:∀k,st1.ob k=(if k∈Yq r then Yv (st.ob k) else st.ob k):=i4;have C:∀k,st1.ob k=st.ob k\/st1.ob k=Yv (st.ob k):=fun k=>by
   rw [a k];split
   .exact .inr rfl
   .exact .inl rfl
  have R:Yj st1 r=some l:=by rw [ZgM C];exact hl
  have F:=Zww (st1:=st1) a hl;have a3:k∉Yq r:=fun hm=>by
   have:=Aq.1 a0 k hm;simp at this
  have ap:st1.ob k=st.ob k:=by rw [a k,yn a3]
  have a4:st.ob k≠.gone->U k:=fun hg=>Classical.byContradiction fun hn=>hg (hU.gone k hn);have A:∀j,obU U (st1.ob j):=ZAF hU.ob a;have z:∀j,¬U j->st1.ob j=.gone:=fun j hj=>by
   have e:=hU.gone j hj;rcases C j with h|h<;>rw [h,e]<;>rfl
  have af:SVR g1 w v0 c0:=a1.less i2 i3;have aq:ZW (SVR g1 w) r cr:=a2.mono fun x c _ hx=>hx.less i2 i3;have ai:∃q:Option Nat,Znp w (inQ (fun b=>g1.own b/\¬q=some b) q) q hh c0/\g1.O k=q.toList/\g1.D k=[]/\c0=g1.val k/\st.ob k≠.gone:=by
   unfold ZgW at hk;split at hk
   .rename_i k';split at hk
    .rename_i t cs I;split at hk
     .rename_i a5;obtain ⟨l',a6,e⟩:=AA.1 hk;simp only[AC]at e;obtain ⟨rfl,rfl⟩:=e;have ho:=i1.obs k';rw [show Zv st.ob (Z8 st (Yq r)) k'=.box t cs from ap.trans I]at ho;obtain ⟨b,vs,h1,h2,h3,h4,h5⟩:=ho;obtain ⟨b',h6,h7⟩:=af;have hb:b'=b:=by rw [h6]at h1;simpa using h1
      subst hb;have ar:Y9 st1 cs=some l':=by
       have:=Zrk C (.p true cs);simp only[ZdX,a6]at this;obtain ⟨x,hx,Q⟩:=AA.1 this;simp only[AC,true_and]at Q;rw [hx,Q]
      obtain ⟨L,hL,a7⟩:=Zgr (st:=st1) i1 ar h5;refine ⟨some b',⟨b',vs,L,rfl,h7,h4,hL,fun x mx hx=>?_⟩,by simp [h2],h3,by rw [h7,h6],by rw [I];simp⟩;refine a7 (fun y my=>?_) x mx ?_
      .have:=Aq.1 a5 y my;cases y<;>simp [ZbH]at this<;>trivial
      .rcases hx with hx|hx
       .exact hx.1
       .simp only[A0]at hx;subst hx;exact .inl ⟨k',by simp [h2]⟩
     .simp at hk
    .simp at hk
   .rename_i k';split at hk
    .rename_i e m xs d I;split at hk
     .rename_i au;simp only[A0,AC]at hk;obtain ⟨rfl,rfl⟩:=hk;have ho:=i1.obs k';rw [show Zv st.ob (Z8 st (Yq r)) k'=.row e m xs d from ap.trans I]at ho;obtain ⟨hm,cs,L,h1,h2,h3⟩:=ho;obtain rfl:=ZhU h2 au.2;obtain ⟨x,av,Q⟩:=af;simp only[AX,and_true]at av;subst av;rcases h3 with ⟨_,h3,h4⟩|⟨h3,_⟩|⟨h3,_⟩
      .exact ⟨(g1.val k').ownBlock,⟨au.2,hm,by rw [Q.1],cs,by rw [Q.1];exact h1,h2⟩,h3,h4,Q.1,by rw [I];simp⟩
      .omega
      .omega
     .simp at hk
    .simp at hk
   .simp at hk
  obtain ⟨q,a8,G,X,aj,a9⟩:=ai;have ak:=a4 a9;have ba:∀b,q=some b->g1.own b:=fun b hb=>.inl ⟨k,by simp [G,hb]⟩;have aw:∀b,g1.own b->inQ (fun b=>g1.own b/\¬q=some b) q b:=fun b hb=>by
   by_cases Y:q=some b
   .exact .inr Y
   .exact .inl ⟨hb,Y⟩
  have al:ZW (Zh3 w (inQ (fun b=>g1.own b/\¬q=some b) q)) l cr:=Zef (st:=st1) i1 R aq (.inr ⟨F,fun b hb=>by
   rcases hb with hb|hb
   .exact hb.1
   .exact ba b hb⟩)
  have bb:∀b,q=some b->JF b:=fun b hb=>by
   rcases (i1.plain k b (by simp [G,hb])).1 with h|h
   .exact as.jf b h
   .exact as.xf b h
  refine (hC w _ q c0 cr (as.at hH.below) bb (fun b hb=>⟨i1.ownlt hb.1,hb.2⟩) a8 al).mono ?_;rintro e w' ⟨cv,n,rfl,hr,hz,aa,K⟩;have B:Bel W w':=⟨K.os.trans hH.below.os,K.tape.trans hH.below.tape,K.output.trans hH.below.output,AS hH.below.size K.size,fun i hi hx=>by
   rw [K.block i (Ad hi hH.below.size) fun bc=>?_]
   .exact hH.below.block i hi hx
   .rcases (i1.plain k i (by simp [G,bc])).1 with h|h
    .omega
    .exact hx h⟩
  obtain ⟨g',t1,t2,t3,t4,t5,t6⟩:=ZiZ i1 A z E hr hn (fun j=>j=k) (fun j hj=>by rw [hj];exact ak) (fun _=>Yh h') (fun _ b hb=>hz b (aw b hb)) B K.size
   (fun b hb bd=>K.block b hb fun Y=>bd k rfl (by simp [G,Y]))
   (fun j _=>by
    cases h' with
    |row e m xs=>trivial
    |box t cs=>intro y my;simp only[AQ]at my;obtain ⟨x,_,rfl⟩:=my;trivial)
   (fun g' ho be j hj=>by
    subst hj;obtain ⟨e1,e2,e3⟩:=be j rfl;have am:∀b,¬n b->¬g'.own b:=fun b ab I=>by
     rcases ho b I with h|h
     .exact ab (hz b (aw b h))
     .exact ab h.2.2
    cases h' with
    |row e m xs=>
     obtain ⟨p1,p2,p3,cs,p4,p5⟩:=aa;refine ⟨⟨p2,cs,[],by rw [e1,<-aj];exact p4,p5,.inl ⟨rfl,by rw [e2,G,e1,<-aj,p3],by rw [e3,X]⟩⟩,fun b mb=>?_⟩;rw [G,X]at mb;simp at mb;rcases p4.2 with ⟨h0,_⟩|⟨gg,o,cap,bh,hv,_,bf,_⟩
     .rw [h0]at p3;simp [Value.ownBlock]at p3;rw [<-p3]at mb;simp at mb
     .rw [hv]at p3;simp only[Value.ownBlock]at p3;rw [mb]at p3;simp at p3;subst p3;exact ⟨_,_,bf⟩
    |box t cs=>
     obtain ⟨b,vs,L,p1,p2,p3,p4,p5⟩:=aa;refine ⟨⟨b,vs,by rw [e1,<-aj];exact p2,by rw [e2,G,p1];rfl,by rw [e3,X],p3,p4.avr fun x mx=>am x (p5 x mx)⟩,fun x mx=>?_⟩;rw [G,X,p1]at mx;simp at mx;subst mx;exact ⟨_,_,p3⟩)
  have S:Zv st.ob (Z8 st (Yq r)++((k,Yh h')::(ZX key N).2.1))=Zv (upd (Zv st.ob (Z8 st (Yq r))) k (Yh h')) (ZX key N).2.1:=by rw [Xk];rfl
  have an:=ZHQ (k:=k) (inst:=fun j=>Classical.propDecidable (j=k)) (Zv st.ob (Z8 st (Yq r))) (Yh h');have ax:HI W g' (Zv (upd (Zv st.ob (Z8 st (Yq r))) k (Yh h')) (ZX key N).2.1) w':=an ▸ t1;have ay:∀j,obU (Uk U key) (Zv (upd (Zv st.ob (Z8 st (Yq r))) k (Yh h')) (ZX key N).2.1 j):=an ▸ t5;have az:∀j,¬Uk U key j->Zv (upd (Zv st.ob (Z8 st (Yq r))) k (Yh h')) (ZX key N).2.1 j=.gone:=an ▸ t6;rw [<-S]at ax ay az;exact ⟨cv,rfl,g',ax,t2,fun x c hx hc=>t3 x c hx (hc.less i2 i3),t4,ay,az⟩
 .obtain ⟨l,nb,hl,hs,rfl,rfl⟩:=h;obtain ⟨hc,hC⟩:=hs;refine ⟨hc,?_⟩;obtain ⟨g1,i1,i2,i3,i4⟩:=Zna st (Yq vs) hH (fun k=>.inl rfl);let st1:St:=⟨st.sl,Zv st.ob (Z8 st (Yq vs)),st.n⟩
  have a:∀k,st1.ob k=(if k∈Yq vs then Yv (st.ob k) else st.ob k):=i4;have C:∀k,st1.ob k=st.ob k\/st1.ob k=Yv (st.ob k):=fun k=>by
   rw [a k];split
   .exact .inr rfl
   .exact .inl rfl
  have R:Yj st1 vs=some l:=by rw [ZgM C];exact hl
  have F:=Zww (st1:=st1) a hl;have A:∀j,obU U (st1.ob j):=ZAF hU.ob a;have z:∀j,¬U j->st1.ob j=.gone:=fun j hj=>by
   have e:=hU.gone j hj;rcases C j with h|h<;>rw [h,e]<;>rfl
  have T:ZW (SVR g1 w) vs H:=M.mono fun x c _ hx=>hx.less i2 i3;refine (hC w g1.own H (as.at hH.below) (fun b hb=>i1.ownlt hb) (Zef (st:=st1) i1 R T (.inr ⟨F,fun _ h=>h⟩))).mono ?_;rintro e w' ⟨b,n,rfl,hb,ac,ab,hz,B⟩;have ak:¬U key:=E key (AD _) yE;let g':Gh:=⟨fun k=>if k=key then Zqk b nb else g1.val k,fun k=>if k=key then [b] else g1.O k,fun k=>if k=key then [] else g1.D k,g1.Z⟩
  have ag:∀k,U k->g'.val k=g1.val k:=fun k hk=>yn fun (e:k=key)=>ak (e ▸ hk);have V:∀x,g'.own x->g1.own x\/x=b:=fun x hx=>by
   rcases hx with ⟨k,mk⟩|hx
   .simp only[g']at mk;split at mk
    .exact .inr (by simpa using mk)
    .exact .inl (.inl ⟨k,mk⟩)
   .exact .inl (.inr hx)
  have ah:Zal g1 g' w.heap.size:=.of (fun x hx=>(V x hx).imp id fun (e:x=b)=>by rw [e];exact hb) fun j x mx=>by
   simp only[g']at mx;split at mx
   .simp at mx
   .exact .inl (.inr ⟨j,mx⟩)
  have am:∀x,¬n x->¬g'.own x:=fun x mx hx=>mx (by
   rcases V x hx with h|h
   .exact hz x h
   .rw [h];exact ab)
  have S:Zv st.ob (Z8 st (Yq vs)++[(key,ZAk nb)])=upd (Zv st.ob (Z8 st (Yq vs))) key (ZAk nb):=by rw [Xk];rfl
  have ad:g'.val key=Zqk b nb:=yp rfl;have ae:Qp w' (ZAk nb) b:=by
   cases nb with
   |box t cs=>obtain ⟨us,L,p1,_⟩:=ac;exact ⟨_,_,p1⟩
   |map kk vk kv=>obtain ⟨es,c,p1,_⟩:=ac;exact ⟨_,_,p1⟩
  refine ⟨_,rfl,g',?_,?_,fun x c hx hc=>(hc.less i2 i3).move hx ag (fun b hb _=>B.block b hb) ah B.size,?_,fun k=>?_,fun k hk=>?_⟩
  .rw [S];refine i1.step (U:=U) (fun k=>k=key) (hH.below.trans B) rfl (fun b hb _=>B.block b hb) (fun k hk=>⟨ZZ _ _ hk,yn hk,yn hk,yn hk⟩) A ag ah (fun k hk=>?_);subst hk;have e1:g'.O k=[b]:=yp rfl;have e2:g'.D k=[]:=yp rfl;rw [ZN,e1,e2];refine ⟨?_,yG,fun x mx=>?_,fun j hj x mx mj=>?_⟩
   .cases nb with
    |box t cs=>obtain ⟨us,L,p1,p2,p3⟩:=ac;exact ⟨b,us,ad,e1,e2,p1,p2.avr fun x mx=>am x (p3 x mx)⟩
    |map kk vk kv=>obtain ⟨es,c,p1,p2⟩:=ac;exact ⟨b,es,c,ad,e1,e2,p1,p2⟩
   .simp at mx;subst mx;exact ⟨.inl (AS hH.below.size hb),ae⟩
   .simp at mx;subst mx;have e3:g'.O j=g1.O j:=yn fun e=>hj e.symm;have e4:g'.D j=g1.D j:=yn fun e=>hj e.symm;rw [e3,e4]at mj;have:=i1.lt j x mj;omega
  .cases nb with
   |box t cs=>exact ⟨b,ad,rfl⟩
   |map kk vk kv=>exact ⟨.row key,rfl,ad.symm,rfl⟩
  .cases nb with
   |box t cs=>exact .inr ⟨AD _,yE⟩
   |map kk vk kv=>intro y my;simp at my;subst my;exact .inr ⟨AD _,yE⟩
  .rw [S];by_cases hk:k=key
   .subst hk;rw [ZN];cases nb with
    |box t cs=>intro y my;simp only[AQ]at my;obtain ⟨x,_,rfl⟩:=my;trivial
    |map kk vk kv=>trivial
   .rw [ZZ _ _ hk];exact (A k).mono fun _=>.inl
  .have bg:¬k=key:=fun e=>hk (.inr ⟨yE,yE⟩);rw [S,ZZ _ _ bg];exact z k fun h=>hk (.inl h)
 .exact Zkt as (f:=f) (vs:=vs.map nlS) h hH hU E (ZxG M) (fun x hx=>by
   obtain ⟨y,my,rfl⟩:=AQ.1 hx;exact ZAE (ao y my))
 .obtain ⟨l,N,hl,hs,hn,rfl,rfl⟩:=h;obtain ⟨hc,hC⟩:=hs;refine ⟨hc,?_⟩;obtain ⟨g1,i1,i2,i3,i4⟩:=Zna st (Yq vs) hH (fun k=>.inl rfl);let st1:St:=⟨st.sl,Zv st.ob (Z8 st (Yq vs)),st.n⟩
  have a:∀k,st1.ob k=(if k∈Yq vs then Yv (st.ob k) else st.ob k):=i4;have C:∀k,st1.ob k=st.ob k\/st1.ob k=Yv (st.ob k):=fun k=>by
   rw [a k];split
   .exact .inr rfl
   .exact .inl rfl
  have R:Yj st1 vs=some l:=by rw [ZgM C];exact hl
  have F:=Zww (st1:=st1) a hl;have A:∀j,obU U (st1.ob j):=ZAF hU.ob a;have z:∀j,¬U j->st1.ob j=.gone:=fun j hj=>by
   have e:=hU.gone j hj;rcases C j with h|h<;>rw [h,e]<;>rfl
  have T:ZW (SVR g1 w) vs H:=M.mono fun x c _ hx=>hx.less i2 i3;refine (hC w g1.own H (as.at hH.below) (fun b hb=>i1.ownlt hb) (Zef (st:=st1) i1 R T (.inr ⟨F,fun _ h=>h⟩))).mono ?_;rintro e w' ⟨cv,n,rfl,hr,hz,hb⟩;obtain ⟨g',t1,t2,t3,t4,t5,t6⟩:=ZiZ i1 A z E hr hn (fun _=>False) (fun _ h=>h.elim) (fun _=>.gone) (fun _ b hb=>hz b hb) (hH.below.trans hb) hb.size (fun b aa _=>hb.block b aa) (fun _ h=>h.elim) (fun _ _ _ _ h=>h.elim);simp only[if_false,<-Xk]at t1 t5 t6;exact ⟨cv,rfl,g',t1,t2,fun x c hx hc=>t3 x c hx (hc.less i2 i3),t4,t5,t6⟩
end
end
end Go.Proofs.YtnacpkmpdlodoaaGreatDoor
