/- Texts of this proof, joined: BInv, BRun, BOps1, BOps2, BOps3, BOps4, BOps5, BOps6, BOps7, BOps8, BFrz, BOpsM, BOps9, BCall, BCall2. What each holds is said at its theorems. -/
import Derived.Test.YtekbmedphidcgaaGreatDoorProofOfQ1
import Derived.Laws.CopyRow
import Derived.Laws.OwnMore
import Derived.Laws.StructEq
import Derived.Laws.Tables
import Derived.Great.BuildSlice
import Derived.MapKept
import Derived.Test.YtekbmedphidcgaaGreatDoorProofOfQ3
open Array renaming getElem?_eq_some_iff→AL
open Bool renaming and_eq_true→AG
open Go.ByteArray renaming toList_eq→Ap
open List renaming mem_append→A3,mem_cons→A8,mem_flatMap→AA,nodup_append→AD,mem_map→AH,flatMap_cons→AJ,nil_sublist→AK,eq_nil_of_length_eq_zero→AN,getElem?_eq_some_iff→AO,range'→AQ,replicate→AR,map_cons→AU,drop_append→AW,drop_of_length_le→AX,nodup_cons→AZ,singleton_append→Aa,all_eq_true→Ab,mem_range'_1→Ac,mem_of_getElem?→Ae,mem_of_mem_drop→Af,mem_of_mem_take→Ag,nil_append→Ak,flatMap_append→Al,append_nil→Am,getElem?_take→Aq,getElem?_drop→Ar,take_length_add_append→As,drop_take→At,range'_succ→Au,take_left'→Aw,replicate_succ→Ax,flatten_cons→Ay,map_append→Az,all_cons→BB,sublist_append_right→BC,take_succ_cons→BE,cons_append→BF,drop_succ_cons→BG,drop_append_of_le_length→BH,map_nil→BI
open List.Sublist renaming refl→AC,append→AF
open List.cons renaming injEq→AM
open Nat renaming le_refl→A7,add_mul→A9,add_assoc→AB,zero_le→AE,le_trans→AI,zero_add→AP,lt_of_lt_of_le→AS,add_sub_cancel_left→AY,mul_le_mul_right→Ah,le_add_right→Aj,mul_le_mul→BA
open Option renaming map_eq_some_iff→A4,bind_eq_some_iff→A5,map_some→AT
open Option.some renaming injEq→A0
open Prod.mk renaming injEq→A6
open UInt8 renaming ofNat→Ad
set_option linter.unusedSimpArgs false
set_option linter.unusedVariables false
set_option maxRecDepth 1000000
set_option maxHeartbeats 4000000
namespace Go.Proofs.YtekbmedphidcgaaGreatDoor
section
open Go.RowKit
def ZH {α β:Type} (R:α→β→Prop):List α→List β→Prop
 | [],[]=>True
 | a::l,b::r=>R a b∧ZH R l r
 | _,_=>False
section
variable {α β:Type} {R R':α→β→Prop}
theorem ZH.len:∀{l:List α} {r:List β},ZH R l r→l.length=r.length
 | [],[],_=>rfl
 | _::_,_::_,h=>by simp [h.2.len]
 | [],_::_,h=>h.elim
 | _::_,[],h=>h.elim
theorem ZH.mono:∀{l:List α} {r:List β},ZH R l r→(∀a b,a∈l→R a b→R' a b)→ZH R' l r
 | [],[],_,_=>trivial
 | _::_,_::_,h,f=>⟨f _ _ yG h.1,h.2.mono fun a b m=>f a b (by simp [m])⟩
 | [],_::_,h,_=>h.elim
 | _::_,[],h,_=>h.elim
theorem ZH.at:∀{l:List α} {r:List β} {i:Nat} {a:α},ZH R l r→l[i]?=some a→∃b,r[i]?=some b∧R a b
 | [],[],_,_,_,h=>by simp at h
 | _::_,b::_,0,_,h,e=>by simp at e;subst e;exact ⟨b,yG,h.1⟩
 | _::_,_::_,i+1,a,h,e=>by
  obtain ⟨b,h1,h2⟩:=h.2.at (i:=i) (a:=a) (by simpa using e)
  exact ⟨b,by simpa using h1,h2⟩
 | [],_::_,_,_,h,_=>h.elim
 | _::_,[],_,_,h,_=>h.elim
theorem ZH.set:∀{l:List α} {r:List β} {i:Nat} {a:α} {b:β},ZH R l r→R a b→ZH R (l.set i a) (r.set i b)
 | [],[],_,_,_,_,_=>trivial
 | _::_,_::_,0,_,_,h,e=>⟨e,h.2⟩
 | _::_,_::_,_+1,_,_,h,e=>⟨h.1,h.2.set e⟩
 | [],_::_,_,_,_,h,_=>h.elim
 | _::_,[],_,_,_,h,_=>h.elim
theorem ZH.drop:∀{l:List α} {r:List β} (n:Nat),ZH R l r→ZH R (l.drop n) (r.drop n)
 | _,_,0,h=>by simpa using h
 | [],[],n+1,_=>by simp [ZH]
 | _::_,_::_,n+1,h=>by simpa using h.2.drop n
 | [],_::_,_+1,h=>h.elim
 | _::_,[],_+1,h=>h.elim
theorem ZH.take:∀{l:List α} {r:List β} (n:Nat),ZH R l r→ZH R (l.take n) (r.take n)
 | _,_,0,h=>by simp [ZH]
 | [],[],n+1,_=>by simp [ZH]
 | _::_,_::_,n+1,h=>by simpa using ⟨h.1,h.2.take n⟩
 | [],_::_,_+1,h=>h.elim
 | _::_,[],_+1,h=>h.elim
theorem ZH.append:∀{l l':List α} {r r':List β},ZH R l r→ZH R l' r'→ZH R (l++l') (r++r')
 | [],_,[],_,_,h=>h
 | _::_,_,_::_,_,h,h'=>⟨h.1,h.2.append h'⟩
 | [],_,_::_,_,h,_=>h.elim
 | _::_,_,[],_,h,_=>h.elim
end
class NW where
 B0:Nat
structure Gh where
 val:Nat→Value
 O:Nat→List Nat
 D:Nat→List Nat
 Z:Nat→Prop
def Gh.own (g:Gh) (b:Nat):Prop:=(∃k,b∈g.O k)∨g.Z b
def Gh.low (g:Gh) (b:Nat):Prop:=g.own b∨∃k,b∈g.D k
structure X7 (g g':Gh) (n:Nat):Prop where
 own:∀b,g'.own b→g.own b∨n≤b
 low:∀b,g'.low b→g.low b∨n≤b
structure Y7 (g' g:Gh):Prop where
 own:∀b,g'.own b→g.own b
 low:∀b,g'.low b→g.low b
theorem X7.refl (g:Gh) (n:Nat):X7 g g n:=⟨fun _ h=>.inl h,fun _ h=>.inl h⟩
theorem Y7.refl (g:Gh):Y7 g g:=⟨fun _ h=>h,fun _ h=>h⟩
theorem Y7.trans {a b c:Gh} (h:Y7 a b) (k:Y7 b c):Y7 a c:=⟨fun x hx=>k.own x (h.own x hx),fun x hx=>k.low x (h.low x hx)⟩
theorem Y7.grow {g' g:Gh} (h:Y7 g' g) (n:Nat):X7 g g' n:=⟨fun x hx=>.inl (h.own x hx),fun x hx=>.inl (h.low x hx)⟩
theorem Y7.of {g' g:Gh} (h:∀b,g'.own b→g.own b) (k:∀j b,b∈g'.D j→∃i,b∈g.D i):Y7 g' g:=⟨h,fun x hx=>hx.imp (h x) fun ⟨j,mj⟩=>k j x mj⟩
theorem X7.of {g g':Gh} {n:Nat} (h:∀b,g'.own b→g.own b∨n≤b) (k:∀j b,b∈g'.D j→g.low b∨n≤b):X7 g g' n:=⟨h,fun x hx=>by
 rcases hx with hx | ⟨j,mj⟩
 ·exact (h x hx).imp (fun q=>.inl q) id
 ·exact k j x mj⟩
structure QK extends World where
 z:Nat→Prop
 x:Nat→Prop
 hv:Option Value
structure Bel (W:QK) (w:World):Prop where
 os:w.os=W.os
 tape:w.tape=W.tape
 output:w.output=W.output
 size:W.heap.size≤w.heap.size
 block:∀k,k<W.heap.size→¬W.x k→w.heap[k]?=W.heap[k]?
theorem Bel.trans {W:QK} {w w':World} (h:Bel W w) (k:Below w.heap.size w w'):Bel W w':=
 ⟨k.os.trans h.os,k.tape.trans h.tape,k.output.trans h.output,AI h.size k.size,fun i hi hx=>(k.block i (AS hi h.size)).trans (h.block i hi hx)⟩
def NR [NW] (g:Gh) (w:World) (x:CT) (v:Value):Prop:=
 ∃e m xs cs L,x=.sl e m xs∧0<m∧w.ownsV 0 e m v xs.length cs∧REs w m xs cs L∧(v.ownBlock.toList++L).Nodup∧∀b∈v.ownBlock.toList++L,¬g.low b∧NW.B0≤b∧∃cur t,w.heap[b]?=some (.cells cur t (0,0))
def AVR [NW] (g:Gh) (w:World):AV→Value→Prop
 | .c x,v=>∃L,RC w x v L∧∀b∈L,¬g.own b
 | .n x,v=>NR g w x v
 | .row k,v=>v=g.val k∧v.oneCell'=true
 | .nil _ _,v=>v=.slice none 0 0
 | .dead,v=>v.oneCell'=true
def PVR [NW] (g:Gh) (w:World):Bool→List AV→Value→Prop
 | true,cs,v=>∃vs:List Value,v=.agg vs.toArray∧ZH (AVR g w) cs vs
 | false,cs,v=>∃x,cs=[x]∧AVR g w x v
def SVR [NW] (g:Gh) (w:World):SV→Value→Prop
 | .any,_=>True
 | .und,v=>v=undef
 | .p a cs,v=>PVR g w a cs v
 | .tup xs,v=>∃vs:List Value,v=.tuple vs.toArray∧ZH (fun x u=>PVR g w x.1 x.2 u) xs vs
 | .bp k off,v=>∃b,g.val k=.pointer (some ⟨b,0,none⟩)∧v=.pointer (some ⟨b,off,none⟩)
 | .rp k m i off,v=>∃b o n c,g.val k=.slice (some ⟨b,o,none⟩) n c∧v=.pointer (some ⟨b,o+(i * m+off),none⟩)
 | .ep e off,v=>∃b lo cs L,v=.pointer (some ⟨b,lo+off,none⟩)∧Q9 w b lo cs∧RCs w e cs L∧(∀x∈b::L,¬g.own x)∧b<w.heap.size
 | .fn f,v=>v=.func (.func f) #[] #[]
def ObR [NW] (g:Gh) (w:World) (k:Nat):Ob→Prop
 | .gone=>g.O k=[]∧g.D k=[]
 | .box t cs=>∃b vs,g.val k=.pointer (some ⟨b,0,none⟩)∧g.O k=[b]∧g.D k=[]∧w.heap[b]?=some (.cells vs.toArray t (0,0))∧ZH (AVR g w) cs vs
 | .row e m xs d=>0<m∧∃cs L,w.ownsV 0 e m (g.val k) xs.length cs∧REs w m xs cs L∧((d=2∧g.O k=(g.val k).ownBlock.toList∧g.D k=L)∨(d=1∧g.O k=(g.val k).ownBlock.toList∧g.D k=[]∧∀b∈L,¬g.own b)∨(d=0∧g.O k=[]∧g.D k=[]∧∀b∈(g.val k).ownBlock.toList++L,¬g.own b))
 | .map kk vk kv=>∃b es c,g.val k=.map (some b)∧g.O k=[b]∧g.D k=[]∧w.heap[b]?=some (.map es c)∧Zc2 es=kv∧Zib kk vk kv
def Xk (w:World) (o:Ob) (b:Nat):Prop:=
 match o with
 | .map _ _ _=>∃es c,w.heap[b]?=some (.map es c)
 | _=>∃cur e,w.heap[b]?=some (.cells cur e (0,0))
theorem Xk.lt {w:World} {o:Ob} {b:Nat} (h:Xk w o b):b<w.heap.size:=by
 unfold Xk at h
 split at h
 ·obtain ⟨_,_,h⟩:=h;exact (AL.1 h).1
 ·obtain ⟨_,_,h⟩:=h;exact (AL.1 h).1
theorem Xk.keep {w w':World} {o:Ob} {b:Nat} (h:Xk w o b) (e:w'.heap[b]?=w.heap[b]?):Xk w' o b:=by
 unfold Xk at h ⊢
 rw [e];exact h
def ZhR:Ob→Bool
 | .map _ _ _=>true
 | _=>false
theorem Xk.of {w:World} {o o':Ob} {b:Nat} (h:Xk w o b) (e:ZhR o'=ZhR o):Xk w o' b:=by
 cases o<;>cases o'<;>simp [ZhR] at e<;>exact h
structure HI [NW] (W:QK) (g:Gh) (ob:Nat→Ob) (w:World):Prop where
 below:Bel W w
 obs:∀k,ObR g w k (ob k)
 nodup:∀k,(g.O k++g.D k).Nodup
 apart:∀k j,k≠j→∀b∈g.O k++g.D k,b∉g.O j++g.D j
 plain:∀k,∀b∈g.O k++g.D k,(W.heap.size≤b∨W.x b)∧Xk w (ob k) b
 gz:g.Z=W.z
 zx:∀b,W.z b→b<W.heap.size∧¬W.x b
 nw:∀b,(W.heap.size≤b∨W.x b)→NW.B0≤b
def avU (U:Nat→Prop):AV→Prop
 | .row k=>U k
 | _=>True
def X6 (U:Nat→Prop) (cs:List AV):Prop:=∀x∈cs,avU U x
def svU (U:Nat→Prop):SV→Prop
 | .p _ cs=>X6 U cs
 | .tup xs=>∀x∈xs,X6 U x.2
 | .bp k _=>U k
 | .rp k _ _ _=>U k
 | _=>True
def obU (U:Nat→Prop):Ob→Prop
 | .box _ cs=>X6 U cs
 | _=>True
structure StU (U:Nat→Prop) (st:St):Prop where
 sl:∀t,svU U (st.sl t)
 ob:∀k,obU U (st.ob k)
 gone:∀k,¬U k→st.ob k=.gone
theorem HI.lt [NW] {W:QK} {g:Gh} {ob:Nat→Ob} {w:World} (h:HI W g ob w) (k:Nat):∀b∈g.O k++g.D k,b<w.heap.size:=by
 intro b m
 exact (h.plain k b m).2.lt
theorem HI.nz [NW] {W:QK} {g:Gh} {ob:Nat→Ob} {w:World} (h:HI W g ob w) {k b:Nat} (m:b∈g.O k++g.D k):¬g.Z b:=fun hz=>by
 rw [h.gz] at hz
 obtain ⟨h1,h2⟩:=h.zx b hz
 rcases (h.plain k b m).1 with h3 | h3
 ·omega
 ·exact h2 h3
section
variable {g g':Gh} {w w':World} {U:Nat→Prop}
theorem NR.move [NW] {x:CT} {v:Value} (h:NR g w x v)
  (hw:∀b,b<w.heap.size→¬g.own b→w'.heap[b]?=w.heap[b]?) (ho:X7 g g' w.heap.size):NR g' w' x v:=by
 obtain ⟨e,m,xs,cs,L,h1,h2,h3,h4,h5,h6⟩:=h
 have a:∀b∈v.ownBlock.toList++L,b<w.heap.size:=fun b mb=>by
  obtain ⟨_,_,_,_,q⟩:=h6 b mb
  exact (AL.1 q).1
 have hs:∀b∈v.ownBlock.toList++L,w'.heap[b]?=w.heap[b]?:=fun b mb=>hw b (a b mb) fun o=>(h6 b mb).1 (.inl o)
 refine ⟨e,m,xs,cs,L,h1,h2,Zhf h3 fun b mb=>hs b (by simp [mb]),h4.keep fun b mb=>hs b (by simp [mb]),h5,fun b mb=>⟨fun o=>?_,(h6 b mb).2.1,by rw [hs b mb];exact (h6 b mb).2.2⟩⟩
 rcases ho.low b o with o | o
 ·exact (h6 b mb).1 o
 ·have:=a b mb;omega
theorem AVR.move [NW] {x:AV} {v:Value} (h:AVR g w x v) (hx:avU U x) (hv:∀k,U k→g'.val k=g.val k)
  (hw:∀b,b<w.heap.size→¬g.own b→w'.heap[b]?=w.heap[b]?) (ho:X7 g g' w.heap.size):AVR g' w' x v:=by
 cases x with
 | c x=>
  obtain ⟨L,h1,h2⟩:=h
  have a:=h1.lt
  refine ⟨L,h1.keep fun b m=>hw b (a b m) (h2 b m),fun b m o=>?_⟩
  rcases ho.own b o with o | o
  ·exact h2 b m o
  ·have:=a b m;omega
 | n x=>exact NR.move h hw ho
 | row k=>exact ⟨h.1.trans (hv k hx).symm,h.2⟩
 | nil e m=>exact h
 | dead=>exact h
theorem AVRs.move [NW] {cs:List AV} {vs:List Value} (h:ZH (AVR g w) cs vs) (hx:X6 U cs) (hv:∀k,U k→g'.val k=g.val k)
  (hw:∀b,b<w.heap.size→¬g.own b→w'.heap[b]?=w.heap[b]?) (ho:X7 g g' w.heap.size):ZH (AVR g' w') cs vs:=
 h.mono fun a _ m r=>r.move (hx a m) hv hw ho
theorem PVR.move [NW] {a:Bool} {cs:List AV} {v:Value} (h:PVR g w a cs v) (hx:X6 U cs) (hv:∀k,U k→g'.val k=g.val k)
  (hw:∀b,b<w.heap.size→¬g.own b→w'.heap[b]?=w.heap[b]?) (ho:X7 g g' w.heap.size):PVR g' w' a cs v:=by
 cases a with
 | true=>obtain ⟨vs,h1,h2⟩:=h;exact ⟨vs,h1,AVRs.move h2 hx hv hw ho⟩
 | false=>obtain ⟨x,h1,h2⟩:=h;exact ⟨x,h1,h2.move (hx x (by simp [h1])) hv hw ho⟩
theorem SVR.move [NW] {s:SV} {v:Value} (h:SVR g w s v) (hx:svU U s) (hv:∀k,U k→g'.val k=g.val k)
  (hw:∀b,b<w.heap.size→¬g.own b→w'.heap[b]?=w.heap[b]?) (ho:X7 g g' w.heap.size) (hs:w.heap.size≤w'.heap.size):SVR g' w' s v:=by
 cases s with
 | any=>exact h
 | und=>exact h
 | p a cs=>exact PVR.move h hx hv hw ho
 | tup xs=>
  obtain ⟨vs,h1,h2⟩:=h
  exact ⟨vs,h1,h2.mono fun x _ m r=>r.move (hx x m) hv hw ho⟩
 | bp k off=>obtain ⟨b,h1,h2⟩:=h;exact ⟨b,(hv k hx).trans h1,h2⟩
 | rp k m i off=>obtain ⟨b,o,n,c,h1,h2⟩:=h;exact ⟨b,o,n,c,(hv k hx).trans h1,h2⟩
 | ep e off=>
  obtain ⟨b,lo,cs,L,h1,h2,h3,h4,h5⟩:=h
  have d:=h3.lt
  refine ⟨b,lo,cs,L,h1,fun j u hu=>?_,h3.keep fun x m=>hw x (d x m) (h4 x (by simp [m])),fun x m o=>?_,yE⟩
  ·rw [←h2 j u hu];exact World.cell?_of_block (hw b h5 (h4 b yG))
  ·rcases ho.own x o with o | o
   ·exact h4 x m o
   ·rcases A8.1 m with rfl | m
    ·omega
    ·have:=d x m;omega
 | fn f=>exact h
theorem HI.step [NW] {W:QK} {ob ob':Nat→Ob} (h:HI W g ob w) (T:Nat→Prop)
  (v:Bel W w') (hZ:g'.Z=g.Z)
  (hw:∀b,b<w.heap.size→(∀k,T k→b∉g.O k)→w'.heap[b]?=w.heap[b]?)
  (hk:∀k,¬T k→ob' k=ob k∧g'.val k=g.val k∧g'.O k=g.O k∧g'.D k=g.D k)
  (y:∀k,obU U (ob k)) (hv:∀k,U k→g'.val k=g.val k)
  (ho:X7 g g' w.heap.size)
  (hT:∀k,T k→ObR g' w' k (ob' k)∧(g'.O k++g'.D k).Nodup∧(∀b∈g'.O k++g'.D k,(W.heap.size≤b∨W.x b)∧Xk w' (ob' k) b)∧∀j,k≠j→∀b∈g'.O k++g'.D k,b∉g'.O j++g'.D j):
  HI W g' ob' w':=by
 have p:∀b,b<w.heap.size→¬g.own b→w'.heap[b]?=w.heap[b]?:=fun b hb hn=>hw b hb fun k _ m=>hn (.inl ⟨k,m⟩)
 have i:∀k,¬T k→∀b∈g.O k++g.D k,w'.heap[b]?=w.heap[b]?:=fun k hk b m=>
  hw b (h.lt k b m) fun j hj mj=>h.apart j k (fun e=>hk (e ▸ hj)) b (by simp [mj]) m
 refine ⟨v,fun k=>?_,fun k=>?_,fun k j q b m=>?_,fun k b m=>?_,hZ.trans h.gz,h.zx,h.nw⟩
 ·by_cases a:T k
  ·exact (hT k a).1
  ·obtain ⟨e1,e2,e3,e4⟩:=hk k a
   have f:=h.obs k
   have hF:=i k a
   have hU:=y k
   rw [e1]
   cases hok:ob k with
   | gone=>rw [hok] at f;exact ⟨e3.trans f.1,e4.trans f.2⟩
   | box t cs=>
    rw [hok] at f hU
    obtain ⟨b,vs,h1,h2,h3,h4,h5⟩:=f
    exact ⟨b,vs,e2.trans h1,e3.trans h2,e4.trans h3,by rw [hF b (by simp [h2])];exact h4,AVRs.move h5 hU hv p ho⟩
   | map kk vk kv=>
    rw [hok] at f
    obtain ⟨b,es,c,h1,h2,h3,h4,h5⟩:=f
    exact ⟨b,es,c,e2.trans h1,e3.trans h2,e4.trans h3,by rw [hF b (by simp [h2])];exact h4,h5⟩
   | row e m xs d=>
    rw [hok] at f
    obtain ⟨hm,cs,L,h1,h2,h4⟩:=f
    have l:=h2.lt
    have hL:∀b∈L,w'.heap[b]?=w.heap[b]?:=fun b mb=>by
     rcases h4 with ⟨_,_,h4⟩ | ⟨_,_,_,h4⟩ | ⟨_,_,_,h4⟩
     ·exact hF b (by simp [h4,mb])
     ·exact p b (l b mb) (h4 b mb)
     ·exact p b (l b mb) (h4 b (by simp [mb]))
    have A:∀b∈(g.val k).ownBlock.toList,w'.heap[b]?=w.heap[b]?:=fun b mb=>by
     rcases h4 with ⟨_,h3,_⟩ | ⟨_,h3,_⟩ | ⟨_,_,_,h4⟩
     ·exact hF b (by simp [h3,mb])
     ·exact hF b (by simp [h3,mb])
     ·exact p b (Zp8 h1 b mb) (h4 b (by simp [mb]))
    refine ⟨hm,cs,L,by rw [e2];exact Zhf h1 A,h2.keep hL,?_⟩
    rw [e2,e3,e4]
    have u:∀b,b<w.heap.size→¬g.own b→¬g'.own b:=fun b hb hn o=>by
     rcases ho.own b o with o | o
     ·exact hn o
     ·omega
    rcases h4 with h4 | ⟨hd,h3,h4,h5⟩ | ⟨hd,h3,h4,h5⟩
    ·exact .inl h4
    ·exact .inr (.inl ⟨hd,h3,h4,fun b mb=>u b (l b mb) (h5 b mb)⟩)
    ·refine .inr (.inr ⟨hd,h3,h4,fun b mb=>?_⟩)
     rcases A3.1 mb with m1 | m1
     ·exact u b (Zp8 h1 b m1) (h5 b mb)
     ·exact u b (l b m1) (h5 b mb)
 ·by_cases a:T k
  ·exact (hT k a).2.1
  ·obtain ⟨e1,e2,e3,e4⟩:=hk k a
   rw [e3,e4];exact h.nodup k
 ·by_cases a:T k
  ·exact (hT k a).2.2.2 j q b m
  ·by_cases z:T j
   ·exact fun mj=>(hT j z).2.2.2 k (fun e=>q e.symm) b mj m
   ·obtain ⟨_,_,e3,e4⟩:=hk k a
    obtain ⟨_,_,f3,f4⟩:=hk j z
    rw [e3,e4] at m
    rw [f3,f4]
    exact h.apart k j q b m
 ·by_cases a:T k
  ·exact (hT k a).2.2.1 b m
  ·obtain ⟨_,_,e3,e4⟩:=hk k a
   rw [e3,e4] at m
   obtain ⟨p1,p2⟩:=h.plain k b m
   obtain ⟨e1,_⟩:=hk k a
   exact ⟨p1,by rw [e1];exact p2.keep (i k a b m)⟩
end
structure Inv [NW] (W:QK) (U:Nat→Prop) (st:St) (a:Act) (w:World):Prop where
 ex:∃g,HI W g st.ob w∧∀t,SVR g w (st.sl t) (a.tmps.getD t undef)
 wf:StU U st
 defers:a.defers=[]
 hand:∀v,W.hv=some v→a.tmps.getD 0 undef=v
end
section
open Go.RowKit
def QV:AV→Value→Bool
 | .c (.int k n),.int k' n'=>k==k'&&n==n'
 | .c (.bool b),.bool b'=>b==b'
 | .c (.str s),.string s'=>s.data.toList==s'.data.toList&&Z2 s
 | .nil _ m,.slice none 0 0=>Nat.blt 0 m
 | _,_=>false
def ZgW:TypeDesc→AV→Bool
 | .int k,.c (.int k' _)=>k==k'
 | .bool,.c (.bool _)=>true
 | .string,.c (.str _)=>true
 | _,_=>false
def Zpk:TypeDesc→Bool
 | .struct _=>true
 | .array _ _=>true
 | _=>false
def Zc4:PK→TypeDesc→Bool
 | .int k,.int k'=>k==k'
 | .str,.string=>true
 | .bool,.bool=>true
 | _,_=>false
def EqF (P:Program):List PK→List Field→Nat→Prop
 | [],[],_=>True
 | k :: ks, f :: fs, n => f.name ≠ "_" ∧ f.offset = n ∧ (∃ d, P.underlying f.type = some d ∧ Zc4 k d = true) ∧ EqF P ks fs (n + 1)
 | _,_,_=>False
def TOk (P:Program) (t:TypeId):TI→Prop
 | .atom z=>∃d zv i,P.underlying t=some d∧ZgW d z=true∧P.info? t=some i∧i.zero=some zv∧i.size=1∧QV z zv=true
 | .strct fs n z=>∃(fields:Array Field) (i:TypeInfo) (zvs:Array Value),P.underlying t=some (.struct fields)∧P.info? t=some i∧i.size=n∧i.zero=some (.agg zvs)∧ZH (fun a v=>QV a v=true) z zvs.toList∧
   ZH (fun (fi:FI) (f:Field)=>f.offset=fi.off∧fi.size≠0∧∃j d,P.info? f.type=some j∧j.size=fi.size∧P.underlying f.type=some d∧Zpk d=fi.agg) fs fields.toList
 | .slice e m bytes z=>P.underlying t=some (.slice e)∧0<m∧bytes≤131072∧(∃(i:TypeInfo) (zv:Value),P.info? e=some i∧i.size=m∧i.bytes=bytes∧i.zero=some zv∧ZH (fun a v=>QV a v=true) z zv.cells.toList∧z.length=m)∧
   ∃j:TypeInfo,P.info? t=some j∧j.size=1∧j.zero=some (.slice none 0 0)
 | .ifc=>∃ms,P.underlying t=some (.interface ms)
 | .map kk vk=>∃kt et dk dv i zv,P.underlying t=some (.map kt et)∧P.underlying kt=some dk∧Zc4 kk dk=true∧P.underlying et=some dv∧Zc4 vk dv=true∧P.info? et=some i∧i.zero=some zv∧QV (ZdG vk) zv=true
 | .eqs ks=>∃u,t=u+4000∧P.underlying u=some (.struct (P.fieldsOf u))∧P.stoodInHeld u=false∧P.eqGuardType P.depth u=false∧EqF P ks (P.fieldsOf u).toList 0
section
variable {P:Program} {w:World} {t:TypeId}
theorem ZpU {i:TypeInfo} (h:P.info? t=some i):(typeInfo t).run P w=.ok i w:=by simp [typeInfo,program,Sem.run,h]
theorem Yh {d:TypeDesc} (h:P.underlying t=some d):(underlying t).run P w=.ok d w:=by simp [underlying,program,Sem.run,h]
theorem Xp [NW] {i:TypeInfo} (h:P.info? t=some i):(sizeOf t).run P w=.ok i.size w:=by simp [sizeOf,ZpU h]
theorem Zhp [NW] {i:TypeInfo} {z:Value} (h:P.info? t=some i) (hz:i.zero=some z):(zeroValue t).run P w=.ok z w:=by simp [zeroValue,ZpU h,hz]
theorem Zgq [NW] {d:TypeDesc} (h:P.underlying t=some d):(isAgg t).run P w=.ok (Zpk d) w:=by
 simp only[isAgg,Sem.run_bind,Yh h,Result.andThen_ok]
 cases d<;>rfl
theorem ZtM {d:TypeDesc} {z:AV} (h:ZgW d z=true):Zpk d=false:=by
 unfold ZgW at h
 split at h<;>first | rfl | simp at h
end
section
variable {g:Gh} {w:World}
theorem Zpn {s:ByteArray} (h:Z2 s=true):s.size≤9223372036854775807:=by
 unfold Z2 at h
 have:=Nat.le_of_ble_eq_true h
 rw [Array.length_toList] at this
 exact this
theorem Zep [NW] {x:AV} {v:Value} (h:QV x v=true):AVR g w x v:=by
 unfold QV at h
 split at h
 ·simp only[AG,beq_iff_eq] at h
  exact ⟨[],⟨by rw [h.1,h.2],rfl⟩,yG⟩
 ·simp only[beq_iff_eq] at h
  exact ⟨[],⟨by rw [h],rfl⟩,yG⟩
 ·rename_i s s'
  simp only[AG,beq_iff_eq] at h
  have e:s=s':=by
   cases s;cases s'
   simpa using h.1
  exact ⟨[],⟨by rw [e],rfl,Zpn h.2⟩,yG⟩
 ·rfl
 ·simp at h
theorem AVR.one [NW] {x:AV} {v:Value} (h:AVR g w x v):v.oneCell'=true:=by
 cases x with
 | c x=>obtain ⟨L,h1,_⟩:=h;exact h1.one
 | n x=>
  obtain ⟨e,m,xs,cs,L,h1,h2,h3,_⟩:=h
  obtain ⟨A,c,hv,_⟩:=ZcS h3
  simp [hv,Value.oneCell']
 | row k=>exact h.2
 | nil e m=>simp [AVR] at h;simp [h,Value.oneCell']
 | dead=>exact h
theorem ZmH {v:Value} (h:v.oneCell'=true):v.cells=#[v]:=by
 cases v<;>simp [Value.oneCell'] at h<;>rfl
theorem PVR.cells [NW] {a:Bool} {cs:List AV} {v:Value} (h:PVR g w a cs v):∃vs:List Value,v.cells=vs.toArray∧ZH (AVR g w) cs vs:=by
 cases a with
 | true=>obtain ⟨vs,rfl,h2⟩:=h;exact ⟨vs,rfl,h2⟩
 | false=>obtain ⟨x,rfl,h2⟩:=h;exact ⟨[v],by rw [ZmH h2.one],⟨h2,trivial⟩⟩
theorem AVRs.one [NW] {cs:List AV} {vs:List Value} (h:ZH (AVR g w) cs vs):∀u∈vs,u.oneCell'=true:=by
 induction vs generalizing cs with
 | nil=>simp
 | cons v r ih=>
  cases cs with
  | nil=>exact h.elim
  | cons c cs=>
   intro u m
   rcases A8.1 m with rfl | m
   ·exact h.1.one
   ·exact ih h.2 u m
end
theorem Zrt (x y:ByteArray):(x.toList==y.toList)=decide (x=y):=by
 rw [Bool.eq_iff_iff]
 simp only[beq_iff_eq,decide_eq_true_eq]
 constructor
 ·intro h
  have h':x.data.toList=y.data.toList:=by rw [←Ap,←Ap];exact h
  cases x;cases y
  simpa using h'
 ·rintro rfl;rfl
end
section
open Go.RowKit
def Uk (U:Nat→Prop) (key:Nat):Nat→Prop:=fun k=>U k∨(key≤k∧k<key+16)
theorem avU.mono {U U':Nat→Prop} (h:∀k,U k→U' k) {x:AV} (hx:avU U x):avU U' x:=by cases x<;>first | exact h _ hx | trivial
theorem X6.mono [NW] {U U':Nat→Prop} (h:∀k,U k→U' k) {x:List AV} (hx:X6 U x):X6 U' x:=fun y m=>(hx y m).mono h
theorem svU.mono [NW] {U U':Nat→Prop} (h:∀k,U k→U' k) {x:SV} (hx:svU U x):svU U' x:=by
 cases x<;>first | exact X6.mono h hx | exact fun y m=>X6.mono h (hx y m) | exact h _ hx | trivial
theorem obU.mono [NW] {U U':Nat→Prop} (h:∀k,U k→U' k) {x:Ob} (hx:obU U x):obU U' x:=by
 cases x<;>first | exact X6.mono h hx | trivial
def Fin [NW] (P:Program) (W:QK) (U:Nat→Prop) (key:Nat) (st:St) (g:Gh) (w:World) (s:Sem Next) (r:SV × List (Nat × Ob)):Prop:=
 ∃g' cv w',(s.run P w=.ok (.value cv) w'∨(s.run P w=.ok .skip w'∧cv=undef))∧HI W g' (Zk st.ob r.2) w'∧SVR g' w' r.1 cv∧(∀x v,svU U x→SVR g w x v→SVR g' w' x v)∧
  svU (Uk U key) r.1∧(∀k,obU (Uk U key) (Zk st.ob r.2 k))∧∀k,¬Uk U key k→Zk st.ob r.2 k=.gone
section
variable {P:Program} {W:QK} {U:Nat→Prop} {key:Nat} {st:St} {g:Gh} {w:World} {a:Act} {tt:Nat→Option TI}
theorem QY [NW] {s:Sem Next} {v:SV} {cv:Value} (hI:HI W g st.ob w) (hU:StU U st) (a:s.run P w=.ok (.value cv) w) (hv:SVR g w v cv) (hu:svU U v):Fin P W U key st g w s (v,[]):=
 ⟨g,cv,w,.inl a,hI,hv,fun _ _ _ h=>h,hu.mono fun _=>.inl,fun k=>(hU.ob k).mono fun _=>.inl,fun k hk=>hU.gone k fun h=>hk (.inl h)⟩
theorem Y8 (x:CT):svU U (.p false [.c x]):=fun y m=>by simp at m;subst m;trivial
theorem ZaQ [NW] (k:IntKind) (n:Int):SVR g w (.p false [.c (.int k n)]) (.int k n):=⟨_,rfl,[],⟨rfl,rfl⟩,by simp⟩
theorem SVR_bool [NW] (b:Bool):SVR g w (.p false [.c (.bool b)]) (.bool b):=⟨_,rfl,[],⟨rfl,rfl⟩,by simp⟩
theorem Zjz [NW] {s:ByteArray} (h:s.size≤9223372036854775807):SVR g w (.p false [.c (.str s)]) (.string s):=⟨_,rfl,[],⟨rfl,rfl,h⟩,by simp⟩
theorem Za1 [NW] {k:IntKind} {n:Int} {v:Value} (h:SVR g w (.p false [.c (.int k n)]) v):v=.int k n:=by
 obtain ⟨x,hx,h⟩:=h;simp at hx;subst hx;obtain ⟨L,h1,_⟩:=h;exact h1.1
theorem ZeW [NW] {b:Bool} {v:Value} (h:SVR g w (.p false [.c (.bool b)]) v):v=.bool b:=by
 obtain ⟨x,hx,h⟩:=h;simp at hx;subst hx;obtain ⟨L,h1,_⟩:=h;exact h1.1
theorem Zhm [NW] {s:ByteArray} {v:Value} (h:SVR g w (.p false [.c (.str s)]) v):v=.string s∧s.size≤9223372036854775807:=by
 obtain ⟨x,hx,h⟩:=h;simp at hx;subst hx;obtain ⟨L,h1,_⟩:=h;exact ⟨h1.1,h1.2.2⟩
theorem ZAR [NW] {t:Nat} (htt:∀t i,tt t=some i→TOk P t i) (v:Value):SVR g w (cvT (tt t) v) v∧svU U (cvT (tt t) v):=by
 unfold cvT
 split
 ·exact ⟨ZaQ _ _,Y8 _⟩
 ·exact ⟨SVR_bool _,Y8 _⟩
 ·split
  ·rename_i h;exact ⟨Zjz (Zpn h),Y8 _⟩
  ·exact ⟨trivial,trivial⟩
 ·split
  ·exact ⟨⟨_,rfl,rfl⟩,fun y m=>by simp at m;subst m;trivial⟩
  ·exact ⟨trivial,trivial⟩
 ·exact ⟨trivial,trivial⟩
theorem Zi6 [NW] (htt:∀t i,tt t=some i→TOk P t i) (hS:∀t,SVR g w (st.sl t) (a.tmps.getD t undef)) (hU:StU U st) (t:Nat) (x:Operand):
  SVR g w (st.ev tt t x) (a.eval x)∧svU U (st.ev tt t x):=by
 cases x with
 | tmp s=>exact ⟨hS s,hU.sl s⟩
 | const v=>exact ZAR htt v
 | global _=>exact ⟨trivial,trivial⟩
 | func f=>exact ⟨rfl,trivial⟩
set_option maxHeartbeats 1000000 in
theorem ZuT [NW] {op:BinOp} {t:Nat} {ox oy:Operand} {k k':IntKind} {n n':Int} {z:CT} (hk:k=k'∨op=.shl∨op=.shr) (hz:Zu3 op k n n'=some z):
  ∃cv,(do eqGuard op t ox oy (.int k n) (.int k' n');binOp op t (.int k n) (.int k' n'):Sem Value).run P w=.ok cv w∧SVR g w (.p false [.c z]) cv:=by
 have hg:(eqGuard op t ox oy (.int k n) (.int k' n')).run P w=.ok () w:=by
  cases op<;>rfl
 simp only[Sem.run_bind,hg,Result.andThen_ok]
 cases op<;>simp only[Zu3,Zy5,ZkD,orI,ZuA,Zrc,ZBR,Zsr,Option.map_none,AT,A0,reduceCtorEq] at hz<;>(try subst hz)<;>
  (try (split at hz<;>simp only[A0,reduceCtorEq] at hz;subst hz))<;>
  simp only[reduceCtorEq,or_false,or_true] at hk<;>(try subst hk)<;>
  first
   | (refine ⟨_,?_,ZaQ _ _⟩;simp [binOp,Op.intArith,Op.intDiv,Op.intBits,Op.shift, *];done)
   | (refine ⟨_,?_,SVR_bool _⟩;simp [binOp,Op.intCmp];done)
set_option maxHeartbeats 1000000 in
theorem Zvy [NW] {op : BinOp} {t : Nat} {ox oy : Operand} {s s' : ByteArray} {z : CT} (hz : Zux op s s' = some z) :
    ∃ cv, (do eqGuard op t ox oy (.string s) (.string s'); binOp op t (.string s) (.string s') : Sem Value).run P w = .ok cv w ∧ SVR g w (.p false [.c z]) cv := by
  have hg : (eqGuard op t ox oy (.string s) (.string s')).run P w = .ok () w := by
    cases op <;> rfl
  simp only[Sem.run_bind, hg, Result.andThen_ok]
  cases op <;> simp only[Zux, A0, reduceCtorEq] at hz <;> (try subst hz) <;>
    first
      | (refine ⟨_, ?_, SVR_bool _⟩; simp only[binOp, Op.stringOp, sLt, sEq, ← Zrt]; rfl)
      | (split at hz
         · rename_i hl
           simp only[A0] at hz
           subst hz
           refine ⟨_, ?_, Zjz (by rw [ByteArray.size_append]; exact hl)⟩
           have hl' : ¬ ((s.size + s'.size : Nat) : Int) > IntKind.i64.max := by
             have : IntKind.i64.max = 9223372036854775807 := by decide
             omega
           simp only[binOp, Op.stringOp, hl', if_false]
           rfl
         · simp at hz)
theorem ZoA [NW] {op:BinOp} {t:Nat} {ox oy:Operand} {b b':Bool} {r:Bool} (ht:P.underlying t=some .bool) (a:(op=.eql∧r=(b==b'))∨(op=.neq∧r=!(b==b'))):
  (do eqGuard op t ox oy (.bool b) (.bool b');binOp op t (.bool b) (.bool b'):Sem Value).run P w=.ok (.bool r) w:=by
 have hg:(eqGuard op t ox oy (.bool b) (.bool b')).run P w=.ok () w:=by
  cases op<;>rfl
 have he:(Op.equal t (.bool b) (.bool b')).run P w=.ok (b==b') w:=by
  have key:∀d:Nat,(Op.equalIn (d+1) t (.bool b) (.bool b')).run P w=.ok (b==b') w:=fun d=>by
   rw [Op.equalIn]
   simp only[Sem.run_bind,Yh ht,Result.andThen_ok,Sem.run_pure]
  exact key 9999
 simp only[Sem.run_bind,hg,Result.andThen_ok]
 rcases a with ⟨rfl,rfl⟩ | ⟨rfl,rfl⟩
 ·simp only[binOp,Sem.run_bind,he,Result.andThen_ok,Sem.run_pure]
 ·simp only[binOp,Sem.run_bind,he,Result.andThen_ok,Sem.run_pure]
theorem ZwD [NW] (htt:∀t i,tt t=some i→TOk P t i) {op:BinOp} {t:Nat} {ox oy:Operand} {x y v:SV} {vx vy:Value} (h:Zvn (tt t) op x y=some v) (hx:SVR g w x vx) (hy:SVR g w y vy):
  ∃cv,(do eqGuard op t ox oy vx vy;binOp op t vx vy:Sem Value).run P w=.ok cv w∧SVR g w v cv∧svU U v:=by
 unfold Zvn at h
 split at h
 ·have ex:=Za1 hx
  have ey:=Za1 hy
  subst ex ey
  split at h
  ·rename_i hk
   obtain ⟨z,hz,rfl⟩:=A4.1 h
   obtain ⟨cv,h1,h2⟩:=ZuT (P:=P) (g:=g) (w:=w) (t:=t) (ox:=ox) (oy:=oy) hk hz
   exact ⟨cv,h1,h2,Y8 _⟩
  ·simp at h
 ·obtain ⟨ex,lx⟩:=Zhm hx
  obtain ⟨ey,ly⟩:=Zhm hy
  subst ex ey
  obtain ⟨z,hz,rfl⟩:=A4.1 h
  obtain ⟨cv,h1,h2⟩:=Zvy (P:=P) (g:=g) (w:=w) (t:=t) (ox:=ox) (oy:=oy) hz
  exact ⟨cv,h1,h2,Y8 _⟩
 ·have ex:=ZeW hx
  have ey:=ZeW hy
  subst ex ey
  split at h
  ·rename_i a
   simp only[A0] at h
   subst h
   obtain ⟨d,zv,i,h1,h2,_⟩:=htt t _ a
   have hd:d=.bool:=by cases d<;>simp [ZgW] at h2;rfl
   subst hd
   exact ⟨_,ZoA h1 (.inl ⟨rfl,rfl⟩),SVR_bool _,Y8 _⟩
  ·rename_i a
   simp only[A0] at h
   subst h
   obtain ⟨d,zv,i,h1,h2,_⟩:=htt t _ a
   have hd:d=.bool:=by cases d<;>simp [ZgW] at h2;rfl
   subst hd
   exact ⟨_,ZoA h1 (.inr ⟨rfl,rfl⟩),SVR_bool _,Y8 _⟩
  ·simp at h
 ·simp at h
theorem ZmL {k:PK} {d:TypeDesc} (h:Zc4 k d=true):Zpk d=false:=by
 unfold Zc4 at h
 split at h<;>first | rfl | simp at h
theorem ZxJ [NW] {k:PK} {x y:AV} {vx vy:Value} {b:Bool} {t:Nat} {d:TypeDesc} (h:eqC k x y=some b) (hd:P.underlying t=some d) (hk:Zc4 k d=true) (hx:AVR g w x vx) (hy:AVR g w y vy) (n:Nat):(Op.equalIn (n+1) t vx vy).run P w=.ok b w:=by
 unfold eqC at h
 split at h
 ·split at h<;>simp only[A0,reduceCtorEq] at h
  rename_i kk;subst kk h
  obtain ⟨_,h1,_⟩:=hx;obtain ⟨_,h2,_⟩:=hy
  have e1:=h1.1;have e2:=h2.1;subst e1 e2
  cases d<;>simp [Zc4] at hk
  exact run_equalIn_int w n t _ _ _ _ hd
 ·simp only[A0] at h;subst h
  obtain ⟨_,h1,_⟩:=hx;obtain ⟨_,h2,_⟩:=hy
  have e1:=h1.1;have e2:=h2.1;subst e1 e2
  cases d<;>simp [Zc4] at hk
  rw [run_equalIn_string w n t _ _ hd,sEq,Zrt]
 ·simp only[A0] at h;subst h
  obtain ⟨_,h1,_⟩:=hx;obtain ⟨_,h2,_⟩:=hy
  have e1:=h1.1;have e2:=h2.1;subst e1 e2
  cases d<;>simp [Zc4] at hk
  exact run_equalIn_bool' w n t _ _ hd
 ·simp at h
theorem Zrn [NW] (n:Nat) {X Y:Array Value}:∀{ks:List PK} {fs:List Field} {o:Nat} {xs ys:List AV} {vx vy:List Value} {b:Bool},ZlL ks xs ys=some b→EqF P ks fs o→ZH (AVR g w) xs vx→ZH (AVR g w) ys vy→(∀j v,vx[j]?=some v→X[o+j]?=some v)→(∀j v,vy[j]?=some v→Y[o+j]?=some v)→(Op.eqFields (n+1) X Y fs).run P w=.ok b w
 | [],[],_,[],[],_,_,b,h,_,_,_,_,_=>by simp [ZlL] at h;subst h;simp [Op.eqFields]
 | k::ks,f::fs,o,x::xs,y::ys,[],_,_,_,_,hx,_,_,_=>hx.elim
 | k::ks,f::fs,o,x::xs,y::ys,_::_,[],_,_,_,_,hy,_,_=>hy.elim
 | k::ks,f::fs,o,x::xs,y::ys,u::vx,v::vy,b,h,hf,hx,hy,hX,hY=>by
  simp only[ZlL] at h
  obtain ⟨b1,h1,h⟩:=A5.1 h
  obtain ⟨b2,h2,rfl⟩:=A4.1 h
  obtain ⟨f1,f2,⟨d,f3,f4⟩,f5⟩:=hf
  have e1:=ZxJ h1 f3 f4 hx.1 hy.1 n
  have e2:=Zrn n h2 f5 hx.2 hy.2 (fun j v hj=>by have:=hX (j+1) v (by simpa using hj);rwa [show o+(j+1)=o+1+j by omega] at this) (fun j v hj=>by have:=hY (j+1) v (by simpa using hj);rwa [show o+(j+1)=o+1+j by omega] at this)
  have p1:(part f.type X f.offset).run P w=.ok u w:=by
   have:=hX 0 u yG
   simp only[part,Sem.run_bind,Zgq f3,ZmL f4,Result.andThen_ok]
   rw [f2];simp at this;simp [this]
  have p2:(part f.type Y f.offset).run P w=.ok v w:=by
   have:=hY 0 v yG
   simp only[part,Sem.run_bind,Zgq f3,ZmL f4,Result.andThen_ok]
   rw [f2];simp at this;simp [this]
  simp only[Op.eqFields,f1,ne_eq,not_false_eq_true,if_true,Sem.run_bind,p1,p2,e1,Result.andThen_ok]
  cases b1
  ·simp
  ·simpa using e2
 | [],_::_,_,_,_,_,_,_,_,hf,_,_,_,_=>hf.elim
 | _::_,[],_,_,_,_,_,_,_,hf,_,_,_,_=>hf.elim
 | [],[],_,_::_,_,_,_,_,h,_,_,_,_,_=>by simp [ZlL] at h
 | [],[],_,[],_::_,_,_,_,h,_,_,_,_,_=>by simp [ZlL] at h
 | _::_,_::_,_,[],_,_,_,_,h,_,_,_,_,_=>by simp [ZlL] at h
 | _::_,_::_,_,_::_,[],_,_,_,h,_,_,_,_,_=>by simp [ZlL] at h
theorem ZoJ {op:BinOp} {b:Bool} {v:SV} (h:Zn8 op b=some v):(op=.eql∧v=.p false [.c (.bool b)])∨(op=.neq∧v=.p false [.c (.bool (!b))]):=by
 unfold Zn8 at h
 split at h<;>simp only[A0,reduceCtorEq] at h<;>subst h
 ·exact .inl ⟨rfl,rfl⟩
 ·exact .inr ⟨rfl,rfl⟩
theorem Zxc [NW] (htt:∀t i,tt t=some i→TOk P t i) {op:BinOp} {t:Nat} {ox oy:Operand} {x y v:SV} {vx vy:Value} (h:Zvq (tt (t+4000)) op x y=some v) (hx:SVR g w x vx) (hy:SVR g w y vy):
  ∃cv,(do eqGuard op t ox oy vx vy;binOp op t vx vy:Sem Value).run P w=.ok cv w∧SVR g w v cv∧svU U v:=by
 unfold Zvq at h
 split at h
 ·obtain ⟨ks,a,h'⟩:=A5.1 h
  obtain ⟨b,hb,d⟩:=A5.1 h'
  have c:tt (t+4000)=some (.eqs ks):=by
   unfold ZtP at a
   split at a<;>simp only[A0,reduceCtorEq] at a
   rename_i c
   rw [c,a]
  obtain ⟨u,e,h1,h2,h3,h4⟩:=htt _ _ c
  have e:t=u:=Nat.add_right_cancel e
  subst e
  obtain ⟨us,rfl,f⟩:=hx
  obtain ⟨vs,rfl,k⟩:=hy
  have hq:=Zrn (X:=us.toArray) (Y:=vs.toArray) 9998 hb h4 f k (fun j v hj=>by simpa using hj) (fun j v hj=>by simpa using hj)
  have hg:=run_eqGuard_agg (P:=P) w op t ox oy us.toArray vs.toArray h3
  rcases ZoJ d with ⟨rfl,rfl⟩ | ⟨rfl,rfl⟩
  ·refine ⟨_,?_,SVR_bool b,Y8 _⟩
   simp only[Sem.run_bind,hg,Result.andThen_ok,run_eql_struct,run_equalIn_struct w 9999 t _ _ h1 h2,hq]
  ·refine ⟨_,?_,SVR_bool (!b),Y8 _⟩
   simp only[Sem.run_bind,hg,Result.andThen_ok,run_neq_struct,run_equalIn_struct w 9999 t _ _ h1 h2,hq]
 ·simp at h
theorem Zws [NW] {b:Bool} {v:Value} (h:SVR g w (.p false [.c (.ifc b)]) v):(b=true∧v=.nilIface)∨(b=false∧∃t x,v=.iface t x):=by
 obtain ⟨x,hx,h⟩:=h;simp at hx;subst hx;obtain ⟨L,h1,_⟩:=h
 have h2:=h1.2.2
 cases b with
 | true=>exact .inl ⟨rfl,h2⟩
 | false=>exact .inr ⟨rfl,h2⟩
theorem ZuQ [NW] (htt:∀t i,tt t=some i→TOk P t i) {op:BinOp} {t:Nat} {ox oy:Operand} {x y v:SV} {vx:Value} (h:ZtF tt t (Zil oy) op x y=some v) (hx:SVR g w x vx) (hy:SVR g w y (a.eval oy)):
  ∃cv,(do eqGuard op t ox oy vx (a.eval oy);binOp op t vx (a.eval oy):Sem Value).run P w=.ok cv w∧SVR g w v cv∧svU U v:=by
 unfold ZtF at h
 split at h
 ·rename_i hn
  have ho:oy=.const .nilIface:=by
   cases oy with
   | const c=>cases c<;>first | rfl | (simp [Zil,Zqo] at hn;done)
   | _=>simp [Zil] at hn
  subst ho
  split at h
  rotate_left
  ·simp at h
  rename_i hif
  have hti:tt t=some .ifc:=by
   unfold Zts at hif
   split at hif
   ·assumption
   ·simp at hif
  obtain ⟨ms,hms⟩:=htt _ _ hti
  unfold ZzV at h
  split at h
  ·rename_i b
   have hb:=Zws hx
   have hev:a.eval (.const .nilIface)=.nilIface:=rfl
   rw [hev]
   have hg:∀v:Value,(v=.nilIface∨∃t x,v=.iface t x)→(eqGuard op t ox (.const .nilIface) v .nilIface).run P w=.ok () w:=fun v hv=>by
    rcases hv with rfl | ⟨t',x',rfl⟩
    ·simp only[eqGuard]
     cases ox<;>cases op<;>rfl
    ·simp only[eqGuard]
     cases op<;>rfl
   have he:(Op.equal t vx .nilIface).run P w=.ok b w:=by
    show (Op.equalIn (9999+1) t _ _).run P w=_
    rw [Op.equalIn]
    rcases hb with ⟨rfl,rfl⟩ | ⟨rfl,t',x',rfl⟩
    ·simp only[Sem.run_bind,Yh hms,Result.andThen_ok,Sem.run_pure]
    ·simp only[Sem.run_bind,Yh hms,Result.andThen_ok,Sem.run_pure]
   have hg':=hg vx (hb.imp (fun h=>h.2) (fun h=>h.2))
   rcases ZoJ h with ⟨rfl,rfl⟩ | ⟨rfl,rfl⟩
   ·refine ⟨_,?_,SVR_bool b,Y8 _⟩
    simp only[Sem.run_bind,hg',Result.andThen_ok]
    rcases hb with ⟨rfl,rfl⟩ | ⟨rfl,t',x',rfl⟩<;>simp only[binOp,Sem.run_bind,he,Result.andThen_ok,Sem.run_pure]
   ·refine ⟨_,?_,SVR_bool (!b),Y8 _⟩
    simp only[Sem.run_bind,hg',Result.andThen_ok]
    rcases hb with ⟨rfl,rfl⟩ | ⟨rfl,t',x',rfl⟩<;>simp only[binOp,Sem.run_bind,he,Result.andThen_ok,Sem.run_pure]
  ·simp at h
 ·split at h
  ·exact Zxc htt h hx hy
  ·exact ZwD htt h hx hy
theorem ZBh [NW] {op:UnOp} {x v:SV} {vx:Value} (h:unV op x=some v) (hx:SVR g w x vx):∃cv,(Op.unary op vx).run P w=.ok cv w∧SVR g w v cv∧svU U v:=by
 unfold unV at h
 split at h
 ·have ex:=ZeW hx
  subst ex
  split at h<;>simp at h
  subst h
  exact ⟨_,by simp [Op.unary],SVR_bool _,Y8 _⟩
 ·have ex:=Za1 hx
  subst ex
  split at h<;>simp at h
  subst h
  exact ⟨_,by simp [Op.unary,Op.intArith],ZaQ _ _,Y8 _⟩
 ·simp at h
end
end
section
open Go.RowKit
section
variable {P:Program} {W:QK} {U:Nat→Prop} {key:Nat} {st:St} {g:Gh} {w:World} {a:Act} {tt:Nat→Option TI}
theorem Zyv {t:Nat} {z:AV} (htt:∀t i,tt t=some i→TOk P t i) (h:tt t=some (.atom z)):∃d,P.underlying t=some d:=by
 obtain ⟨d,_,_,h,_⟩:=htt t _ h;exact ⟨d,h⟩
theorem ZpE {t:Nat} (htt:∀t i,tt t=some i→TOk P t i) (h:Za2 (tt t)=true):∃e,P.underlying t=some (.slice e):=by
 unfold Za2 at h
 split at h
 ·rename_i h1;exact ⟨_,(htt t _ h1).1⟩
 ·simp at h
theorem Zgb {t:Nat} (htt:∀t i,tt t=some i→TOk P t i) (h:ZbY (tt t)=true):P.underlying t=some .string:=by
 unfold ZbY at h
 split at h
 ·rename_i h1
  obtain ⟨d,zv,i,h2,h3,_⟩:=htt t _ h1
  have hd:d=.string:=by cases d<;>simp [ZgW] at h3;rfl
  rw [hd] at h2;exact h2
 ·simp at h
theorem Zvv [NW] (htt:∀t i,tt t=some i→TOk P t i) {s t:Nat} {x v:SV} {vx:Value} (h:ZoY (tt s) (tt t) x=some v) (hx:SVR g w x vx):∃cv,(convert s t vx).run P w=.ok cv w∧SVR g w v cv∧svU U v:=by
 unfold ZoY at h
 split at h
 ·have ex:=Za1 hx
  subst ex
  split at h
  ·rename_i h1 h2
   simp only[A0] at h
   subst h
   obtain ⟨d,zv,i,h3,h4,_⟩:=htt t _ h2
   have hd:∃k,d=.int k:=by cases d<;>simp [ZgW] at h4;exact ⟨_,rfl⟩
   obtain ⟨k,rfl⟩:=hd
   simp only[ZgW,beq_iff_eq] at h4
   subst h4
   obtain ⟨ds,hs⟩:=Zyv htt h1
   refine ⟨_,?_,ZaQ _ _,Y8 _⟩
   simp [convert,Yh hs,Yh h3,Conv.intToInt]
  ·simp at h
 ·simp at h
theorem Zf5 [NW] {e m:Nat} {xs:List (List CT)} {v:Value} (h:SVR g w (.p false [.c (.sl e m xs)]) v):∃A cap cs L0 L1,v=.slice A xs.length cap∧xs.length≤cap∧cap≤maxLen∧0<m∧Sl w m A xs.length cs L0∧REs w m xs cs L1∧(∀b∈L0++L1,¬g.own b):=by
 obtain ⟨x,hx,h⟩:=h
 simp at hx
 subst hx
 obtain ⟨L,⟨A,cap,cs,L0,L1,h1,h2,h3,h4,h5,h6,h7⟩,ho⟩:=h
 exact ⟨A,cap,cs,L0,L1,h1,h2,h3,h5,h6,h7,fun b m=>ho b (h4 ▸ m)⟩
theorem ZeK [NW] {k:Nat} {v:Value} (h:SVR g w (.p false [.row k]) v):v=g.val k:=by
 obtain ⟨x,hx,h⟩:=h;simp at hx;subst hx;exact h.1
theorem ZqE [NW] {e m:Nat} {v:Value} (h:SVR g w (.p false [.nil e m]) v):v=.slice none 0 0:=by
 obtain ⟨x,hx,h⟩:=h;simp at hx;subst hx;exact h
theorem Q8 {B e m n:Nat} {v:Value} {cs:List Value} (h:w.ownsV B e m v n cs):∃A cap,v=.slice A n cap:=by
 obtain ⟨A,c,hv,_⟩:=ZcS h
 exact ⟨A,c,hv⟩
theorem ZBN [NW] {x:CT} {v:Value} (h:SVR g w (.p false [.n x]) v):NR g w x v:=by
 obtain ⟨y,hy,h⟩:=h;simp at hy;subst hy;exact h
theorem Zxg [NW] (htt:∀t i,tt t=some i→TOk P t i) (hI:HI W g st.ob w) {t:Nat} {ts:Array TypeId} {ty:TypeId} (a:ts[0]?=some t) {x v:SV} {vx:Value} (h:ZlW st (tt t) x=some v) (hx:SVR g w x vx):
  ∃cv,(Builtin.len_ ts ty #[vx]).run P w=.ok cv w∧SVR g w v cv∧svU U v:=by
 have fin:∀(A:Option Addr) (n c:Nat),Za2 (tt t)=true→(Builtin.len_ ts ty #[.slice A n c]).run P w=.ok (.int .i64 n) w:=fun A n c hs=>by
  obtain ⟨e,he⟩:=ZpE htt hs
  simp [Builtin.len_,a,Yh he,goInt]
 unfold ZlW at h
 split at h
 ·split at h<;>simp at h
  rename_i hs
  subst h
  obtain ⟨A,cap,_,_,_,rfl,_⟩:=Zf5 hx
  exact ⟨_,fin _ _ _ hs,ZaQ _ _,Y8 _⟩
 ·split at h<;>simp at h
  rename_i hs
  subst h
  obtain ⟨_,_,_,_,_,h1,_,h3,_⟩:=ZBN hx
  simp only[CT.sl.injEq] at h1
  obtain ⟨_,_,rfl⟩:=h1
  obtain ⟨A,cap,rfl⟩:=Q8 h3
  exact ⟨_,fin _ _ _ hs,ZaQ _ _,Y8 _⟩
 ·split at h<;>simp at h
  rename_i hs
  subst h
  obtain ⟨rfl,_⟩:=Zhm hx
  refine ⟨_,?_,ZaQ _ _,Y8 _⟩
  simp [Builtin.len_,a,Yh (Zgb htt hs),goInt]
 ·split at h<;>simp at h
  rename_i hs
  subst h
  have:=ZqE hx
  subst this
  exact ⟨_,fin _ _ _ hs,ZaQ _ _,Y8 _⟩
 ·split at h
  ·rename_i k _ e m xs d hk
   split at h<;>simp at h
   rename_i hs
   subst h
   have hv:=ZeK hx
   subst hv
   have ho:=hI.obs k
   rw [hk] at ho
   obtain ⟨_,cs,L,h1,_⟩:=ho
   obtain ⟨A,cap,hv⟩:=Q8 h1
   rw [hv]
   exact ⟨_,fin _ _ _ hs,ZaQ _ _,Y8 _⟩
  ·simp at h
 ·simp at h
theorem Zki {f:Value→ByteArray→Sem (ForInStep ByteArray)} (hf:∀n s,f (.int .u8 n) s=pure (ForInStep.yield (s.push (Ad n.toNat)))):∀(l:List Int) (s:ByteArray),(forIn (l.map fun n=>Value.int .u8 n) s f).run P w=.ok ⟨s.data++(l.map fun n=>Ad n.toNat).toArray⟩ w
 | [],s=>by simp
 | n::l,s=>by
  have ih:=Zki hf l (s.push (Ad n.toNat))
  simp only[AU,List.forIn_cons,hf,Sem.run_bind,Sem.run_pure,Result.andThen_ok,ih]
  congr 2
  apply Array.ext'
  simp [ByteArray.push]
theorem Zsa [NW] {b o cap:Nat} (l:List Int) (hc:∀j u,(l.map fun n=>Value.int .u8 n)[j]?=some u→w.cell? ⟨b,o+j,none⟩=some u):(Conv.bytesToString (.slice (some ⟨b,o,none⟩) l.length cap)).run P w=.ok (.string (YQ l)) w:=by
 have h1:=run_loadCells_list (P:=P) w ⟨b,o,none⟩ (l.map fun n=>Value.int .u8 n) (fun j u hj=>by rw [ZcD];exact hc j u hj)
 rw [List.length_map] at h1
 unfold Conv.bytesToString
 simp only[Sem.run_bind,h1,Result.andThen_ok,←Array.forIn_toList]
 rw [Zki (fun _ _=>rfl)]
 simp [YQ,ByteArray.empty,ByteArray.emptyWithCapacity]
 rfl
theorem Zlh {m:Nat}:∀{xs:List (List CT)} {l:List Int} {cs:List Value} {L:List Nat},ZdK xs=some l→REs w m xs cs L→cs=l.map (fun n=>Value.int .u8 n)∧xs.length=l.length
 | [],_,_,_,h,⟨h1,_⟩=>by simp [ZdK] at h;subst h h1;simp
 | x::r,l,_,_,h,⟨c1,c2,L1,L2,rfl,rfl,h3,h4⟩=>by
  unfold ZdK at h
  split at h
  ·rename_i he;simp at he
  ·rename_i n r' he
   simp only[AM] at he
   obtain ⟨rfl,rfl⟩:=he
   obtain ⟨l',hl,rfl⟩:=A4.1 h
   obtain ⟨i1,i2⟩:=Zlh hl h4
   obtain ⟨v,cs',_,_,rfl,rfl,a1,a2⟩:=h3.1
   obtain ⟨rfl,_⟩:=a2
   rw [a1.1,i1]
   exact ⟨rfl,by simp [i2]⟩
  ·simp at h
theorem Zpz (l:List Int):(YQ l).size=l.length:=by simp [YQ,ByteArray.size]
theorem Zug [NW] (htt:∀t i,tt t=some i→TOk P t i) (hI:HI W g st.ob w) {s t:Nat} {x v:SV} {vx:Value} (y:ZbY (tt t)=true) (f:ZkO (ZnC tt (tt s))=true) (h:ZgV st x=some v) (hx:SVR g w x vx):∃cv,(convert s t vx).run P w=.ok cv w∧SVR g w v cv∧svU U v:=by
 have ht:=Zgb htt y
 have hs:∃e,P.underlying s=some (.slice e)∧P.underlying e=some (.int .u8):=by
  unfold ZnC at f
  split at f
  ·rename_i e m b z B
   have h1:=(htt _ _ B).1
   unfold ZkO at f
   split at f
   ·rename_i C
    obtain ⟨d,zv,i,h2,h3,_⟩:=htt _ _ C
    cases d<;>simp [ZgW] at h3
    subst h3
    exact ⟨e,h1,h2⟩
   ·simp at f
  ·simp [ZkO] at f
 obtain ⟨e,hs,he⟩:=hs
 have go:∀A n c,(convert s t (.slice A n c)).run P w=(Conv.bytesToString (.slice A n c)).run P w:=fun A n c=>by
  unfold convert
  simp only[Sem.run_bind,Yh hs,Yh ht,Yh he,Result.andThen_ok]
 have fin:∀(A:Option Addr) (n cap:Nat) (cs:List Value) (L:List Nat) (xs:List (List CT)) (l:List Int) (m:Nat),n=xs.length→0<m→ZdK xs=some l→REs w m xs cs L→n≤9223372036854775807→(n=0∨∃b o,A=some ⟨b,o,none⟩∧Q9 w b o cs)→∃cv,(convert s t (.slice A n cap)).run P w=.ok cv w∧SVR g w (.p false [.c (.str (YQ l))]) cv∧svU U (.p false [.c (.str (YQ l))]):=by
  intro A n cap cs L xs l m hn hm hl hR hsz hA
  obtain ⟨i1,i2⟩:=Zlh hl hR
  have q:(YQ l).size≤9223372036854775807:=by rw [Zpz];omega
  refine ⟨.string (YQ l),?_,Zjz q,Y8 _⟩
  rw [go]
  rcases hA with h0 | ⟨b,o,rfl,hc⟩
  ·have:l=[]:=AN yE
   subst this
   cases A with
   | none=>rfl
   | some a=>
    have h1:=run_loadCells_list (P:=P) w a [] yG
    rw [h0]
    unfold Conv.bytesToString
    simp only[List.length_nil] at h1
    simp only[Sem.run_bind,h1,Result.andThen_ok]
    rfl
  ·rw [hn,i2]
   exact Zsa l fun j u hj=>hc j u (by rw [i1];exact hj)
 unfold ZgV at h
 split at h
 ·split at h
  ·rename_i k _ e' m xs d hk
   obtain ⟨l,hl,rfl⟩:=A4.1 h
   have hv:=ZeK hx
   have ho:=hI.obs k
   rw [hk] at ho
   obtain ⟨hm,cs,L,h1,h2,_⟩:=ho
   rw [hv]
   rcases h1.2 with ⟨h3,h4⟩ | ⟨b,o,cap,cur,h3,h4,h5,h6,h7,h8,h9⟩
   ·rw [h3]
    exact fin _ _ _ cs L xs l m yE hm hl h2 yE (.inl rfl)
   ·rw [h3]
    refine fin _ _ _ cs L xs l m rfl hm hl h2 (by unfold maxLen at h7;omega) (.inr ⟨b,o,rfl,fun j u hj=>?_⟩)
    exact ZhI h1 h3 j u hj
  ·simp at h
 ·obtain ⟨l,hl,rfl⟩:=A4.1 h
  obtain ⟨A,cap,cs,L0,L1,rfl,h2,h3,h5,h6,h7,_⟩:=Zf5 hx
  rename_i e' m' xs _
  refine fin _ _ _ cs L1 xs l _ rfl h5 hl h7 (by unfold maxLen at h3;omega) ?_
  rcases Nat.eq_zero_or_pos xs.length with h0 | h0
  ·exact .inl h0
  ·obtain ⟨b,off,h8,h9,hc⟩:=h6.at_ h0
   exact .inr ⟨b,off,h8,hc⟩
 ·simp at h
theorem Zs1 [NW] (htt:∀t i,tt t=some i→TOk P t i) (hI:HI W g st.ob w) {s t:Nat} {x v:SV} {vx:Value} (h:ZfG tt st s t x=some v) (hx:SVR g w x vx):∃cv,(convert s t vx).run P w=.ok cv w∧SVR g w v cv∧svU U v:=by
 unfold ZfG at h
 split at h
 ·rename_i hc
  simp only[AG] at hc
  exact Zug htt hI hc.1 hc.2 h hx
 ·exact Zvv htt h hx
theorem RCs.avr [NW] {e:List CT} {cs:List Value} {L:List Nat}:RCs w e cs L→(∀b∈L,¬g.own b)→ZH (AVR g w) (e.map .c) cs:=by
 induction e generalizing cs L with
 | nil=>intro h _;obtain ⟨rfl,rfl⟩:=h;trivial
 | cons x r ih=>
  rintro ⟨v,cs',L1,L2,rfl,rfl,h1,h2⟩ ho
  exact ⟨⟨L1,h1,fun b m=>ho b (by simp [m])⟩,ih h2 fun b m=>ho b (by simp [m])⟩
theorem Zkx (a:Bool) (e:List CT):X6 U (e.map AV.c):=fun y m=>by
 obtain ⟨x,_,rfl⟩:=AH.1 m;trivial
theorem Zns [NW] (htt:∀t i,tt t=some i→TOk P t i) {t b lo off:Nat} {cs:List AV} {vs:List Value} {v:SV} (h:cut (tt t) cs off=some v) (hc:Q9 w b lo vs) (hr:ZH (AVR g w) cs vs) (hu:X6 U cs):
  ∃cv,(Instr.loadAt t (.pointer (some ⟨b,lo+off,none⟩))).run P w=.ok cv w∧SVR g w v cv∧svU U v:=by
 have hlen:=hr.len
 have c:∀d,P.underlying t=some d→Zpk d=false→∀x,cs[off]?=some x→∃cv,(Instr.loadAt t (.pointer (some ⟨b,lo+off,none⟩))).run P w=.ok cv w∧SVR g w (.p false [x]) cv∧svU U (.p false [x]):=fun d hd ha x hx=>by
  obtain ⟨u,h1,h2⟩:=hr.at hx
  refine ⟨u,?_,⟨x,rfl,h2⟩,fun y m=>by simp at m;subst m;exact hu y (Ae hx)⟩
  simp [Instr.loadAt,Instr.sureAddr,loadVar,Zgq hd,ha,load,Sem.run,hc off u h1]
 unfold cut at h
 split at h
 ·rename_i fs n z k
  split at h<;>simp at h
  rename_i hn
  subst h
  obtain ⟨fields,i,zvs,h1,h2,h3,_⟩:=htt t _ k
  refine ⟨.agg ((vs.drop off).take n).toArray,?_,⟨_,rfl,(hr.drop off).take n⟩,fun y m=>hu y (Af (Ag m))⟩
  have hl:((vs.drop off).take n).length=i.size:=by simp;omega
  have a:=run_loadCells_list (P:=P) w ⟨b,lo+off,none⟩ ((vs.drop off).take n) (fun j u hj=>by
   rw [ZcD,AB]
   refine hc _ u ?_
   have l:j<n:=by
    have:=(AO.1 hj).1
    simp at this;omega
   rw [Aq,if_pos l,Ar] at hj
   exact hj)
  rw [hl] at a
  simp [Instr.loadAt,Instr.sureAddr,loadVar,Zgq h1,Zpk,Xp h2,a]
 ·simp at h
 ·rename_i i k o f
  obtain ⟨x,hx,rfl⟩:=A4.1 h
  cases i with
  | atom z=>obtain ⟨d,zv,i,h1,h2,_⟩:=htt t _ f;exact c d h1 (ZtM h2) x hx
  | strct fs n z=>exact absurd rfl (k _ _ _)
  | slice e m b z=>exact c _ (htt t _ f).1 rfl x hx
  | map kk vk=>
   obtain ⟨kt,et,_,_,_,_,h1,_⟩:=htt t _ f
   exact c _ h1 rfl x hx
  | ifc=>obtain ⟨ms,h1⟩:=htt t _ f;exact c _ h1 rfl x hx
  | eqs ks=>exact absurd rfl (o _)
 ·simp at h
end
end
section
open Go.RowKit
section
variable {P:Program} {W:QK} {U:Nat→Prop} {key:Nat} {st:St} {g:Gh} {w:World} {a:Act} {tt:Nat→Option TI}
theorem HI.deep [NW] {ob:Nat→Ob} {k e m:Nat} {xs:List (List CT)} {d:Nat} (hI:HI W g ob w) (hk:ob k=.row e m xs d):0<m∧∃cs L,w.ownsV 0 e m (g.val k) xs.length cs∧REs w m xs cs L∧(∀b∈L,¬g.own b)∧((d=2∧g.O k=(g.val k).ownBlock.toList∧g.D k=L)∨(d=1∧g.O k=(g.val k).ownBlock.toList∧g.D k=[])∨(d=0∧g.O k=[]∧g.D k=[]∧∀b∈(g.val k).ownBlock.toList,¬g.own b)):=by
 have ho:=hI.obs k
 rw [hk] at ho
 obtain ⟨hm,cs,L,h1,h2,h4⟩:=ho
 refine ⟨hm,cs,L,h1,h2,?_,?_⟩
 ·rcases h4 with ⟨_,_,h4⟩ | ⟨_,_,_,h4⟩ | ⟨_,_,_,h4⟩
  ·rintro b mb (⟨j,mj⟩ | hz)
   ·by_cases a:j=k
    ·subst a
     have:=hI.nodup j
     rw [AD] at this
     exact this.2.2 b mj b (h4 ▸ mb) rfl
    ·exact hI.apart j k a b (by simp [mj]) (by simp [h4,mb])
   ·exact hI.nz (k:=k) (by simp [h4,mb]) hz
  ·exact h4
  ·exact fun b mb=>h4 b (by simp [mb])
 ·rcases h4 with h4 | ⟨q1,q2,q3,_⟩ | ⟨q1,q2,q3,q4⟩
  ·exact .inl h4
  ·exact .inr (.inl ⟨q1,q2,q3⟩)
  ·exact .inr (.inr ⟨q1,q2,q3,fun b mb=>q4 b (by simp [mb])⟩)
theorem HI.deepO [NW] {ob:Nat→Ob} {k e m:Nat} {xs:List (List CT)} {d:Nat} (hI:HI W g ob w) (hk:ob k=.row e m xs d) (hd:¬d=0):0<m∧∃cs L,w.ownsV 0 e m (g.val k) xs.length cs∧REs w m xs cs L∧(∀b∈L,¬g.own b)∧g.O k=(g.val k).ownBlock.toList∧((d=2∧g.D k=L)∨(d=1∧g.D k=[])):=by
 obtain ⟨hm,cs,L,h1,h2,h3,h4⟩:=hI.deep hk
 refine ⟨hm,cs,L,h1,h2,h3,?_⟩
 rcases h4 with ⟨q1,q2,q3⟩ | ⟨q1,q2,q3⟩ | ⟨q1,_⟩
 ·exact ⟨q2,.inl ⟨q1,q3⟩⟩
 ·exact ⟨q2,.inr ⟨q1,q3⟩⟩
 ·exact absurd q1 hd
theorem REs.at {m:Nat}:∀{xs:List (List CT)} {cs:List Value} {L:List Nat} {i:Nat} {e:List CT},REs w m xs cs L→xs[i]?=some e→
  ∃c L',RCs w e c L'∧c.length=m∧(∀b∈L',b∈L)∧∀j u,c[j]?=some u→cs[i * m+j]?=some u
 | [],_,_,_,_,_,h=>by simp at h
 | x::r,_,_,0,e,⟨c1,c2,L1,L2,rfl,rfl,h3,h4⟩,h=>by
  simp at h;subst h
  exact ⟨c1,L1,h3.1,h3.2,fun b mb=>by simp [mb],fun j u hu=>by
   rw [Nat.zero_mul,AP,List.getElem?_append_left (AO.1 hu).1];exact hu⟩
 | x::r,_,_,i+1,e,⟨c1,c2,L1,L2,rfl,rfl,h3,h4⟩,h=>by
  obtain ⟨c,L',a1,a2,a3,a4⟩:=REs.at h4 (i:=i) (e:=e) (by simpa using h)
  refine ⟨c,L',a1,a2,fun b mb=>by simp [a3 b mb],fun j u hu=>?_⟩
  have hl:=h3.2
  rw [List.getElem?_append_right (by rw [A9];omega)]
  rw [←a4 j u hu]
  congr 1
  rw [hl,A9];omega
theorem REs.len {m:Nat}:∀{xs:List (List CT)} {cs:List Value} {L:List Nat},REs w m xs cs L→cs.length=xs.length * m
 | [],_,_,h=>by simp [h.1]
 | x::r,_,_,⟨c1,c2,L1,L2,rfl,rfl,h3,h4⟩=>by simp [h3.2,REs.len h4,A9];omega
theorem ZAb [NW] (htt:∀t i,tt t=some i→TOk P t i) (hI:HI W g st.ob w) (hU:StU U st) {t e m a:Nat} {z:List AV} (p:tt t=some (.slice e m a z)) {x i v:SV} {vx vi:Value} (h:Za9 st m x i=some v) (hx:SVR g w x vx) (B:svU U x) (hi:SVR g w i vi):
  ∃cv,(Instr.indexAt t vx vi).run P w=.ok cv w∧SVR g w v cv∧svU U v:=by
 obtain ⟨hu,hm,_,⟨ie,zv,C,D,_⟩,_⟩:=htt t _ p
 have f:∀(b o n c:Nat) (k:IntKind) (q:Int),0≤q→q<n→(Instr.indexAt t (.slice (some ⟨b,o,none⟩) n c) (.int k q)).run P w=.ok (.pointer (some ⟨b,o+q.toNat * m,none⟩)) w:=fun b o n c k q h0 h1=>by
  simp [Instr.indexAt,asIntOf,Yh hu,h0,h1,Xp C,D,ZcD]
 unfold Za9 at h
 split at h
 ·have ei:=Za1 hi
  subst ei
  split at h
  ·rename_i hq
   obtain ⟨x,l,rfl⟩:=A4.1 h
   obtain ⟨A,cap,cs,L0,L1,rfl,h2,h3,h5,h6,h7,ho⟩:=Zf5 hx
   obtain ⟨h0,rfl⟩:=hq
   have hlt:=(AO.1 l).1
   obtain ⟨b,off,rfl,rfl,hc⟩:=h6.at_ yE
   obtain ⟨c,L',a1,a2,a3,a4⟩:=h7.at l
   refine ⟨_,f b off _ _ _ _ h0 yE,⟨b,off+_,c,L',by rw [Nat.add_zero],fun j u hj=>?_,a1,fun y my=>?_,?_⟩,trivial⟩
   ·rw [AB];exact hc _ u (a4 j u hj)
   ·rcases A8.1 my with rfl | my
    ·exact ho _ yG
    ·exact ho _ (by simp [a3 y my])
   ·exact h6.lt h5 b yG
  ·simp at h
 ·rename_i k _ _
  have ei:=Za1 hi
  subst ei
  split at h
  ·rename_i e' m' xs d hk
   split at h
   ·rename_i hq
    obtain ⟨h0,h1,rfl⟩:=hq
    simp only[A0] at h
    subst h
    have hv:=ZeK hx
    subst hv
    obtain ⟨_,cs,L,o1,_⟩:=hI.deep hk
    rcases o1.2 with ⟨_,hn⟩ | ⟨b,o,cap,cur,hv,_⟩
    ·omega
    ·refine ⟨_,by rw [hv];exact f b o _ _ _ _ h0 h1,⟨b,o,_,_,hv,yG⟩,by have:=B (.row k) yG;exact this⟩
   ·simp at h
  ·simp at h
 ·simp at h
theorem ZvI [NW] (htt:∀t i,tt t=some i→TOk P t i) {t:Nat} {x i v:SV} {vx vi:Value} (h:ZjW (tt t) x i=some v) (hx:SVR g w x vx) (hi:SVR g w i vi):
  ∃cv,(Instr.index t vx vi).run P w=.ok cv w∧SVR g w v cv∧svU U v:=by
 unfold ZjW at h
 split at h
 ·have ei:=Za1 hi
  subst ei
  obtain ⟨rfl,_⟩:=Zhm hx
  split at h
  ·rename_i hq
   obtain ⟨b,hb,rfl⟩:=A4.1 h
   refine ⟨_,?_,ZaQ _ _,Y8 _⟩
   simp [Instr.index,asIntOf,Yh (Zgb htt hq.2),hq.1,hb]
  ·simp at h
 ·simp at h
theorem ZqT [NW] {e:List CT} {v:Value} (h:SVR g w (.p false [.c (.pt e)]) v):∃b cs L,v=.pointer (some ⟨b,0,none⟩)∧b<w.heap.size∧Q9 w b 0 cs∧RCs w e cs L∧∀x∈b::L,¬g.own x:=by
 obtain ⟨x,hx,h⟩:=h
 simp at hx
 subst hx
 obtain ⟨_,⟨b,cs,L,h1,h2,rfl,h4,h5⟩,ho⟩:=h
 exact ⟨b,cs,L,h1,h2,h4,h5,ho⟩
theorem Zq2 [NW] (htt:∀t i,tt t=some i→TOk P t i) (hI:HI W g st.ob w) (hU:StU U st) {t:Nat} {x v:SV} {vx:Value} (h:Qa st (tt t) x=some v) (hx:SVR g w x vx):
  ∃cv,(Instr.loadAt t vx).run P w=.ok cv w∧SVR g w v cv∧svU U v:=by
 unfold Qa at h
 split at h
 ·rename_i k off
  split at h
  ·rename_i tb cs hk
   obtain ⟨b,h1,rfl⟩:=hx
   have ho:=hI.obs k
   rw [hk] at ho
   obtain ⟨b',vs,o1,o2,o3,o4,o5⟩:=ho
   have hb:b=b':=by rw [o1] at h1;simpa using h1.symm
   subst hb
   have hu:=hU.ob k
   rw [hk] at hu
   have hc:Q9 w b 0 vs:=fun j u hj=>by
    rw [AP,cell_of_row w b j vs.toArray tb (0,0) o4];simpa using hj
   have:=Zns (P:=P) htt h hc o5 hu
   simpa using this
  ·simp at h
 ·rename_i k m i off
  split at h
  ·rename_i e m' xs d hk
   obtain ⟨x,a,h'⟩:=A5.1 h
   obtain ⟨b,o,n,c,h1,rfl⟩:=hx
   obtain ⟨hm,cs,L,o1,o2,o3,_⟩:=hI.deep hk
   split at h'
   ·rename_i f
    subst f
    obtain ⟨c',L',a1,a2,a3,a4⟩:=o2.at a
    have hc:Q9 w b (o+i * m) c':=fun j u hj=>by
     rw [AB]
     exact ZhI o1 h1 (i * m+j) u (a4 j u hj)
    rw [←AB]
    exact Zns htt h' hc (a1.avr fun y my=>o3 y (a3 y my)) (Zkx true _)
   ·simp at h'
  ·simp at h
 ·obtain ⟨b,lo,cs,L,rfl,h2,h3,h4,h5⟩:=hx
  exact Zns htt h h2 (h3.avr fun y my=>h4 y (by simp [my])) (Zkx true _)
 ·obtain ⟨b,cs,L,rfl,h2,h3,h4,h5⟩:=ZqT hx
  have:=Zns (P:=P) (U:=U) htt h h3 (h4.avr fun y my=>h5 y (by simp [my])) (Zkx true _)
  simpa using this
 ·simp at h
theorem ZyP [NW] {d:Nat} {x v:SV} {vx:Value} (h:Zit d x=some v) (hx:SVR g w x vx) (hu:svU U x):∃b o,vx=.pointer (some ⟨b,o,none⟩)∧SVR g w v (.pointer (some ⟨b,o+d,none⟩))∧svU U v:=by
 unfold Zit at h
 split at h<;>simp at h<;>subst h
 ·obtain ⟨b,h1,rfl⟩:=hx;exact ⟨b,_,rfl,⟨b,h1,rfl⟩,hu⟩
 ·obtain ⟨b,o,n,c,h1,rfl⟩:=hx;exact ⟨b,_,rfl,⟨b,o,n,c,h1,by simp only[AB]⟩,hu⟩
 ·obtain ⟨b,lo,cs,L,rfl,h⟩:=hx;exact ⟨b,_,rfl,⟨b,lo,cs,L,by rw [AB],h⟩,trivial⟩
 ·obtain ⟨b,cs,L,rfl,h2,h3,h4,h5⟩:=ZqT hx
  exact ⟨b,0,rfl,⟨b,0,cs,L,rfl,h3,h4,h5,h2⟩,trivial⟩
theorem Zy0 [NW] (htt:∀t i,tt t=some i→TOk P t i) {t f n:Nat} {fs:List FI} {z:List AV} (c:tt t=some (.strct fs n z)) {fi:FI} (hf:fs[f]?=some fi) {x v:SV} {vx:Value} (h:Zit fi.off x=some v) (hx:SVR g w x vx) (hu:svU U x):
  ∃cv,(Instr.fieldAt t vx f).run P w=.ok cv w∧SVR g w v cv∧svU U v:=by
 obtain ⟨b,o,rfl,h1,h2⟩:=ZyP h hx hu
 obtain ⟨a,i,zvs,u1,_,_,_,_,u2⟩:=htt t _ c
 obtain ⟨fl,e1,e2,e3,j,d,e4,e5,_⟩:=u2.at hf
 have e:a[f]?=some fl:=by simpa using e1
 refine ⟨_,?_,h1,h2⟩
 simp [Instr.fieldAt,Yh u1,e,Instr.sureAddr,fieldPlace,Xp e4,e5,e3,ZcD,e2]
theorem Zx1 [NW] (htt:∀t i,tt t=some i→TOk P t i) {t f n:Nat} {fs:List FI} {z:List AV} (c:tt t=some (.strct fs n z)) {x v:SV} {vx:Value} (h:Zlj fs f x=some v) (hx:SVR g w x vx) (hu:svU U x):
  ∃cv,(Instr.field t vx f).run P w=.ok cv w∧SVR g w v cv∧svU U v:=by
 unfold Zlj at h
 split at h
 ·rename_i cs
  obtain ⟨fi,hf,h⟩:=A5.1 h
  obtain ⟨vs,rfl,hr⟩:=hx
  obtain ⟨a,i,zvs,u1,_,_,_,_,u2⟩:=htt t _ c
  obtain ⟨fl,e1,e2,e3,j,d,e4,e5,e6,e7⟩:=u2.at hf
  have b:a[f]?=some fl:=by simpa using e1
  have hlen:=hr.len
  split at h
  ·rename_i ha
   split at h<;>simp at h
   rename_i hn
   subst h
   refine ⟨.agg ((vs.drop fi.off).take fi.size).toArray,?_,⟨_,rfl,(hr.drop _).take _⟩,fun y m=>hu y (Af (Ag m))⟩
   simp [Instr.field,Yh u1,b,asAgg,part,Zgq e6,e7,ha,Xp e4,e5,e2]
  ·rename_i ha
   obtain ⟨y,hy,rfl⟩:=A4.1 h
   obtain ⟨u,b1,b2⟩:=hr.at hy
   refine ⟨u,?_,⟨y,rfl,b2⟩,fun z mz=>by simp at mz;subst mz;exact hu z (Ae hy)⟩
   simp [Instr.field,Yh u1,b,asAgg,part,Zgq e6,e7,ha,e2,b1]
 ·simp at h
theorem Zvs [NW] {c:Bool} {x y:SV} {vc vx vy:Value} (hc:SVR g w (.p false [.c (.bool c)]) vc) (hx:SVR g w x vx∧svU U x) (hy:SVR g w y vy∧svU U y):
  ∃cv,(do pure (Next.value (if ←asBool vc then vx else vy)):Sem Next).run P w=.ok (.value cv) w∧SVR g w (if c=true then x else y) cv∧svU U (if c=true then x else y):=by
 have:=ZeW hc
 subst this
 cases c
 ·exact ⟨vy,by simp [asBool],by simpa using hy.1,by simpa using hy.2⟩
 ·exact ⟨vx,by simp [asBool],by simpa using hx.1,by simpa using hx.2⟩
theorem Zwy [NW] {i:Nat} {x v:SV} {vx:Value} (h:Zt1 i x=some v) (hx:SVR g w x vx) (hu:svU U x):∃cv,(Instr.extract vx i).run P w=.ok cv w∧SVR g w v cv∧svU U v:=by
 unfold Zt1 at h
 split at h
 ·obtain ⟨y,hy,rfl⟩:=A4.1 h
  obtain ⟨vs,rfl,hr⟩:=hx
  obtain ⟨u,b1,b2⟩:=hr.at hy
  exact ⟨u,by simp [Instr.extract,b1],b2,hu y (Ae hy)⟩
 ·simp at h
theorem Zs6 [NW] {lo:Bool} {x y v:SV} {vx vy:Value} {ts:Array TypeId} {ty:TypeId} (h:ZtJ lo x y=some v) (hx:SVR g w x vx) (hy:SVR g w y vy):
  ∃cv,((if lo then Builtin.min_ ts ty #[vx,vy] else Builtin.max_ ts ty #[vx,vy]):Sem Value).run P w=.ok cv w∧SVR g w v cv∧svU U v:=by
 unfold ZtJ at h
 split at h
 ·have ex:=Za1 hx
  have ey:=Za1 hy
  subst ex ey
  simp only[A0] at h
  subst h
  refine ⟨_,?_,ZaQ _ _,Y8 _⟩
  cases lo
  ·simp [Builtin.max_,Builtin.max2]
  ·simp [Builtin.min_,Builtin.min2]
 ·simp at h
end
end
section
open Go.RowKit
theorem ZeJ {α:Type} (l:List α) (off:Nat) (vs:List α) (h:off+vs.length≤l.length):(splice l off vs).length=l.length:=by
 simp [splice];omega
theorem ZpD {α:Type} (l:List α) (n:Nat) (v:α) (r:List α) (h:n+(r.length+1)≤l.length):splice (l.set n v) (n+1) r=splice l n (v::r):=by
 unfold splice
 have e1:(l.set n v).take (n+1)=l.take n++[v]:=by
  rw [List.take_succ_eq_append_getElem (by simp;omega)]
  simp [List.take_set_of_le]
 have e2:(l.set n v).drop (n+1+r.length)=l.drop (n+(v::r).length):=by
  rw [List.drop_set_of_lt yE]
  congr 1
  simp;omega
 rw [e1,e2];simp
theorem Zmz [NW] (off:Nat):∀(vs:List Value) (k:Nat) (cells:Array Value),off+k+vs.length≤cells.size→
  (vs.zipIdx k).foldl (fun (cs:Array Value) (p:Value × Nat)=>cs.setIfInBounds (off+p.2) p.1) cells=(splice cells.toList (off+k) vs).toArray
 | [],k,cells,h=>by simp [splice]
 | v::r,k,cells,h=>by
  rw [List.zipIdx_cons,List.foldl_cons,Zmz off r (k+1) _ (by simp at h ⊢;omega)]
  have:=ZpD cells.toList (off+k) v r (by simpa using h)
  rw [←this]
  simp [AB]
theorem Zkl [NW] (off:Nat) (v:Value) (vs:List Value) (hv:v.cells=vs.toArray) (cells:Array Value) (h:off+vs.length≤cells.size):
  v.cells.zipIdx.foldl (fun cs (c,j)=>cs.setIfInBounds (off+j) c) cells=(splice cells.toList off vs).toArray:=by
 have:=Zmz off vs 0 cells (by simpa using h)
 rw [hv,←Array.foldl_toList]
 simpa using this
section
variable {P:Program} {W:QK} {U:Nat→Prop} {key:Nat} {st:St} {g:Gh} {w:World} {a:Act} {tt:Nat→Option TI}
theorem ZH.splice {α β:Type} {R:α→β→Prop} {l vs:List α} {r us:List β} (h:ZH R l r) (h':ZH R vs us) (off:Nat):ZH R (splice l off vs) (splice r off us):=by
 unfold Go.Proofs.YtekbmedphidcgaaGreatDoor.splice
 rw [h'.len]
 exact (h.take _).append (h'.append (h.drop _))
theorem ZiW {l vs:List AV} (h:X6 U l) (h':X6 U vs) (off:Nat):X6 U (splice l off vs):=by
 intro y m
 unfold splice at m
 rcases A3.1 m with m | m
 ·exact h y (Ag m)
 ·rcases A3.1 m with m | m
  ·exact h' y m
  ·exact h y (Af m)
theorem Zq9 [NW] {a:Nat→Option (Nat × Nat)} {fs:List FI} (hp:∀i fi,fs[i]?=some fi→a i=some (fi.off,fi.size)):
  ∀{b:List (Nat × SV)} {ps:List (Nat × Value)} {cs c:List AV} {vs:List Value},ZhA fs cs b=some c→ZH (fun p q=>p.1=q.1∧SVR g w p.2 q.2∧svU U p.2) b ps→ZH (AVR g w) cs vs→X6 U cs→
   ∃d:List Value,Instr.fill a vs.toArray ps=some d.toArray∧ZH (AVR g w) c d∧X6 U c
 | [],[],cs,c,vs,h,_,hr,hu=>by simp [ZhA] at h;subst h;exact ⟨vs,rfl,hr,hu⟩
 | [],_::_,_,_,_,_,h,_,_=>h.elim
 | _::_,[],_,_,_,_,h,_,_=>h.elim
 | (i,s)::r,(j,v)::ps,cs,c,vs,h,⟨⟨e,hs,hsu⟩,hps⟩,hr,hu=>by
  simp only at e hs hsu
  subst e
  cases s with
  | p ag us=>
   simp only[ZhA] at h
   obtain ⟨f,hf,h⟩:=A5.1 h
   split at h
   ·rename_i hl
    obtain ⟨k,c1,c2⟩:=PVR.cells hs
    have hlen:=c2.len
    have hlen2:=hr.len
    obtain ⟨d,d1,d2,d3⟩:=Zq9 hp h hps (hr.splice c2 f.off) (ZiW hu hsu f.off)
    refine ⟨d,?_,d2,d3⟩
    have l:v.cells.size=k.length:=by simp [c1]
    rw [Instr.fill,hp i f hf]
    simp only
    rw [if_neg (by simp [l];omega),Zkl f.off v k c1 _ (by simp;omega)]
    simpa using d1
   ·simp at h
  | _=>simp [ZhA] at h
theorem ZH.of_map {α β γ:Type} {R:β→γ→Prop} (f:α→β) (h:α→γ):∀{l:List α},(∀x∈l,R (f x) (h x))→ZH R (l.map f) (l.map h)
 | [],_=>trivial
 | x::l,hh=>⟨hh x yG,ZH.of_map f h fun y m=>hh y (by simp [m])⟩
theorem Zhc [NW]:∀{z:List AV} {zvs:List Value},ZH (fun a v=>QV a v=true) z zvs→ZH (AVR g w) z zvs∧X6 U z
 | [],[],_=>⟨trivial,fun _ m=>by simp at m⟩
 | x::z,v::zvs,h=>by
  obtain ⟨h1,h2⟩:=Zhc (z:=z) (zvs:=zvs) h.2
  refine ⟨⟨Zep h.1,h1⟩,fun y m=>?_⟩
  rcases A8.1 m with rfl | m
  ·have:=h.1
   cases y<;>first | trivial | simp [QV] at this
  ·exact h2 y m
 | [],_::_,h=>h.elim
 | _::_,[],h=>h.elim
theorem ZmJ:∀{fs:List FI} {a:List Field},ZH (fun (fi:FI) (f:Field)=>f.offset=fi.off∧fi.size≠0∧∃j d,P.info? f.type=some j∧j.size=fi.size∧P.underlying f.type=some d∧Zpk d=fi.agg) fs a→
  a.mapM (fun f=>(P.info? f.type).map fun i=>(f.offset,i.size))=some (fs.map fun fi=>(fi.off,fi.size))
 | [],[],_=>rfl
 | fi::fs,f::a,⟨⟨h1,_,j,d,h2,h3,_⟩,h⟩=>by
  simp [List.mapM_cons,h2,h3,h1,ZmJ h]
 | [],_::_,h=>h.elim
 | _::_,[],h=>h.elim
theorem Zud [NW] (htt:∀t i,tt t=some i→TOk P t i) (hS:∀t,SVR g w (st.sl t) (a.tmps.getD t undef)) (hU:StU U st) {t n:Nat} {fs:List FI} {z:List AV} (f:tt t=some (.strct fs n z)) {b:Array (Nat × Operand)} {cs:List AV} (h:ZhA fs z (b.toList.map (Ze5 tt st fs z))=some cs):
  ∃cv,(Instr.build t (b.map fun (i,x)=>(i,a.eval x))).run P w=.ok cv w∧SVR g w (.p true cs) cv∧svU U (.p true cs):=by
 obtain ⟨fields,i,zvs,u1,u2,u3,u4,u5,u6⟩:=htt t _ f
 obtain ⟨hz,j⟩:=Zhc (g:=g) (w:=w) (U:=U) u5
 have c:ZH (fun (p:Nat × SV) (q:Nat × Value)=>p.1=q.1∧SVR g w p.2 q.2∧svU U p.2) (b.toList.map (Ze5 tt st fs z)) (b.toList.map fun p=>(p.1,a.eval p.2)):=by
  refine ZH.of_map _ _ fun p _=>?_
  unfold Ze5
  split
  ·rename_i hc
   rw [hc]
   refine ⟨rfl,?_⟩
   dsimp only
   split
   ·exact ⟨⟨_,rfl,rfl⟩,fun y m=>by simp at m;subst m;trivial⟩
   ·exact ⟨trivial,trivial⟩
  ·have:=Zi6 htt hS hU 0 p.2
   exact ⟨rfl,this⟩
 have k:∀(i:Nat) (fi:FI),fs[i]?=some fi→((fs.map fun (fi:FI)=>(fi.off,fi.size)).toArray[i]?)=some (fi.off,fi.size):=fun i fi hf=>by simp [hf]
 obtain ⟨d,d1,d2,d3⟩:=Zq9 k h c hz j
 refine ⟨.agg d.toArray,run_build w t _ _ ?_,⟨d,rfl,d2⟩,d3⟩
 unfold Program.built
 simp only[u1,u2,u4,ZmJ u6]
 have e:(b.map fun (x:Nat × Operand)=>(x.1,a.eval x.2)).toList=b.toList.map fun p=>(p.1,a.eval p.2):=by simp
 have e2:(b.map fun x=>match x with | (i,x)=>(i,a.eval x))=b.map fun (x:Nat × Operand)=>(x.1,a.eval x.2):=rfl
 rw [e2,e]
 exact d1
theorem Sl.sub {m n:Nat} {A:Option Addr} {cs:List Value} {L:List Nat} (h:Sl w m A n cs L) (l q cap:Nat) (hm:0<m) (hq:l+q≤n) (hcap:n≤cap):
  ∃A' L',A'=(if cap=l then A else A.map (·.add (l * m)))∧Sl w m A' q ((cs.drop (l * m)).take (q * m)) L'∧∀b∈L',b∈L:=by
 have hlen:=h.1
 have hlm:l * m+q * m≤n * m:=by rw [←A9];exact Ah m hq
 refine ⟨_,if q=0 then [] else L,rfl,⟨by simp;omega,?_⟩,fun b mb=>?_⟩
 ·by_cases a:q=0
  ·exact .inl ⟨a,by simp [a]⟩
  ·rcases h.2 with ⟨h0,_⟩ | ⟨_,b,off,rfl,rfl,hc⟩
   ·omega
   ·refine .inr ⟨yE,b,off+l * m,by rw [if_neg yE];simp [ZcD],by simp [a],fun j u hj=>?_⟩
    rw [AB]
    refine hc _ u ?_
    have c:j<q * m:=by
     have:=(AO.1 hj).1
     simp at this;omega
    rw [Aq,if_pos c,Ar] at hj
    exact hj
 ·split at mb
  ·simp at mb
  ·exact mb
theorem REs.drop {m:Nat}:∀{xs:List (List CT)} {cs:List Value} {L:List Nat} (l:Nat),REs w m xs cs L→∃L',REs w m (xs.drop l) (cs.drop (l * m)) L'∧∀b∈L',b∈L
 | xs,cs,L,0,h=>⟨L,by simpa using h,fun _ mb=>mb⟩
 | [],cs,L,l+1,h=>⟨[],by obtain ⟨rfl,rfl⟩:=h;simp [REs],yG⟩
 | x::r,_,_,l+1,⟨c1,c2,L1,L2,rfl,rfl,h3,h4⟩=>by
  obtain ⟨L',h5,h6⟩:=REs.drop l h4
  refine ⟨L',?_,fun b mb=>by simp [h6 b mb]⟩
  have e:(l+1) * m=c1.length+l * m:=by rw [h3.2,A9];omega
  have e2:(c1++c2).drop (c1.length+l * m)=c2.drop (l * m):=by
   rw [AW,AX (Aj _ _),Ak,AY]
  rw [e,e2]
  simpa using h5
theorem REs.take {m:Nat}:∀{xs:List (List CT)} {cs:List Value} {L:List Nat} (l:Nat),REs w m xs cs L→∃L',REs w m (xs.take l) (cs.take (l * m)) L'∧∀b∈L',b∈L
 | xs,cs,L,0,h=>⟨[],by simp [REs],yG⟩
 | [],cs,L,l+1,h=>⟨[],by obtain ⟨rfl,rfl⟩:=h;simp [REs],yG⟩
 | x::r,_,_,l+1,⟨c1,c2,L1,L2,rfl,rfl,h3,h4⟩=>by
  obtain ⟨L',h5,h6⟩:=REs.take l h4
  refine ⟨L1++L',?_,fun b mb=>by
   rcases A3.1 mb with mb | mb
   ·simp [mb]
   ·simp [h6 b mb]⟩
  have e:(l+1) * m=c1.length+l * m:=by rw [h3.2,A9];omega
  rw [e,As]
  exact ⟨c1,_,L1,L',rfl,rfl,h3,h5⟩
theorem Znc {k:IntKind} {i:Int} {y:Nat} {a:BoundsCode} (h0:0≤i) (h1:i≤y):(Instr.sliceBound (.int k i) y a).run P w=.ok i.toNat w:=by
 simp [Instr.sliceBound,asIntOf,h0,h1]
def Zkq [NW] (g:Gh) (w:World):Option SV→Option Value→Prop
 | none,none=>True
 | some s,some u=>SVR g w s u
 | _,_=>False
theorem Zho [NW] {lo hi:Option SV} {vlo vhi:Option Value} {len cap l h:Nat} {b:Bool} (hh:hiB len hi=some h) (hl:loB h lo=some l) (hlo:Zkq g w lo vlo) (hhi:Zkq g w hi vhi) (hc:len≤cap):
  (Instr.sliceBounds b len cap vlo vhi none).run P w=.ok (l,h,cap) w∧l≤h∧h≤len:=by
 have e1 : ((match vhi, (none : Option Value) with | some v, some _ => Instr.sliceBound v cap .slice3B | some v, none => Instr.sliceBound v cap (if b then .sliceAcap else .sliceAlen) | none, none => pure len | none, some _ => stuck "Slice: max without high") : Sem Nat).run P w = .ok h w ∧ h ≤ len := by
  unfold hiB at hh
  split at hh
  ·simp only[A0] at hh
   subst hh
   cases vhi with
   | none=>exact ⟨rfl,A7 _⟩
   | some v=>exact hhi.elim
  ·split at hh<;>simp only[A0,reduceCtorEq] at hh
   rename_i hq
   subst hh
   cases vhi with
   | none=>exact hhi.elim
   | some v=>
    have e:=Za1 hhi
    subst e
    exact ⟨Znc hq.1 yE,yE⟩
  ·simp at hh
 have e2:((match vlo with | some v=>Instr.sliceBound v h .sliceB | none=>pure 0):Sem Nat).run P w=.ok l w∧l≤h:=by
  unfold loB at hl
  split at hl
  ·simp only[A0] at hl
   subst hl
   cases vlo with
   | none=>exact ⟨rfl,AE _⟩
   | some v=>exact hlo.elim
  ·split at hl<;>simp only[A0,reduceCtorEq] at hl
   rename_i hq
   subst hl
   cases vlo with
   | none=>exact hlo.elim
   | some v=>
    have e:=Za1 hlo
    subst e
    exact ⟨Znc hq.1 hq.2,yE⟩
  ·simp at hl
 refine ⟨?_,e2.2,e1.2⟩
 unfold Instr.sliceBounds
 simp only[Sem.run_bind,Sem.run_pure,Result.andThen_ok,Option.isSome_none,Bool.false_eq_true,if_false]
 have e1':=e1.1
 have e2':=e2.1
 cases vhi<;>cases vlo<;>simp_all
theorem Zor [NW] (htt:∀t i,tt t=some i→TOk P t i) {t:Nat} {x v:SV} {lo hi:Option SV} {vx:Value} {vlo vhi:Option Value} (h:ZkW (tt t) lo hi x=some v) (hx:SVR g w x vx)
  (f:Zkq g w lo vlo) (j:Zkq g w hi vhi):∃cv,(Instr.sliceAt t vx vlo vhi none).run P w=.ok cv w∧SVR g w v cv∧svU U v:=by
 unfold ZkW at h
 split at h
 ·rename_i s
  split at h
  ·rename_i k
   have hu:=Zgb htt k
   obtain ⟨q,hq,h⟩:=A5.1 h
   obtain ⟨l,hl,rfl⟩:=A4.1 h
   obtain ⟨rfl,hs⟩:=Zhm hx
   obtain ⟨b1,b2,b3⟩:=Zho (P:=P) (b:=false) hq hl f j (A7 _)
   refine ⟨_,?_,Zjz (by rw [ByteArray.size_extract];omega),Y8 _⟩
   simp [Instr.sliceAt,Yh hu,Instr.slice,b1]
  ·simp at h
 ·rename_i e m xs
  split at h
  ·rename_i d
   obtain ⟨q,hq,h⟩:=A5.1 h
   obtain ⟨l,hl,rfl⟩:=A4.1 h
   obtain ⟨A,cap,cs,L0,L1,rfl,h2,h3,h5,h6,h7,ho⟩:=Zf5 hx
   obtain ⟨b1,b2,b3⟩:=Zho (P:=P) (b:=true) hq hl f j h2
   obtain ⟨e',b',z',o⟩:∃e' b' z',tt t=some (.slice e' m b' z'):=by
    unfold ZiK at d
    split at d
    ·rename_i h1;subst d;exact ⟨_,_,_,h1⟩
    ·omega
   obtain ⟨hu,_,_,⟨ie,zv,u,y,_⟩,_⟩:=htt t _ o
   have fin:SVR g w (.p false [.c (.sl e m ((xs.take q).drop l))]) (.slice (if cap=l then A else A.map (·.add (l * m))) (q - l) (cap - l)):=by
    obtain ⟨A',L',rfl,s1,s2⟩:=h6.sub l (q - l) cap h5 yE h2
    obtain ⟨M1,r1,r2⟩:=h7.take q
    obtain ⟨M2,r3,r4⟩:=r1.drop l
    have a:((xs.take q).drop l).length=q - l:=by simp;omega
    have e1:(cs.drop (l * m)).take ((q - l) * m)=(cs.take (q * m)).drop (l * m):=by
     rw [At,Nat.sub_mul]
    rw [e1] at s1
    refine ⟨_,rfl,L'++M2,⟨_,_,_,L',M2,by rw [a],by rw [a];omega,yE,rfl,h5,by rw [a];exact s1,r3⟩,fun b mb=>?_⟩
    rcases A3.1 mb with mb | mb
    ·exact ho b (by simp [s2 b mb])
    ·exact ho b (by simp [r2 b (r4 b mb)])
   refine ⟨_,?_,fin,Y8 _⟩
   simp [Instr.sliceAt,Yh hu,Instr.slice,b1,Xp u,y]
  ·simp at h
 ·simp at h
end
end
section
open Go.RowKit
theorem Zy {α:Type} (f:Nat→α) (k:Nat) (v:α):upd f k v k=v:=by simp [upd]
theorem ZI {α:Type} (f:Nat→α) {k j:Nat} (v:α) (h:j≠k):upd f k v j=f j:=by simp [upd,h]
theorem Yy (ob:Nat→Ob) (u v:List (Nat × Ob)):Zk ob (u++v)=Zk (Zk ob u) v:=by
 induction u generalizing ob with
 | nil=>rfl
 | cons p r ih=>exact ih _
theorem ZiO:∀(ks:List Nat) (ob:Nat→Ob) (k:Nat),Zk ob (Zaf ks) k=if k∈ks then .gone else ob k
 | [],ob,k=>by simp [Zaf,Zk]
 | x::ks,ob,k=>by
  have:Zaf (x::ks)=(x,Ob.gone)::Zaf ks:=rfl
  rw [this,Zk,ZiO ks]
  by_cases h1:k∈ks
  ·simp [h1]
  ·by_cases h2:k=x
   ·subst h2;simp [upd]
   ·simp [h1,h2,upd]
theorem Zax [NW] (ks:List Nat) (ob:Nat→Ob) (key:Nat) (o:Ob) (k:Nat):Zk ob (Zaf ks++[(key,o)]) k=if k=key then o else if k∈ks then .gone else ob k:=by
 rw [Yy]
 simp only[Zk,upd,ZiO]
def Gh.turn (g:Gh) (ks:List Nat) (key:Nat) (v:Value) (O D:List Nat):Gh:=
 ⟨upd g.val key v,fun k=>if k=key then O else if k∈ks then [] else g.O k,fun k=>if k=key then D else if k∈ks then [] else g.D k,g.Z⟩
section
variable {P:Program} {W:QK} {U:Nat→Prop} {key:Nat} {st:St} {g:Gh} {w w':World} {a:Act} {tt:Nat→Option TI}
theorem ZdX {ks:List Nat} {v:Value} {O D:List Nat} {b:Nat} (h:(g.turn ks key v O D).own b):b∈O∨(∃k,k∉ks∧k≠key∧b∈g.O k)∨g.Z b:=by
 rcases h with ⟨k,hk⟩ | h
 ·simp only[Gh.turn] at hk
  split at hk
  ·exact .inl hk
  ·rename_i h1
   split at hk
   ·simp at hk
   ·rename_i h2;exact .inr (.inl ⟨k,h2,h1,hk⟩)
 ·exact .inr (.inr h)
theorem Zm7 {n:Nat} {ks:List Nat} {v:Value} {O D:List Nat} (hO:∀b∈O,(∃k∈ks,b∈g.O k)∨n≤b) (hD:∀b∈D,(∃k∈ks,b∈g.O k++g.D k)∨n≤b):X7 g (g.turn ks key v O D) n:=by
 refine .of (fun b hb=>?_) fun j b mb=>?_
 ·rcases ZdX hb with m | ⟨k,_,_,m⟩ | m
  ·rcases hO b m with ⟨k,_,m⟩ | m
   ·exact .inl (.inl ⟨k,m⟩)
   ·exact .inr m
  ·exact .inl (.inl ⟨k,m⟩)
  ·exact .inl (.inr m)
 ·simp only[Gh.turn] at mb
  split at mb
  ·refine (hD b mb).imp (fun ⟨k,_,mk⟩=>?_) id
   rcases A3.1 mk with m1 | m1
   ·exact .inl (.inl ⟨k,m1⟩)
   ·exact .inr ⟨k,m1⟩
  ·split at mb
   ·simp at mb
   ·exact .inl (.inr ⟨j,mb⟩)
theorem HI.turn [NW] {ob:Nat→Ob} (h:HI W g ob w) (i:∀k,obU U (ob k)) (c:¬U key) (ks:List Nat) (y:∀k∈ks,U k)
  (l:Bel W w') (z:w.heap.size≤w'.heap.size) (hw:∀b,b<w.heap.size→(∀k∈ks,b∉g.O k)→w'.heap[b]?=w.heap[b]?)
  {v:Value} {O D:List Nat} {o:Ob} (hO:∀b∈O,(∃k∈ks,b∈g.O k)∨w.heap.size≤b) (hD:∀b∈D,(∃k∈ks,b∈g.O k++g.D k)∨w.heap.size≤b)
  (A:(O++D).Nodup) (B:∀b∈O++D,(W.heap.size≤b∨W.x b)∧Xk w' o b)
  (C:X7 g (g.turn ks key v O D) w.heap.size→ObR (g.turn ks key v O D) w' key o):
  HI W (g.turn ks key v O D) (Zk ob (Zaf ks++[(key,o)])) w'∧∀x u,svU U x→SVR g w x u→SVR (g.turn ks key v O D) w' x u:=by
 have hkk:key∉ks:=fun m=>c (y key m)
 have d:∀k,U k→(g.turn ks key v O D).val k=g.val k:=fun k hk=>ZI _ _ fun e=>c (e ▸ hk)
 have a:X7 g (g.turn ks key v O D) w.heap.size:=Zm7 hO hD
 have f:∀b∈O++D,(∃k∈ks,b∈g.O k++g.D k)∨w.heap.size≤b:=fun b m=>by
  rcases A3.1 m with m | m
  ·exact (hO b m).imp (fun ⟨k,h1,h2⟩=>⟨k,h1,by simp [h2]⟩) id
  ·exact hD b m
 refine ⟨h.step (fun k=>k=key∨k∈ks) l rfl (fun b hb hn=>hw b hb fun k hk=>hn k (.inr hk)) (fun k hk=>?_) i d a (fun k hk=>?_),fun x u hx hu=>hu.move hx d (fun b hb hn=>hw b hb fun k _ m=>hn (.inl ⟨k,m⟩)) a z⟩
 ·have h1:k≠key:=fun e=>hk (.inl e)
  have h2:k∉ks:=fun e=>hk (.inr e)
  rw [Zax]
  simp [Gh.turn,h1,h2,upd]
 ·rw [Zax]
  by_cases h1:k=key
  ·subst h1
   have eO:(g.turn ks k v O D).O k=O:=by simp [Gh.turn]
   have eD:(g.turn ks k v O D).D k=D:=by simp [Gh.turn]
   rw [if_pos rfl,eO,eD]
   refine ⟨C a,A,B,fun j hj b m mj=>?_⟩
   have p:¬j=k:=fun e=>hj e.symm
   by_cases h2:j∈ks
   ·simp [Gh.turn,p,h2] at mj
   ·have t:b∈g.O j++g.D j:=by simpa [Gh.turn,p,h2] using mj
    rcases f b m with ⟨q,q1,q2⟩ | q
    ·exact h.apart q j (fun e=>h2 (e ▸ q1)) b q2 t
    ·have:=h.lt j b t;omega
  ·have h2:k∈ks:=hk.resolve_left h1
   have eO:(g.turn ks key v O D).O k=[]:=by simp [Gh.turn,h1,h2]
   have eD:(g.turn ks key v O D).D k=[]:=by simp [Gh.turn,h1,h2]
   rw [if_neg h1,if_pos h2,eO,eD]
   exact ⟨⟨eO,eD⟩,yG,yG,yG⟩
theorem Zh7 [NW] (hU:StU U st) (ks:List Nat) {o:Ob} (ho:obU (Uk U key) o):(∀k,obU (Uk U key) (Zk st.ob (Zaf ks++[(key,o)]) k))∧∀k,¬Uk U key k→Zk st.ob (Zaf ks++[(key,o)]) k=.gone:=by
 constructor
 ·intro k
  rw [Zax]
  split
  ·exact ho
  ·split
   ·trivial
   ·exact (hU.ob k).mono fun _=>.inl
 ·intro k hk
  rw [Zax,if_neg (fun e=>hk (.inr yE))]
  split
  ·rfl
  ·exact hU.gone k fun h=>hk (.inl h)
theorem Zij:Uk U key key:=.inr (by omega)
theorem ZtI [NW] (hI:HI W g st.ob w) (hU:StU U st) (a:¬U key) {t:TypeId} {cs:List AV} {vs:List Value} (hr:ZH (AVR g w) cs vs) (hu:X6 U cs) {s:Sem Next}
  (d:s.run P w=.ok (.value (.pointer (some ⟨w.heap.size,0,none⟩))) (w.alloc (.cells vs.toArray t))):Fin P W U key st g w s (.bp key 0,[(key,.box t cs)]):=by
 have hb:Below w.heap.size w (w.alloc (.cells vs.toArray t)):=(Below.refl _ _).alloc (A7 _) _
 obtain ⟨h1,h2⟩:=hI.turn (key:=key) (U:=U) (w':=w.alloc (.cells vs.toArray t)) (v:=.pointer (some ⟨w.heap.size,0,none⟩)) (O:=[w.heap.size]) (D:=[]) (o:=.box t cs) hU.ob a [] yG
  (hI.below.trans hb) hb.size (fun b c _=>hb.block b c) yG yG yG (fun b m=>by
   simp at m;subst m;exact ⟨.inl hI.below.size,_,_,heap_alloc_new w _⟩) (fun f=>⟨w.heap.size,vs,by simp [Gh.turn,upd],by simp [Gh.turn],by simp [Gh.turn],heap_alloc_new w _,
    AVRs.move hr hu (fun k hk=>ZI _ _ fun e=>a (e ▸ hk)) (fun b c _=>hb.block b c) f⟩)
 have i:=Zh7 (key:=key) (o:=.box t cs) hU [] (X6.mono (fun _=>.inl) hu)
 exact ⟨_,_,_,.inl d,h1,⟨w.heap.size,by simp [Gh.turn,upd],rfl⟩,h2,Zij,i.1,i.2⟩
theorem Zmq (b:Nat) (cs a:Array Value) (t:TypeId) (hb:w.heap[b]?=some (.cells cs t (0,0))):(w.setRow b a).heap[b]?=some (.cells a t (0,0))∧(∀k,k≠b→(w.setRow b a).heap[k]?=w.heap[k]?)∧(w.setRow b a).heap.size=w.heap.size∧(w.setRow b a).os=w.os∧(w.setRow b a).tape=w.tape∧(w.setRow b a).output=w.output:=by
 refine ⟨setRow_heap w b cs a t _ hb,fun k hk=>?_,?_,rfl,rfl,rfl⟩
 ·have c:¬b=k:=fun e=>hk e.symm
  simp [World.setRow,Array.getElem?_modify,c]
 ·simp [World.setRow]
theorem ZtA [NW] (htt:∀t i,tt t=some i→TOk P t i) (hI:HI W g st.ob w) (hU:StU U st) {t k off tb:Nat} {cs vs:List AV} {va vv:Value} {ag:Bool} (hk:st.ob k=.box tb cs) (hl:vs.length=Zhl (tt t)) (ho:off+vs.length≤cs.length)
  (ha:SVR g w (.bp k off) va) (hv:SVR g w (.p ag vs) vv) (o:X6 U vs) (a:0<vs.length) {s:Sem Next} (hs:s=(do Instr.storeAt t va vv;pure .skip)):Fin P W U key st g w s (.und,[(k,.box tb (splice cs off vs))]):=by
 obtain ⟨b,h1,rfl⟩:=ha
 have v:=hI.obs k
 rw [hk] at v
 obtain ⟨b',us,o1,o2,o3,o4,o5⟩:=v
 have hb:b=b':=by rw [o1] at h1;simpa using h1.symm
 subst hb
 have hlen:=o5.len
 obtain ⟨xs,c1,c2⟩:=PVR.cells hv
 have C:=c2.len
 have c:=hU.ob k
 rw [hk] at c
 obtain ⟨r1,r2,r3,r4,r5,r6⟩:=Zmq b us.toArray (splice us off xs).toArray tb o4
 have f:(sizeOf t).run P w=.ok xs.length w:=by
  rw [←C,hl]
  unfold Zhl at hl ⊢
  cases hti:tt t with
  | none=>rw [hti] at hl;simp at hl;simp [hl] at a
  | some i=>
   cases i with
   | atom z=>obtain ⟨d,zv,i,_,_,h3,_,h4,_⟩:=htt t _ hti;rw [Xp h3,h4]
   | strct fs n z=>obtain ⟨_,i,_,_,h3,h4,_⟩:=htt t _ hti;rw [Xp h3,h4]
   | slice e m b z=>obtain ⟨_,_,_,_,j,h3,h4,_⟩:=htt t _ hti;rw [Xp h3,h4]
   | _=>rw [hti] at hl;simp at hl;simp [hl] at a
 have y:=run_storeCells_at (P:=P) b off tb xs 0 us.toArray w o4 (by simp;omega) (AVRs.one c2)
 have A:s.run P w=.ok .skip (w.setRow b (splice us off xs).toArray):=by
  subst hs
  have e:(us.toArray.toList.take (off+0)++xs++us.toArray.toList.drop (off+0+xs.length)).toArray=(splice us off xs).toArray:=by simp [splice]
  rw [e] at y
  simp [Instr.storeAt,Instr.sureAddr,storeVar,c1,f,y]
 have l:∀b',b'<w.heap.size→¬g.own b'→(w.setRow b (splice us off xs).toArray).heap[b']?=w.heap[b']?:=fun b' _ hn=>r2 b' fun e=>hn (.inl ⟨k,by simp [o2,e]⟩)
 have B:W.heap.size≤b∨W.x b:=(hI.plain k b (by simp [o2])).1
 refine ⟨g,undef,_,.inr ⟨A,rfl⟩,?_,rfl,fun x u hx hu=>hu.move hx (fun _ _=>rfl) l (X7.refl _ _) yE,trivial,fun q=>?_,fun q hq=>?_⟩
 ·refine hI.step (U:=U) (fun q=>q=k) ?_ rfl (fun b' _ hn=>r2 b' fun e=>hn k rfl (by simp [o2,e])) (fun q hq=>⟨ZI _ _ hq,rfl,rfl,rfl⟩) hU.ob (fun _ _=>rfl) (X7.refl _ _) (fun q hq=>?_)
  ·exact ⟨r4.trans hI.below.os,r5.trans hI.below.tape,r6.trans hI.below.output,by have:=hI.below.size;omega,fun q hq hx=>by rw [r2 q (fun e=>by subst e;rcases B with h | h;omega;exact hx h)];exact hI.below.block q hq hx⟩
  ·subst hq
   refine ⟨?_,hI.nodup q,fun b' m=>?_,hI.apart q⟩
   ·simp only[Zk,Zy]
    exact ⟨b,_,o1,o2,o3,r1,(AVRs.move o5 c (fun _ _=>rfl) l (X7.refl _ _)).splice (AVRs.move c2 o (fun _ _=>rfl) l (X7.refl _ _)) off⟩
   ·simp [o2,o3] at m
    subst m
    refine ⟨B,?_⟩
    simp only[Zk,Zy]
    exact ⟨_,_,r1⟩
 ·simp only[Zk,upd]
  split
  ·exact X6.mono (fun _=>.inl) (ZiW c o off)
  ·exact (hU.ob q).mono fun _=>.inl
 ·simp only[Zk,upd]
  split
  ·rename_i e;subst e
   exact absurd (hU.gone q fun h=>hq (.inl h)) (by simp [hk])
  ·exact hU.gone q fun h=>hq (.inl h)
end
end
section
open Go.RowKit
section
variable {P:Program} {W:QK} {U:Nat→Prop} {key:Nat} {st:St} {g:Gh} {w w':World} {a:Act} {tt:Nat→Option TI}
def Gh.F (g:Gh) (ks:List Nat):List Nat:=ks.flatMap fun k=>g.O k++g.D k
def FP (g:Gh) (ks:List Nat) (d:Nat) (L:List Nat):Prop:=(d=2→L.Sublist (g.F ks))∧d≤2∧0<d∧∀b∈L,¬g.own b∨∃k∈ks,b∈g.O k
theorem FP.nil:FP g [] 2 []:=⟨fun _=>by simp [Gh.F],by simp⟩
theorem FP.append {ks a:List Nat} {d d':Nat} {L L':List Nat} (h:FP g ks d L) (h':FP g a d' L'):FP g (ks++a) (Zex d d') (L++L'):=by
 have q1:=h.2.1
 have q2:=h'.2.1
 have q3:=h.2.2.1
 have q4:=h'.2.2.1
 refine ⟨fun hd=>?_,by unfold Zex;split<;>omega,by unfold Zex;split<;>omega,fun b m=>?_⟩
 ·have c:d=2∧d'=2:=by unfold Zex at hd;split at hd<;>omega
  simp only[Gh.F,Al]
  exact AF (h.1 c.1) (h'.1 c.2)
 ·rcases A3.1 m with m | m
  ·exact (h.2.2.2 b m).imp id fun ⟨k,h1,h2⟩=>⟨k,by simp [h1],h2⟩
  ·exact (h'.2.2.2 b m).imp id fun ⟨k,h1,h2⟩=>⟨k,by simp [h1],h2⟩
theorem HI.nodupF [NW] {ob:Nat→Ob} (hI:HI W g ob w):∀{ks:List Nat},ks.Nodup→(g.F ks).Nodup
 | [],_=>by simp [Gh.F]
 | k::ks,h=>by
  simp only[Gh.F,AJ,AD]
  rw [AZ] at h
  refine ⟨AD.1 (hI.nodup k),hI.nodupF h.2,fun x hx y hy e=>?_⟩
  subst e
  obtain ⟨j,hj,hy⟩:=AA.1 hy
  exact hI.apart k j (fun e=>h.1 (e ▸ hj)) x hx hy
theorem Zie {ks:List Nat} {b:Nat} (h:b∈g.F ks):∃k∈ks,b∈g.O k++g.D k:=by simpa [Gh.F] using h
theorem Sl.row {B e m n:Nat} {v:Value} {cs:List Value} (h:w.ownsV B e m v n cs):∃A cap L0,v=.slice A n cap∧n≤cap∧cap≤maxLen∧Sl w m A n cs L0∧L0.Sublist v.ownBlock.toList:=by
 obtain ⟨A,cap,rfl,h1,h2⟩:=ZcS h
 obtain ⟨L0,h3,_,h4⟩:=Sl.of_ownV h
 refine ⟨A,cap,L0,rfl,h1,h2,h3,?_⟩
 rcases h3.2 with ⟨_,rfl⟩ | ⟨_,b,off,rfl,rfl,_⟩
 ·exact AK _
 ·simp [Value.ownBlock]
theorem NR.toC [NW] {x:CT} {v:Value} (h:NR g w x v):∃L,RC w x v L∧∀b∈L,¬g.own b:=by
 obtain ⟨e,m,xs,cs,L,rfl,h2,h3,h4,h5,h6⟩:=h
 obtain ⟨A,cap,L0,s1,s2,s3,s4,s5⟩:=Sl.row h3
 refine ⟨L0++L,⟨A,cap,cs,L0,L,s1,s2,s3,rfl,h2,s4,h4⟩,fun b mb o=>(h6 b ?_).1 (.inl o)⟩
 rcases A3.1 mb with m1 | m1
 ·simp [s5.subset m1]
 ·simp [m1]
theorem ZzN [NW] (hI:HI W g st.ob w) {x:AV} {ct:CT} {ks:List Nat} {d:Nat} {v:Value} (h:avT st x=some (ct,ks,d)) (hx:AVR g w x v) (hu:avU U x):∃L,RC w ct v L∧FP g ks d L∧∀k∈ks,U k:=by
 cases x with
 | c y=>
  obtain ⟨L,h1,h2⟩:=hx
  cases y<;>simp only[avT,A0,A6] at h<;>obtain ⟨rfl,rfl,rfl⟩:=h
  ·exact ⟨L,h1,⟨fun _=>by rw [h1.2];simp [Gh.F],yG,yG,fun b m=>.inl (h2 b m)⟩,yG⟩
  ·exact ⟨L,h1,⟨fun _=>by rw [h1.2];simp [Gh.F],yG,yG,fun b m=>.inl (h2 b m)⟩,yG⟩
  ·exact ⟨L,h1,⟨fun _=>by rw [h1.2.1];simp [Gh.F],yG,yG,fun b m=>.inl (h2 b m)⟩,yG⟩
  all_goals exact ⟨L,h1,⟨fun e=>by simp at e,yG,yG,fun b m=>.inl (h2 b m)⟩,yG⟩
 | row k=>
  simp only[avT] at h
  split at h
  ·rename_i e m xs d' hk
   obtain ⟨hm,cs,L1,o1,o2,o3,o5⟩:=hI.deep hk
   obtain ⟨A,cap,L0,s1,s2,s3,s4,s5⟩:=Sl.row o1
   have a:RC w (.sl e m xs) v (L0++L1):=⟨A,cap,cs,L0,L1,by rw [hx.1,s1],s2,s3,rfl,hm,s4,o2⟩
   split at h
   ·rename_i f
    simp only[A0,A6] at h
    obtain ⟨rfl,rfl,rfl⟩:=h
    refine ⟨L0++L1,a,⟨fun e=>by simp at e,yG,yG,fun b m=>.inl ?_⟩,yG⟩
    rcases o5 with ⟨q,_⟩ | ⟨q,_⟩ | ⟨_,_,_,q⟩
    ·omega
    ·omega
    ·rcases A3.1 m with m | m
     ·exact q b (s5.subset m)
     ·exact o3 b m
   ·rename_i f
    simp only[A0,A6] at h
    obtain ⟨rfl,rfl,rfl⟩:=h
    have hO:g.O k=(g.val k).ownBlock.toList:=by
     rcases o5 with ⟨_,q,_⟩ | ⟨_,q,_⟩ | ⟨q,_⟩
     ·exact q
     ·exact q
     ·exact absurd q f
    refine ⟨L0++L1,a,⟨fun hd=>?_,?_,yE,fun b m=>?_⟩,fun q mq=>by simp at mq;subst mq;exact hu⟩
    ·rcases o5 with ⟨_,_,o5⟩ | ⟨o5,_⟩ | ⟨o5,_⟩
     ·simp only[Gh.F,AJ,List.flatMap_nil,Am,hO,o5]
      exact AF s5 (AC _)
     ·omega
     ·omega
    ·rcases o5 with ⟨o5,_⟩ | ⟨o5,_⟩ | ⟨o5,_⟩<;>omega
    ·rcases A3.1 m with m | m
     ·exact .inr ⟨k,yG,by rw [hO];exact s5.subset m⟩
     ·exact .inl (o3 b m)
  ·simp at h
 | nil e m=>
  simp only[avT] at h
  split at h
  ·rename_i hm
   simp only[A0,A6] at h
   obtain ⟨rfl,rfl,rfl⟩:=h
   refine ⟨[],⟨none,0,[],[],[],hx,yG,AE _,rfl,hm,Sl.zero,rfl,rfl⟩,FP.nil,yG⟩
  ·simp at h
 | n x=>simp [avT] at h
 | dead=>simp [avT] at h
theorem Zrb [NW] (hI:HI W g st.ob w):∀{xs:List AV} {cts:List CT} {ks:List Nat} {d:Nat} {vs:List Value},Ze6 st xs=some (cts,ks,d)→ZH (AVR g w) xs vs→X6 U xs→∃L,RCs w cts vs L∧FP g ks d L∧∀k∈ks,U k
 | [],_,_,_,[],h,_,_=>by
  simp only[Ze6,A0,A6] at h
  obtain ⟨rfl,rfl,rfl⟩:=h
  exact ⟨[],⟨rfl,rfl⟩,FP.nil,yG⟩
 | [],_,_,_,_::_,_,h,_=>h.elim
 | _::_,_,_,_,[],_,h,_=>h.elim
 | x::r,cts,ks,d,v::vs,h,hr,hu=>by
  simp only[Ze6] at h
  obtain ⟨⟨c1,k1,d1⟩,h1,h⟩:=A5.1 h
  obtain ⟨⟨c2,k2,d2⟩,h2,h⟩:=A4.1 h
  simp only[A6] at h
  obtain ⟨rfl,rfl,rfl⟩:=h
  obtain ⟨L1,a1,a2,a3⟩:=ZzN hI h1 hr.1 (hu x yG)
  obtain ⟨L2,b1,b2,b3⟩:=Zrb hI h2 hr.2 (fun y m=>hu y (by simp [m]))
  exact ⟨L1++L2,⟨v,vs,L1,L2,rfl,rfl,a1,b1⟩,a2.append b2,fun k m=>(A3.1 m).elim (a3 k) (b3 k)⟩
theorem ZoK [NW] (hI:HI W g st.ob w) {m:Nat}:∀{xs:List SV} {es:List (List CT)} {ks:List Nat} {d:Nat} {vs:List Value},YL st m xs=some (es,ks,d)→ZH (fun s v=>SVR g w s v∧svU U s) xs vs→
  ∃(cs:List (List Value)) (L:List Nat),ZH (fun (c:List Value) (v:Value)=>v.cells=c.toArray∧c.length=m∧∀u∈c,u.oneCell'=true) cs vs∧REs w m es cs.flatten L∧FP g ks d L∧∀k∈ks,U k
 | [],_,_,_,[],h,_=>by
  simp only[YL,A0,A6] at h
  obtain ⟨rfl,rfl,rfl⟩:=h
  exact ⟨[],[],trivial,⟨rfl,rfl⟩,FP.nil,yG⟩
 | [],_,_,_,_::_,_,h=>h.elim
 | _::_,_,_,_,[],_,h=>h.elim
 | s::r,es,ks,d,v::vs,h,⟨⟨hs,hsu⟩,hr⟩=>by
  cases s with
  | p ag us=>
   simp only[YL] at h
   split at h
   ·rename_i hl
    obtain ⟨⟨c1,k1,d1⟩,h1,h⟩:=A5.1 h
    obtain ⟨⟨c2,k2,d2⟩,h2,h⟩:=A4.1 h
    simp only[A6] at h
    obtain ⟨rfl,rfl,rfl⟩:=h
    obtain ⟨a,p1,p2⟩:=PVR.cells hs
    obtain ⟨L1,a1,a2,a3⟩:=Zrb hI h1 p2 hsu
    obtain ⟨cs,L2,b1,b2,b3,b4⟩:=ZoK hI h2 hr
    have b:a.length=m:=by rw [←p2.len];exact hl
    exact ⟨a::cs,L1++L2,⟨⟨p1,b,AVRs.one p2⟩,b1⟩,⟨a,cs.flatten,L1,L2,yG,rfl,⟨a1,b⟩,b2⟩,a2.append b3,fun k mk=>(A3.1 mk).elim (a3 k) (b4 k)⟩
   ·simp at h
  | _=>simp [YL] at h
theorem Zoo [NW] {m:Nat}:∀(cs:List (List Value)) (vs:List Value) (i:Nat) (a base:List Value),ZH (fun (c:List Value) (v:Value)=>v.cells=c.toArray∧c.length=m∧∀u∈c,u.oneCell'=true) cs vs→a.length=i * m→base.length=vs.length * m→
  Instr.fill (fun i=>some (i * m,m)) (a++base).toArray ((AQ i vs.length).zip vs)=some (a++cs.flatten).toArray
 | [],[],i,a,base,_,_,hb=>by
  have:base=[]:=AN (by simpa using hb)
  subst this
  simp [Instr.fill]
 | [],_::_,_,_,_,h,_,_=>h.elim
 | _::_,[],_,_,_,h,_,_=>h.elim
 | c::cs,v::vs,i,a,base,⟨⟨h1,h2,_⟩,h⟩,hp,hb=>by
  have hb':base.length=m+vs.length * m:=by rw [hb];simp [A9];omega
  have b:v.cells.size=m:=by simp [h1,h2]
  simp only[List.length_cons,Au,List.zip_cons_cons,Instr.fill]
  rw [if_neg (by simp [b];omega),Zkl (i * m) v c h1 _ (by simp;omega)]
  have e:splice (a++base).toArray.toList (i * m) c=(a++c)++base.drop m:=by
   unfold splice
   simp only[←hp]
   rw [Aw,AW,AX yE]
   ·simp [h2]
   ·rfl
  rw [e,Zoo cs vs (i+1) (a++c) (base.drop m) h (by simp [hp,h2,A9]) (by simp;omega)]
  simp
theorem Zsf [NW] (hI:HI W g st.ob w) (hU:StU U st) (i:¬U key) {e m:Nat} (hm:0<m) {xs:List (List CT)} {ks:List Nat} {d:Nat} {L:List Nat} {cs:List Value} {v:Value} (f:w'.ownsV 0 e m v xs.length cs) (hv:v.ownBlock=some w.heap.size)
  (hb:Below w.heap.size w w') (x:∃z e,w'.heap[w.heap.size]?=some (.cells z e (0,0))) (hr:REs w m xs cs L) (hf:FP g ks d L) (B:∀k∈ks,U k) (j:∀k∈ks,∃e m xs d,st.ob k=.row e m xs d) (C:ks.Nodup) {s:Sem Next} (l:s.run P w=.ok (.value v) w'):
  Fin P W U key st g w s (.p false [.row key],Zaf ks++[(key,.row e m xs d)]):=by
 have c:=hr.lt
 have hF:=hI.nodupF C
 have a:∀b∈(if d=2 then L else []),b∈L∧d=2:=fun b mb=>by
  split at mb
  ·rename_i hd;exact ⟨mb,hd⟩
  ·simp at mb
 obtain ⟨h1,h2⟩:=hI.turn (key:=key) (U:=U) (w':=w') (v:=v) (O:=[w.heap.size]) (D:=if d=2 then L else []) (o:=.row e m xs d) hU.ob i ks B
  (hI.below.trans hb) hb.size (fun b t _=>hb.block b t) yG (fun b mb=>by
   obtain ⟨m1,m2⟩:=a b mb
   exact .inl (Zie ((hf.1 m2).subset m1)))
  (by
   simp only[Aa,AZ]
   refine ⟨fun mb=>?_,?_⟩
   ·have:=c _ (a _ mb).1;omega
   ·split
    ·rename_i hd;exact hF.sublist (hf.1 hd)
    ·simp)
  (fun b mb=>by
   simp only[Aa,A8] at mb
   rcases mb with rfl | mb
   ·exact ⟨.inl hI.below.size,x⟩
   ·obtain ⟨m1,m2⟩:=a b mb
    obtain ⟨k,k1,mk⟩:=Zie ((hf.1 m2).subset m1)
    obtain ⟨p1,p2⟩:=hI.plain k b mk
    obtain ⟨_,_,_,_,E⟩:=j k k1
    rw [E] at p2
    exact ⟨p1,p2.keep (hb.block b (c b m1))⟩)
  (fun _=>⟨hm,cs,L,by simpa [Gh.turn,upd] using f,hr.keep fun b mb=>hb.block b (c b mb),by
   have q1:=hf.2.1
   have q2:=hf.2.2.1
   by_cases hd:d=2
   ·exact .inl ⟨hd,by simp [Gh.turn,upd,hv],by simp [Gh.turn,hd]⟩
   ·refine .inr (.inl ⟨yE,by simp [Gh.turn,upd,hv],by simp [Gh.turn,hd],fun b mb ho=>?_⟩)
    have t:=c b mb
    rcases ZdX ho with mo | ⟨k,k1,_,mk⟩ | hz
    ·simp at mo;omega
    ·rcases hf.2.2.2 b mb with hn | ⟨q,q1,q2⟩
     ·exact hn (.inl ⟨k,mk⟩)
     ·exact hI.apart k q (fun e=>k1 (e ▸ q1)) b (by simp [mk]) (by simp [q2])
    ·rcases hf.2.2.2 b mb with hn | ⟨q,q1,q2⟩
     ·exact hn (.inr hz)
     ·exact hI.nz (k:=q) (by simp [q2]) hz⟩)
 have u:=Zh7 (key:=key) (o:=.row e m xs d) hU ks trivial
 refine ⟨_,_,_,.inl l,h1,⟨_,rfl,⟨by simp [Gh.turn,upd],?_⟩⟩,h2,fun y my=>by simp at my;subst my;exact Zij,u.1,u.2⟩
 obtain ⟨A,cap,F⟩:=Q8 f
 simp [F,Value.oneCell']
theorem ZkH (st:St):∀(ks:List Nat) (ob:Nat→Ob) (k:Nat),Zk ob (ZO st ks) k=if k∈ks then Z4 (st.ob k) else ob k
 | [],ob,k=>by simp [ZO,Zk]
 | j::r,ob,k=>by
  show Zk (upd ob j (Z4 (st.ob j))) (ZO st r) k=_
  rw [ZkH st r]
  by_cases h:k∈r
  ·simp [h]
  ·by_cases hj:k=j
   ·subst hj;simp [h,upd]
   ·simp [h,hj,upd]
theorem Zck [NW] (st:St) (ks:List Nat) (ob:Nat→Ob) (key:Nat) (o:Ob) (k:Nat):Zk ob (ZO st ks++[(key,o)]) k=if k=key then o else if k∈ks then Z4 (st.ob k) else ob k:=by
 rw [Yy]
 show upd (Zk ob (ZO st ks)) key o k=_
 by_cases h:k=key
 ·simp [upd,h]
 ·simp only[upd,h,if_false];exact ZkH st ks ob k
theorem Ztv {x:AV} {ct:CT} {ks:List Nat} {d:Nat} (h:avT st x=some (ct,ks,d)):∀k∈ks,∃e m xs d,st.ob k=.row e m xs d:=by
 intro k mk
 cases x with
 | c y=>cases y<;>simp only[avT,A0,A6] at h<;>(rw [←h.2.1] at mk;simp at mk)
 | nil e m=>
  simp only[avT] at h
  split at h<;>simp only[A0,A6,reduceCtorEq] at h
  rw [←h.2.1] at mk;simp at mk
 | row j=>
  simp only[avT] at h
  split at h
  ·rename_i e m xs d' hj
   split at h<;>simp only[A0,A6] at h
   ·rw [←h.2.1] at mk;simp at mk
   ·rw [←h.2.1] at mk;simp at mk;subst mk;exact ⟨_,_,_,_,hj⟩
  ·simp at h
 | n x=>simp [avT] at h
 | dead=>simp [avT] at h
theorem Zma [NW]:∀{xs:List AV} {cts:List CT} {ks:List Nat} {d:Nat},Ze6 st xs=some (cts,ks,d)→∀k∈ks,∃e m xs d,st.ob k=.row e m xs d
 | [],_,_,_,h,k,mk=>by simp only[Ze6,A0,A6] at h;rw [←h.2.1] at mk;simp at mk
 | x::r,_,_,_,h,k,mk=>by
  simp only[Ze6] at h
  obtain ⟨⟨c1,k1,d1⟩,h1,h⟩:=A5.1 h
  obtain ⟨⟨c2,k2,d2⟩,h2,h⟩:=A4.1 h
  simp only[A6] at h
  rw [←h.2.1] at mk
  rcases A3.1 mk with mk | mk
  ·exact Ztv h1 k mk
  ·exact Zma h2 k mk
theorem Zjb [NW] {m:Nat}:∀{xs:List SV} {es:List (List CT)} {ks:List Nat} {d:Nat},YL st m xs=some (es,ks,d)→∀k∈ks,∃e m xs d,st.ob k=.row e m xs d
 | [],_,_,_,h,k,mk=>by simp only[YL,A0,A6] at h;rw [←h.2.1] at mk;simp at mk
 | x::r,_,_,_,h,k,mk=>by
  cases x with
  | p a cs=>
   simp only[YL] at h
   split at h
   ·obtain ⟨⟨c1,k1,d1⟩,h1,h⟩:=A5.1 h
    obtain ⟨⟨c2,k2,d2⟩,h2,h⟩:=A4.1 h
    simp only[A6] at h
    rw [←h.2.1] at mk
    rcases A3.1 mk with mk | mk
    ·exact Zma h1 k mk
    ·exact Zjb h2 k mk
   ·simp at h
  | _=>simp [YL] at h
theorem Zqb [NW] (hI:HI W g st.ob w) (hU:StU U st) (hkey:¬U key) {e m:Nat} (hm:0<m) {xs:List (List CT)} {ks:List Nat} {d:Nat} {L:List Nat} {cs:List Value} {v:Value} (hown:w'.ownsV 0 e m v xs.length cs) (hv:v.ownBlock=some w.heap.size)
  (hb:Below w.heap.size w w') (hpl:∃cur e,w'.heap[w.heap.size]?=some (.cells cur e (0,0))) (hr:REs w m xs cs L) (hf:FP g ks d L) (hks:∀k∈ks,U k) (hrow:∀k∈ks,∃e m xs d,st.ob k=.row e m xs d) (hnd:ks.Nodup) {s:Sem Next} (hrun:s.run P w=.ok (.value v) w'):
  Fin P W U key st g w s (.p false [.row key],ZO st ks++[(key,.row e m xs d)]):=by
 have hlt:=hr.lt
 have hF:=hI.nodupF hnd
 have hDmem:∀b∈(if d=2 then L else []),b∈L∧d=2:=fun b mb=>by
  split at mb
  ·rename_i hd;exact ⟨mb,hd⟩
  ·simp at mb
 obtain ⟨h1,h2⟩:=hI.turn (key:=key) (U:=U) (w':=w') (v:=v) (O:=[w.heap.size]) (D:=if d=2 then L else []) (o:=.row e m xs d) hU.ob hkey ks hks
  (hI.below.trans hb) hb.size (fun b hb' _=>hb.block b hb') (by simp) (fun b mb=>by
   obtain ⟨m1,m2⟩:=hDmem b mb
   exact .inl (Zie ((hf.1 m2).subset m1)))
  (by
   simp only[Aa,AZ]
   refine ⟨fun mb=>?_,?_⟩
   ·have:=hlt _ (hDmem _ mb).1;omega
   ·split
    ·rename_i hd;exact hF.sublist (hf.1 hd)
    ·simp)
  (fun b mb=>by
   simp only[Aa,A8] at mb
   rcases mb with rfl | mb
   ·exact ⟨.inl hI.below.size,hpl⟩
   ·obtain ⟨m1,m2⟩:=hDmem b mb
    obtain ⟨k,k1,mk⟩:=Zie ((hf.1 m2).subset m1)
    obtain ⟨p1,p2⟩:=hI.plain k b mk
    obtain ⟨_,_,_,_,hob⟩:=hrow k k1
    rw [hob] at p2
    exact ⟨p1,p2.keep (hb.block b (hlt b m1))⟩)
  (fun _=>⟨hm,cs,L,by simpa [Gh.turn,upd] using hown,hr.keep fun b mb=>hb.block b (hlt b mb),by
   have q1:=hf.2.1
   have q2:=hf.2.2.1
   by_cases hd:d=2
   ·exact .inl ⟨hd,by simp [Gh.turn,upd,hv],by simp [Gh.turn,hd]⟩
   ·refine .inr (.inl ⟨by omega,by simp [Gh.turn,upd,hv],by simp [Gh.turn,hd],fun b mb ho=>?_⟩)
    have hb':=hlt b mb
    rcases ZdX ho with mo | ⟨k,k1,_,mk⟩ | hz
    ·simp at mo;omega
    ·rcases hf.2.2.2 b mb with hn | ⟨q,q1,q2⟩
     ·exact hn (.inl ⟨k,mk⟩)
     ·exact hI.apart k q (fun e=>k1 (e ▸ q1)) b (by simp [mk]) (by simp [q2])
    ·rcases hf.2.2.2 b mb with hn | ⟨q,q1,q2⟩
     ·exact hn (.inr hz)
     ·exact hI.nz (k:=q) (by simp [q2]) hz⟩)
 have hkk:∀k∈ks,k≠key:=fun k mk e=>hkey (e ▸ hks k mk)
 have h1':HI W (g.turn ks key v [w.heap.size] (if d=2 then L else [])) (Zk st.ob (ZO st ks++[(key,.row e m xs d)])) w':=by
  refine ⟨h1.below,fun k=>?_,h1.nodup,h1.apart,fun k b mb=>?_,h1.gz,h1.zx,h1.nw⟩
  rotate_left
  ·have hp:=h1.plain k b mb
   rw [Zax] at hp
   rw [Zck]
   by_cases hk:k=key
   ·rw [if_pos hk] at hp ⊢;exact hp
   ·rw [if_neg hk] at hp ⊢
    by_cases hm':k∈ks
    ·rw [if_pos hm'] at hp ⊢
     obtain ⟨e2,m2,xs2,d2,hob⟩:=hrow k hm'
     rw [hob]
     exact hp
    ·rw [if_neg hm'] at hp ⊢;exact hp
  have ho:=h1.obs k
  rw [Zax] at ho
  rw [Zck]
  by_cases hk:k=key
  ·rw [if_pos hk] at ho ⊢;exact ho
  ·rw [if_neg hk] at ho ⊢
   by_cases hm':k∈ks
   ·rw [if_pos hm'] at ho ⊢
    obtain ⟨e2,m2,xs2,d2,hob⟩:=hrow k hm'
    obtain ⟨p1,cs2,L2,p2,p3,p4,p5⟩:=hI.deep hob
    rw [hob]
    have hval:(g.turn ks key v [w.heap.size] (if d=2 then L else [])).val k=g.val k:=by simp [Gh.turn,upd,hk]
    have hl2:=p3.lt
    have hl1:=Zp8 p2
    refine ⟨p1,cs2,L2,by rw [hval];exact Zhf p2 fun b mb=>hb.block b (hl1 b mb),p3.keep fun b mb=>hb.block b (hl2 b mb),.inr (.inr ⟨rfl,ho.1,ho.2,fun b mb hob'=>?_⟩)⟩
    rw [hval] at mb
    have hbl:b<w.heap.size:=by
     rcases A3.1 mb with m1 | m1
     ·exact hl1 b m1
     ·exact hl2 b m1
    rcases ZdX hob' with mo | ⟨j,j1,_,mj⟩ | hz
    ·simp at mo;omega
    ·rcases A3.1 mb with m1 | m1
     ·rcases p5 with ⟨_,q1,_⟩ | ⟨_,q1,_⟩ | ⟨_,_,_,q⟩
      ·exact hI.apart j k (fun e=>j1 (e ▸ hm')) b (by simp [mj]) (by simp [q1,m1])
      ·exact hI.apart j k (fun e=>j1 (e ▸ hm')) b (by simp [mj]) (by simp [q1,m1])
      ·exact q b m1 (.inl ⟨j,mj⟩)
     ·exact p4 b m1 (.inl ⟨j,mj⟩)
    ·rcases A3.1 mb with m1 | m1
     ·rcases p5 with ⟨_,q1,_⟩ | ⟨_,q1,_⟩ | ⟨_,_,_,q⟩
      ·exact hI.nz (k:=k) (by simp [q1,m1]) hz
      ·exact hI.nz (k:=k) (by simp [q1,m1]) hz
      ·exact q b m1 (.inr hz)
     ·exact p4 b m1 (.inr hz)
   ·rw [if_neg hm'] at ho ⊢;exact ho
 have hfz:∀k,obU U (Z4 (st.ob k)):=fun k=>by
  have:=hU.ob k
  cases hk:st.ob k<;>simp only[Z4]<;>first | trivial | (rw [hk] at this;exact this)
 refine ⟨_,_,_,.inl hrun,h1',⟨_,rfl,⟨by simp [Gh.turn,upd],?_⟩⟩,h2,fun y my=>by simp at my;subst my;exact Zij,fun k=>?_,fun k hk=>?_⟩
 ·obtain ⟨A,cap,hv'⟩:=Q8 hown
  simp [hv',Value.oneCell']
 ·rw [Zck]
  split
  ·trivial
  ·split
   ·exact (hfz k).mono fun _=>.inl
   ·exact (hU.ob k).mono fun _=>.inl
 ·rw [Zck,if_neg (fun e=>hk (.inr (by omega)))]
  have e:=hU.gone k fun h=>hk (.inl h)
  split
  ·rw [e];rfl
  ·exact e
end
end
section
open Go.RowKit
section
variable {P:Program} {W:QK} {U:Nat→Prop} {key:Nat} {st:St} {g:Gh} {w w':World} {a:Act} {tt:Nat→Option TI}
theorem Zwb [NW] (htt:∀t i,tt t=some i→TOk P t i) (hI:HI W g st.ob w) (hS:∀t,SVR g w (st.sl t) (a.tmps.getD t undef)) (hU:StU U st) (hkey:¬U key) {t len e m bytes:Nat} {z:List AV} (hti:tt t=some (.slice e m bytes z)) {parts:Array (Nat × Operand)} {xs:List (List CT)} {ks:List Nat} {d:Nat}
  (h:YL st m (parts.toList.map fun p=>st.ev tt e p.2)=some (xs,ks,d)) (hr:parts.toList.map (·.1)=List.range len) (hl:len * m≤16777216) (hnd:ks.Nodup) {s:Sem Next} (hs:s=(do pure (.value (←Instr.buildSlice t len (parts.map fun (i,x)=>(i,a.eval x)))))):
  Fin P W U key st g w s (.p false [.row key],ZO st ks++[(key,.row e m xs d)]):=by
 obtain ⟨hu,hm,_,⟨ie,zv,hie,hsz,hby,hz,hzc,hzl⟩,_⟩:=htt t _ hti
 have hall:ZH (fun s v=>SVR g w s v∧svU U s) (parts.toList.map fun p=>st.ev tt e p.2) (parts.toList.map fun p=>a.eval p.2):=ZH.of_map _ _ fun p _=>Zi6 htt hS hU e p.2
 obtain ⟨cs,L,c1,c2,c3,c4⟩:=ZoK hI h hall
 have hlen:parts.toList.length=len:=by have:=congrArg List.length hr;simpa using this
 have hcl:cs.length=len:=by rw [c1.len];simpa using hlen
 have hxl:xs.length=len:=by
  have h1:=c2.len
  have h2:cs.flatten.length=len * m:=by
   have:∀(cs:List (List Value)) (vs:List Value),ZH (fun (c:List Value) (v:Value)=>v.cells=c.toArray∧c.length=m∧∀u∈c,u.oneCell'=true) cs vs→cs.flatten.length=cs.length * m:=by
    intro cs
    induction cs with
    | nil=>intro _ _;simp
    | cons c cs ih=>
     intro vs hh
     cases vs with
     | nil=>exact hh.elim
     | cons v vs=>simp [ih vs hh.2,hh.1.2.1,A9];omega
   rw [this cs _ c1,hcl]
  rw [h2] at h1
  exact (Nat.eq_of_mul_eq_mul_right hm h1).symm
 have hparts:(parts.map fun x=>match x with | (i,x)=>(i,a.eval x)).toList=(AQ 0 (parts.toList.map fun p=>a.eval p.2).length).zip (parts.toList.map fun p=>a.eval p.2):=by
  have e1:(parts.map fun x=>match x with | (i,x)=>(i,a.eval x)).toList=(parts.toList.map (·.1)).zip (parts.toList.map fun p=>a.eval p.2):=by
   rw [List.zip_map'];simp
  rw [e1,hr,List.range_eq_range']
  simp [hlen]
 have hrun:(Instr.buildSlice t len (parts.map fun (i,x)=>(i,a.eval x))).run P w=.ok (.slice (some ⟨w.heap.size,0,none⟩) len len) (w.alloc (.cells cs.flatten.toArray e)):=by
  have hcells:∀base:List Value,base.length=len * m→Instr.fill (fun i=>some (i * m,m)) base.toArray (parts.map fun x=>match x with | (i,x)=>(i,a.eval x)).toList=some cs.flatten.toArray:=fun base hb=>by
   rw [hparts]
   have:=Zoo cs (parts.toList.map fun p=>a.eval p.2) 0 [] base c1 (by simp) (by simpa [hlen] using hb)
   simpa using this
  by_cases h0:len=0
  ·subst h0
   have hcs0:cs=[]:=AN hcl
   subst hcs0
   have hp0:parts=#[]:=by
    have:parts.toList=[]:=AN hlen
    simpa using this
   subst hp0
   simp [Instr.buildSlice,Yh hu,Xp hie,Instr.fill,newRow,Array.range_zero']
  ·have hpos:¬len * ie.size=0:=by
    rw [hsz];intro e;rcases Nat.mul_eq_zero.1 e with e | e<;>omega
   refine run_buildSlice w t e len _ _ ie zv hu hie hz (by rw [hsz];omega) hpos ?_
   rw [hsz]
   have hb:=hcells ((Array.range (len * m)).map (zv.cells[· % zv.cells.size]!)).toList (by simp)
   rw [Array.toArray_toList] at hb
   exact hb
 have hown:=Zht <| World.ownsRow_lit (base:=0) (e:=e) (size:=m) w cs.flatten.toArray len (AE _) (by unfold maxLen;have:=Nat.le_mul_of_pos_right len hm;omega) (by
  have h1:=c2.len
  rw [hxl] at h1
  simpa using h1)
 refine Zqb hI hU hkey hm (v:=.slice (some ⟨w.heap.size,0,none⟩) len len) (cs:=cs.flatten) (w':=w.alloc (.cells cs.flatten.toArray e)) (by rw [hxl];simpa using hown) rfl ((Below.refl _ _).alloc (A7 _) _) ⟨_,_,heap_alloc_new w _⟩ c2 c3 c4 (Zjb h) hnd ?_
 subst hs
 simp only[Sem.run_bind,hrun,Result.andThen_ok,Sem.run_pure]
theorem ZgF {m:Nat} {ze:List CT} {zc:List Value} (h:RCs w ze zc []) (hl:zc.length=m):∀n:Nat,REs w m (AR n ze) (AR n zc).flatten []
 | 0=>by simp [REs]
 | n+1=>by
  rw [Ax,Ax,Ay]
  exact ⟨zc,_,[],[],rfl,rfl,⟨h,hl⟩,ZgF h hl n⟩
theorem Znr [NW]:∀{z:List AV} {zs:List Value} {ze:List CT},Zjt z=some ze→ZH (fun a v=>QV a v=true) z zs→RCs w ze zs []
 | [],[],ze,h,_=>by simp [Zjt] at h;subst h;exact ⟨rfl,rfl⟩
 | [],_::_,_,_,h=>h.elim
 | _::_,[],_,_,h=>h.elim
 | .c x::z,v::zs,ze,h,hr=>by
  simp only[Zjt] at h
  obtain ⟨b,h1,rfl⟩:=A4.1 h
  have hx:=Zep (g:=⟨fun _=>undef,fun _=>[],fun _=>[],fun _=>False⟩) (w:=w) hr.1
  obtain ⟨L,hL,_⟩:=hx
  have d:L=[]:=by
   have:=hr.1
   cases x with
   | int k n=>exact hL.2
   | bool b=>exact hL.2
   | str s=>exact hL.2.1
   | _=>simp [QV] at this
  subst d
  exact ⟨v,zs,[],[],rfl,rfl,hL,Znr h1 hr.2⟩
 | .nil e m::z,v::zs,ze,h,hr=>by
  simp only[Zjt] at h
  split at h
  ·rename_i hm
   obtain ⟨b,h1,rfl⟩:=A4.1 h
   have hv:v=.slice none 0 0:=Zep (g:=⟨fun _=>undef,fun _=>[],fun _=>[],fun _=>False⟩) (w:=w) hr.1
   subst hv
   exact ⟨_,zs,[],[],rfl,rfl,⟨none,0,[],[],[],rfl,yG,AE _,rfl,hm,Sl.zero,rfl,rfl⟩,Znr h1 hr.2⟩
  ·simp at h
 | .row k::z,v::zs,ze,h,_=>by simp [Zjt] at h
 | .n x::z,v::zs,ze,h,_=>by simp [Zjt] at h
 | .dead::z,v::zs,ze,h,_=>by simp [Zjt] at h
theorem ZmO (z:Array Value) (m:Nat) (hz:z.size=m) (hm:0<m):∀n:Nat,(madeCells z (n * m)).toList=(AR n z.toList).flatten
 | 0=>by simp [madeCells]
 | n+1=>by
  have ih:=ZmO z m hz hm n
  rw [List.replicate_succ',List.flatten_append,←ih]
  simp only[madeCells,Array.toList_map,Array.toList_range,A9,Nat.one_mul,List.range_add,Az,List.map_map,Ay,List.flatten_nil,Am]
  congr 1
  apply List.ext_getElem?
  intro j
  by_cases hj:j<m
  ·simp only[List.getElem?_map,List.getElem?_range hj,AT,Function.comp]
   have e:(n * m+j) % z.size=j:=by
    rw [hz,Nat.add_comm,Nat.add_mul_mod_self_right,Nat.mod_eq_of_lt hj]
   have a:j<z.size:=by omega
   simp [e,a]
  ·have h1:z.size≤j:=by omega
   simp [hj,h1]
theorem ZvA [NW] (htt:∀t i,tt t=some i→TOk P t i) (hI:HI W g st.ob w) (hU:StU U st) (c:¬U key) {t e m a:Nat} {z:List AV} (k:tt t=some (.slice e m a z)) {n:Nat} {ze:List CT} (hz:Zjt z=some ze) (hn:n≤1073741824) {s:Sem Next}
  (hs:s=(do pure (.value (←Instr.makeSlice t (.int .i64 n) (.int .i64 n))))):Fin P W U key st g w s (.p false [.row key],[(key,.row e m (AR n ze) 2)]):=by
 obtain ⟨hu,hm,hby0,⟨ie,zv,l,o,hby,q,f,u⟩,_⟩:=htt t _ k
 have v:ie.bytes * n≤281474976710656:=by
  have:=BA (show ie.bytes≤131072 by omega) hn
  omega
 obtain ⟨w',r1,r2,r3⟩:=run_make_full (P:=P) w 0 t e ie zv m hu l q o .i64 .i64 n v (by unfold maxLen;omega) (AE _)
 have j:zv.cells.size=m:=by rw [←u,f.len];simp
 rw [ZmO zv.cells m j hm n] at r2
 have x:=ZgF (Znr (w:=w) hz f) (by simpa using j) n
 have hb:Below w.heap.size w w':=(Below.refl _ _).grown r3 (A7 _) yG
 have y:∃b e,w'.heap[w.heap.size]?=some (.cells b e (0,0)):=by
  rcases r2.2 with ⟨h',_⟩ | ⟨g',cap',b,h',_,hg,_⟩
  ·simp at h'
  ·simp at h'
   rw [←h'.1] at hg
   exact ⟨b,e,hg⟩
 have:=Zsf (ks:=[]) (d:=2) hI hU c hm (xs:=AR n ze) (by simpa using Zht r2) rfl hb y x FP.nil yG yG yG (s:=s) (P:=P) (by subst hs;simp only[Sem.run_bind,r1,Result.andThen_ok,Sem.run_pure])
 simpa [Zaf] using this
theorem Zpm [NW] {t e:TypeId} {ty:TypeId} {ie:TypeInfo} (hu:P.underlying t=some (.slice e)) (a:P.info? e=some ie) (A B:Option Addr) (n c c':Nat) (b:n≤c):
  (Builtin.append_ #[t,t] ty #[.slice A n c,.slice B 0 c']).run P w=.ok (.slice A n c) w:=by
 cases A<;>cases B<;>simp [Builtin.append_,Yh hu,Xp a,Builtin.lenOf,Builtin.firstCells,loadCells,loadCellsFrom,storeCells,b]
theorem ZpL:∀{e:List CT} {cs:List Value} {L:List Nat},RCs w e cs L→e.all CT.flat=true→L=[]
 | [],_,_,h,_=>h.2
 | x::r,_,_,⟨v,cs',L1,L2,rfl,rfl,h1,h2⟩,hf=>by
  simp only[BB,AG] at hf
  have e1:L1=[]:=by
   cases x with
   | int k n=>exact h1.2
   | bool b=>exact h1.2
   | str s=>exact h1.2.1
   | _=>simp [CT.flat] at hf
  rw [e1,ZpL h2 hf.2];rfl
theorem ZfO [NW] {m:Nat}:∀{xs:List (List CT)} {cs:List Value} {L:List Nat},REs w m xs cs L→Zal xs=true→L=[]
 | [],_,_,h,_=>h.2
 | x::r,_,_,⟨c1,c2,L1,L2,rfl,rfl,h1,h2⟩,hf=>by
  simp only[Zal,BB,AG] at hf
  rw [ZpL h1.1 hf.1,ZfO h2 hf.2];rfl
theorem REs.append {m:Nat}:∀{xs ys:List (List CT)} {us vs:List Value} {L M:List Nat},REs w m xs us L→REs w m ys vs M→REs w m (xs++ys) (us++vs) (L++M)
 | [],_,_,_,_,_,h,h'=>by obtain ⟨rfl,rfl⟩:=h;simpa using h'
 | _::_,_,_,_,_,_,⟨c1,c2,L1,L2,rfl,rfl,h3,h4⟩,h'=>⟨c1,c2++_,L1,L2++_,yG,yG,h3,h4.append h'⟩
theorem REs.one {m:Nat}:∀{xs:List (List CT)} {cs:List Value} {L:List Nat},REs w m xs cs L→∀u∈cs,u.oneCell'=true
 | [],_,_,h=>by simp [h.1]
 | _::_,_,_,⟨c1,c2,L1,L2,rfl,rfl,h3,h4⟩=>fun u mu=>by
  rcases A3.1 mu with mu | mu
  ·exact h3.1.one u mu
  ·exact h4.one u mu
theorem Zt4 {a b:Nat} (h:Zex a b=2) (ha:a≤2) (hb:b≤2):a=2∧b=2:=by unfold Zex at h;split at h<;>omega
theorem Zmg {fl:Bool} {xs:List (List CT)} (h:ZhM fl xs=2):Zal xs=true:=by unfold ZhM at h;split at h<;>simp_all
theorem ZoH (fl:Bool) (xs:List (List CT)):ZhM fl xs≤2:=by unfold ZhM;split<;>omega
theorem ZmQ (fl:Bool) (xs:List (List CT)):0<ZhM fl xs:=by unfold ZhM;split<;>omega
theorem HI.plainD [NW] {ob:Nat→Ob} (h:HI W g ob w) {k b:Nat} (m:b∈g.D k):(W.heap.size≤b∨W.x b)∧∃a e,w.heap[b]?=some (.cells a e (0,0)):=by
 have h1:=h.plain k b (by simp [m])
 have h2:=h.obs k
 cases hk:ob k with
 | map kk vk kv=>
  rw [hk] at h2
  obtain ⟨_,_,_,_,_,h3,_⟩:=h2
  rw [h3] at m;simp at m
 | _=>rw [hk] at h1;exact h1
theorem Zw8 [NW] (hI:HI W g st.ob w) {x:SV} {v:Value} {e m:Nat} {xs:List (List CT)} {ks:List Nat} {d:Nat} (h:ZeO st x=some (xs,ks,d)) (a:Zj6 st e m x=true) (hx:SVR g w x v) (hu:svU U x):
  ∃cs L,w.ownsV 0 e m v xs.length cs∧REs w m xs cs L∧(∀b∈L,¬g.own b)∧(d=2→L=ks.flatMap g.D)∧v.ownBlock.toList=ks.flatMap g.O∧(∀k∈ks,U k)∧d≤2∧0<d:=by
 unfold ZeO at h
 split at h
 ·simp only[A0,A6] at h
  obtain ⟨rfl,rfl,rfl⟩:=h
  have:=ZqE hx
  subst this
  exact ⟨[],[],ZiJ _ _ _ _,⟨rfl,rfl⟩,yG,yG,by simp [Value.ownBlock],yG,yG,yG⟩
 ·rename_i k
  split at h
  ·rename_i e' m' xs' d' hk
   split at h
   ·simp at h
   rename_i c
   simp only[A0,A6] at h
   obtain ⟨rfl,rfl,rfl⟩:=h
   simp only[Zj6,hk,AG,beq_iff_eq] at a
   obtain ⟨rfl,rfl⟩:=a
   have:=ZeK hx
   subst this
   obtain ⟨hm,cs,L,o1,o2,o3,o4,o5⟩:=hI.deepO hk c
   refine ⟨cs,L,o1,o2,o3,fun hd=>?_,by simp [o4],fun q mq=>by simp at mq;subst mq;exact hu (.row q) yG,?_,yE⟩
   ·rcases o5 with ⟨_,o5⟩ | ⟨o5,_⟩
    ·simp [o5]
    ·omega
   ·rcases o5 with ⟨o5,_⟩ | ⟨o5,_⟩<;>omega
  ·simp at h
 ·simp at h
theorem Zww [NW] (hI:HI W g st.ob w) {x:SV} {v:Value} {m:Nat} {xs:List (List CT)} {ks:List Nat} {d:Nat} {fl:Bool} (h:ZeU st fl x=some (xs,ks,d)) (a:Zi4 st m x=true) (hx:SVR g w x v) (hu:svU U x):
  ∃A c cs L,v=.slice A xs.length c∧REs w m xs cs L∧(0<xs.length→∃b off,A=some ⟨b,off,none⟩∧Q9 w b off cs)∧(∀b∈L,¬g.own b)∧(d=2→L.Sublist (ks.flatMap g.D))∧(∀k∈ks,U k)∧d≤2∧0<d:=by
 unfold ZeU at h
 split at h
 ·simp only[A0,A6] at h
  obtain ⟨rfl,rfl,rfl⟩:=h
  simp only[Zi4,beq_iff_eq] at a
  subst a
  obtain ⟨A,cap,cs,L0,L1,rfl,h2,h3,h5,h6,h7,ho⟩:=Zf5 hx
  refine ⟨A,cap,cs,L1,rfl,h7,fun hp=>?_,fun b mb=>ho b (by simp [mb]),fun hd=>by rw [ZfO h7 (Zmg hd)];simp,yG,ZoH _ _,ZmQ _ _⟩
  obtain ⟨b,off,h8,_,h9⟩:=h6.at_ hp
  exact ⟨b,off,h8,h9⟩
 ·simp only[A0,A6] at h
  obtain ⟨rfl,rfl,rfl⟩:=h
  have:=ZqE hx
  subst this
  exact ⟨none,0,[],[],rfl,⟨rfl,rfl⟩,yG,yG,yG,yG,yG,yG⟩
 ·rename_i k
  split at h
  ·rename_i e' m' f d' hk
   simp only[Zi4,hk,beq_iff_eq] at a
   subst a
   have:=ZeK hx
   subst this
   obtain ⟨hm,cs,L,o1,o2,o3,o5⟩:=hI.deep hk
   obtain ⟨A,cap,L0,s1,s2,s3,s4,s5⟩:=Sl.row o1
   have e:0<f.length→∃b off,A=some ⟨b,off,none⟩∧Q9 w b off cs:=fun hp=>by
    obtain ⟨b,off,h8,_,h9⟩:=s4.at_ hp
    exact ⟨b,off,h8,h9⟩
   split at h
   ·simp only[A0,A6] at h
    obtain ⟨rfl,rfl,rfl⟩:=h
    exact ⟨A,cap,cs,L,s1,o2,e,o3,fun hd=>by rw [ZfO o2 (Zmg hd)];simp,yG,ZoH _ _,ZmQ _ _⟩
   ·rename_i hd0
    simp only[A0,A6] at h
    obtain ⟨rfl,rfl,rfl⟩:=h
    refine ⟨A,cap,cs,L,s1,o2,e,o3,fun hd=>?_,fun q mq=>by simp at mq;subst mq;exact hu (.row q) yG,?_,yE⟩
    ·rcases o5 with ⟨_,_,o5⟩ | ⟨o5,_⟩ | ⟨o5,_⟩
     ·simp [o5]
     ·omega
     ·omega
    ·rcases o5 with ⟨o5,_⟩ | ⟨o5,_⟩ | ⟨o5,_⟩<;>omega
  ·simp at h
 ·simp at h
theorem HI.nodupD [NW] {ob:Nat→Ob} (hI:HI W g ob w):∀{ks:List Nat},ks.Nodup→(ks.flatMap g.D).Nodup
 | [],_=>by simp
 | k::ks,h=>by
  simp only[AJ,AD]
  rw [AZ] at h
  refine ⟨(AD.1 (hI.nodup k)).2.1,hI.nodupD h.2,fun x hx y hy e=>?_⟩
  subst e
  obtain ⟨j,hj,hy⟩:=AA.1 hy
  exact hI.apart k j (fun e=>h.1 (e ▸ hj)) x (by simp [hx]) (by simp [hy])
theorem Zx5 [NW] (htt:∀t i,tt t=some i→TOk P t i) (hI:HI W g st.ob w) (hU:StU U st) (I:¬U key) {t:Nat} {s x:SV} {vs vx:Value} {r:SV × List (Nat × Ob)} (h:Zl2 st key (tt t) s x=some r) (hs:SVR g w s vs∧svU U s) (hx:SVR g w x vx∧svU U x) {ty:TypeId} {q:Sem Next}
  (hq:q=(do pure (.value (←Builtin.append_ #[t,t] ty #[vs,vx])))):Fin P W U key st g w q r:=by
 unfold Zl2 at h
 split at h
 ·rename_i e m p z V
  obtain ⟨⟨xs,k1,d1⟩,h1,h⟩:=A5.1 h
  obtain ⟨⟨ys,k2,d2⟩,h2,h⟩:=A5.1 h
  split at h
  ·rename_i hc
   simp only[A0] at h
   subst h
   obtain ⟨X,Y,J,K⟩:=hc
   simp only at J K
   obtain ⟨hu,hm,L,⟨ie,zv,M,Z,aa,ab,ac,ad⟩,_⟩:=htt t _ V
   obtain ⟨cs,Lx,a1,a2,a3,a4,a5,a6,a7,a8⟩:=Zw8 hI h1 X hs.1 hs.2
   obtain ⟨A,c,a,Ly,b0,b1,b2,b3,b4,b5,b7,b8⟩:=Zww hI h2 Y hx.1 hx.2
   subst b0
   obtain ⟨A1,cap1,ae,af,hv3⟩:=ZcS a1
   have N:a.length=ys.length * m:=b1.len
   obtain ⟨v',w',r1,r2,r3,r4⟩:∃v' w',(Builtin.append_ #[t,t] ty #[vs,.slice A ys.length c]).run P w=.ok v' w'∧w'.ownsV 0 e m v' (xs.length+ys.length) (cs++a)∧w.grownBy w' vs.ownBlock∧(v'.ownBlock=vs.ownBlock∨v'.ownBlock=some w.heap.size):=by
    by_cases hy:ys.length=0
    ·have ag:a=[]:=AN (by rw [N,hy];simp)
     refine ⟨vs,w,?_,by rw [ag,hy,Am];exact a1,World.grownBy.refl _ _,.inl rfl⟩
     rw [ae,hy]
     exact Zpm hu M A1 A _ _ _ af
    ·obtain ⟨b,off,rfl,E⟩:=b2 yE
     have B:(xs.length+ys.length) * p≤140737488355328:=by
      have:=BA K L
      omega
     obtain ⟨v',w',q1,q2,q3,q5⟩:=Zjx (P:=P) w 0 t ty e ie zv m p hu M ab Z aa (by rw [←ad,ac.len];simp) hm vs xs.length cs a1 ⟨b,off,none⟩ ys.length c a N
      (fun j u hj=>by rw [ZcD];exact E j u hj) b1.one (by unfold maxLen;omega) B (AE _)
     exact ⟨v',w',q1,q2,q3,q5⟩
   have C:∀b,¬g.own b→some b≠vs.ownBlock:=fun b hn e=>hn (by
    have:b∈vs.ownBlock.toList:=by simp [←e]
    rw [a5] at this
    obtain ⟨k,_,mk⟩:=AA.1 this
    exact .inl ⟨k,mk⟩)
   have d:∀b∈Lx++Ly,w'.heap[b]?=w.heap[b]?:=fun b mb=>by
    rcases A3.1 mb with mb | mb
    ·exact r3.block b (a2.lt b mb) (C b (a3 b mb))
    ·exact r3.block b (b1.lt b mb) (C b (b3 b mb))
   have Q:REs w' m (xs++ys) (cs++a) (Lx++Ly):=(a2.keep fun b mb=>d b (by simp [mb])).append (b1.keep fun b mb=>d b (by simp [mb]))
   have l:∀b∈v'.ownBlock.toList,b∈k1.flatMap g.O∨b=w.heap.size:=fun b mb=>by
    rcases r4 with r4 | r4
    ·rw [r4,a5] at mb;exact .inl mb
    ·rw [r4] at mb;simp at mb;exact .inr mb
   have f:(Zex d1 d2)=2→(Lx++Ly).Sublist ((k1++k2).flatMap g.D):=fun hd=>by
    have hd:=Zt4 hd a7 b7
    rw [Al]
    exact AF (by rw [a4 hd.1];exact AC _) (b4 hd.2)
   have F:∀b∈(if (Zex d1 d2)=2 then Lx++Ly else []),b∈Lx++Ly∧(Zex d1 d2)=2:=fun b mb=>by
    split at mb
    ·rename_i hd;exact ⟨mb,hd⟩
    ·simp at mb
   have R:Bel W w':=by
    refine ⟨r3.os.trans hI.below.os,r3.tape.trans hI.below.tape,r3.output.trans hI.below.output,AI hI.below.size r3.size,fun b hb S=>?_⟩
    rw [r3.block b (AS hb hI.below.size) fun e=>?_]
    ·exact hI.below.block b hb S
    ·have:b∈vs.ownBlock.toList:=by simp [←e]
     rw [a5] at this
     obtain ⟨k,_,mk⟩:=AA.1 this
     rcases (hI.plain k b (by simp [mk])).1 with h | h
     ·omega
     ·exact S h
   obtain ⟨t1,t2⟩:=hI.turn (key:=key) (U:=U) (w':=w') (v:=v') (O:=v'.ownBlock.toList) (D:=if (Zex d1 d2)=2 then Lx++Ly else []) (o:=.row e m (xs++ys) (Zex d1 d2)) hU.ob I (k1++k2)
    (fun k mk=>(A3.1 mk).elim (a6 k) (b5 k)) R r3.size (fun b hb hn=>r3.block b hb fun e=>by
     have:b∈vs.ownBlock.toList:=by simp [←e]
     rw [a5] at this
     obtain ⟨k,hk,mk⟩:=AA.1 this
     exact hn k (by simp [hk]) mk)
    (fun b mb=>by
     rcases l b mb with mb | rfl
     ·obtain ⟨k,hk,mk⟩:=AA.1 mb
      exact .inl ⟨k,by simp [hk],mk⟩
     ·exact .inr (A7 _))
    (fun b mb=>by
     obtain ⟨m1,m2⟩:=F b mb
     obtain ⟨k,hk,mk⟩:=AA.1 ((f m2).subset m1)
     exact .inl ⟨k,hk,by simp [mk]⟩)
    (by
     rw [AD]
     refine ⟨by cases v'.ownBlock<;>simp,?_,fun b mb b' ah e=>?_⟩
     ·split
      ·rename_i hd;exact (hI.nodupD J).sublist (f hd)
      ·simp
     ·subst e
      obtain ⟨m1,m2⟩:=F b ah
      rcases l b mb with mb | rfl
      ·obtain ⟨k,_,mk⟩:=AA.1 mb
       rcases A3.1 m1 with m1 | m1
       ·exact a3 b m1 (.inl ⟨k,mk⟩)
       ·exact b3 b m1 (.inl ⟨k,mk⟩)
      ·rcases A3.1 m1 with m1 | m1
       ·have:=a2.lt _ m1;omega
       ·have:=b1.lt _ m1;omega)
    (fun b mb=>by
     rcases A3.1 mb with mb | mb
     ·have ai:W.heap.size≤b∨W.x b:=by
       rcases l b mb with mb | rfl
       ·obtain ⟨k,_,mk⟩:=AA.1 mb
        exact (hI.plain k b (by simp [mk])).1
       ·exact .inl hI.below.size
      rcases r2.2 with ⟨h',_⟩ | ⟨g',o',cap',G,h',hg0,hg,_⟩
      ·simp [h',Value.ownBlock] at mb
      ·simp [h',Value.ownBlock] at mb
       subst mb
       exact ⟨ai,G,e,hg⟩
     ·obtain ⟨m1,m2⟩:=F b mb
      obtain ⟨k,hk,mk⟩:=AA.1 ((f m2).subset m1)
      obtain ⟨p1,G,e',p2⟩:=hI.plainD mk
      exact ⟨p1,G,e',by rw [d b m1];exact p2⟩)
    (fun hown=>⟨hm,cs++a,Lx++Ly,by simpa [Gh.turn,upd] using r2,Q,by
     by_cases hd:Zex d1 d2=2
     ·exact .inl ⟨hd,by simp [Gh.turn,upd],by simp [Gh.turn,hd]⟩
     ·have aj:Zex d1 d2=1:=by unfold Zex at hd ⊢;split<;>simp_all<;>omega
      refine .inr (.inl ⟨aj,by simp [Gh.turn,upd],by simp [Gh.turn,hd],fun b mb ho=>?_⟩)
      have H:¬g.own b:=by
       rcases A3.1 mb with m1 | m1
       ·exact a3 b m1
       ·exact b3 b m1
      rcases ZdX ho with mo | ⟨k,_,_,mk⟩ | hz
      ·rcases l b mo with mo | rfl
       ·obtain ⟨k,_,mk⟩:=AA.1 mo
        exact H (.inl ⟨k,mk⟩)
       ·rcases A3.1 mb with m1 | m1
        ·have:=a2.lt _ m1;omega
        ·have:=b1.lt _ m1;omega
      ·exact H (.inl ⟨k,mk⟩)
      ·exact H (.inr hz)⟩)
   have T:=Zh7 (key:=key) (o:=.row e m (xs++ys) (Zex d1 d2)) hU (k1++k2) trivial
   refine ⟨_,v',w',.inl (by subst hq;simp only[Sem.run_bind,r1,Result.andThen_ok,Sem.run_pure]),t1,⟨_,rfl,⟨by simp [Gh.turn,upd],?_⟩⟩,t2,fun y my=>by simp at my;subst my;exact Zij,T.1,T.2⟩
   obtain ⟨A2,cap2,ak⟩:=Q8 r2
   simp [ak,Value.oneCell']
  ·simp at h
 ·simp at h
end
end
section
open Go.RowKit
section
variable {P:Program} {W:QK} {U:Nat→Prop} {key:Nat} {st:St} {g:Gh} {w w':World} {a:Act} {tt:Nat→Option TI}
theorem RCs.dropS:∀{x:List CT} {c:List Value} {L:List Nat} (n:Nat),RCs w x c L→∃L',RCs w (x.drop n) (c.drop n) L'∧L'.Sublist L
 | x,c,L,0,h=>⟨L,by simpa using h,AC _⟩
 | [],c,L,n+1,h=>⟨[],by obtain ⟨rfl,rfl⟩:=h;simp [RCs],AK _⟩
 | x::r,_,_,n+1,⟨v,cs',L1,L2,rfl,rfl,h1,h2⟩=>by
  obtain ⟨L',a1,a2⟩:=RCs.dropS n h2
  exact ⟨L',by simpa using a1,a2.trans (BC L1 L2)⟩
theorem RCs.spliceS [NW] {x:List CT} {c:List Value} {L:List Nat} {ys:List CT} {us:List Value} (h:RCs w x c L) (h':RCs w ys us []):∀(off:Nat),∃L',RCs w (splice x off ys) (splice c off us) L'∧L'.Sublist L:=by
 have hl:us.length=ys.length:=h'.len
 intro off
 induction off generalizing x c L with
 | zero=>
  obtain ⟨L',a1,a2⟩:=h.dropS (0+ys.length)
  refine ⟨[]++L',?_,a2⟩
  simp only[splice,List.take_zero,Ak,hl]
  exact h'.append a1
 | succ off ih=>
  cases x with
  | nil=>
   obtain ⟨rfl,rfl⟩:=h
   refine ⟨[],?_,AK _⟩
   simpa [splice] using h'
  | cons x r=>
   obtain ⟨v,a,L1,L2,rfl,rfl,h1,h2⟩:=h
   obtain ⟨L',a1,a2⟩:=ih h2
   refine ⟨L1++L',?_,AF (AC _) a2⟩
   have e1:splice (x::r) (off+1) ys=x::splice r off ys:=by
    simp only[splice,BE,BF]
    rw [show off+1+ys.length=(off+ys.length)+1 by omega,BG]
   have e2:splice (v::a) (off+1) us=v::splice a off us:=by
    simp only[splice,BE,BF]
    rw [show off+1+us.length=(off+us.length)+1 by omega,BG]
   rw [e1,e2]
   exact ⟨v,_,L1,L',rfl,rfl,h1,a1⟩
theorem ZiC {α:Type} (c1 c2:List α) (off:Nat) (us:List α):splice (c1++c2) (c1.length+off) us=c1++splice c2 off us:=by
 simp only[splice]
 rw [As,AB,AW,AX (Aj _ _),AY]
 simp
theorem Ze2 {α:Type} (c1 c2:List α) (off:Nat) (us:List α) (h:off+us.length≤c1.length):splice (c1++c2) off us=splice c1 off us++c2:=by
 simp only[splice]
 rw [List.take_append_of_le_length yE,BH h]
 simp
theorem REs.set [NW] {m:Nat} {ys:List CT} {us:List Value} (h':RCs w ys us []):∀{xs:List (List CT)} {cs:List Value} {L:List Nat} {i off:Nat} {x:List CT},REs w m xs cs L→xs[i]?=some x→off+us.length≤m→
  ∃L',REs w m (xs.set i (splice x off ys)) (splice cs (i * m+off) us) L'∧L'.Sublist L
 | [],_,_,_,_,_,_,hx,_=>by simp at hx
 | e::r,_,_,0,off,x,⟨c1,c2,L1,L2,rfl,rfl,h3,h4⟩,hx,ho=>by
  simp at hx;subst hx
  obtain ⟨L',a1,a2⟩:=h3.1.spliceS h' off
  refine ⟨L'++L2,?_,AF a2 (AC _)⟩
  rw [Nat.zero_mul,AP,Ze2 _ _ _ _ (by rw [h3.2];exact ho)]
  exact ⟨splice c1 off us,c2,L',L2,rfl,rfl,⟨a1,by rw [ZeJ _ _ _ (by rw [h3.2];exact ho)];exact h3.2⟩,h4⟩
 | e::r,_,_,i+1,off,x,⟨c1,c2,L1,L2,rfl,rfl,h3,h4⟩,hx,ho=>by
  obtain ⟨L',a1,a2⟩:=REs.set h' h4 (i:=i) (off:=off) (x:=x) (by simpa using hx) ho
  refine ⟨L1++L',?_,AF (AC _) a2⟩
  have e:(i+1) * m+off=c1.length+(i * m+off):=by rw [h3.2,A9];omega
  rw [e,ZiC]
  exact ⟨c1,_,L1,L',rfl,rfl,h3,a1⟩
theorem ZmG [NW]:∀{vs:List AV} {ys:List CT} {us:List Value},Zg8 vs=some ys→ZH (AVR g w) vs us→RCs w ys us []
 | [],_,[],h,_=>by simp [Zg8] at h;subst h;exact ⟨rfl,rfl⟩
 | [],_,_::_,_,h=>h.elim
 | _::_,_,[],_,h=>h.elim
 | x::vs,ys,u::us,h,hr=>by
  simp only[Zg8] at h
  obtain ⟨y,h1,h⟩:=A5.1 h
  obtain ⟨b,h2,rfl⟩:=A4.1 h
  have hx:x=.c y∧y.flat=true:=by
   cases x with
   | c z=>cases z<;>simp [Zq6] at h1<;>subst h1<;>exact ⟨rfl,rfl⟩
   | _=>simp [Zq6] at h1
  obtain ⟨rfl,hf⟩:=hx
  obtain ⟨L,hL,_⟩:=hr.1
  have a:L=[]:=by
   cases y with
   | int k n=>exact hL.2
   | bool b=>exact hL.2
   | str s=>exact hL.2.1
   | _=>simp [CT.flat] at hf
  subst a
  exact ⟨u,us,[],[],rfl,rfl,hL,ZmG h2 hr.2⟩
theorem ZsL [NW] (htt:∀t i,tt t=some i→TOk P t i) (hI:HI W g st.ob w) (hU:StU U st) {t k m i off e:Nat} {xs:List (List CT)} {d:Nat} {x ys:List CT} {vs:List AV} {va vv:Value} {ag:Bool} (hk:st.ob k=.row e m xs d) (hd0:¬d=0) (hx:xs[i]?=some x) (hys:Zg8 vs=some ys) (hl:vs.length=Zhl (tt t)) (ho:off+vs.length≤m)
  (ha:SVR g w (.rp k m i off) va) (hv:SVR g w (.p ag vs) vv) (hpos:0<vs.length) {s:Sem Next} (hs:s=(do Instr.storeAt t va vv;pure .skip)):Fin P W U key st g w s (.und,[(k,.row e m (xs.set i (splice x off ys)) d)]):=by
 obtain ⟨b,o,n,c,h1,rfl⟩:=ha
 obtain ⟨hm,cs,L,o1,o2,o3,o4,o5⟩:=hI.deepO hk hd0
 obtain ⟨us,c1,c2⟩:=PVR.cells hv
 have hxl:=c2.len
 have hi:i<xs.length:=(AO.1 hx).1
 rcases o1.2 with ⟨_,hn⟩ | ⟨b',o',cap,cur,hv',hbW,hg,hnc,hcm,hcs,htk⟩
 ·omega
 have hbb:b=b'∧o=o':=by rw [hv'] at h1;simp at h1;exact ⟨h1.1.1.symm,h1.1.2.symm⟩
 obtain ⟨rfl,rfl⟩:=hbb
 have hlt:i * m+off+us.length≤xs.length * m:=by
  have:=Ah m (show i+1≤xs.length by omega)
  rw [A9] at this
  omega
 have hcap:xs.length * m≤cap * m:=Ah m hnc
 have hsize:(sizeOf t).run P w=.ok us.length w:=by
  rw [←hxl,hl]
  unfold Zhl at hl ⊢
  cases hti:tt t with
  | none=>rw [hti] at hl;simp at hl;simp [hl] at hpos
  | some i=>
   cases i with
   | atom z=>obtain ⟨d,zv,i,_,_,h3,_,h4,_⟩:=htt t _ hti;rw [Xp h3,h4]
   | strct fs n z=>obtain ⟨_,i,_,_,h3,h4,_⟩:=htt t _ hti;rw [Xp h3,h4]
   | slice e m b z=>obtain ⟨_,_,_,_,j,h3,h4,_⟩:=htt t _ hti;rw [Xp h3,h4]
   | _=>rw [hti] at hl;simp at hl;simp [hl] at hpos
 have hst:=run_storeCells_at (P:=P) b (o+(i * m+off)) e us 0 cur w hg (by omega) (AVRs.one c2)
 obtain ⟨r1,r2,r3,r4,r5,r6⟩:=Zmq b cur (splice cur.toList (o+(i * m+off)) us).toArray e hg
 have hrun:s.run P w=.ok .skip (w.setRow b (splice cur.toList (o+(i * m+off)) us).toArray):=by
  subst hs
  have e:(cur.toList.take (o+(i * m+off)+0)++us++cur.toList.drop (o+(i * m+off)+0+us.length)).toArray=(splice cur.toList (o+(i * m+off)) us).toArray:=by simp [splice]
  rw [e] at hst
  simp [Instr.storeAt,Instr.sureAddr,storeVar,c1,hsize,hst]
 have hOk:g.O k=[b]:=by rw [o4,hv'];rfl
 have hmv:∀b',b'<w.heap.size→¬g.own b'→(w.setRow b (splice cur.toList (o+(i * m+off)) us).toArray).heap[b']?=w.heap[b']?:=fun b' _ hn=>r2 b' fun e=>hn (.inl ⟨k,by simp [hOk,e]⟩)
 obtain ⟨L',q1,q2⟩:=o2.set (ZmG hys c2) hx (show off+us.length≤m by omega)
 have hown':(w.setRow b (splice cur.toList (o+(i * m+off)) us).toArray).ownsV 0 e m (g.val k) (xs.set i (splice x off ys)).length (splice cs (i * m+off) us):=by
  have hcl:cs.length=xs.length * m:=o1.1
  refine ⟨by rw [ZeJ _ _ _ (by omega),hcl];simp,.inr ⟨b,o,cap,_,by simpa using hv',hbW,r1,by simpa using hnc,hcm,by rw [List.size_toArray,ZeJ _ _ _ (show o+(i * m+off)+us.length≤cur.toList.length by simp;omega)];simpa using hcs,?_⟩⟩
  have h0:((splice cur.toList (o+(i * m+off)) us).toArray.toList).drop o=splice (cur.toList.drop o) (i * m+off) us:=by
   show (splice cur.toList (o+(i * m+off)) us).drop o=_
   unfold splice
   have hto:o≤(cur.toList.take (o+(i * m+off))).length:=by simp;omega
   rw [BH hto,At,AY,List.drop_drop,AB]
  rw [h0]
  have:cur.toList.drop o=cs++(cur.toList.drop o).drop (xs.length * m):=by rw [←htk];exact (List.take_append_drop _ _).symm
  rw [this,Ze2 _ _ _ _ (by omega)]
  have e2:(xs.set i (splice x off ys)).length * m=(splice cs (i * m+off) us).length:=by rw [ZeJ _ _ _ (by omega),hcl];simp
  rw [e2]
  exact Aw rfl
 have hltL:=o2.lt
 have hREs':REs (w.setRow b (splice cur.toList (o+(i * m+off)) us).toArray) m (xs.set i (splice x off ys)) (splice cs (i * m+off) us) L':=q1.keep fun b' mb=>hmv b' (hltL b' (q2.subset mb)) (o3 b' (q2.subset mb))
 let g':Gh:=⟨g.val,g.O,upd g.D k (if d=2 then L' else []),g.Z⟩
 have hgo:∀b',g'.own b'↔g.own b':=fun b'=>Iff.rfl
 have hgr:(∀b'∈g'.D k,b'∈g.D k)→X7 g g' w.heap.size:=fun hs=>.of (fun b' h=>.inl h) fun j b' mb=>by
  by_cases hj:j=k
  ·subst hj;exact .inl (.inr ⟨j,hs b' mb⟩)
  ·exact .inl (.inr ⟨j,by simpa [g',ZI _ _ hj] using mb⟩)
 have hDsub:∀b'∈g'.D k,b'∈g.D k:=fun b' mb=>by
  simp only[g',Zy] at mb
  split at mb
  ·rename_i hd
   rcases o5 with ⟨_,o5⟩ | ⟨o5,_⟩
   ·rw [o5];exact q2.subset mb
   ·omega
  ·simp at mb
 refine ⟨g',undef,_,.inr ⟨hrun,rfl⟩,?_,rfl,fun x u hx hu=>hu.move hx (fun _ _=>rfl) hmv (hgr hDsub) (by omega),trivial,fun q=>?_,fun q hq=>?_⟩
 ·refine hI.step (U:=U) (fun q=>q=k) ?_ rfl (fun b' _ hn=>r2 b' fun e=>hn k rfl (by simp [hOk,e])) (fun q hq=>⟨ZI _ _ hq,rfl,rfl,ZI _ _ hq⟩) hU.ob (fun _ _=>rfl) (hgr hDsub) (fun q hq=>?_)
  ·exact ⟨r4.trans hI.below.os,r5.trans hI.below.tape,r6.trans hI.below.output,by have:=hI.below.size;omega,fun q hq hx'=>by rw [r2 q (fun e=>by subst e;rcases (hI.plain k q (by simp [hOk])).1 with h | h;omega;exact hx' h)];exact hI.below.block q hq hx'⟩
  ·subst hq
   have hmem:∀b'∈g'.O q++g'.D q,b'∈g.O q++g.D q:=fun b' mb=>by
    rcases A3.1 mb with mb | mb
    ·exact A3.2 (.inl mb)
    ·exact A3.2 (.inr (hDsub b' mb))
   refine ⟨?_,?_,fun b' mb=>?_,fun j hj b' mb mj=>?_⟩
   ·simp only[Zk,Zy]
    refine ⟨hm,_,L',hown',hREs',?_⟩
    rcases o5 with ⟨o5,_⟩ | ⟨o5,_⟩
    ·exact .inl ⟨o5,o4,by simp [g',upd,o5]⟩
    ·exact .inr (.inl ⟨o5,o4,by simp [g',upd,o5],fun b' mb=>o3 b' (q2.subset mb)⟩)
   ·have hn:=hI.nodup q
    refine hn.sublist (AF (AC _) ?_)
    simp only[g',Zy]
    split
    ·rename_i hd
     rcases o5 with ⟨_,o5⟩ | ⟨o5,_⟩
     ·rw [o5];exact q2
     ·omega
    ·exact AK _
   ·have hp:=hI.plain q b' (hmem b' mb)
    rw [hk] at hp
    obtain ⟨p1,cur',e',p2⟩:=hp
    refine ⟨p1,?_⟩
    simp only[Zk,Zy]
    show ∃cur e,_=_
    by_cases hb':b'=b
    ·subst hb';exact ⟨_,_,r1⟩
    ·exact ⟨cur',e',by rw [r2 b' hb'];exact p2⟩
   ·have mj':b'∈g.O j++g.D j:=by
     rcases A3.1 mj with mj | mj
     ·exact A3.2 (.inl mj)
     ·simp only[g',ZI _ _ (fun e:j=q=>hj e.symm)] at mj;exact A3.2 (.inr mj)
    exact hI.apart q j hj b' (hmem b' mb) mj'
 ·simp only[Zk,upd]
  split
  ·trivial
  ·exact (hU.ob q).mono fun _=>.inl
 ·simp only[Zk,upd]
  split
  ·rename_i e;subst e
   exact absurd (hU.gone q fun h=>hq (.inl h)) (by simp [hk])
  ·exact hU.gone q fun h=>hq (.inl h)
end
end
section
open Go.RowKit
section
variable {P:Program} {W:QK} {U:Nat→Prop} {key:Nat} {st:St} {g:Gh} {w w':World} {a:Act} {tt:Nat→Option TI}
theorem Zqt [NW] {α:Type} (f:Nat→α) (k:Nat):upd f k (f k)=f:=by
 funext j;by_cases hj:j=k
 ·subst hj;rw [Zy]
 ·rw [ZI _ _ hj]
theorem AVR.less [NW] {g1:Gh} {x:AV} {v:Value} (h:AVR g w x v) (hv:g1.val=g.val) (ho:Y7 g1 g):AVR g1 w x v:=by
 cases x with
 | c x=>obtain ⟨L,h1,h2⟩:=h;exact ⟨L,h1,fun b mb hb=>h2 b mb (ho.own b hb)⟩
 | n x=>exact NR.move h (fun _ _ _=>rfl) (ho.grow _)
 | row k=>exact ⟨h.1.trans (by rw [hv]),h.2⟩
 | nil e m=>exact h
 | dead=>exact h
theorem SVR.less [NW] {g1:Gh} {x:SV} {v:Value} (h:SVR g w x v) (hv:g1.val=g.val) (ho:Y7 g1 g):SVR g1 w x v:=
 h.move (U:=fun _=>True) (by (cases x<;>try trivial);(intro y my;cases y<;>trivial);(intro y my z mz;cases z<;>trivial)) (fun k _=>by rw [hv]) (fun _ _ _=>rfl) (ho.grow _) (A7 _)
theorem ZhF [NW] {ob:Nat→Ob} (hI:HI W g ob w) (k:Nat):∃g1:Gh,HI W g1 (upd ob k (Z4 (ob k))) w∧g1.val=g.val∧Y7 g1 g∧((∃e m xs d,ob k=.row e m xs d)→∀b∈g.O k++g.D k,¬g1.low b):=by
 cases hk:ob k with
 | gone=>exact ⟨g,by rw [show Z4 Ob.gone=ob k from hk.symm,Zqt];exact hI,rfl,Y7.refl _,by simp⟩
 | box t cs=>exact ⟨g,by rw [show Z4 (Ob.box t cs)=ob k from hk.symm,Zqt];exact hI,rfl,Y7.refl _,by simp⟩
 | map kk vk kv=>exact ⟨g,by rw [show Z4 (Ob.map kk vk kv)=ob k from hk.symm,Zqt];exact hI,rfl,Y7.refl _,by simp⟩
 | row e m xs d=>
  obtain ⟨hm,cs,L,o1,o2,o3,o5⟩:=hI.deep hk
  let g1:Gh:=⟨g.val,upd g.O k [],upd g.D k [],g.Z⟩
  have hO:∀j b,b∈g1.O j→j≠k∧b∈g.O j:=fun j b mb=>by
   by_cases hj:j=k
   ·subst hj;simp [g1,upd] at mb
   ·exact ⟨hj,by simpa [g1,upd,hj] using mb⟩
  have hD:∀j b,b∈g1.D j→j≠k∧b∈g.D j:=fun j b mb=>by
   by_cases hj:j=k
   ·subst hj;simp [g1,upd] at mb
   ·exact ⟨hj,by simpa [g1,upd,hj] using mb⟩
  have hOD:∀j b,b∈g1.O j++g1.D j→j≠k∧b∈g.O j++g.D j:=fun j b mb=>by
   rcases A3.1 mb with m1 | m1
   ·exact ⟨(hO j b m1).1,by simp [(hO j b m1).2]⟩
   ·exact ⟨(hD j b m1).1,by simp [(hD j b m1).2]⟩
  have hown:∀b,g1.own b→g.own b:=fun b hb=>by
   rcases hb with ⟨j,mj⟩ | hz
   ·exact .inl ⟨j,(hO j b mj).2⟩
   ·exact .inr hz
  have hless:Y7 g1 g:=.of hown fun j b mb=>⟨j,(hD j b mb).2⟩
  have hnot:∀b∈(g.val k).ownBlock.toList,¬g1.own b:=fun b mb hb=>by
   rcases o5 with ⟨_,q,_⟩ | ⟨_,q,_⟩ | ⟨_,_,_,q⟩
   ·have mk:b∈g.O k++g.D k:=by simp [q,mb]
    rcases hb with ⟨j,mj⟩ | hz
    ·exact hI.apart k j (fun e=>(hO j b mj).1 e.symm) b mk (by simp [(hO j b mj).2])
    ·exact hI.nz mk hz
   ·have mk:b∈g.O k++g.D k:=by simp [q,mb]
    rcases hb with ⟨j,mj⟩ | hz
    ·exact hI.apart k j (fun e=>(hO j b mj).1 e.symm) b mk (by simp [(hO j b mj).2])
    ·exact hI.nz mk hz
   ·exact q b mb (hown b hb)
  refine ⟨g1,⟨hI.below,fun j=>?_,fun j=>?_,fun i j hij b mb mj=>?_,fun j b mb=>?_,hI.gz,hI.zx,hI.nw⟩,rfl,hless,fun _ b mb hb=>?_⟩
  rotate_right
  ·rcases hb with (⟨j,mj⟩ | hz) | ⟨j,mj⟩
   ·exact hI.apart k j (fun e=>(hO j b mj).1 e.symm) b mb (by simp [(hO j b mj).2])
   ·exact hI.nz mb hz
   ·exact hI.apart k j (fun e=>(hD j b mj).1 e.symm) b mb (by simp [(hD j b mj).2])
  ·by_cases hj:j=k
   ·subst hj
    rw [Zy]
    refine ⟨hm,cs,L,o1,o2,.inr (.inr ⟨rfl,by simp [g1,upd],by simp [g1,upd],fun b mb=>?_⟩)⟩
    rcases A3.1 mb with m1 | m1
    ·exact hnot b m1
    ·exact fun hb=>o3 b m1 (hown b hb)
   ·rw [ZI _ _ hj]
    have ho:=hI.obs j
    cases hoj:ob j with
    | gone=>rw [hoj] at ho;exact ⟨by simpa [g1,upd,hj] using ho.1,by simpa [g1,upd,hj] using ho.2⟩
    | box t ds=>
     rw [hoj] at ho
     obtain ⟨b,vs,h1,h2,h3,h4,h5⟩:=ho
     exact ⟨b,vs,h1,by simpa [g1,upd,hj] using h2,by simpa [g1,upd,hj] using h3,h4,h5.mono fun x u _ hx=>AVR.less hx rfl hless⟩
    | map kk vk kv=>
     rw [hoj] at ho
     obtain ⟨b,es,c,h1,h2,h3,h4⟩:=ho
     exact ⟨b,es,c,h1,by simpa [g1,upd,hj] using h2,by simpa [g1,upd,hj] using h3,h4⟩
    | row e' m' xs' d'=>
     rw [hoj] at ho
     obtain ⟨hm',cs',L',p1,p2,p3⟩:=ho
     refine ⟨hm',cs',L',p1,p2,?_⟩
     have e1:g1.O j=g.O j:=by simp [g1,upd,hj]
     have e2:g1.D j=g.D j:=by simp [g1,upd,hj]
     rw [e1,e2]
     rcases p3 with p3 | ⟨q1,q2,q3,q4⟩ | ⟨q1,q2,q3,q4⟩
     ·exact .inl p3
     ·exact .inr (.inl ⟨q1,q2,q3,fun b mb hb=>q4 b mb (hown b hb)⟩)
     ·exact .inr (.inr ⟨q1,q2,q3,fun b mb hb=>q4 b mb (hown b hb)⟩)
  ·by_cases hj:j=k
   ·subst hj;simp [g1,upd]
   ·have:=hI.nodup j;simpa [g1,upd,hj] using this
  ·exact hI.apart i j hij b (hOD i b mb).2 (hOD j b mj).2
  ·rw [ZI _ _ (hOD j b mb).1];exact hI.plain j b (hOD j b mb).2
theorem Zuq [NW] {ob:Nat→Ob} (hI:HI W g ob w) {k t:Nat} {cs:List AV} (hk:ob k=.box t cs):∃g1:Gh,HI W g1 (upd ob k .gone) w∧g1.val=g.val∧Y7 g1 g∧∃b vs,g.val k=.pointer (some ⟨b,0,none⟩)∧¬g1.own b∧b<w.heap.size∧Q9 w b 0 vs∧ZH (AVR g w) cs vs:=by
 have ho:=hI.obs k
 rw [hk] at ho
 obtain ⟨b,vs,h1,h2,h3,h4,h5⟩:=ho
 let g1:Gh:=⟨g.val,upd g.O k [],upd g.D k [],g.Z⟩
 have hO:∀j x,x∈g1.O j++g1.D j→j≠k∧x∈g.O j++g.D j:=fun j x mx=>by
  by_cases hj:j=k
  ·subst hj;simp [g1,upd] at mx
  ·exact ⟨hj,by simpa [g1,upd,hj] using mx⟩
 have a:∀x,g1.own x→g.own x∧x≠b:=fun x hx=>by
  rcases hx with ⟨j,mj⟩ | hz
  ·have:=hO j x (by simp [mj])
   refine ⟨.inl ⟨j,?_⟩,fun e=>?_⟩
   ·have hj:=this.1
    simpa [g1,upd,hj] using mj
   ·subst e
    exact hI.apart j k this.1 x this.2 (by simp [h2])
  ·exact ⟨.inr hz,fun e=>by subst e;exact hI.nz (k:=k) (by simp [h2]) hz⟩
 have d:Y7 g1 g:=.of (fun x hx=>(a x hx).1) fun j b mb=>⟨j,by
  have hj:=(hO j b (by simp [mb])).1
  simpa [g1,upd,hj] using mb⟩
 refine ⟨g1,⟨hI.below,fun j=>?_,fun j=>?_,fun i j f x mx mj=>?_,fun j x mx=>?_,hI.gz,hI.zx,hI.nw⟩,rfl,d,b,vs,h1,fun hb=>(a b hb).2 rfl,(AL.1 h4).1,fun j u hj=>?_,h5⟩
 ·by_cases hj:j=k
  ·subst hj;rw [Zy];exact ⟨by simp [g1,upd],by simp [g1,upd]⟩
  ·rw [ZI _ _ hj]
   have ho:=hI.obs j
   have e1:g1.O j=g.O j:=by simp [g1,upd,hj]
   have e2:g1.D j=g.D j:=by simp [g1,upd,hj]
   cases hoj:ob j with
   | gone=>rw [hoj] at ho;exact ⟨e1.trans ho.1,e2.trans ho.2⟩
   | box t ds=>
    rw [hoj] at ho
    obtain ⟨b,vs,h1,h2,h3,h4,h5⟩:=ho
    exact ⟨b,vs,h1,e1.trans h2,e2.trans h3,h4,h5.mono fun x u _ hx=>AVR.less hx rfl d⟩
   | map kk vk kv=>
    rw [hoj] at ho
    obtain ⟨b,es,c,h1,h2,h3,h4⟩:=ho
    exact ⟨b,es,c,h1,e1.trans h2,e2.trans h3,h4⟩
   | row e' m' xs' d'=>
    rw [hoj] at ho
    obtain ⟨l,m,L',p1,p2,p3⟩:=ho
    refine ⟨l,m,L',p1,p2,?_⟩
    rw [e1,e2]
    rcases p3 with p3 | ⟨q1,q2,q3,q4⟩ | ⟨q1,q2,q3,q4⟩
    ·exact .inl p3
    ·exact .inr (.inl ⟨q1,q2,q3,fun b mb hb=>q4 b mb (a b hb).1⟩)
    ·exact .inr (.inr ⟨q1,q2,q3,fun b mb hb=>q4 b mb (a b hb).1⟩)
 ·by_cases hj:j=k
  ·subst hj;simp [g1,upd]
  ·have:=hI.nodup j;simpa [g1,upd,hj] using this
 ·exact hI.apart i j f x (hO i x mx).2 (hO j x mj).2
 ·rw [ZI _ _ (hO j x mx).1];exact hI.plain j x (hO j x mx).2
 ·rw [AP,cell_of_row w b j vs.toArray t (0,0) h4];simpa using hj
theorem ZoZ [NW] {ob:Nat→Ob} (hI:HI W g ob w) {k e m:Nat} {xs:List (List CT)} (hk:ob k=.row e m xs 0):∃L,RC w (.sl e m xs) (g.val k) L∧∀b∈L,¬g.own b:=by
 obtain ⟨hm,cs,L1,o1,o2,o3,o5⟩:=hI.deep hk
 obtain ⟨A,cap,L0,s1,s2,s3,s4,s5⟩:=Sl.row o1
 refine ⟨L0++L1,⟨A,cap,cs,L0,L1,s1,s2,s3,rfl,hm,s4,o2⟩,fun b mb=>?_⟩
 rcases A3.1 mb with m1 | m1
 ·rcases o5 with ⟨q,_⟩ | ⟨q,_⟩ | ⟨_,_,_,q⟩
  ·omega
  ·omega
  ·exact q b (s5.subset m1)
 ·exact o3 b m1
theorem REs.dropS {m:Nat}:∀{xs:List (List CT)} {cs:List Value} {L:List Nat} (l:Nat),REs w m xs cs L→∃L',REs w m (xs.drop l) (cs.drop (l * m)) L'∧L'.Sublist L
 | xs,cs,L,0,h=>⟨L,by simpa using h,AC _⟩
 | [],cs,L,l+1,h=>⟨[],by obtain ⟨rfl,rfl⟩:=h;simp [REs],AK _⟩
 | x::r,_,_,l+1,⟨c1,c2,L1,L2,rfl,rfl,h3,h4⟩=>by
  obtain ⟨L',h5,h6⟩:=REs.dropS l h4
  refine ⟨L',?_,h6.trans (BC _ _)⟩
  have e:(l+1) * m=c1.length+l * m:=by rw [h3.2,A9];omega
  have e2:(c1++c2).drop (c1.length+l * m)=c2.drop (l * m):=by
   rw [AW,AX (Aj _ _),Ak,AY]
  rw [e,e2]
  simpa using h5
theorem Zth [NW] (htt:∀t i,tt t=some i→TOk P t i) (hI:HI W g st.ob w) (hU:StU U st) (c:¬U key) {t k e m d l:Nat} {xs:List (List CT)} (hk:st.ob k=.row e m xs d) (E:¬d=0) (a:ZiK (tt t)=m) {lo:Option SV} {vx:Value} {vlo:Option Value} (hl:loB xs.length lo=some l) (hx:SVR g w (.p false [.row k]) vx)
  (F:Zkq g w lo vlo) {s:Sem Next} (hs:s=(do pure (.value (←Instr.sliceAt t vx vlo none none)))):Fin P W U key st g w s (.p false [.row key],[(k,.gone),(key,.row e m (xs.drop l) d)]):=by
 obtain ⟨hm,cs,L,o1,o2,o3,o4,o5⟩:=hI.deepO hk E
 have hv:=ZeK hx
 subst hv
 obtain ⟨A,cap,hv,G,hcm⟩:=ZcS o1
 obtain ⟨b1,b2,_⟩:=Zho (P:=P) (w:=w) (g:=g) (b:=true) (len:=xs.length) (cap:=cap) (h:=xs.length) (hi:=none) (vhi:=none) rfl hl F trivial G
 obtain ⟨e',b',z',H⟩:∃e' b' z',tt t=some (.slice e' m b' z'):=by
  unfold ZiK at a
  split at a
  ·rename_i h1;subst a;exact ⟨_,_,_,h1⟩
  ·omega
 obtain ⟨hu,_,_,⟨ie,zv,I,J,_⟩,_⟩:=htt t _ H
 have hO:g.O k=(Value.slice A xs.length cap).ownBlock.toList:=by rw [o4,hv]
 have f:=o1
 rw [hv] at f
 obtain ⟨t1,t2⟩:=Zqw (l:=l) f b2
 generalize hw:(Value.slice (if cap=l then A else A.map (·.add (l * m))) (xs.length - l) (cap - l))=v' at t1 t2
 have u:s.run P w=.ok (.value v') w:=by
  subst hs
  have:(Instr.sliceAt t (.slice A xs.length cap) vlo none none).run P w=.ok v' w:=by
   rw [←hw]
   simp [Instr.sliceAt,Yh hu,Instr.slice,b1,Xp I,J]
  rw [hv]
  simp only[Sem.run_bind,this,Result.andThen_ok,Sem.run_pure]
 obtain ⟨M,r1,r2⟩:=o2.dropS l
 have K:U k:=Classical.byContradiction fun hn=>by have:=hU.gone _ hn;rw [hk] at this;simp at this
 have x:∀b∈(if d=2 then M else []),b∈g.D k:=fun b mb=>by
  split at mb
  ·rename_i hd
   rcases o5 with ⟨_,q⟩ | ⟨q,_⟩
   ·rw [q];exact r2.subset mb
   ·omega
  ·simp at mb
 have z:(xs.drop l).length=xs.length - l:=by simp
 obtain ⟨i1,i2⟩:=hI.turn (key:=key) (U:=U) (w':=w) (v:=v') (O:=v'.ownBlock.toList) (D:=if d=2 then M else []) (o:=.row e m (xs.drop l) d) hU.ob c [k]
  (fun j mj=>by simp at mj;subst mj;exact K) hI.below (A7 _) (fun b hb hn=>rfl)
  (fun b mb=>.inl ⟨k,yG,by rw [hO,←t2];exact mb⟩)
  (fun b mb=>.inl ⟨k,yG,A3.2 (.inr (x b mb))⟩)
  (by
   have hn:=hI.nodup k
   refine hn.sublist (AF (by rw [hO,←t2];exact AC _) ?_)
   split
   ·rename_i hd
    rcases o5 with ⟨_,q⟩ | ⟨q,_⟩
    ·rw [q];exact r2
    ·omega
   ·exact AK _)
  (fun b mb=>by
   have B:b∈g.O k++g.D k:=by
    rcases A3.1 mb with mb | mb
    ·exact A3.2 (.inl (by rw [hO,←t2];exact mb))
    ·exact A3.2 (.inr (x b mb))
   obtain ⟨p1,p2⟩:=hI.plain k b B
   exact ⟨p1,p2.of (by rw [hk];rfl)⟩)
  (fun hown=>⟨hm,cs.drop (l * m),M,by simp only[Gh.turn,Zy];rw [z];exact t1,r1,by
   rcases o5 with ⟨q,_⟩ | ⟨q,_⟩
   ·exact .inl ⟨q,by simp [Gh.turn,Zy],by simp [Gh.turn,q]⟩
   ·refine .inr (.inl ⟨q,by simp [Gh.turn,Zy],by simp [Gh.turn,q],fun b mb ho=>?_⟩)
    rcases ZdX ho with mo | ⟨j,_,_,mj⟩ | hz
    ·exact o3 b (r2.subset mb) (.inl ⟨k,by rw [hO,←t2];exact mo⟩)
    ·exact o3 b (r2.subset mb) (.inl ⟨j,mj⟩)
    ·exact o3 b (r2.subset mb) (.inr hz)⟩)
 have C:=Zh7 (key:=key) (o:=.row e m (xs.drop l) d) hU [k] trivial
 refine ⟨_,v',w,.inl u,i1,⟨_,rfl,⟨by simp [Gh.turn,Zy],?_⟩⟩,i2,fun y my=>by simp at my;subst my;exact Zij,C.1,C.2⟩
 rw [←hw]
 simp [Value.oneCell']
theorem Zso [NW] (htt:∀t i,tt t=some i→TOk P t i) (hI:HI W g st.ob w) (hU:StU U st) (o:¬U key) {t:Nat} {x:SV} {r:SV × List (Nat × Ob)} {lo hi:Option SV} {vx:Value} {vlo vhi:Option Value} (h:Qi st key (tt t) lo hi x=some r) (hx:SVR g w x vx)
  (a:Zkq g w lo vlo) (b:Zkq g w hi vhi) {s:Sem Next} (hs:s=(do pure (.value (←Instr.sliceAt t vx vlo vhi none)))):Fin P W U key st g w s r:=by
 unfold Qi at h
 split at h
 ·rename_i k
  split at h
  rotate_left
  ·simp at h
  split at h
  ·rename_i e m xs d hk
   split at h
   ·rename_i u
    split at h
    ·rename_i f
     obtain ⟨l,hl,rfl⟩:=A4.1 h
     unfold mvS at f
     split at f
     ·have A:¬d=0:=fun e=>by subst e;simp at f
      cases vhi with
      | some _=>exact b.elim
      | none=>exact Zth htt hI hU o hk A u hl hx a hs
     ·simp at f
    obtain ⟨q,hq,h⟩:=A5.1 h
    obtain ⟨l,hl,rfl⟩:=A4.1 h
    obtain ⟨g1,i1,i2,i3,_⟩:=ZhF hI k
    rw [hk] at i1
    obtain ⟨L,t1,t2⟩:=ZoZ i1 (Zy st.ob k (.row e m xs 0))
    have B:vx=g1.val k:=by rw [i2];exact ZeK hx
    have C:SVR g1 w (.p false [.c (.sl e m xs)]) vx:=⟨_,rfl,L,B ▸ t1,t2⟩
    have D:Zkq g1 w lo vlo:=by
     cases lo<;>cases vlo<;>simp only[Zkq] at a ⊢
     exact a.less i2 i3
    have E:Zkq g1 w hi vhi:=by
     cases hi<;>cases vhi<;>simp only[Zkq] at b ⊢
     exact b.less i2 i3
    obtain ⟨cv,c1,c2,c3⟩:=Zor (t:=t) (U:=U) (g:=g1) (P:=P) (x:=.p false [.c (.sl e m xs)]) (v:=.p false [.c (.sl e m ((xs.take q).drop l))]) htt (by simp only[ZkW,u,if_true,hq,hl,Option.bind_some,AT]) C D E
    have F:U k:=Classical.byContradiction fun hn=>by have:=hU.gone _ hn;rw [hk] at this;simp at this
    refine ⟨g1,cv,w,.inl (by rw [hs];simp only[Sem.run_bind,c1,Result.andThen_ok,Sem.run_pure]),i1,c2,fun y v _ hy=>hy.less i2 i3,c3.mono fun _=>.inl,fun j=>?_,fun j hj=>?_⟩
    ·show obU _ (upd st.ob k (.row e m xs 0) j)
     by_cases z:j=k
     ·subst z;rw [Zy];trivial
     ·rw [ZI _ _ z];exact (hU.ob j).mono fun _=>.inl
    ·show upd st.ob k (.row e m xs 0) j=_
     rw [ZI _ _ (show j≠k from fun e=>hj (.inl (e ▸ F)))];exact hU.gone j fun h=>hj (.inl h)
   ·simp at h
  ·simp at h
 ·obtain ⟨v,hv,rfl⟩:=A4.1 h
  obtain ⟨cv,c1,c2,c3⟩:=Zor (U:=U) htt hv hx a b
  exact QY hI hU (by rw [hs];simp only[Sem.run_bind,c1,Result.andThen_ok,Sem.run_pure]) c2 c3
 ·simp at h
end
end
section
open Go.RowKit Go.MapKept
theorem Zlo {kk:PK} {d:TypeDesc} {k:Value} (hd:Zc4 kk d=true) (hk:Zgw kk k):IsKey d k:=by
 cases kk<;>cases d<;>simp [Zc4] at hd<;>cases k<;>simp_all [Zgw,IsKey]
theorem Zrf {kk:PK} {a b:Value} (ha:Zgw kk a) (hb:Zgw kk b):vEq a b=true↔a=b:=by
 cases kk<;>cases a<;>simp [Zgw] at ha<;>cases b<;>simp [Zgw] at hb<;>simp_all [vEq,sEq]
theorem Zg1 [NW] {kk vk:PK} {d:TypeDesc} {k:Value} (hd:Zc4 kk d=true) (hk:Zgw kk k):∀(l:List MapEntry) (i:Nat),Zib kk vk (l.map fun e=>(e.key,e.val))→
  (Instr.findNow d k l i=some none∧Zjs (l.map fun e=>(e.key,e.val)) k=none∧∀v,Zd6 (l.map fun e=>(e.key,e.val)) k v=(l.map fun e=>(e.key,e.val))++[(k,v)])∨
  ∃j e,Instr.findNow d k l i=some (some (i+j,e.val))∧l[j]?=some e∧e.key=k∧Zjs (l.map fun e=>(e.key,e.val)) k=some e.val∧Zgw vk e.val∧∀v,Zd6 (l.map fun e=>(e.key,e.val)) k v=(l.modify j fun e=>{ e with key:=k,val:=v }).map fun e=>(e.key,e.val)
 | [],i,_=>.inl ⟨rfl,rfl,fun _=>rfl⟩
 | e::l,i,h=>by
  have he:=h (e.key,e.val) yG
  obtain ⟨r,hr,b⟩:=sameNow_of_keys (Zlo hd hk) (Zlo hd he.1)
  cases r with
  | true=>
   have c:=b.1 rfl
   have hv:vEq k e.key=true:=(Zrf hk he.1).2 c
   exact .inr ⟨0,e,by simp [Instr.findNow,hr],rfl,c.symm,by simp [Zjs,hv],he.2,fun v=>by simp [Zd6,hv]⟩
  | false=>
   have a:¬vEq k e.key=true:=fun q=>by have:=b.2 ((Zrf hk he.1).1 q);cases this
   rcases Zg1 hd hk l (i+1) (fun p m=>h p (by simp only[AU,A8];exact .inr m)) with ⟨h1,h2,h3⟩ | ⟨j,e',h1,h2,h3,h4,h5,h6⟩
   ·exact .inl ⟨by simp [Instr.findNow,hr,h1],by simp [Zjs,a,h2],fun v=>by simp [Zd6,a,h3]⟩
   ·exact .inr ⟨j+1,e',by simp [Instr.findNow,hr,h1];omega,by simpa using h2,h3,by simp [Zjs,a,h4],h5,fun v=>by simp [Zd6,a,h6]⟩
section
variable {P:Program} {W:QK} {U:Nat→Prop} {key:Nat} {st:St} {g:Gh} {w w':World} {a:Act} {tt:Nat→Option TI}
theorem Zx2 [NW] {vk:PK} {v:Value} (h:Zgw vk v):AVR g w (avV v) v:=by
 cases vk<;>cases v<;>simp [Zgw] at h<;>first | exact ⟨[],⟨rfl,rfl⟩,by simp⟩ | exact ⟨[],⟨rfl,rfl,h⟩,by simp⟩
theorem ZAC (v:Value):avU U (avV v):=by cases v<;>trivial
theorem Znk [NW] {kk:PK} {x:SV} {v k:Value} (h:Zrz kk x=some k) (hx:SVR g w x v):v=k∧Zgw kk k:=by
 unfold Zrz at h
 split at h
 ·split at h<;>simp only[A0,reduceCtorEq] at h
  rename_i e;subst e h
  exact ⟨Za1 hx,rfl⟩
 ·simp only[A0] at h;subst h
  exact ⟨(Zhm hx).1,(Zhm hx).2⟩
 ·simp only[A0] at h;subst h
  exact ⟨ZeW hx,trivial⟩
 ·simp at h
theorem Zks (htt:∀t i,tt t=some i→TOk P t i) {t:Nat} {kk vk:PK} (h:ZdE kk vk (tt t)=true):TOk P t (.map kk vk):=by
 unfold ZdE at h
 split at h
 ·rename_i a b c
  simp only[AG,decide_eq_true_eq] at h
  rw [h.1,h.2] at c
  exact htt _ _ c
 ·simp at h
theorem ZrT [NW] {vk:PK} {zv:Value} (h:QV (ZdG vk) zv=true):AVR g w (ZdG vk) zv∧avU U (ZdG vk):=by
 refine ⟨Zep h,?_⟩
 cases vk<;>trivial
theorem ZpQ [NW] (htt:∀t i,tt t=some i→TOk P t i) {t:Nat} {kk vk:PK} {kv:List (Value × Value)} {i v:SV} {vi:Value} {ok:Bool} {b c:Nat} {es:Array MapEntry} (hm:ZdE kk vk (tt t)=true) (h:ZpB kk vk kv i ok=some v) (hi:SVR g w i vi) (hb:w.heap[b]?=some (.map es c)) (m:Zc2 es=kv) (o:Zib kk vk kv):
  ∃cv,(Instr.lookup t (.map (some b)) vi ok).run P w=.ok cv w∧SVR g w v cv∧svU U v:=by
 obtain ⟨kt,et,dk,dv,inf,zv,h1,h2,h3,h4,h5,h6,h7,h8⟩:=Zks htt hm
 unfold ZpB at h
 obtain ⟨k,hk,rfl⟩:=A4.1 h
 obtain ⟨rfl,d⟩:=Znk hk hi
 subst m
 have hz:=ZrT (g:=g) (w:=w) (U:=U) h8
 have q:(zeroValue et).run P w=.ok zv w:=Zhp h6 h7
 have key:∃r:Option (Nat × Value),(Instr.findKey kt vi es.toList).run P w=.ok r w∧(match r with | some p=>Zjs (Zc2 es) vi=some p.2∧Zgw vk p.2 | none=>Zjs (Zc2 es) vi=none):=by
  rcases Zg1 h3 d es.toList 0 o with ⟨f1,f2,_⟩ | ⟨j,e,f1,f2,f3,f4,f5,_⟩
  ·exact ⟨none,run_findKey h2 f1,f2⟩
  ·exact ⟨some _,run_findKey h2 f1,f4,f5⟩
 obtain ⟨r,hr,a⟩:=key
 have f:(Instr.checkKey es.isEmpty 10000 kt vi).run P w=.ok () w:=run_checkKey (P:=P) (w:=w) h2 (Zlo h3 d) es.isEmpty 9999
 have hg:(getObj b).run P w=.ok (.map es c) w:=by simp [getObj,Sem.run,hb]
 have l:∃rv rb,(Instr.lookup t (.map (some b)) vi ok).run P w=.ok (if ok then .tuple #[rv,.bool rb] else rv) w∧AVR g w (ZaV (Zc2 es) vi (ZdG vk)) rv∧avU U (ZaV (Zc2 es) vi (ZdG vk))∧ZdR (Zc2 es) vi=rb:=by
  cases r with
  | none=>
   simp only at a
   refine ⟨zv,false,?_,by simp only[ZaV,a];exact hz.1,by simp only[ZaV,a];exact hz.2,by simp [ZdR,a]⟩
   unfold Instr.lookup
   simp only[Sem.run_bind,Yh h1,Result.andThen_ok,hg,Sem.run_pure,f,hr,q]
  | some p=>
   simp only at a
   refine ⟨p.2,true,?_,by simp only[ZaV,a.1];exact Zx2 a.2,by simp only[ZaV,a.1];exact ZAC _,by simp [ZdR,a.1]⟩
   unfold Instr.lookup
   simp only[Sem.run_bind,Yh h1,Result.andThen_ok,hg,Sem.run_pure,f,hr]
 obtain ⟨rv,rb,q1,q2,q3,q4⟩:=l
 refine ⟨_,q1,?_,?_⟩
 ·cases ok with
  | true=>exact ⟨[rv,.bool rb],rfl,⟨_,rfl,q2⟩,⟨_,rfl,[],⟨by rw [q4],rfl⟩,yG⟩,trivial⟩
  | false=>exact ⟨_,rfl,q2⟩
 ·cases ok with
  | true=>
   intro y my
   simp only[A8,List.not_mem_nil,or_false] at my
   rcases my with rfl | rfl
   ·intro z mz;simp at mz;subst mz;exact q3
   ·intro z mz;simp at mz;subst mz;trivial
  | false=>intro z mz;simp at mz;subst mz;exact q3
theorem ZuJ [NW] (htt:∀t i,tt t=some i→TOk P t i) (hI:HI W g st.ob w) {t:Nat} {x i v:SV} {vx vi:Value} {ok:Bool} (h:Zfb st (tt t) x i ok=some v) (hx:SVR g w x vx) (hi:SVR g w i vi):
  ∃cv,(Instr.lookup t vx vi ok).run P w=.ok cv w∧SVR g w v cv∧svU U v:=by
 unfold Zfb at h
 split at h
 ·rename_i k
  split at h
  ·rename_i kk vk kv hk
   split at h
   ·rename_i hm
    have hv:=ZeK hx
    have ho:=hI.obs k
    rw [hk] at ho
    obtain ⟨b,es,c,h1,_,_,h4,h5,h6⟩:=ho
    rw [hv,h1]
    exact ZpQ htt hm h hi h4 h5 h6
   ·simp at h
  ·simp at h
 ·rename_i kk vk kv
  split at h
  ·rename_i hm
   obtain ⟨y,hy,hx⟩:=hx
   simp at hy;subst hy
   obtain ⟨L,⟨b,es,c,rfl,h4,h5,h6,_⟩,_⟩:=hx
   exact ZpQ htt hm h hi h4 h5 h6
  ·simp at h
 ·simp at h
theorem ZwM [NW] (htt:∀t i,tt t=some i→TOk P t i) (hI:HI W g st.ob w) (hU:StU U st) (c:¬U key) {t:Nat} {r:SV × List (Nat × Ob)} (h:Zl6 key (tt t)=some r) {s:Sem Next} (hs:s=(do pure (.value (←Instr.makeMap t none)))):Fin P W U key st g w s r:=by
 unfold Zl6 at h
 split at h
 ·rename_i kk vk hti
  simp only[A0] at h;subst h
  have d:s.run P w=.ok (.value (.map (some w.heap.size))) (w.alloc (.map #[] 0)):=by
   subst hs
   have h0:(Instr.makeMap t none).run P w=.ok (.map (some w.heap.size)) (w.alloc (.map #[] 0)):=rfl
   simp only[Sem.run_bind,h0,Result.andThen_ok,Sem.run_pure]
  have hb:Below w.heap.size w (w.alloc (.map #[] 0)):=(Below.refl _ _).alloc (A7 _) _
  have a:=heap_alloc_new w (.map #[] 0)
  obtain ⟨h1,h2⟩:=hI.turn (key:=key) (U:=U) (w':=w.alloc (.map #[] 0)) (v:=.map (some w.heap.size)) (O:=[w.heap.size]) (D:=[]) (o:=.map kk vk []) hU.ob c [] yG
   (hI.below.trans hb) hb.size (fun b f _=>hb.block b f) yG yG yG (fun b mb=>by
    simp at mb;subst mb
    exact ⟨.inl hI.below.size,_,_,a⟩)
   (fun _=>⟨w.heap.size,#[],0,by simp [Gh.turn,upd],by simp [Gh.turn,upd],by simp [Gh.turn,upd],a,rfl,fun _ m=>by simp at m⟩)
  have e:=Zh7 (key:=key) (o:=.map kk vk []) hU [] trivial
  exact ⟨_,_,_,.inl d,h1,⟨_,rfl,⟨by simp [Gh.turn,upd],by simp [Value.oneCell']⟩⟩,h2,fun y my=>by simp at my;subst my;exact Zij,e.1,e.2⟩
 ·simp at h
theorem Zvp [NW] (htt:∀t i,tt t=some i→TOk P t i) {t:Nat} {kk vk:PK} {kv:List (Value × Value)} {k v:Value} {b c:Nat} {es:Array MapEntry} (hm:ZdE kk vk (tt t)=true) (hk:Zgw kk k) (hv:Zgw vk v) (hb:w.heap[b]?=some (.map es c)) (x:Zc2 es=kv) (d:Zib kk vk kv):
  ∃f c',(Instr.mapUpdate t (.map (some b)) k v).run P w=.ok () { w with heap:=w.heap.setIfInBounds b (.map f c') }∧Zc2 f=Zd6 kv k v∧Zib kk vk (Zd6 kv k v):=by
 obtain ⟨kt,et,dk,dv,inf,zv,h1,h2,h3,h4,h5,h6,h7,h8⟩:=Zks htt hm
 subst x
 have g:(Instr.checkKey false 10000 kt k).run P w=.ok () w:=run_checkKey (P:=P) (w:=w) h2 (Zlo h3 hk) false 9999
 have hg:(getObj b).run P w=.ok (.map es c) w:=by simp [getObj,Sem.run,hb]
 have l:∀o,(setObj b o).run P w=.ok () { w with heap:=w.heap.setIfInBounds b o }:=fun o=>by simp [setObj,Sem.run,hb]
 have a:∀{kv:List (Value × Value)},Zib kk vk kv→Zib kk vk (Zd6 kv k v):=fun {kv}=>by
  induction kv with
  | nil=>intro _ p m;simp [Zd6] at m;subst m;exact ⟨hk,hv⟩
  | cons q r ih=>
   intro h p m
   simp only[Zd6] at m
   split at m
   ·rcases A8.1 m with rfl | m
    ·exact ⟨hk,hv⟩
    ·exact h p (by simp [m])
   ·rcases A8.1 m with rfl | m
    ·exact h p yG
    ·exact ih (fun q mq=>h q (by simp [mq])) p m
 rcases Zg1 h3 hk es.toList 0 d with ⟨f1,_,f2⟩ | ⟨j,e,f1,f2,f3,_,_,f4⟩
 ·refine ⟨es.push { key:=k,val:=v,born:=c },c+1,?_,?_,a d⟩
  ·have hf:=run_findKey (P:=P) (w:=w) h2 f1
   unfold Instr.mapUpdate
   simp only[Sem.run_bind,Yh h1,Result.andThen_ok,hg,g,hf,l]
  ·rw [show Zd6 (Zc2 es) k v=_ from f2 v];simp [Zc2]
 ·rw [AP] at f1
  have hf:=run_findKey (P:=P) (w:=w) h2 f1
  have hj:es[j]?=some e:=by simpa using f2
  have u:(Instr.keyThatStays k k).run P w=.ok k w:=run_keyThatStays (Zlo h3 hk)
  refine ⟨es.modify j fun e=>{ e with key:=k,val:=v },c,?_,?_,a d⟩
  ·unfold Instr.mapUpdate
   simp only[Sem.run_bind,Yh h1,Result.andThen_ok,hg,g,hf,l,hj,AT,Option.getD_some,f3,u]
  ·rw [show Zd6 (Zc2 es) k v=_ from f4 v];simp [Zc2]
theorem ZxO [NW] (htt:∀t i,tt t=some i→TOk P t i) (hI:HI W g st.ob w) (hU:StU U st) {t:Nat} {x i v:SV} {u:List (Nat × Ob)} {vx vi vv:Value} (h:Zsw st (tt t) x i v=some u) (hx:SVR g w x vx) (hi:SVR g w i vi) (hv:SVR g w v vv) {s:Sem Next} (hs:s=(do Instr.mapUpdate t vx vi vv;pure .skip)):Fin P W U key st g w s (.und,u):=by
 unfold Zsw at h
 split at h
 ·rename_i k
  split at h
  ·rename_i kk vk kv hk
   split at h
   ·rename_i hm
    obtain ⟨a,ha,h⟩:=A5.1 h
    obtain ⟨b',o,rfl⟩:=A4.1 h
    obtain ⟨rfl,p⟩:=Znk ha hi
    obtain ⟨rfl,y⟩:=Znk o hv
    have z:=ZeK hx
    have ho:=hI.obs k
    rw [hk] at ho
    obtain ⟨b,es,c,h1,h2,h3,h4,h5,h6⟩:=ho
    obtain ⟨d,c',r1,r2,r3⟩:=Zvp (w:=w) htt hm p y h4 h5 h6
    have f:s.run P w=.ok .skip { w with heap:=w.heap.setIfInBounds b (.map d c') }:=by
     rw [hs,z,h1];simp only[Sem.run_bind,r1,Result.andThen_ok,Sem.run_pure]
    obtain ⟨q1,q2⟩:=heap_set (o':=.map d c') h4
    have hlt:b<w.heap.size:=(AL.1 h4).1
    have j:({ w with heap:=w.heap.setIfInBounds b (.map d c') }:World).heap.size=w.heap.size:=by simp
    have l:W.heap.size≤b∨W.x b:=(hI.plain k b (by simp [h2])).1
    have A:U k:=Classical.byContradiction fun hn=>by have:=hU.gone _ hn;rw [hk] at this;simp at this
    have B:∀b',b'<w.heap.size→¬g.own b'→({ w with heap:=w.heap.setIfInBounds b (.map d c') }:World).heap[b']?=w.heap[b']?:=fun b' _ hn=>q2 b' fun e=>hn (.inl ⟨k,by simp [h2,e]⟩)
    refine ⟨g,undef,_,.inr ⟨f,rfl⟩,?_,rfl,fun x u hx hu=>hu.move hx (fun _ _=>rfl) B (X7.refl _ _) (Nat.le_of_eq j.symm),trivial,fun q=>?_,fun q hq=>?_⟩
    ·refine hI.step (U:=U) (fun q=>q=k) ?_ rfl (fun b' _ hn=>q2 b' fun e=>hn k rfl (by simp [h2,e])) (fun q hq=>⟨ZI _ _ hq,rfl,rfl,rfl⟩) hU.ob (fun _ _=>rfl) (X7.refl _ _) (fun q hq=>?_)
     ·exact ⟨hI.below.os,hI.below.tape,hI.below.output,AI hI.below.size (Nat.le_of_eq j.symm),fun q hq hx=>by
       show (w.heap.setIfInBounds b (.map d c'))[q]?=_
       rw [q2 q (fun e=>by subst e;rcases l with h | h;omega;exact hx h)];exact hI.below.block q hq hx⟩
     ·subst hq
      refine ⟨?_,hI.nodup q,fun b' m=>?_,hI.apart q⟩
      ·simp only[Zk,Zy]
       exact ⟨b,d,c',h1,h2,h3,q1,r2,r3⟩
      ·simp [h2,h3] at m
       subst m
       refine ⟨l,?_⟩
       simp only[Zk,Zy]
       exact ⟨_,_,q1⟩
    ·simp only[Zk,upd]
     split
     ·trivial
     ·exact (hU.ob q).mono fun _=>.inl
    ·simp only[Zk,upd]
     split
     ·rename_i e;subst e;exact absurd (.inl A) hq
     ·exact hU.gone q fun h=>hq (.inl h)
   ·simp at h
  ·simp at h
 ·simp at h
theorem Zre [NW]:∀{cs:List AV} {l:List CT} {vs:List Value},Zhy.zBox cs=some l→ZH (AVR g w) cs vs→∃L,RCs w l vs L∧∀b∈L,¬g.own b
 | [],l,[],h,_=>by simp [Zhy.zBox] at h;subst h;exact ⟨[],⟨rfl,rfl⟩,yG⟩
 | [],_,_::_,_,h=>h.elim
 | _::_,_,[],_,h=>h.elim
 | x::r,l,v::vs,h,hr=>by
  cases x with
  | c x=>
   simp only[Zhy.zBox] at h
   obtain ⟨b,hb,rfl⟩:=A4.1 h
   obtain ⟨L,h1,h2⟩:=Zre hb hr.2
   obtain ⟨L0,h3,h4⟩:=hr.1
   refine ⟨L0++L,⟨v,vs,L0,L,rfl,rfl,h3,h1⟩,fun b mb=>?_⟩
   rcases A3.1 mb with m | m
   ·exact h4 b m
   ·exact h2 b m
  | _=>simp [Zhy.zBox] at h
theorem Zsz {x:SV} {r:CT × List (Nat × Ob)} (h:Zhy st x=some r):(∀p∈r.2,p.2=Ob.gone∧∃t cs,st.ob p.1=.box t cs):=by
 unfold Zhy at h
 split at h
 ·split at h
  ·rename_i k _ t cs hk
   obtain ⟨l,_,rfl⟩:=A4.1 h
   intro p mp;simp at mp;subst mp
   exact ⟨rfl,t,cs,hk⟩
  ·simp at h
 ·simp only[A0] at h;subst h;intro p mp;simp at mp
 ·simp at h
theorem Zvl [NW] {ob:Nat→Ob} (hI:HI W g ob w) {x:SV} {r:CT × List (Nat × Ob)} {v:Value} (h:Zhy st x=some r) (a:∀p∈r.2,ob p.1=st.ob p.1) (hx:SVR g w x v):
  ∃g1:Gh,HI W g1 (Zk ob r.2) w∧g1.val=g.val∧Y7 g1 g∧∃L,RC w r.1 v L∧∀b∈L,¬g1.own b:=by
 unfold Zhy at h
 split at h
 ·rename_i k
  split at h
  ·rename_i t cs hk
   obtain ⟨l,hl,rfl⟩:=A4.1 h
   have c:ob k=.box t cs:=(a (k,.gone) yG).trans hk
   obtain ⟨g1,i1,i2,i3,b,vs,j1,j2,j3,j4,j5⟩:=Zuq hI c
   obtain ⟨L,l1,l2⟩:=Zre hl j5
   obtain ⟨b',e1,rfl⟩:=hx
   rw [j1] at e1
   simp at e1
   subst e1
   refine ⟨g1,i1,i2,i3,b::L,⟨b,vs,L,rfl,j3,rfl,j4,l1⟩,fun x mx=>?_⟩
   rcases A8.1 mx with rfl | mx
   ·exact j2
   ·exact fun hx=>l2 x mx (i3.own x hx)
  ·simp at h
 ·simp only[A0] at h;subst h
  obtain ⟨y,hy,hx⟩:=hx
  simp at hy;subst hy
  obtain ⟨L,h1,h2⟩:=hx
  exact ⟨g,hI,rfl,Y7.refl _,L,h1,h2⟩
 ·simp at h
theorem Zo7 [NW]:∀{xs:List SV} {ob:Nat→Ob} {g:Gh} {r:List CT × List (Nat × Ob)} {vs:List Value},HI W g ob w→ZdD st xs=some r→(r.2.map (·.1)).Nodup→(∀p∈r.2,ob p.1=st.ob p.1)→ZH (SVR g w) xs vs→
  ∃g1:Gh,HI W g1 (Zk ob r.2) w∧g1.val=g.val∧Y7 g1 g∧∃L,RCs w r.1 vs L∧∀b∈L,¬g1.own b
 | [],ob,g,r,vs,hI,h,_,_,hr=>by
  simp [ZdD] at h;subst h
  cases vs with
  | nil=>exact ⟨g,hI,rfl,Y7.refl _,[],⟨rfl,rfl⟩,by simp⟩
  | cons _ _=>exact hr.elim
 | x::xs,ob,g,r,[],hI,h,_,_,hr=>hr.elim
 | x::xs,ob,g,r,v::vs,hI,h,hn,hob,hr=>by
  simp only[ZdD] at h
  obtain ⟨a,ha,h⟩:=A5.1 h
  obtain ⟨b,hb,rfl⟩:=A4.1 h
  simp only[Az,AD] at hn
  obtain ⟨n1,n2,n3⟩:=hn
  obtain ⟨g1,i1,i2,i3,L1,l1,l2⟩:=Zvl hI ha (fun p m=>hob p (by simp [m])) hr.1
  have hob2:∀p∈b.2,Zk ob a.2 p.1=st.ob p.1:=fun p mp=>by
   have hne:∀q∈a.2,q.1≠p.1:=fun q mq=>n3 q.1 (AH.2 ⟨q,mq,rfl⟩) p.1 (AH.2 ⟨p,mp,rfl⟩)
   have:∀(u:List (Nat × Ob)) (ob:Nat→Ob),(∀q∈u,q.1≠p.1)→Zk ob u p.1=ob p.1:=by
    intro u
    induction u with
    | nil=>intro ob _;rfl
    | cons q u ih=>intro ob h;rw [Zk,ih _ fun z mz=>h z (by simp [mz])];exact ZI _ _ fun e=>h q (by simp) e.symm
   rw [this _ _ hne]
   exact hob p (by simp [mp])
  have hr2:ZH (SVR g1 w) xs vs:=hr.2.mono fun x u _ hx=>hx.less i2 i3
  obtain ⟨g2,k1,k2,k3,L2,m1,m2⟩:=Zo7 i1 hb n2 hob2 hr2
  refine ⟨g2,?_,k2.trans i2,k3.trans i3,L1++L2,⟨v,vs,L1,L2,rfl,rfl,l1,m1⟩,fun x mx=>?_⟩
  ·rw [Yy];exact k1
  ·rcases A3.1 mx with m | m
   ·exact fun hx=>l2 x m (k3.own x hx)
   ·exact m2 x m
theorem Zk5 [NW]:∀{xs:List SV} {r:List CT × List (Nat × Ob)},ZdD st xs=some r→∀p∈r.2,p.2=Ob.gone∧∃t cs,st.ob p.1=.box t cs
 | [],r,h=>by simp [ZdD] at h;subst h;intro p m;simp at m
 | x::xs,r,h=>by
  simp only[ZdD] at h
  obtain ⟨a,ha,h⟩:=A5.1 h
  obtain ⟨b,hb,rfl⟩:=A4.1 h
  intro p m
  rcases A3.1 m with m | m
  ·exact Zsz ha p m
  ·exact Zk5 hb p m
theorem ZzB [NW] (hI:HI W g st.ob w) (hU:StU U st) {f:FuncId} {xs:List SV} {vs:List Value} {r:List CT × List (Nat × Ob)} (h:ZdD st xs=some r) (hn:(r.2.map (·.1)).Nodup) (hr:ZH (SVR g w) xs vs) {s:Sem Next} (hs:s.run P w=.ok (.value (.func (.func f) #[] vs.toArray)) w):Fin P W U key st g w s (.p false [.c (.fn f r.1)],r.2):=by
 obtain ⟨g1,i1,i2,i3,L,l1,l2⟩:=Zo7 hI h hn (fun _ _=>rfl) hr
 have hg:=Zk5 h
 have a:∀(u:List (Nat × Ob)) (ob:Nat→Ob) (k:Nat),(∀p∈u,p.2=Ob.gone)→Zk ob u k=ob k∨Zk ob u k=.gone:=by
  intro u
  induction u with
  | nil=>intro ob k _;exact .inl rfl
  | cons q u ih=>
   intro ob k h
   rw [Zk]
   rcases ih (upd ob q.1 q.2) k (fun p m=>h p (by simp [m])) with e | e
   ·rw [e]
    by_cases hk:k=q.1
    ·right;rw [hk,Zy];exact h q yG
    ·left;exact ZI _ _ hk
   ·exact .inr e
 refine ⟨g1,_,w,.inl hs,i1,⟨_,rfl,L,⟨vs,rfl,l1⟩,l2⟩,fun x u _ hx=>hx.less i2 i3,Y8 _,fun k=>?_,fun k hk=>?_⟩
 ·rcases a r.2 st.ob k (fun p m=>(hg p m).1) with e | e
  ·rw [e];exact (hU.ob k).mono fun _=>.inl
  ·rw [e];trivial
 ·rcases a r.2 st.ob k (fun p m=>(hg p m).1) with e | e
  ·rw [e];exact hU.gone k fun h=>hk (.inl h)
  ·exact e
end
end
section
open Go.RowKit
section
variable {P:Program} {W:QK} {U:Nat→Prop} {key:Nat} {st:St} {g:Gh} {w w':World} {a:Act} {tt:Nat→Option TI}
theorem Zed:∀(ts:List TypeId) (xs:List Operand),(ZhJ ts xs).map (·.2)=xs
 | _,[]=>by cases ‹List TypeId›<;>rfl
 | [],x::xs=>by simp [ZhJ,Zed [] xs]
 | t::ts,x::xs=>by simp [ZhJ,Zed ts xs]
theorem Zsj [NW] (htt:∀t i,tt t=some i→TOk P t i) {t:Nat} {z:List AV} (h:Zj8 (tt t)=some z):∃zv vs,(zeroValue t).run P w=.ok zv w∧zv.cells=(vs:List Value).toArray∧ZH (AVR g w) z vs∧X6 U z:=by
 unfold Zj8 at h
 split at h<;>simp only[A0,reduceCtorEq] at h<;>subst h<;>rename_i hti
 ·obtain ⟨d,zv,i,h1,h2,h3,h4,h5,h6⟩:=htt t _ hti
  have hr:AVR g w _ zv:=Zep h6
  exact ⟨zv,[zv],Zhp h3 h4,by rw [ZmH hr.one],⟨hr,trivial⟩,fun y m=>by
   simp at m;subst m
   cases y<;>first | trivial | simp [QV] at h6⟩
 ·obtain ⟨fields,i,zvs,h1,h2,h3,h4,h5,_⟩:=htt t _ hti
  obtain ⟨q1,q2⟩:=Zhc (g:=g) (w:=w) (U:=U) h5
  exact ⟨.agg zvs,zvs.toList,Zhp h2 h4,by simp [Value.cells],q1,q2⟩
 ·obtain ⟨_,hm,_,_,j,h1,h2,h3⟩:=htt t _ hti
  exact ⟨_,[.slice none 0 0],Zhp h1 h3,rfl,⟨rfl,trivial⟩,fun y m=>by simp at m;subst m;trivial⟩
set_option maxHeartbeats 1000000 in
theorem ZmA [NW] (htt:∀t i,tt t=some i→TOk P t i) (o:Oper) {r:SV × List (Nat × Ob)} (hr:opE tt key o st=some r) (hI:HI W g st.ob w) (hS:∀t,SVR g w (st.sl t) (a.tmps.getD t undef)) (hU:StU U st) (hkey:¬U key):
  Fin P W U key st g w (execOp a.eval o) r:=by
 have ev:=fun t x=>Zi6 (P:=P) (a:=a) (g:=g) (w:=w) (U:=U) htt hS hU t x
 have pur:∀{v:Option SV} {s:Sem Value},Zay v=some r→execOp a.eval o=(do pure (.value (←s)))→(∀u,v=some u→∃cv,s.run P w=.ok cv w∧SVR g w u cv∧svU U u)→Fin P W U key st g w (execOp a.eval o) r:=fun {v s} hp he hv=>by
  obtain ⟨u,hu,rfl⟩:=A4.1 hp
  obtain ⟨cv,c1,c2,c3⟩:=hv u hu
  exact QY hI hU (by rw [he];simp only[Sem.run_bind,c1,Result.andThen_ok,Sem.run_pure]) c2 c3
 obtain ⟨dst,op,ty,pos,af,gd⟩:=o
 cases op with
 | move x=>
  simp only[opE,A0] at hr;subst hr
  exact QY hI hU rfl (ev ty x).1 (ev ty x).2
 | assign x=>
  simp only[opE,A0] at hr;subst hr
  exact QY hI hU rfl (ev ty x).1 (ev ty x).2
 | pick c x y=>
  simp only[opE] at hr
  split at hr
  ·rename_i b hb
   simp only[A0] at hr;subst hr
   have hc:=(ev 0 c).1
   rw [hb] at hc
   obtain ⟨cv,c1,c2,c3⟩:=Zvs (P:=P) hc (ev ty x) (ev ty y)
   exact QY hI hU c1 c2 c3
  ·simp at hr
 | alloc t=>
  simp only[opE] at hr
  obtain ⟨z,hz,rfl⟩:=A4.1 hr
  obtain ⟨zv,vs,h1,h2,h3,h4⟩:=Zsj (P:=P) (g:=g) (w:=w) (U:=U) htt hz
  exact ZtI hI hU hkey h3 h4 (by simp [execOp,Instr.alloc,h1,newVar,newRow,h2])
 | box t x=>
  simp only[opE] at hr
  split at hr
  ·rename_i ag cs hx
   simp only[A0] at hr;subst hr
   have hv:=ev t x
   rw [hx] at hv
   obtain ⟨vs,h2,h3⟩:=PVR.cells hv.1
   exact ZtI hI hU hkey h3 hv.2 (by simp [execOp,Instr.box,newVar,newRow,h2])
  ·simp at hr
 | build t parts=>
  simp only[opE] at hr
  split at hr
  ·rename_i fs n z hti
   obtain ⟨cs,hcs,rfl⟩:=A4.1 hr
   obtain ⟨cv,c1,c2,c3⟩:=Zud (P:=P) htt hS hU hti hcs
   exact QY hI hU (by simp only[execOp,Sem.run_bind,c1,Result.andThen_ok,Sem.run_pure]) c2 c3
  ·simp at hr
 | buildSlice t len parts=>
  simp only[opE] at hr
  split at hr
  ·rename_i e m bytes z hti
   obtain ⟨⟨xs,ks,d⟩,h1,hr⟩:=A5.1 hr
   split at hr
   ·rename_i hc
    simp only[A0] at hr;subst hr
    exact Zwb htt hI hS hU hkey hti h1 hc.1 hc.2.1 hc.2.2.1 rfl
   ·simp at hr
  ·simp at hr
 | load t x=>exact pur hr rfl fun u hu=>Zq2 htt hI hU hu (ev 0 x).1
 | store t x v=>
  simp only[opE] at hr
  obtain ⟨u,hu,rfl⟩:=A4.1 hr
  have hx:=ev 0 x
  have hv:=ev t v
  unfold Zk4 at hu
  split at hu
  ·rename_i k off ag vs he1 he2
   rw [he1] at hx
   rw [he2] at hv
   split at hu
   ·rename_i tb cs hk
    split at hu
    ·rename_i hc
     simp only[A0] at hu;subst hu
     exact ZtA htt hI hU hk hc.1 hc.2.2 hx.1 hv.1 hv.2 hc.2.1 rfl
    ·simp at hu
   ·simp at hu
  ·rename_i k m i off ag vs he1 he2
   rw [he1] at hx
   rw [he2] at hv
   split at hu
   ·rename_i e m' xs d hk
    obtain ⟨y,hy,hu⟩:=A5.1 hu
    obtain ⟨ys,hys,hu⟩:=A5.1 hu
    split at hu
    ·rename_i hc
     simp only[A0] at hu;subst hu
     obtain ⟨rfl,hc1,hc2,hc3,hc4⟩:=hc
     exact ZsL htt hI hU hk (by omega) hy hys hc1 hc3 hx.1 hv.1 hc2 rfl
    ·simp at hu
   ·simp at hu
  ·simp at hu
 | nilCheck x=>
  simp only[opE] at hr
  have hx:=ev 0 x
  split at hr<;>simp only[A0,reduceCtorEq] at hr<;>subst hr<;>rename_i he<;>rw [he] at hx
  ·obtain ⟨b,_,hv⟩:=hx.1
   exact QY hI hU (cv:=a.eval x) (by simp [execOp,hv]) hx.1 hx.2
  ·obtain ⟨b,_,_,_,hv⟩:=hx.1
   exact QY hI hU (cv:=a.eval x) (by simp [execOp,hv]) hx.1 hx.2
  ·obtain ⟨b,_,_,_,hv,_⟩:=hx.1
   exact QY hI hU (cv:=a.eval x) (by simp [execOp,hv]) hx.1 hx.2
  ·obtain ⟨b,_,_,hv,_⟩:=ZqT hx.1
   exact QY hI hU (cv:=a.eval x) (by simp [execOp,hv]) hx.1 hx.2
 | binOp op t x y t'=>exact pur hr rfl fun u hu=>ZuQ htt hu (ev t x).1 (ev t y).1
 | unOp op t x=>exact pur hr rfl fun u hu=>ZBh hu (ev 0 x).1
 | convert s t x=>exact pur hr rfl fun u hu=>Zs1 htt hI hu (ev 0 x).1
 | makeSlice t n c=>
  simp only[opE] at hr
  have hn:=(ev 0 n).1
  have hc:=(ev 0 c).1
  unfold ZpS at hr
  split at hr
  ·rename_i n' c' he1 he2
   rw [he1] at hn
   rw [he2] at hc
   split at hr
   ·rename_i e m bytes z hti
    obtain ⟨ze,hz,hr⟩:=A5.1 hr
    split at hr
    ·rename_i hq
     simp only[A0] at hr;subst hr
     obtain ⟨h0,rfl,h1⟩:=hq
     have e1:=Za1 hn
     have e2:=Za1 hc
     obtain ⟨n'',rfl⟩:=Int.eq_ofNat_of_zero_le h0
     simp only[Int.toNat_natCast]
     exact ZvA htt hI hU hkey hti hz (by omega) (by simp only[execOp,e1,e2])
    ·simp at hr
   ·simp at hr
  ·simp at hr
 | slice t x lo hi mx=>
  cases mx with
  | some _=>simp [opE] at hr
  | none=>
   refine Zso (vlo:=lo.map a.eval) (vhi:=hi.map a.eval) htt hI hU hkey hr (ev 0 x).1 ?_ ?_ rfl
   ·cases lo with
    | none=>trivial
    | some y=>exact (ev 0 y).1
   ·cases hi with
    | none=>trivial
    | some y=>exact (ev 0 y).1
 | fieldAddr t x f=>
  simp only[opE] at hr
  split at hr
  ·rename_i fs n z hti
   refine pur hr rfl fun u hu=>?_
   obtain ⟨fi,hf,hu⟩:=A5.1 hu
   exact Zy0 htt hti hf hu (ev 0 x).1 (ev 0 x).2
  ·simp at hr
 | field t x f=>
  simp only[opE] at hr
  split at hr
  ·rename_i fs n z hti
   exact pur hr rfl fun u hu=>Zx1 htt hti hu (ev 0 x).1 (ev 0 x).2
  ·simp at hr
 | indexAddr t x i=>
  simp only[opE] at hr
  split at hr
  ·rename_i e m bytes z hti
   exact pur hr rfl fun u hu=>ZAb htt hI hU hti hu (ev 0 x).1 (ev 0 x).2 (ev 0 i).1
  ·simp at hr
 | index t x i=>exact pur hr rfl fun u hu=>ZvI htt hu (ev 0 x).1 (ev 0 i).1
 | makeFunc fn first caps=>
  cases fn with
  | func f=>
   simp only[opE] at hr
   split at hr
   ·rename_i h0
    obtain ⟨q,hq,hr⟩:=A5.1 hr
    split at hr
    ·rename_i hn
     simp only[A0] at hr;subst hr
     have hf:first=#[]:=by simpa using h0
     have hall:ZH (SVR g w) (caps.toList.map (st.ev tt 0)) (caps.toList.map a.eval):=ZH.of_map _ _ fun x _=>(ev 0 x).1
     refine ZzB hI hU hq hn hall ?_
     have e1:(caps.toList.map a.eval).toArray=caps.map a.eval:=by apply Array.ext';simp
     rw [e1]
     simp [execOp,Instr.makeFunc,hf]
    ·simp at hr
   ·simp at hr
  | _=>simp [opE] at hr
 | makeMap t res=>
  cases res with
  | none=>
   simp only[opE] at hr
   exact ZwM htt hI hU hkey hr rfl
  | some _=>simp [opE] at hr
 | lookup t x i ok=>exact pur hr rfl fun u hu=>ZuJ htt hI hu (ev 0 x).1 (ev 0 i).1
 | mapUpdate t x i v=>
  simp only[opE] at hr
  obtain ⟨u,hu,rfl⟩:=A4.1 hr
  exact ZxO htt hI hU hu (ev 0 x).1 (ev 0 i).1 (ev 0 v).1 rfl
 | extract x i=>exact pur hr rfl fun u hu=>Zwy hu (ev 0 x).1 (ev 0 x).2
 | call c=>
  obtain ⟨callee,args,ts⟩:=c
  cases callee with
  | builtin b=>
   simp only[opE] at hr
   have hts:∀l:List TypeId,ts.toList=l→ts=l.toArray:=fun l h=>by rw [←h]
   have one:∀v,evs tt st ts.toList args.toList=[v]→∃x,args=#[x]∧SVR g w v (a.eval x)∧svU U v:=fun v h=>by
    obtain ⟨args⟩:=args
    generalize ts.toList=l at h
    cases args with
    | nil=>cases l<;>simp [evs,ZhJ] at h
    | cons x xs=>
     cases xs with
     | nil=>
      refine ⟨x,rfl,?_⟩
      cases l with
      | nil=>simp only[evs,ZhJ,AU,BI,AM,and_true] at h;rw [←h];exact ev _ _
      | cons t l=>cases l<;>(simp only[evs,ZhJ,AU,BI,AM,and_true] at h;rw [←h];exact ev _ _)
     | cons y ys=>cases l with
      | nil=>simp [evs,ZhJ] at h
      | cons t l=>cases l<;>simp [evs,ZhJ] at h
   have two:∀v u,evs tt st ts.toList args.toList=[v,u]→∃x y,args=#[x,y]∧(SVR g w v (a.eval x)∧svU U v)∧SVR g w u (a.eval y)∧svU U u:=fun v u h=>by
    obtain ⟨args⟩:=args
    have h2:=congrArg List.length h
    have h3:(evs tt st ts.toList args).length=args.length:=by
     have:=congrArg List.length (Zed ts.toList args)
     simpa [evs] using this
    have h4:args.length=2:=by rw [←h3];exact h2
    obtain ⟨x,y,rfl⟩:∃x y,args=[x,y]:=by
     match args,h4 with
     | [x,y],_=>exact ⟨x,y,rfl⟩
    refine ⟨x,y,rfl,?_⟩
    have h5:∃t1 t2,evs tt st ts.toList [x,y]=[st.ev tt t1 x,st.ev tt t2 y]:=by
     generalize ts.toList=l
     cases l with
     | nil=>exact ⟨0,0,rfl⟩
     | cons t1 l=>cases l with
      | nil=>exact ⟨t1,0,rfl⟩
      | cons t2 l=>exact ⟨t1,t2,by cases l<;>rfl⟩
    obtain ⟨t1,t2,h5⟩:=h5
    rw [h5] at h
    simp only[AM,and_true] at h
    rw [←h.1,←h.2]
    exact ⟨ev _ _,ev _ _⟩
   unfold Zet at hr
   split at hr
   ·rename_i t _ v he1 he2
    have e1:=hts _ he1
    obtain ⟨x,rfl,hx,_⟩:=one _ he2
    exact pur (s:=Builtin.len_ ts ty #[a.eval x]) hr (by simp [execOp,resolve,invoke,builtin]) fun u hu=>Zxg htt hI (by simp [e1]) hu hx
   ·rename_i t u v1 v2 he1 he2
    have e1:=hts _ he1
    obtain ⟨x,y,rfl,hx,hy⟩:=two _ _ he2
    split at hr
    ·rename_i he
     subst he
     exact Zx5 htt hI hU hkey hr hx hy (ty:=ty) (by simp [execOp,resolve,invoke,builtin,e1])
    ·simp at hr
   ·rename_i v1 v2 he2
    obtain ⟨x,y,rfl,hx,hy⟩:=two _ _ he2
    refine pur (s:=Builtin.max_ ts ty #[a.eval x,a.eval y]) hr (by simp [execOp,resolve,invoke,builtin]) fun u hu=>?_
    have:=Zs6 (P:=P) (U:=U) (ts:=ts) (ty:=ty) hu hx.1 hy.1
    simpa using this
   ·rename_i v1 v2 he2
    obtain ⟨x,y,rfl,hx,hy⟩:=two _ _ he2
    refine pur (s:=Builtin.min_ ts ty #[a.eval x,a.eval y]) hr (by simp [execOp,resolve,invoke,builtin]) fun u hu=>?_
    have:=Zs6 (P:=P) (U:=U) (ts:=ts) (ty:=ty) hu hx.1 hy.1
    simpa using this
   ·simp at hr
  | value f=>simp [opE] at hr
  | invoke r m=>simp [opE] at hr
 | _=>simp [opE] at hr
end
end
section
open Go.RowKit
theorem ZcL {α β:Type} {f h:α→List β}:∀{l:List α},(∀x∈l,f x=h x)→l.flatMap f=l.flatMap h
 | [],_=>rfl
 | x::l,hh=>by rw [AJ,AJ,hh x yG,ZcL fun y m=>hh y (by simp [m])]
def Zjv (w:World) (z:Nat→Prop) (x:Bool × List CT) (v:Value):Prop:=
 (x.1=true∧∃(vs:List Value) (L:List Nat),v=.agg vs.toArray∧RCs w x.2 vs L∧∀b∈L,¬z b)∨(x.1=false∧∃(ct:CT) (L:List Nat),x.2=[ct]∧RC w ct v L∧∀b∈L,¬z b)
def OC (w:World) (B:Nat) (n:Nat→Prop):Bool × CT→Value→List Nat→Prop
 | (false,.sl e m xs),v,F=>0<m∧∃cs L,w.ownsV B e m v xs.length cs∧REs w m xs cs L∧F=v.ownBlock.toList++L∧∀b∈v.ownBlock.toList,n b
 | (false,.int k i),v,F=>RC w (.int k i) v []∧F=[]
 | (false,.bool b),v,F=>RC w (.bool b) v []∧F=[]
 | (false,.str s),v,F=>RC w (.str s) v []∧F=[]
 | (false,.ifc b),v,F=>RC w (.ifc b) v []∧F=[]
 | (false,.any),v,F=>RC w .any v []∧F=[]
 | (false,.pt _),_,_=>False
 | (false,.fn _ _),_,_=>False
 | (false,.mp _ _ _),_,_=>False
 | (false,.nl _ _),_,_=>False
 | (true,x),v,F=>F=[]∧∃L,RC w x v L∧∀b∈L,¬n b
def OCs (w:World) (B:Nat) (n:Nat→Prop):List (Bool × CT)→List Value→List Nat→Prop
 | [],vs,F=>vs=[]∧F=[]
 | x::r,vs,F=>∃v vs' F1 F2,vs=v::vs'∧F=F1++F2∧OC w B n x v F1∧OCs w B n r vs' F2
def OP (w:World) (B:Nat) (n:Nat→Prop) (x:RT) (v:Value) (F:List Nat):Prop:=
 (x.1=true∧∃vs:List Value,v=.agg vs.toArray∧OCs w B n x.2 vs F)∨(x.1=false∧∃ct,x.2=[ct]∧OC w B n ct v F)
def OPs (w:World) (B:Nat) (n:Nat→Prop):List RT→List Value→List Nat→Prop
 | [],vs,F=>vs=[]∧F=[]
 | x::r,vs,F=>∃v vs' F1 F2,vs=v::vs'∧F=F1++F2∧OP w B n x v F1∧OPs w B n r vs' F2
def Ziy (w:World) (B:Nat) (n:Nat→Prop) (res:List RT) (v:Value):Prop:=
 ∃(vs:List Value) (F:List Nat),OPs w B n res vs F∧Own w B F∧v=(if h:vs.toArray.size=1 then vs.toArray[0] else .tuple vs.toArray)
def ZcX (P : Program) (f : FuncId) : Prop := ∃ fn, P.funcs[f]? = some fn ∧ (fn.name == "runtime.NumGoroutine") = false ∧ fn.body.isNone = false
def Zl (P:Program) (J:World→Prop) (f:FuncId) (args:List (Bool × List CT)) (res:List RT):Prop:=
 ZcX P f∧∀(w:World) (z:Nat→Prop) (vs:List Value),J w→(∀b,z b→b<w.heap.size)→ZH (Zjv w z) args vs→Calls P f vs.toArray w fun e w'=>∃v n,e=.returned v∧Ziy w' w.heap.size n res v∧(∀b,z b→n b)∧Below w.heap.size w w'
def Zme (w:World) (z:Nat→Prop) (q:Option Nat):Zf7→Value→Prop
 | .row e m xs,v=>Zal xs=true∧0<m∧v.ownBlock=q∧∃cs,w.ownsV 0 e m v xs.length cs∧REs w m xs cs []
 | .box t cs,v=>∃b vs L,q=some b∧v=.pointer (some ⟨b,0,none⟩)∧w.heap[b]?=some (.cells (vs:List Value).toArray t (0,0))∧RCs w cs vs L∧∀a∈L,¬z a
def inQ (z:Nat→Prop) (q:Option Nat) (a:Nat):Prop:=z a∨q=some a
structure Zyq (q:Option Nat) (w w':World):Prop where
 os:w'.os=w.os
 tape:w'.tape=w.tape
 output:w'.output=w.output
 size:w.heap.size≤w'.heap.size
 block:∀k,k<w.heap.size→¬q=some k→w'.heap[k]?=w.heap[k]?
def ZaU (P:Program) (J:World→Prop) (JF:Nat→Prop) (f:FuncId) (h:Zf7) (args:List (Bool × List CT)) (res:List RT) (h':Zf7):Prop:=
 ZcX P f∧∀(w:World) (z:Nat→Prop) (q:Option Nat) (v0:Value) (vs:List Value),J w→(∀b,q=some b→JF b)→(∀b,z b→b<w.heap.size∧¬q=some b)→Zme w (inQ z q) q h v0→ZH (Zjv w (inQ z q)) args vs→
  Calls P f (v0::vs).toArray w fun e w'=>∃v n,e=.returned v∧Ziy w' w.heap.size n res v∧(∀b,inQ z q b→n b)∧Zme w' n q h' v0∧Zyq q w w'
def Zmc (b:Nat):NB→Value
 | .box _ _=>.pointer (some ⟨b,0,none⟩)
 | .map _ _ _=>.map (some b)
def nbR (w:World) (n:Nat→Prop) (b:Nat):NB→Prop
 | .box t cs=>∃us L,w.heap[b]?=some (.cells (us:List Value).toArray t (0,0))∧RCs w cs us L∧∀x∈L,¬n x
 | .map kk vk kv=>∃es c,w.heap[b]?=some (.map es c)∧Zc2 es=kv∧Zib kk vk kv
def Zj3 (P:Program) (J:World→Prop) (f:FuncId) (args:List (Bool × List CT)) (nb:NB):Prop:=
 ZcX P f∧∀(w:World) (z:Nat→Prop) (vs:List Value),J w→(∀b,z b→b<w.heap.size)→ZH (Zjv w z) args vs→
  Calls P f vs.toArray w fun e w'=>∃(b:Nat) (n:Nat→Prop),e=.returned (Zmc b nb)∧w.heap.size≤b∧nbR w' n b nb∧n b∧(∀x,z x→n x)∧Below w.heap.size w w'
def SC (P:Program) (J:World→Prop) (JF:Nat→Prop) (hd:FuncId→Nat):Ctx:=⟨Zl P J,ZaU P J JF,hd,Zj3 P J⟩
structure MOk (P:Program) (J:World→Prop) (JF:Nat→Prop) (W:QK) (tt:Nat→Option TI):Prop where
 tt:∀t i,tt t=some i→TOk P t i
 jb:∀w:World,Bel W w→J w
 jf:∀b,W.heap.size≤b→JF b
 xf:∀b,W.x b→JF b
section
variable {P:Program} {J:World→Prop} {W:QK} {U:Nat→Prop} {key:Nat} {st:St} {g:Gh} {w w':World} {a:Act} {tt:Nat→Option TI}
theorem MOk.at {JF:Nat→Prop} (h:MOk P J JF W tt) (hb:Bel W w):J w:=h.jb _ hb
def Zuh (ob:Nat→Ob):AV→Prop
 | .row k=>∃e m xs,ob k=.row e m xs 0
 | _=>True
theorem ZpN [NW] (hI:HI W g st.ob w) {x:AV} {ct:CT} {v:Value} (h:Zbc st x=some ct) (hx:AVR g w x v):∃L,RC w ct v L∧(Zuh st.ob x→∀b∈L,¬g.own b):=by
 cases x with
 | c y=>simp only[Zbc,A0] at h;subst h;obtain ⟨L,h1,h2⟩:=hx;exact ⟨L,h1,fun _=>h2⟩
 | row k=>
  simp only[Zbc] at h
  split at h
  ·rename_i e m xs d hk
   simp only[A0] at h;subst h
   obtain ⟨hm,cs,L1,o1,o2,o3,o5⟩:=hI.deep hk
   obtain ⟨A,cap,L0,s1,s2,s3,s4,s5⟩:=Sl.row o1
   refine ⟨L0++L1,⟨A,cap,cs,L0,L1,by rw [hx.1,s1],s2,s3,rfl,hm,s4,o2⟩,?_⟩
   rintro ⟨e',m',xs',h0⟩ b mb
   rw [hk] at h0
   have hd:d=0:=by simp at h0;exact h0.2.2.2
   rcases A3.1 mb with m1 | m1
   ·rcases o5 with ⟨q,_⟩ | ⟨q,_⟩ | ⟨_,_,_,q⟩
    ·omega
    ·omega
    ·exact q b (s5.subset m1)
   ·exact o3 b m1
  ·simp at h
 | nil e m=>
  simp only[Zbc] at h
  split at h
  ·rename_i hm
   simp only[A0] at h;subst h
   exact ⟨[],⟨none,0,[],[],[],hx,yG,AE _,rfl,hm,Sl.zero,rfl,rfl⟩,yG⟩
  ·simp at h
 | n y=>simp only[Zbc,A0] at h;subst h;obtain ⟨L,h1,h2⟩:=NR.toC hx;exact ⟨L,h1,fun _=>h2⟩
 | dead=>simp [Zbc] at h
theorem Zei [NW] (hI:HI W g st.ob w):∀{xs:List AV} {cts:List CT} {vs:List Value},Yq st xs=some cts→ZH (AVR g w) xs vs→∃L,RCs w cts vs L∧((∀x∈xs,Zuh st.ob x)→∀b∈L,¬g.own b)
 | [],_,[],h,_=>by simp [Yq] at h;subst h;exact ⟨[],⟨rfl,rfl⟩,yG⟩
 | [],_,_::_,_,h=>h.elim
 | _::_,_,[],_,h=>h.elim
 | x::r,cts,v::vs,h,hr=>by
  simp only[Yq] at h
  obtain ⟨c1,h1,h⟩:=A5.1 h
  obtain ⟨c2,h2,rfl⟩:=A4.1 h
  obtain ⟨L1,a1,b1⟩:=ZpN hI h1 hr.1
  obtain ⟨L2,a2,b2⟩:=Zei hI h2 hr.2
  refine ⟨L1++L2,⟨v,vs,L1,L2,rfl,rfl,a1,a2⟩,fun ho b mb=>?_⟩
  rcases A3.1 mb with m | m
  ·exact b1 (ho x yG) b m
  ·exact b2 (fun y my=>ho y (by simp [my])) b m
def Zsy (ob:Nat→Ob):SV→Prop
 | .p _ cs=>∀x∈cs,Zuh ob x
 | _=>True
theorem Ztp [NW] (hI:HI W g st.ob w) {x:SV} {r:Bool × List CT} {v:Value} (h:Zcd st x=some r) (hx:SVR g w x v) {z:Nat→Prop} (hz:(∀b,¬z b)∨(Zsy st.ob x∧∀b,z b→g.own b)):Zjv w z r v:=by
 cases x with
 | p ag cs=>
  simp only[Zcd] at h
  obtain ⟨l,hl,rfl⟩:=A4.1 h
  have av:∀{L:List Nat},((∀x∈cs,Zuh st.ob x)→∀b∈L,¬g.own b)→∀b∈L,¬z b:=fun hL b mb=>by
   rcases hz with hz | ⟨h1,h2⟩
   ·exact hz b
   ·exact fun hb=>hL h1 b mb (h2 b hb)
  cases ag with
  | true=>
   obtain ⟨vs,rfl,h2⟩:=hx
   obtain ⟨L,hL,a⟩:=Zei hI hl h2
   exact .inl ⟨rfl,vs,L,rfl,hL,av a⟩
  | false=>
   obtain ⟨y,rfl,h2⟩:=hx
   simp only[Yq] at hl
   obtain ⟨c1,h1,hl⟩:=A5.1 hl
   simp at hl;subst hl
   obtain ⟨L1,a1,b1⟩:=ZpN hI h1 h2
   exact .inr ⟨rfl,c1,L1,rfl,a1,av fun ho=>b1 (ho y yG)⟩
 | _=>simp [Zcd] at h
theorem Zcq [NW] (hI:HI W g st.ob w) {z:Nat→Prop}:∀{xs:List SV} {l:List (Bool × List CT)} {vs:List Value},ZT st xs=some l→ZH (SVR g w) xs vs→((∀b,¬z b)∨((∀x∈xs,Zsy st.ob x)∧∀b,z b→g.own b))→ZH (Zjv w z) l vs
 | [],_,[],h,_,_=>by simp [ZT] at h;subst h;trivial
 | [],_,_::_,_,h,_=>h.elim
 | _::_,_,[],_,h,_=>h.elim
 | x::r,l,v::vs,h,hr,hz=>by
  simp only[ZT] at h
  obtain ⟨c1,h1,h⟩:=A5.1 h
  obtain ⟨c2,h2,rfl⟩:=A4.1 h
  exact ⟨Ztp hI h1 hr.1 (hz.imp id fun q=>⟨q.1 x yG,q.2⟩),Zcq hI h2 hr.2 (hz.imp id fun q=>⟨fun y my=>q.1 y (by simp [my]),q.2⟩)⟩
theorem Zuw {vs:List SV} {ob:Nat→Ob} (h:vs.all Zgk=true):∀x∈vs,Zsy ob x:=fun x mx=>by
 have hx:=Ab.1 h x mx
 cases x with
 | p ag cs=>
  intro y my
  have hy:=Ab.1 hx y my
  cases y with
  | row k=>simp [Zaa] at hy
  | _=>trivial
 | _=>trivial
def CR (val:Nat→Value) (w:World) (n:Nat→Prop) (l:Bool) (lo hi:Nat):AV→Value→Prop
 | .row k,v=>lo≤k∧k<hi∧v=val k∧v.oneCell'=true
 | .c x,v=>∃L,RC w x v L∧∀b∈L,l=true∧¬n b
 | _,_=>False
structure Zoe (w:World) (B lo hi:Nat) (n:Nat→Prop) (up:List (Nat × Ob)) (F:List Nat) (val:Nat→Value) (O D:Nat→List Nat):Prop where
 le:lo≤hi
 at_:∀k,lo≤k→k<hi→∃e m xs cs,(∀ob,Zk ob up k=.row e m xs 2)∧0<m∧w.ownsV B e m (val k) xs.length cs∧REs w m xs cs (D k)∧O k=(val k).ownBlock.toList∧∀b∈O k,n b
 out:∀k,¬(lo≤k∧k<hi)→∀ob,Zk ob up k=ob k
 foot:F=(AQ lo (hi - lo)).flatMap fun k=>O k++D k
theorem Zoe.join [NW] {B lo c hi:Nat} {n:Nat→Prop} {u1 u2:List (Nat × Ob)} {F1 F2:List Nat} {v1 v2:Nat→Value} {O1 O2 D1 D2:Nat→List Nat} (h1:Zoe w B lo c n u1 F1 v1 O1 D1) (h2:Zoe w B c hi n u2 F2 v2 O2 D2):
  Zoe w B lo hi n (u1++u2) (F1++F2) (fun k=>if k<c then v1 k else v2 k) (fun k=>if k<c then O1 k else O2 k) (fun k=>if k<c then D1 k else D2 k):=by
 have hl:=h1.le
 have hr:=h2.le
 refine ⟨yE,fun k a b=>?_,fun k hk ob=>?_,?_⟩
 ·by_cases hk:k<c
  ·obtain ⟨e,m,xs,cs,p1,p2⟩:=h1.at_ k a hk
   simp only[hk,if_true]
   exact ⟨e,m,xs,cs,fun ob=>by rw [Yy,h2.out k yE];exact p1 ob,p2⟩
  ·obtain ⟨e,m,xs,cs,p1,p2⟩:=h2.at_ k yE b
   simp only[hk,if_false]
   exact ⟨e,m,xs,cs,fun ob=>by rw [Yy];exact p1 _,p2⟩
 ·rw [Yy,h2.out k yE,h1.out k yE]
 ·rw [h1.foot,h2.foot,show hi - lo=(c - lo)+(hi - c) by omega,←List.range'_append_1,Al,show lo+(c - lo)=c by omega]
  congr 1
  ·refine ZcL fun k hk=>?_
   have:=(Ac.1 hk).2
   simp [show k<c by omega]
  ·refine ZcL fun k hk=>?_
   have:=(Ac.1 hk).1
   simp [show ¬k<c by omega]
theorem CR.mono {f e:Nat→Value} {n:Nat→Prop} {l:Bool} {lo hi g i:Nat} {x:AV} {v:Value} (h:CR f w n l lo hi x v) (hl:g≤lo) (hh:hi≤i) (hv:∀k,lo≤k→k<hi→e k=f k):CR e w n l g i x v:=by
 cases x with
 | row k=>obtain ⟨a,b,c,d⟩:=h;exact ⟨yE,yE,by rw [hv k a b];exact c,d⟩
 | c x=>exact h
 | n _=>exact h.elim
 | nil _ _=>exact h.elim
 | dead=>exact h.elim
theorem QR [NW] {B:Nat} {n:Nat→Prop} {l:Bool}:∀{cts:List (Bool × CT)} {vs:List Value} {F:List Nat} (key:Nat),OCs w B n cts vs F→(Zbk cts=true→l=true)→∃c O D,Zoe w B key (Z3 key cts).2.2 n (Z3 key cts).2.1 F c O D∧ZH (CR c w n l key (Z3 key cts).2.2) (Z3 key cts).1 vs
 | [],vs,F,key,h,_=>by
  obtain ⟨rfl,rfl⟩:=h
  exact ⟨fun _=>undef,fun _=>[],fun _=>[],⟨A7 _,fun k a b=>by simp [Z3] at b;omega,fun _ _ _=>rfl,by simp [Z3]⟩,trivial⟩
 | (true,x)::r,_,_,key,⟨v,vs,F1,F2,rfl,rfl,h1,h2⟩,hl=>by
  obtain ⟨rfl,L,h3,h4⟩:=h1
  obtain ⟨c,O,D,hb,hr⟩:=QR (l:=l) key h2 fun e=>hl (by simp [Zbk])
  exact ⟨c,O,D,by simpa [Z3] using hb,⟨⟨L,h3,fun b mb=>⟨hl (by simp [Zbk]),h4 b mb⟩⟩,hr⟩⟩
 | (false,.sl e m xs)::r,_,_,key,⟨v,vs,F1,F2,rfl,rfl,h1,h2⟩,hl=>by
  obtain ⟨hm,cs,L,o1,o2,rfl,o3⟩:=h1
  obtain ⟨c,O,D,hb,hr⟩:=QR (l:=l) (key+1) h2 fun e=>hl (by simpa [Zbk] using e)
  have d:Zoe w B key (key+1) n [(key,.row e m xs 2)] (v.ownBlock.toList++L) (fun _=>v) (fun _=>v.ownBlock.toList) (fun _=>L):=
   ⟨yE,fun k a b=>⟨e,m,xs,cs,fun ob=>by simp [Zk,upd,show k=key by omega],hm,o1,o2,rfl,o3⟩,fun k hk ob=>by simp [Zk,upd,show ¬k=key by omega],yG⟩
  refine ⟨_,_,_,d.join hb,⟨?_,hr.mono fun x u _ hx=>hx.mono yE (A7 _) fun k a b=>by simp [show ¬k<key+1 by omega]⟩⟩
  have hle:=hb.le
  obtain ⟨A,cap,hv⟩:=Q8 o1
  exact ⟨A7 _,by simp only[Z3];omega,yG,by simp [hv,Value.oneCell']⟩
 | (false,.int k i)::r,_,_,key,⟨v,vs,F1,F2,rfl,rfl,h1,h2⟩,hl=>by
  obtain ⟨h1,rfl⟩:=h1
  obtain ⟨c,O,D,hb,hr⟩:=QR (l:=l) key h2 fun e=>hl (by simpa [Zbk] using e)
  exact ⟨c,O,D,by simpa [Z3] using hb,⟨⟨[],h1,yG⟩,hr⟩⟩
 | (false,.bool k)::r,_,_,key,⟨v,vs,F1,F2,rfl,rfl,h1,h2⟩,hl=>by
  obtain ⟨h1,rfl⟩:=h1
  obtain ⟨c,O,D,hb,hr⟩:=QR (l:=l) key h2 fun e=>hl (by simpa [Zbk] using e)
  exact ⟨c,O,D,by simpa [Z3] using hb,⟨⟨[],h1,yG⟩,hr⟩⟩
 | (false,.str s)::r,_,_,key,⟨v,vs,F1,F2,rfl,rfl,h1,h2⟩,hl=>by
  obtain ⟨h1,rfl⟩:=h1
  obtain ⟨c,O,D,hb,hr⟩:=QR (l:=l) key h2 fun e=>hl (by simpa [Zbk] using e)
  exact ⟨c,O,D,by simpa [Z3] using hb,⟨⟨[],h1,yG⟩,hr⟩⟩
 | (false,.ifc s)::r,_,_,key,⟨v,vs,F1,F2,rfl,rfl,h1,h2⟩,hl=>by
  obtain ⟨h1,rfl⟩:=h1
  obtain ⟨c,O,D,hb,hr⟩:=QR (l:=l) key h2 fun e=>hl (by simpa [Zbk] using e)
  exact ⟨c,O,D,by simpa [Z3] using hb,⟨⟨[],h1,yG⟩,hr⟩⟩
 | (false,.any)::r,_,_,key,⟨v,vs,F1,F2,rfl,rfl,h1,h2⟩,hl=>by
  obtain ⟨h1,rfl⟩:=h1
  obtain ⟨c,O,D,hb,hr⟩:=QR (l:=l) key h2 fun e=>hl (by simpa [Zbk] using e)
  exact ⟨c,O,D,by simpa [Z3] using hb,⟨⟨[],h1,yG⟩,hr⟩⟩
 | (false,.pt _)::r,_,_,key,⟨v,vs,F1,F2,rfl,rfl,h1,h2⟩,hl=>h1.elim
 | (false,.fn _ _)::r,_,_,key,⟨v,vs,F1,F2,rfl,rfl,h1,h2⟩,hl=>h1.elim
 | (false,.mp _ _ _)::r,_,_,key,⟨v,vs,F1,F2,rfl,rfl,h1,h2⟩,hl=>h1.elim
 | (false,.nl _ _)::r,_,_,key,⟨v,vs,F1,F2,rfl,rfl,h1,h2⟩,hl=>h1.elim
def PR (val:Nat→Value) (w:World) (n:Nat→Prop) (l:Bool) (lo hi:Nat) (x:Bool × List AV) (v:Value):Prop:=
 (x.1=true∧∃vs:List Value,v=.agg vs.toArray∧ZH (CR val w n l lo hi) x.2 vs)∨(x.1=false∧∃y,x.2=[y]∧CR val w n l lo hi y v)
theorem PR.mono [NW] {d c:Nat→Value} {n:Nat→Prop} {l:Bool} {lo hi e f:Nat} {x:Bool × List AV} {v:Value} (h:PR d w n l lo hi x v) (hl:e≤lo) (hh:hi≤f) (hv:∀k,lo≤k→k<hi→c k=d k):PR c w n l e f x v:=by
 rcases h with ⟨h1,vs,h2,h3⟩ | ⟨h1,y,h2,h3⟩
 ·exact .inl ⟨h1,vs,h2,h3.mono fun a b _ g=>g.mono hl hh hv⟩
 ·exact .inr ⟨h1,y,h2,h3.mono hl hh hv⟩
theorem Zl4 [NW] {B:Nat} {n:Nat→Prop} {l:Bool}:∀{res:List RT} {vs:List Value} {F:List Nat} (key:Nat),OPs w B n res vs F→(Zcg res=true→l=true)→∃val O D,Zoe w B key (ZE key res).2.2 n (ZE key res).2.1 F val O D∧ZH (PR val w n l key (ZE key res).2.2) (ZE key res).1 vs
 | [],vs,F,key,h,_=>by
  obtain ⟨rfl,rfl⟩:=h
  exact ⟨fun _=>undef,fun _=>[],fun _=>[],⟨A7 _,fun k a b=>by simp [ZE] at b;omega,fun _ _ _=>rfl,by simp [ZE]⟩,trivial⟩
 | x::r,_,_,key,⟨v,vs,F1,F2,rfl,rfl,h1,h2⟩,hl=>by
  have hl1:Zbk x.2=true→l=true:=fun e=>hl (by simp [Zcg,e])
  have hl2:Zcg r=true→l=true:=fun e=>hl (by simp [Zcg,e])
  have hx:∃val O D,Zoe w B key (Z3 key x.2).2.2 n (Z3 key x.2).2.1 F1 val O D∧PR val w n l key (Z3 key x.2).2.2 (x.1,(Z3 key x.2).1) v:=by
   rcases h1 with ⟨hx,us,rfl,hc⟩ | ⟨hx,ct,he,hc⟩
   ·obtain ⟨val,O,D,hb,hr⟩:=QR key hc hl1
    exact ⟨val,O,D,hb,.inl ⟨hx,us,rfl,hr⟩⟩
   ·obtain ⟨val,O,D,hb,hr⟩:=QR (cts:=x.2) (vs:=[v]) (F:=F1) key (by rw [he];exact ⟨v,[],F1,[],rfl,by simp,hc,rfl,rfl⟩) hl1
    refine ⟨val,O,D,hb,.inr ⟨hx,?_⟩⟩
    generalize (Z3 key x.2).1=l at hr
    cases l with
    | nil=>exact hr.elim
    | cons y l=>
     cases l with
     | nil=>exact ⟨y,rfl,hr.1⟩
     | cons _ _=>exact hr.2.elim
  obtain ⟨val,O,D,hb,hp⟩:=hx
  obtain ⟨val2,O2,D2,hb2,hr2⟩:=Zl4 (Z3 key x.2).2.2 h2 hl2
  have hle2:=hb2.le
  have hle:=hb.le
  refine ⟨_,_,_,hb.join hb2,⟨hp.mono (A7 _) hle2 fun k a b=>by simp [b],hr2.mono fun y u _ hy=>hy.mono hle (A7 _) fun k a b=>by simp [show ¬k<(Z3 key x.2).2.2 by omega]⟩⟩
theorem ZpZ {n:Nat} {G:Nat→List Nat}:∀{lo:Nat},((AQ lo n).flatMap G).Nodup→(∀k,lo≤k→k<lo+n→(G k).Nodup)∧∀k j,lo≤k→k<lo+n→lo≤j→j<lo+n→k≠j→∀b∈G k,b∉G j:=by
 induction n with
 | zero=>intro lo _;exact ⟨fun k a b=>by omega,fun k j a b=>by omega⟩
 | succ n ih=>
  intro lo h
  rw [Au,AJ,AD] at h
  obtain ⟨h1,h2,h3⟩:=h
  obtain ⟨i1,i2⟩:=ih h2
  have c:∀k,lo+1≤k→k<lo+1+n→∀b∈G k,b∈(AQ (lo+1) n).flatMap G:=fun k a b x mx=>AA.2 ⟨k,Ac.2 ⟨a,b⟩,mx⟩
  refine ⟨fun k a b=>?_,fun k j a b a' b' d x mx mj=>?_⟩
  ·by_cases e:k=lo
   ·subst e;exact h1
   ·exact i1 k yE yE
  ·by_cases e:k=lo
   ·subst e
    exact h3 x mx x (c j yE yE x mj) rfl
   ·by_cases e':j=lo
    ·subst e'
     exact h3 x mj x (c k yE yE x mx) rfl
    ·exact i2 k j yE yE yE yE d x mx mj
theorem Zgi [NW] {ob:Nat→Ob} (hI:HI W g ob w) (hobU:∀k,obU U (ob k)) (hgone:∀k,¬U k→ob k=.gone) (hkey:∀k,key≤k→k<key+16→¬U k) {res:List RT} {v:Value} {n:Nat→Prop} (hr:Ziy w' w.heap.size n res v) (hn:(ZE key res).2.2≤key+16)
  (H:Nat→Prop) (hHU:∀k,H k→U k) (obH:Nat→Ob) (hlen:Zcg res=true→∀b,g.own b→n b)
  (hbel:Bel W w') (hsz:w.heap.size≤w'.heap.size) (hw:∀b,b<w.heap.size→(∀k,H k→b∉g.O k)→w'.heap[b]?=w.heap[b]?)
  (hobH:∀k,H k→obU (Uk U key) (obH k)) (hH:∀g':Gh,(∀b,g'.own b→g.own b∨((∃k,b∈g'.O k)∧w.heap.size≤b∧n b))→(∀k,H k→g'.val k=g.val k∧g'.O k=g.O k∧g'.D k=g.D k)→∀k,H k→ObR g' w' k (obH k)∧∀b∈g.O k++g.D k,Xk w' (obH k) b):
  ∃g',HI W g' (fun k=>Zk (fun j=>open Classical in if H j then obH j else ob j) (ZE key res).2.1 k) w'∧SVR g' w' (Zcf (ZE key res).1) v∧(∀x u,svU U x→SVR g w x u→SVR g' w' x u)∧svU (Uk U key) (Zcf (ZE key res).1)∧
   (∀k,obU (Uk U key) (Zk (fun j=>open Classical in if H j then obH j else ob j) (ZE key res).2.1 k))∧∀k,¬Uk U key k→Zk (fun j=>open Classical in if H j then obH j else ob j) (ZE key res).2.1 k=.gone:=by
 classical
 obtain ⟨vs,F,h1,hF,hv⟩:=hr
 obtain ⟨val,O,D,hB,hA⟩:=Zl4 (l:=Zcg res) key h1 id
 generalize (ZE key res).2.2=hi at *
 generalize (ZE key res).2.1=up at *
 generalize (ZE key res).1=xs at *
 have hle:=hB.le
 let T:Nat→Prop:=fun k=>key≤k∧k<hi
 have hTU:∀k,T k→¬U k:=fun k hk=>hkey k hk.1 (by have:=hk.2;omega)
 let g':Gh:=⟨fun k=>if key≤k∧k<hi then val k else g.val k,fun k=>if key≤k∧k<hi then O k else g.O k,fun k=>if key≤k∧k<hi then D k else g.D k,g.Z⟩
 have gT:∀k,T k→g'.val k=val k∧g'.O k=O k∧g'.D k=D k:=fun k hk=>⟨if_pos hk,if_pos hk,if_pos hk⟩
 have gN:∀k,¬T k→g'.val k=g.val k∧g'.O k=g.O k∧g'.D k=g.D k:=fun k hk=>⟨if_neg hk,if_neg hk,if_neg hk⟩
 have hTH:∀k,H k→¬T k:=fun k hk ht=>hTU k ht (hHU k hk)
 have hmemF:∀k,T k→∀b∈O k++D k,b∈F:=fun k hk b mb=>by
  rw [hB.foot]
  exact AA.2 ⟨k,Ac.2 ⟨hk.1,by have:=hk.2;omega⟩,mb⟩
 have hge:∀k,T k→∀b∈O k++D k,w.heap.size≤b:=fun k hk b mb=>hF.ge b (hmemF k hk b mb)
 have hnd:=ZpZ (hB.foot ▸ hF.nodup)
 have hval:∀k,U k→g'.val k=g.val k:=fun k hk=>(gN k fun h=>hTU k h hk).1
 have hown2:∀b,g'.own b→g.own b∨((∃k,b∈g'.O k)∧w.heap.size≤b∧n b):=fun b hb=>by
  rcases hb with ⟨k,mk⟩ | hz
  ·by_cases hk:T k
   ·have mk':=mk
    rw [(gT k hk).2.1] at mk'
    obtain ⟨e,m,ys,cs,_,_,_,_,_,p6⟩:=hB.at_ k hk.1 hk.2
    exact .inr ⟨⟨k,mk⟩,hge k hk b (by simp [mk']),p6 b mk'⟩
   ·rw [(gN k hk).2.1] at mk;exact .inl (.inl ⟨k,mk⟩)
  ·exact .inl (.inr hz)
 have hown:X7 g g' w.heap.size:=.of (fun b hb=>(hown2 b hb).imp id fun h=>h.2.1) fun j b mb=>by
  by_cases hj:T j
  ·rw [(gT j hj).2.2] at mb
   exact .inr (hge j hj b (by simp [mb]))
  ·rw [(gN j hj).2.2] at mb;exact .inl (.inr ⟨j,mb⟩)
 have hw':∀b,b<w.heap.size→¬g.own b→w'.heap[b]?=w.heap[b]?:=fun b hb hnb=>hw b hb fun k _ mk=>hnb (.inl ⟨k,mk⟩)
 have hmove:∀x u,svU U x→SVR g w x u→SVR g' w' x u:=fun x u hx hu=>hu.move hx hval hw' hown hsz
 have hout:∀k,¬T k→Zk (fun j=>if H j then obH j else ob j) up k=if H k then obH k else ob k:=fun k hk=>hB.out k hk _
 have hHI:HI W g' (Zk (fun j=>if H j then obH j else ob j) up) w':=by
  refine hI.step (U:=U) (fun k=>T k∨H k) hbel rfl (fun b hb' hq=>hw b hb' fun k hk=>hq k (.inr hk)) (fun k hk=>?_) hobU hval hown (fun k hk=>?_)
  ·have k1:¬T k:=fun h=>hk (.inl h)
   have k2:¬H k:=fun h=>hk (.inr h)
   exact ⟨by rw [hout k k1,if_neg k2],gN k k1⟩
  ·by_cases hTk:T k
   ·obtain ⟨e1,e2,e3⟩:=gT k hTk
    obtain ⟨e,m,ys,cs,p1,p2,p3,p4,p5,_⟩:=hB.at_ k hTk.1 hTk.2
    rw [p1,e2,e3]
    refine ⟨⟨p2,cs,D k,?_,p4,.inl ⟨rfl,by rw [e1,e2];exact p5,e3⟩⟩,hnd.1 k hTk.1 (by have:=hTk.2;omega),fun b mb=>?_,fun j hj b mb mj=>?_⟩
    ·rw [e1];exact ZqH p3 (AE _)
    ·exact ⟨.inl (AI hI.below.size (hge k hTk b mb)),hF.plain b (hmemF k hTk b mb)⟩
    ·by_cases hTj:T j
     ·rw [(gT j hTj).2.1,(gT j hTj).2.2] at mj
      exact hnd.2 k j hTk.1 (by have:=hTk.2;omega) hTj.1 (by have:=hTj.2;omega) hj b mb mj
     ·rw [(gN j hTj).2.1,(gN j hTj).2.2] at mj
      have:=hI.lt j b mj
      have:=hge k hTk b mb
      omega
   ·have hHk:H k:=hk.resolve_left hTk
    obtain ⟨e1,e2,e3⟩:=gN k hTk
    obtain ⟨q1,q2⟩:=hH g' hown2 (fun j hj=>gN j (hTH j hj)) k hHk
    rw [hout k hTk,if_pos hHk,e2,e3]
    refine ⟨q1,hI.nodup k,fun b mb=>⟨(hI.plain k b mb).1,q2 b mb⟩,fun j hj b mb mj=>?_⟩
    by_cases hTj:T j
    ·rw [(gT j hTj).2.1,(gT j hTj).2.2] at mj
     have:=hI.lt k b mb
     have:=hge j hTj b mj
     omega
    ·rw [(gN j hTj).2.1,(gN j hTj).2.2] at mj
     exact hI.apart k j hj b mb mj
 have hAV:∀x u,CR val w' n (Zcg res) key hi x u→AVR g' w' x u∧avU (Uk U key) x:=fun x u h=>by
  cases x with
  | row k=>
   obtain ⟨c1,c2,c3,c4⟩:=h
   exact ⟨⟨by rw [(gT k ⟨c1,c2⟩).1];exact c3,c4⟩,.inr ⟨c1,by omega⟩⟩
  | c x=>
   obtain ⟨L,h1,h2⟩:=h
   refine ⟨⟨L,h1,fun b mb o=>?_⟩,trivial⟩
   rcases hown2 b o with o | o
   ·exact (h2 b mb).2 (hlen (h2 b mb).1 b o)
   ·exact (h2 b mb).2 o.2.2
  | n _=>exact h.elim
  | nil _ _=>exact h.elim
  | dead=>exact h.elim
 have hAVs:∀(ys:List AV) (us:List Value),ZH (CR val w' n (Zcg res) key hi) ys us→ZH (AVR g' w') ys us∧X6 (Uk U key) ys:=fun ys us h=>by
  induction ys generalizing us with
  | nil=>cases us with
   | nil=>exact ⟨trivial,fun _ m=>by simp at m⟩
   | cons _ _=>exact h.elim
  | cons y ys ih=>cases us with
   | nil=>exact h.elim
   | cons u us=>
    obtain ⟨i1,i2⟩:=ih us h.2
    refine ⟨⟨(hAV y u h.1).1,i1⟩,fun z mz=>?_⟩
    rcases A8.1 mz with rfl | mz
    ·exact (hAV z u h.1).2
    ·exact i2 z mz
 have hPV:∀(y:Bool × List AV) (u:Value),PR val w' n (Zcg res) key hi y u→PVR g' w' y.1 y.2 u∧X6 (Uk U key) y.2:=fun y u h=>by
  rcases h with ⟨h1,us,rfl,h3⟩ | ⟨h1,z,h2,h3⟩
  ·obtain ⟨i1,i2⟩:=hAVs _ _ h3
   exact ⟨by rw [h1];exact ⟨us,rfl,i1⟩,i2⟩
  ·obtain ⟨i1,i2⟩:=hAV z u h3
   exact ⟨by rw [h1];exact ⟨z,h2,i1⟩,by rw [h2];intro q mq;simp at mq;subst mq;exact i2⟩
 have hres:SVR g' w' (Zcf xs) v∧svU (Uk U key) (Zcf xs):=by
  have hlen:=hA.len
  by_cases hl:xs.length=1
  ·obtain ⟨x,rfl⟩:=List.length_eq_one_iff.1 hl
   cases vs with
   | nil=>simp at hlen
   | cons u us=>
    cases us with
    | cons _ _=>simp at hlen
    | nil=>
     have hvu:v=u:=by rw [hv];rfl
     rw [hvu]
     exact hPV x u hA.1
  ·have hvs:¬vs.toArray.size=1:=by simp;omega
   rw [dif_neg hvs] at hv
   have e:Zcf xs=.tup xs:=by
    cases xs with
    | nil=>rfl
    | cons x xs=>cases xs with
     | nil=>simp at hl
     | cons _ _=>rfl
   rw [e]
   refine ⟨⟨vs,hv,hA.mono fun y u _ h=>(hPV y u h).1⟩,fun y my=>?_⟩
   obtain ⟨i,hi'⟩:=List.mem_iff_getElem?.1 my
   obtain ⟨u,_,hu⟩:=hA.at hi'
   exact (hPV y u hu).2
 refine ⟨g',hHI,hres.1,hmove,hres.2,fun k=>?_,fun k hk=>?_⟩
 ·by_cases hTk:T k
  ·obtain ⟨e,m,ys,cs,p1,_⟩:=hB.at_ k hTk.1 hTk.2
   rw [p1];trivial
  ·rw [hout k hTk]
   split
   ·rename_i hHk;exact hobH k hHk
   ·exact (hobU k).mono fun _=>.inl
 ·have hTk:¬T k:=fun hTk=>hk (.inr ⟨hTk.1,by have:=hTk.2;omega⟩)
  have hHk:¬H k:=fun h=>hk (.inl (hHU k h))
  rw [hout k hTk,if_neg hHk]
  exact hgone k fun h=>hk (.inl h)
theorem ZjB [NW] (st:St):∀(ks:List Nat) {g:Gh} {ob:Nat→Ob},HI W g ob w→(∀k,ob k=st.ob k∨ob k=Z4 (st.ob k))→∃g1:Gh,HI W g1 (Zk ob (ZO st ks)) w∧g1.val=g.val∧Y7 g1 g∧∀k,Zk ob (ZO st ks) k=(if k∈ks then Z4 (st.ob k) else ob k)
 | [],g,ob,hI,_=>⟨g,hI,rfl,Y7.refl _,fun k=>by simp [ZO,Zk]⟩
 | k::r,g,ob,hI,hob=>by
  have b:Z4 (ob k)=Z4 (st.ob k):=by
   rcases hob k with h | h
   ·rw [h]
   ·rw [h];cases st.ob k<;>rfl
  obtain ⟨g1,h1,h2,h3,_⟩:=ZhF hI k
  rw [b] at h1
  have a:∀j,upd ob k (Z4 (st.ob k)) j=st.ob j∨upd ob k (Z4 (st.ob k)) j=Z4 (st.ob j):=fun j=>by
   by_cases hj:j=k
   ·subst hj;right;rw [Zy]
   ·rw [ZI _ _ hj];exact hob j
  obtain ⟨g2,i1,i2,i3,i4⟩:=ZjB st r h1 a
  refine ⟨g2,i1,i2.trans h2,i3.trans h3,fun j=>?_⟩
  show Zk (upd ob k (Z4 (st.ob k))) (ZO st r) j=_
  rw [i4 j]
  by_cases hj:j=k
  ·subst hj;simp [upd]
  ·simp [hj,upd]
theorem Zmh {st st':St} (h:∀k,st'.ob k=st.ob k∨st'.ob k=Z4 (st.ob k)) (x:SV):Zcd st' x=Zcd st x:=by
 have h1:∀y:AV,Zbc st' y=Zbc st y:=fun y=>by
  cases y with
  | row k=>
   simp only[Zbc]
   rcases h k with e | e
   ·rw [e]
   ·rw [e];cases st.ob k<;>rfl
  | _=>rfl
 have h2:∀ys:List AV,Yq st' ys=Yq st ys:=fun ys=>by
  induction ys with
  | nil=>rfl
  | cons y ys ih=>simp only[Yq,h1,ih]
 cases x<;>simp [Zcd,h2]
theorem ZeL [NW] {st st':St} (h:∀k,st'.ob k=st.ob k∨st'.ob k=Z4 (st.ob k)):∀xs:List SV,ZT st' xs=ZT st xs
 | []=>rfl
 | x::r=>by simp only[ZT];rw [Zmh h x,ZeL h r]
theorem Zk1 {k:Nat}:∀{cs:List AV},AV.row k∈cs→k∈Zhn cs
 | [],h=>by simp at h
 | x::r,h=>by
  rcases A8.1 h with rfl | h
  ·simp [Zhn]
  ·have:=Zk1 h
   cases x<;>simp [Zhn,this]
theorem Zku [NW] {k:Nat} {a:Bool} {cs:List AV}:∀{vs:List SV},SV.p a cs∈vs→AV.row k∈cs→k∈Z1 vs
 | [],h,_=>by simp at h
 | x::r,h,hk=>by
  rcases A8.1 h with rfl | h
  ·simp [Z1,Zk1 hk]
  ·have:=Zku h hk
   cases x<;>simp [Z1,this]
end
end
section
open Go.RowKit
def Zaz (S:Ctx) (f:FuncId) (n key:Nat) (st:St) (vs:List SV) (v:SV) (u:List (Nat × Ob)):Prop:=
 match n with
 | 0=>∃l res,ZT st vs=some l∧S.r f l res∧(!Zcg res||vs.all Zgk)=true∧(ZE key res).2.2≤key+16∧v=Zcf (ZE key res).1∧u=(ZE key res).2.1
 | 1=>∃v0 r k h l res h',vs=v0::r∧ZeF st v0=some (k,h)∧ZT st r=some l∧S.h f h l res h'∧(Z1 r).all (fun j=>j != k)=true∧(ZE key res).2.2≤key+16∧v=Zcf (ZE key res).1∧u=ZO st (Z1 r)++((k,Y9 h')::(ZE key res).2.1)
 | 3=>∃l nb,ZT st vs=some l∧S.b f l nb∧v=ZAz key nb∧u=ZO st (Z1 vs)++[(key,Zub nb)]
 | 4=>∃l res,ZT st (vs.map nlS)=some l∧S.r f l res∧(!Zcg res||(vs.map nlS).all Zgk)=true∧(ZE key res).2.2≤key+16∧v=Zcf (ZE key res).1∧u=(ZE key res).2.1
 | _=>∃l res,ZT st vs=some l∧S.r f l res∧(ZE key res).2.2≤key+16∧v=Zcf (ZE key res).1∧u=ZO st (Z1 vs)++(ZE key res).2.1
theorem ZjD {S:Ctx} {f:FuncId} {n key:Nat} {d:Option Nat} {K:St→Prop} {st:St} {vs:List SV}:spK S f n key d K st vs↔∃v u,Zaz S f n key st vs v u∧K ((st.put d v).app u):=by
 rcases n with _ | _ | _ | _ | _ | n
 ·simp only[spK,Zaz]
  constructor
  ·intro h
   unfold Yp at h
   split at h
   ·rename_i l hl
    obtain ⟨a,h1,h2,h3,h4⟩:=h
    exact ⟨_,_,⟨l,a,hl,h1,h2,h3,rfl,rfl⟩,h4⟩
   ·exact h.elim
  ·rintro ⟨v,u,⟨l,a,hl,h1,h2,h3,rfl,rfl⟩,h4⟩
   rw [hl]
   exact ⟨a,h1,h2,h3,h4⟩
 ·simp only[spK,Zaz]
  constructor
  ·intro h
   cases vs with
   | nil=>exact h.elim
   | cons v0 r=>
    simp only[Zro] at h
    unfold Yp at h
    split at h
    ·rename_i kh hk
     split at h
     ·rename_i l hl
      obtain ⟨a,h',h1,h2,h3,h4⟩:=h
      exact ⟨_,_,⟨v0,r,kh.1,kh.2,l,a,h',rfl,hk,hl,h1,h2,h3,rfl,rfl⟩,h4⟩
     ·exact h.elim
    ·exact h.elim
  ·rintro ⟨v,u,⟨v0,r,k,hh,l,a,h',rfl,hk,hl,h1,h2,h3,rfl,rfl⟩,h4⟩
   simp only[Zro,hk,hl,Yp]
   exact ⟨a,h',h1,h2,h3,h4⟩
 ·simp only[spK,Zaz]
  constructor
  ·intro h
   unfold Yp at h
   split at h
   ·rename_i l hl
    obtain ⟨a,h1,h3,h4⟩:=h
    exact ⟨_,_,⟨l,a,hl,h1,h3,rfl,rfl⟩,h4⟩
   ·exact h.elim
  ·rintro ⟨v,u,⟨l,a,hl,h1,h3,rfl,rfl⟩,h4⟩
   rw [hl]
   exact ⟨a,h1,h3,h4⟩
 ·simp only[spK,Zaz]
  constructor
  ·intro h
   unfold Yp at h
   split at h
   ·rename_i l hl
    obtain ⟨nb,h1,h4⟩:=h
    exact ⟨_,_,⟨l,nb,hl,h1,rfl,rfl⟩,h4⟩
   ·exact h.elim
  ·rintro ⟨v,u,⟨l,nb,hl,h1,rfl,rfl⟩,h4⟩
   rw [hl]
   exact ⟨nb,h1,h4⟩
 ·simp only[spK,Zaz]
  constructor
  ·intro h
   unfold Yp at h
   split at h
   ·rename_i l hl
    obtain ⟨a,h1,h2,h3,h4⟩:=h
    exact ⟨_,_,⟨l,a,hl,h1,h2,h3,rfl,rfl⟩,h4⟩
   ·exact h.elim
  ·rintro ⟨v,u,⟨l,a,hl,h1,h2,h3,rfl,rfl⟩,h4⟩
   rw [hl]
   exact ⟨a,h1,h2,h3,h4⟩
 ·simp only[spK,Zaz]
  constructor
  ·intro h
   unfold Yp at h
   split at h
   ·rename_i l hl
    obtain ⟨a,h1,h3,h4⟩:=h
    exact ⟨_,_,⟨l,a,hl,h1,h3,rfl,rfl⟩,h4⟩
   ·exact h.elim
  ·rintro ⟨v,u,⟨l,a,hl,h1,h3,rfl,rfl⟩,h4⟩
   rw [hl]
   exact ⟨a,h1,h3,h4⟩
section
variable {P:Program} {J:World→Prop} {JF:Nat→Prop} {W:QK} {U:Nat→Prop} {key:Nat} {st:St} {g:Gh} {w w':World} {a:Act} {tt:Nat→Option TI} {hd:FuncId→Nat}
def ZvZ [NW] (W:QK) (U:Nat→Prop) (key:Nat) (st:St) (g:Gh) (w:World) (v:SV) (u:List (Nat × Ob)) (cv:Value) (w':World):Prop:=
 ∃g',HI W g' (Zk st.ob u) w'∧SVR g' w' v cv∧(∀x c,svU U x→SVR g w x c→SVR g' w' x c)∧svU (Uk U key) v∧(∀k,obU (Uk U key) (Zk st.ob u k))∧∀k,¬Uk U key k→Zk st.ob u k=.gone
theorem HI.ownlt [NW] {ob:Nat→Ob} (hI:HI W g ob w) {b:Nat} (h:g.own b):b<w.heap.size:=by
 rcases h with ⟨k,mk⟩ | hz
 ·exact hI.lt k b (by simp [mk])
 ·rw [hI.gz] at hz
  exact AS (hI.zx b hz).1 hI.below.size
theorem Ztg {ks:List Nat} {ob:Nat→Ob} (a:∀k,obU U (st.ob k)) (h:∀k,ob k=(if k∈ks then Z4 (st.ob k) else st.ob k)):∀k,obU U (ob k):=fun k=>by
 rw [h k]
 have:=a k
 split
 ·cases hk:st.ob k<;>simp only[Z4]<;>first | trivial | (rw [hk] at this;exact this)
 ·exact this
theorem ZqL [NW] {vs:List SV} {l:List (Bool × List CT)} {st1:St} (h:∀k,st1.ob k=(if k∈Z1 vs then Z4 (st.ob k) else st.ob k)) (hl:ZT st vs=some l):∀x∈vs,Zsy st1.ob x:=by
 have key:∀(cs:List AV) (l:List CT),Yq st cs=some l→(∀k,AV.row k∈cs→k∈Z1 vs)→∀y∈cs,Zuh st1.ob y:=by
  intro cs
  induction cs with
  | nil=>intro l _ _ y my;simp at my
  | cons c cs ih=>
   intro l hl hk y my
   simp only[Yq] at hl
   obtain ⟨c1,h1,hl⟩:=A5.1 hl
   obtain ⟨c2,h2,_⟩:=A4.1 hl
   rcases A8.1 my with rfl | my
   ·cases y with
    | row k=>
     simp only[Zbc] at h1
     split at h1
     ·rename_i e m xs d hob
      exact ⟨e,m,xs,by rw [h k,if_pos (hk k (by simp)),hob];rfl⟩
     ·simp at h1
    | _=>trivial
   ·exact ih c2 h2 (fun k mk=>hk k (by simp [mk])) y my
 have all:∀(xs:List SV) (l:List (Bool × List CT)),ZT st xs=some l→(∀x∈xs,x∈vs)→∀x∈xs,Zsy st1.ob x:=by
  intro xs
  induction xs with
  | nil=>intro l _ _ x mx;simp at mx
  | cons x xs ih=>
   intro l hl hm y my
   simp only[ZT] at hl
   obtain ⟨c1,h1,hl⟩:=A5.1 hl
   obtain ⟨c2,h2,_⟩:=A4.1 hl
   rcases A8.1 my with rfl | my
   ·cases y with
    | p ag cs=>
     simp only[Zcd] at h1
     obtain ⟨l1,h3,_⟩:=A4.1 h1
     exact key cs l1 h3 (fun k mk=>Zku (hm (.p ag cs) (by simp)) mk)
    | _=>trivial
   ·exact ih c2 h2 (fun z mz=>hm z (by simp [mz])) y my
 exact all vs l hl (fun _ h=>h)
theorem ZBI {k:Nat} {inst:∀j,Decidable (j=k)} (ob:Nat→Ob) (o:Ob):(fun j=>@ite _ (j=k) (inst j) o (ob j))=upd ob k o:=by
 funext j
 simp only[upd]
 split<;>rfl
theorem ZhH [NW] (htt:MOk P J JF W tt) {f:FuncId} {vs:List SV} {a:List Value} {v:SV} {u:List (Nat × Ob)} (h:Zaz (SC P J JF hd) f 0 key st vs v u) (hH:HI W g st.ob w) (hU:StU U st) (c:∀k,key≤k→k<key+16→¬U k) (j:ZH (SVR g w) vs a) (hvU:∀x∈vs,svU U x):
  ZcX P f∧Calls P f a.toArray w fun e w'=>∃cv,e=.returned cv∧ZvZ W U key st g w v u cv w':=by
 obtain ⟨l,o,hl,hs,d,hn,rfl,rfl⟩:=h
 obtain ⟨hc,hC⟩:=hs
 refine ⟨hc,?_⟩
 by_cases m:Zcg o=true
 ·have p:∀x∈vs,Zsy st.ob x:=Zuw (by simpa [m] using d)
  refine (hC w g.own a (htt.at hH.below) (fun b hb=>hH.ownlt hb) (Zcq hH hl j (.inr ⟨p,fun _ h=>h⟩))).mono ?_
  rintro e w' ⟨cv,n,rfl,hr,hz,hb⟩
  obtain ⟨g',t1,t2,t3,t4,t5,t6⟩:=Zgi hH hU.ob hU.gone c hr hn (fun _=>False) (fun _ h=>h.elim) (fun _=>.gone) (fun _ b hb=>hz b hb) (hH.below.trans hb) hb.size (fun b i _=>hb.block b i) (fun _ h=>h.elim) (fun _ _ _ _ h=>h.elim)
  simp only[if_false] at t1 t5 t6
  exact ⟨cv,rfl,g',t1,t2,t3,t4,t5,t6⟩
 ·refine (hC w (fun _=>False) a (htt.at hH.below) (fun b hb=>hb.elim) (Zcq hH hl j (.inl fun _ h=>h))).mono ?_
  rintro e w' ⟨cv,n,rfl,hr,hz,hb⟩
  obtain ⟨g',t1,t2,t3,t4,t5,t6⟩:=Zgi hH hU.ob hU.gone c hr hn (fun _=>False) (fun _ h=>h.elim) (fun _=>.gone) (fun h=>absurd h m) (hH.below.trans hb) hb.size (fun b i _=>hb.block b i) (fun _ h=>h.elim) (fun _ _ _ _ h=>h.elim)
  simp only[if_false] at t1 t5 t6
  exact ⟨cv,rfl,g',t1,t2,t3,t4,t5,t6⟩
theorem Zuj [NW] {x:AV} {v:Value} (h:AVR g w x v):AVR g w (nlA x) v:=by
 cases x with
 | nil e m=>exact ⟨[],⟨h,rfl⟩,yG⟩
 | _=>exact h
theorem Zrd [NW]:∀{xs:List AV} {vs:List Value},ZH (AVR g w) xs vs→ZH (AVR g w) (xs.map nlA) vs
 | [],[],_=>trivial
 | [],_::_,h=>h.elim
 | _::_,[],h=>h.elim
 | _::_,_::_,h=>⟨Zuj h.1,Zrd h.2⟩
theorem Zzy [NW] {x:SV} {v:Value} (h:SVR g w x v):SVR g w (nlS x) v:=by
 cases x with
 | p a cs=>
  cases a with
  | true=>obtain ⟨vs,h1,h2⟩:=h;exact ⟨vs,h1,Zrd h2⟩
  | false=>obtain ⟨y,rfl,h2⟩:=h;exact ⟨_,rfl,Zuj h2⟩
 | _=>exact h
theorem Zrj [NW]:∀{xs:List SV} {vs:List Value},ZH (SVR g w) xs vs→ZH (SVR g w) (xs.map nlS) vs
 | [],[],_=>trivial
 | [],_::_,h=>h.elim
 | _::_,[],h=>h.elim
 | _::_,_::_,h=>⟨Zzy h.1,Zrj h.2⟩
theorem ZtO {x:SV} (h:svU U x):svU U (nlS x):=by
 cases x with
 | p a cs=>
  intro y my
  obtain ⟨z,mz,rfl⟩:=AH.1 my
  have hz:=h z mz
  cases z<;>first | exact hz | trivial
 | _=>exact h
theorem Zfw [NW] (htt:MOk P J JF W tt) {f:FuncId} {n:Nat} {vs:List SV} {cvs:List Value} {v:SV} {u:List (Nat × Ob)} (h:Zaz (SC P J JF hd) f n key st vs v u) (hH:HI W g st.ob w) (hU:StU U st) (hkey:∀k,key≤k→k<key+16→¬U k) (hvs:ZH (SVR g w) vs cvs) (hvU:∀x∈vs,svU U x):
  ZcX P f∧Calls P f cvs.toArray w fun e w'=>∃cv,e=.returned cv∧ZvZ W U key st g w v u cv w':=by
 unfold Zaz at h
 split at h
 ·exact ZhH htt (f:=f) (vs:=vs) h hH hU hkey hvs hvU
 ·obtain ⟨v0,r,k,hh,l,res,h',rfl,hk,hl,hs,hne,hn,rfl,rfl⟩:=h
  obtain ⟨hc,hC⟩:=hs
  refine ⟨hc,?_⟩
  cases cvs with
  | nil=>exact hvs.elim
  | cons c0 cr=>
  obtain ⟨hv0,hvr⟩:=hvs
  obtain ⟨g1,i1,i2,i3,i4⟩:=ZjB st (Z1 r) hH (fun k=>.inl rfl)
  let st1:St:=⟨st.sl,Zk st.ob (ZO st (Z1 r)),st.n⟩
  have hob1:∀k,st1.ob k=(if k∈Z1 r then Z4 (st.ob k) else st.ob k):=i4
  have hfr:∀k,st1.ob k=st.ob k∨st1.ob k=Z4 (st.ob k):=fun k=>by
   rw [hob1 k];split
   ·exact .inr rfl
   ·exact .inl rfl
  have hl1:ZT st1 r=some l:=by rw [ZeL hfr];exact hl
  have hok1:=ZqL (st1:=st1) hob1 hl
  have hkr:k∉Z1 r:=fun hm=>by
   have:=Ab.1 hne k hm
   simp at this
  have hk1:st1.ob k=st.ob k:=by rw [hob1 k,if_neg hkr]
  have hUk:st.ob k≠.gone→U k:=fun hg=>Classical.byContradiction fun hn=>hg (hU.gone k hn)
  have hobU1:∀j,obU U (st1.ob j):=Ztg hU.ob hob1
  have hgone1:∀j,¬U j→st1.ob j=.gone:=fun j hj=>by
   have e:=hU.gone j hj
   rcases hfr j with h | h<;>rw [h,e]<;>rfl
  have hv0':SVR g1 w v0 c0:=hv0.less i2 i3
  have hvr':ZH (SVR g1 w) r cr:=hvr.mono fun x c _ hx=>hx.less i2 i3
  have hhand:∃q:Option Nat,Zme w (inQ (fun b=>g1.own b∧¬q=some b) q) q hh c0∧g1.O k=q.toList∧g1.D k=[]∧c0=g1.val k∧st.ob k≠.gone:=by
   unfold ZeF at hk
   split at hk
   ·rename_i k'
    split at hk
    ·rename_i t cs hob
     split at hk
     ·rename_i hnr
      obtain ⟨l',hl',e⟩:=A4.1 hk
      simp only[A6] at e
      obtain ⟨rfl,rfl⟩:=e
      have ho:=i1.obs k'
      rw [show Zk st.ob (ZO st (Z1 r)) k'=.box t cs from hk1.trans hob] at ho
      obtain ⟨b,vs,h1,h2,h3,h4,h5⟩:=ho
      obtain ⟨b',h6,h7⟩:=hv0'
      have hb:b'=b:=by rw [h6] at h1;simpa using h1
      subst hb
      have hl1':Yq st1 cs=some l':=by
       have:=Zmh hfr (.p true cs)
       simp only[Zcd,hl'] at this
       obtain ⟨x,hx,hx2⟩:=A4.1 this
       simp only[A6,true_and] at hx2
       rw [hx,hx2]
      obtain ⟨L,hL,hL2⟩:=Zei (st:=st1) i1 hl1' h5
      refine ⟨some b',⟨b',vs,L,rfl,h7,h4,hL,fun x mx hx=>?_⟩,by simp [h2],h3,by rw [h7,h6],by rw [hob];simp⟩
      refine hL2 (fun y my=>?_) x mx ?_
      ·have:=Ab.1 hnr y my
       cases y<;>simp [Zaa] at this<;>trivial
      ·rcases hx with hx | hx
       ·exact hx.1
       ·simp only[A0] at hx
        subst hx
        exact .inl ⟨k',by simp [h2]⟩
     ·simp at hk
    ·simp at hk
   ·rename_i k'
    split at hk
    ·rename_i e m xs d hob
     split at hk
     ·rename_i hd2
      simp only[A0,A6] at hk
      obtain ⟨rfl,rfl⟩:=hk
      have ho:=i1.obs k'
      rw [show Zk st.ob (ZO st (Z1 r)) k'=.row e m xs d from hk1.trans hob] at ho
      obtain ⟨hm,cs,L,h1,h2,h3⟩:=ho
      obtain rfl:=ZfO h2 hd2.2
      obtain ⟨x,hx1,hx2⟩:=hv0'
      simp only[AM,and_true] at hx1
      subst hx1
      rcases h3 with ⟨_,h3,h4⟩ | ⟨h3,_⟩ | ⟨h3,_⟩
      ·exact ⟨(g1.val k').ownBlock,⟨hd2.2,hm,by rw [hx2.1],cs,by rw [hx2.1];exact h1,h2⟩,h3,h4,hx2.1,by rw [hob];simp⟩
      ·omega
      ·omega
     ·simp at hk
    ·simp at hk
   ·simp at hk
  obtain ⟨q,hq1,hq2,hq3,hq4,hq5⟩:=hhand
  have hkU:=hUk hq5
  have hqo:∀b,q=some b→g1.own b:=fun b hb=>.inl ⟨k,by simp [hq2,hb]⟩
  have hin:∀b,g1.own b→inQ (fun b=>g1.own b∧¬q=some b) q b:=fun b hb=>by
   by_cases hqb:q=some b
   ·exact .inr hqb
   ·exact .inl ⟨hb,hqb⟩
  have hargs:ZH (Zjv w (inQ (fun b=>g1.own b∧¬q=some b) q)) l cr:=Zcq (st:=st1) i1 hl1 hvr' (.inr ⟨hok1,fun b hb=>by
   rcases hb with hb | hb
   ·exact hb.1
   ·exact hqo b hb⟩)
  have hqf:∀b,q=some b→JF b:=fun b hb=>by
   rcases (i1.plain k b (by simp [hq2,hb])).1 with h | h
   ·exact htt.jf b h
   ·exact htt.xf b h
  refine (hC w _ q c0 cr (htt.at hH.below) hqf (fun b hb=>⟨i1.ownlt hb.1,hb.2⟩) hq1 hargs).mono ?_
  rintro e w' ⟨cv,n,rfl,hr,hz,hb',hbq⟩
  have hbel:Bel W w':=⟨hbq.os.trans hH.below.os,hbq.tape.trans hH.below.tape,hbq.output.trans hH.below.output,AI hH.below.size hbq.size,fun i hi hx=>by
   rw [hbq.block i (AS hi hH.below.size) fun hqi=>?_]
   ·exact hH.below.block i hi hx
   ·rcases (i1.plain k i (by simp [hq2,hqi])).1 with h | h
    ·omega
    ·exact hx h⟩
  obtain ⟨g',t1,t2,t3,t4,t5,t6⟩:=Zgi i1 hobU1 hgone1 hkey hr hn (fun j=>j=k) (fun j hj=>by rw [hj];exact hkU) (fun _=>Y9 h') (fun _ b hb=>hz b (hin b hb)) hbel hbq.size
   (fun b hb hk'=>hbq.block b hb fun hqb=>hk' k rfl (by simp [hq2,hqb]))
   (fun j _=>by
    cases h' with
    | row e m xs=>trivial
    | box t cs=>intro y my;simp only[AH] at my;obtain ⟨x,_,rfl⟩:=my;trivial)
   (fun g' ho hg' j hj=>by
    subst hj
    obtain ⟨e1,e2,e3⟩:=hg' j rfl
    have hno:∀b,¬n b→¬g'.own b:=fun b hnb hob=>by
     rcases ho b hob with h | h
     ·exact hnb (hz b (hin b h))
     ·exact hnb h.2.2
    cases h' with
    | row e m xs=>
     obtain ⟨p1,p2,p3,cs,p4,p5⟩:=hb'
     refine ⟨⟨p2,cs,[],by rw [e1,←hq4];exact p4,p5,.inl ⟨rfl,by rw [e2,hq2,e1,←hq4,p3],by rw [e3,hq3]⟩⟩,fun b mb=>?_⟩
     rw [hq2,hq3] at mb
     simp at mb
     rcases p4.2 with ⟨h0,_⟩ | ⟨gg,o,cap,cur,hv,_,hcc,_⟩
     ·rw [h0] at p3;simp [Value.ownBlock] at p3;rw [←p3] at mb;simp at mb
     ·rw [hv] at p3;simp only[Value.ownBlock] at p3;rw [mb] at p3;simp at p3;subst p3;exact ⟨_,_,hcc⟩
    | box t cs=>
     obtain ⟨b,vs,L,p1,p2,p3,p4,p5⟩:=hb'
     refine ⟨⟨b,vs,by rw [e1,←hq4];exact p2,by rw [e2,hq2,p1];rfl,by rw [e3,hq3],p3,p4.avr fun x mx=>hno x (p5 x mx)⟩,fun x mx=>?_⟩
     rw [hq2,hq3,p1] at mx
     simp at mx
     subst mx
     exact ⟨_,_,p3⟩)
  have hup:Zk st.ob (ZO st (Z1 r)++((k,Y9 h')::(ZE key res).2.1))=Zk (upd (Zk st.ob (ZO st (Z1 r))) k (Y9 h')) (ZE key res).2.1:=by rw [Yy];rfl
  have hif:=ZBI (k:=k) (inst:=fun j=>Classical.propDecidable (j=k)) (Zk st.ob (ZO st (Z1 r))) (Y9 h')
  have t1':HI W g' (Zk (upd (Zk st.ob (ZO st (Z1 r))) k (Y9 h')) (ZE key res).2.1) w':=hif ▸ t1
  have t5':∀j,obU (Uk U key) (Zk (upd (Zk st.ob (ZO st (Z1 r))) k (Y9 h')) (ZE key res).2.1 j):=hif ▸ t5
  have t6':∀j,¬Uk U key j→Zk (upd (Zk st.ob (ZO st (Z1 r))) k (Y9 h')) (ZE key res).2.1 j=.gone:=hif ▸ t6
  rw [←hup] at t1' t5' t6'
  exact ⟨cv,rfl,g',t1',t2,fun x c hx hc=>t3 x c hx (hc.less i2 i3),t4,t5',t6'⟩
 ·obtain ⟨l,nb,hl,hs,rfl,rfl⟩:=h
  obtain ⟨hc,hC⟩:=hs
  refine ⟨hc,?_⟩
  obtain ⟨g1,i1,i2,i3,i4⟩:=ZjB st (Z1 vs) hH (fun k=>.inl rfl)
  let st1:St:=⟨st.sl,Zk st.ob (ZO st (Z1 vs)),st.n⟩
  have hob1:∀k,st1.ob k=(if k∈Z1 vs then Z4 (st.ob k) else st.ob k):=i4
  have hfr:∀k,st1.ob k=st.ob k∨st1.ob k=Z4 (st.ob k):=fun k=>by
   rw [hob1 k];split
   ·exact .inr rfl
   ·exact .inl rfl
  have hl1:ZT st1 vs=some l:=by rw [ZeL hfr];exact hl
  have hok1:=ZqL (st1:=st1) hob1 hl
  have hobU1:∀j,obU U (st1.ob j):=Ztg hU.ob hob1
  have hgone1:∀j,¬U j→st1.ob j=.gone:=fun j hj=>by
   have e:=hU.gone j hj
   rcases hfr j with h | h<;>rw [h,e]<;>rfl
  have hvs':ZH (SVR g1 w) vs cvs:=hvs.mono fun x c _ hx=>hx.less i2 i3
  refine (hC w g1.own cvs (htt.at hH.below) (fun b hb=>i1.ownlt hb) (Zcq (st:=st1) i1 hl1 hvs' (.inr ⟨hok1,fun _ h=>h⟩))).mono ?_
  rintro e w' ⟨b,n,rfl,hb,hnR,hnb,hz,hbel⟩
  have hkU:¬U key:=hkey key (A7 _) (by omega)
  let g':Gh:=⟨fun k=>if k=key then Zmc b nb else g1.val k,fun k=>if k=key then [b] else g1.O k,fun k=>if k=key then [] else g1.D k,g1.Z⟩
  have hval:∀k,U k→g'.val k=g1.val k:=fun k hk=>if_neg fun (e:k=key)=>hkU (e ▸ hk)
  have hown2:∀x,g'.own x→g1.own x∨x=b:=fun x hx=>by
   rcases hx with ⟨k,mk⟩ | hx
   ·simp only[g'] at mk
    split at mk
    ·exact .inr (by simpa using mk)
    ·exact .inl (.inl ⟨k,mk⟩)
   ·exact .inl (.inr hx)
  have hown:X7 g1 g' w.heap.size:=.of (fun x hx=>(hown2 x hx).imp id fun (e:x=b)=>by rw [e];exact hb) fun j x mx=>by
   simp only[g'] at mx
   split at mx
   ·simp at mx
   ·exact .inl (.inr ⟨j,mx⟩)
  have hno:∀x,¬n x→¬g'.own x:=fun x mx hx=>mx (by
   rcases hown2 x hx with h | h
   ·exact hz x h
   ·rw [h];exact hnb)
  have hup:Zk st.ob (ZO st (Z1 vs)++[(key,Zub nb)])=upd (Zk st.ob (ZO st (Z1 vs))) key (Zub nb):=by rw [Yy];rfl
  have hvk:g'.val key=Zmc b nb:=if_pos rfl
  have hplain:Xk w' (Zub nb) b:=by
   cases nb with
   | box t cs=>obtain ⟨us,L,p1,_⟩:=hnR;exact ⟨_,_,p1⟩
   | map kk vk kv=>obtain ⟨es,c,p1,_⟩:=hnR;exact ⟨_,_,p1⟩
  refine ⟨_,rfl,g',?_,?_,fun x c hx hc=>(hc.less i2 i3).move hx hval (fun b hb _=>hbel.block b hb) hown hbel.size,?_,fun k=>?_,fun k hk=>?_⟩
  ·rw [hup]
   refine i1.step (U:=U) (fun k=>k=key) (hH.below.trans hbel) rfl (fun b hb _=>hbel.block b hb) (fun k hk=>⟨ZI _ _ hk,if_neg hk,if_neg hk,if_neg hk⟩) hobU1 hval hown (fun k hk=>?_)
   subst hk
   have e1:g'.O k=[b]:=if_pos rfl
   have e2:g'.D k=[]:=if_pos rfl
   rw [Zy,e1,e2]
   refine ⟨?_,by simp,fun x mx=>?_,fun j hj x mx mj=>?_⟩
   ·cases nb with
    | box t cs=>obtain ⟨us,L,p1,p2,p3⟩:=hnR;exact ⟨b,us,hvk,e1,e2,p1,p2.avr fun x mx=>hno x (p3 x mx)⟩
    | map kk vk kv=>obtain ⟨es,c,p1,p2⟩:=hnR;exact ⟨b,es,c,hvk,e1,e2,p1,p2⟩
   ·simp at mx;subst mx;exact ⟨.inl (AI hH.below.size hb),hplain⟩
   ·simp at mx;subst mx
    have e3:g'.O j=g1.O j:=if_neg fun e=>hj e.symm
    have e4:g'.D j=g1.D j:=if_neg fun e=>hj e.symm
    rw [e3,e4] at mj
    have:=i1.lt j x mj
    omega
  ·cases nb with
   | box t cs=>exact ⟨b,hvk,rfl⟩
   | map kk vk kv=>exact ⟨.row key,rfl,hvk.symm,rfl⟩
  ·cases nb with
   | box t cs=>exact .inr ⟨A7 _,by omega⟩
   | map kk vk kv=>intro y my;simp at my;subst my;exact .inr ⟨A7 _,by omega⟩
  ·rw [hup]
   by_cases hk:k=key
   ·subst hk;rw [Zy]
    cases nb with
    | box t cs=>intro y my;simp only[AH] at my;obtain ⟨x,_,rfl⟩:=my;trivial
    | map kk vk kv=>trivial
   ·rw [ZI _ _ hk];exact (hobU1 k).mono fun _=>.inl
  ·have hk2:¬k=key:=fun e=>hk (.inr ⟨by omega,by omega⟩)
   rw [hup,ZI _ _ hk2]
   exact hgone1 k fun h=>hk (.inl h)
 ·exact ZhH htt (f:=f) (vs:=vs.map nlS) h hH hU hkey (Zrj hvs) (fun x hx=>by
   obtain ⟨y,my,rfl⟩:=AH.1 hx
   exact ZtO (hvU y my))
 ·obtain ⟨l,res,hl,hs,hn,rfl,rfl⟩:=h
  obtain ⟨hc,hC⟩:=hs
  refine ⟨hc,?_⟩
  obtain ⟨g1,i1,i2,i3,i4⟩:=ZjB st (Z1 vs) hH (fun k=>.inl rfl)
  let st1:St:=⟨st.sl,Zk st.ob (ZO st (Z1 vs)),st.n⟩
  have hob1:∀k,st1.ob k=(if k∈Z1 vs then Z4 (st.ob k) else st.ob k):=i4
  have hfr:∀k,st1.ob k=st.ob k∨st1.ob k=Z4 (st.ob k):=fun k=>by
   rw [hob1 k];split
   ·exact .inr rfl
   ·exact .inl rfl
  have hl1:ZT st1 vs=some l:=by rw [ZeL hfr];exact hl
  have hok1:=ZqL (st1:=st1) hob1 hl
  have hobU1:∀j,obU U (st1.ob j):=Ztg hU.ob hob1
  have hgone1:∀j,¬U j→st1.ob j=.gone:=fun j hj=>by
   have e:=hU.gone j hj
   rcases hfr j with h | h<;>rw [h,e]<;>rfl
  have hvs':ZH (SVR g1 w) vs cvs:=hvs.mono fun x c _ hx=>hx.less i2 i3
  refine (hC w g1.own cvs (htt.at hH.below) (fun b hb=>i1.ownlt hb) (Zcq (st:=st1) i1 hl1 hvs' (.inr ⟨hok1,fun _ h=>h⟩))).mono ?_
  rintro e w' ⟨cv,n,rfl,hr,hz,hb⟩
  obtain ⟨g',t1,t2,t3,t4,t5,t6⟩:=Zgi i1 hobU1 hgone1 hkey hr hn (fun _=>False) (fun _ h=>h.elim) (fun _=>.gone) (fun _ b hb=>hz b hb) (hH.below.trans hb) hb.size (fun b hb' _=>hb.block b hb') (fun _ h=>h.elim) (fun _ _ _ _ h=>h.elim)
  simp only[if_false,←Yy] at t1 t5 t6
  exact ⟨cv,rfl,g',t1,t2,fun x c hx hc=>t3 x c hx (hc.less i2 i3),t4,t5,t6⟩
end
end
end Go.Proofs.YtekbmedphidcgaaGreatDoor
