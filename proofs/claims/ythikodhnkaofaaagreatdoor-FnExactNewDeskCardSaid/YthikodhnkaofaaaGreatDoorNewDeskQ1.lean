/- Texts of this proof, joined: Base, Own, Codec, Types, BTree, BState, BInv, BOps4, BCall, BDraw, BSound, BSimp, BFn, BTok, BLoop, BDec, Laid, DT, Nd. What each holds is said at its theorems. -/
import Derived.WalkKit
import Derived.Lib.Hide
import Derived.Deep.Draws
import Derived.Maps.AppendAt
import Derived.Deep.QuietTactic
import Derived.BigQuiet
import Derived.Laws.Tables
import Derived.Orders
import Derived.IntWalk
import GoSem.Claims
import Derived.Test.YthikodhnkaofaaaGreatDoorProg
import Derived.Lib.LaidTab
import Derived.Lib.ItoaNum
import Derived.OwnWalk
import Derived.Outline
import Derived.WalkSpells
import Derived.StillTailTactics
import Derived.Deep.RegionHeld3
set_option linter.unusedSimpArgs false
set_option linter.unusedVariables false
namespace Go.Proofs.YthikodhnkaofaaaGreatDoor
section
open Go.RowKit
def ZbE (w:World) (b off:Nat) (xs:List Value):Prop:=∀j u,xs[j]?=some u→w.cell? ⟨b,off+j,none⟩=some u
def Sl (w:World) (size:Nat) (A:Option Addr) (n:Nat) (xs:List Value) (L:List Nat):Prop:=
 xs.length=n * size∧((n=0∧L=[])∨(0<n∧∃b off,A=some ⟨b,off,none⟩∧L=[b]∧ZbE w b off xs))
section
variable {w w':World} {size n:Nat} {A:Option Addr} {xs:List Value} {L:List Nat}
theorem Sl.zero:Sl w size A 0 [] []:=⟨by simp,.inl ⟨rfl,rfl⟩⟩
theorem Sl.at_ (h:Sl w size A n xs L) (hn:0<n):∃b off,A=some ⟨b,off,none⟩∧L=[b]∧ZbE w b off xs:=by
 rcases h.2 with ⟨h0,_⟩ | ⟨_,h⟩
 ·omega
 ·exact h
theorem Sl.keep (h:Sl w size A n xs L) (hk:∀b∈L,w'.heap[b]?=w.heap[b]?):Sl w' size A n xs L:=by
 refine ⟨h.1,?_⟩
 rcases h.2 with h0 | ⟨hn,b,off,hA,hL,hc⟩
 ·exact .inl h0
 ·refine .inr ⟨hn,b,off,hA,hL,fun j u hu=>?_⟩
  rw [←hc j u hu]
  exact World.cell?_of_block (hk b (by simp [hL]))
theorem Sl.lt (h:Sl w size A n xs L) (hs:0<size):∀b∈L,b<w.heap.size:=by
 rcases h.2 with h0 | ⟨hn,b,off,hA,hL,hc⟩
 ·simp [h0.2]
 ·intro x hx
  rw [hL] at hx
  simp at hx
  subst hx
  have hp:0<xs.length:=by rw [h.1];exact Nat.mul_pos hn hs
  exact World.block_lt_of_cell? w _ (hc 0 _ (List.getElem?_eq_getElem hp))
end
structure Own (w:World) (base:Nat) (L:List Nat):Prop where
 nodup:L.Nodup
 ge:∀b∈L,base≤b
 plain:∀b∈L,∃cur e,w.heap[b]?=some (.cells cur e (0,0))
theorem Own.nil (w:World) (base:Nat):Own w base []:=⟨List.nodup_nil,by simp,by simp⟩
theorem Own.lt {w:World} {base:Nat} {L:List Nat} (h:Own w base L):∀b∈L,b<w.heap.size:=by
 intro b hb
 obtain ⟨cur,e,hc⟩:=h.plain b hb
 exact (Array.getElem?_eq_some_iff.1 hc).1
theorem Own.keep {w w':World} {base:Nat} {L:List Nat} (h:Own w base L) (hk:∀b∈L,w'.heap[b]?=w.heap[b]?):Own w' base L:=
 ⟨h.nodup,h.ge,fun b hb=>by rw [hk b hb];exact h.plain b hb⟩
theorem Qu {B:Nat} {w w':World} {L:List Nat} (hb:Below B w w') (h:∀b∈L,b<B):∀b∈L,w'.heap[b]?=w.heap[b]?:=
 fun b m=>hb.block b (h b m)
structure ZLq (L:List Nat) (w w':World):Prop where
 os:w'.os=w.os
 tape:w'.tape=w.tape
 output:w'.output=w.output
 size:w.heap.size≤w'.heap.size
 block:∀k,k<w.heap.size→k∉L→w'.heap[k]?=w.heap[k]?
theorem ZLq.refl (L:List Nat) (w:World):ZLq L w w:=⟨rfl,rfl,rfl,Nat.le_refl _,fun _ _ _=>rfl⟩
theorem ZLq.trans {L:List Nat} {a b c:World} (h:ZLq L a b) (k:ZLq L b c):ZLq L a c:=
 ⟨k.os.trans h.os,k.tape.trans h.tape,k.output.trans h.output,Nat.le_trans h.size k.size,fun i hi hn=>(k.block i (Nat.lt_of_lt_of_le hi h.size) hn).trans (h.block i hi hn)⟩
theorem ZLq.mono {L L':List Nat} {w w':World} (h:ZLq L w w') (hl:∀b∈L,b∈L'):ZLq L' w w':=
 ⟨h.os,h.tape,h.output,h.size,fun k hk hn=>h.block k hk (fun m=>hn (hl k m))⟩
theorem ZLq.below {L:List Nat} {B:Nat} {w w':World} (h:ZLq L w w') (hB:B≤w.heap.size) (hl:∀b∈L,B≤b):Below B w w':=
 ⟨h.os,h.tape,h.output,h.size,fun k hk=>h.block k (by omega) (fun m=>by have:=hl k m;omega)⟩
theorem ZLq.of_below {w w':World} (h:Below w.heap.size w w') (L:List Nat):ZLq L w w':=⟨h.os,h.tape,h.output,h.size,fun k hk _=>h.block k hk⟩
theorem ZLq.keep {L M:List Nat} {w w':World} (h:ZLq L w w') (hl:∀b∈M,b<w.heap.size) (hd:∀b∈M,b∉L):∀b∈M,w'.heap[b]?=w.heap[b]?:=
 fun b m=>h.block b (hl b m) (hd b m)
theorem ZLq.setCell {L:List Nat} {a w:World} (h:ZLq L a w) {p:Addr} (hp:p.block∈L) (u:Value):ZLq L a (w.setCell p u):=
 h.trans ⟨rfl,rfl,rfl,by simp [World.setCell],fun k _ hn=>Below.heap_setCell _ _ _ _ (fun e=>hn (by rw [e];exact hp))⟩
theorem ZPw {B:Nat} {a w:World} (h:Below B a w) (n:Nat):Below B a (w.drewN n):=⟨h.os,h.tape,h.output,h.size,h.block⟩
theorem ZNn (B:Nat) (w:World) (n:Nat):Below B w (w.drewN n):=ZPw (Below.refl _ _) n
theorem ZPQ (w:World) (q p:Nat):∃r,(w.drewN q).drewN p=w.drewN r:=⟨q+p,World.drewN_drewN w q p⟩
theorem ZPr (w:World) (q:Nat):∃r,w.drewN q=w.drewN r:=⟨q,rfl⟩
theorem ZNO {w:World} {b o:Nat} {u v:Value} (h:w.cell? ⟨b,o,none⟩=some v):(w.setCell ⟨b,o,none⟩ u).cell? ⟨b,o,none⟩=some u:=by
 unfold World.cell? at h ⊢
 unfold World.setCell
 simp only [Array.getElem?_modify,if_true]
 cases hb:w.heap[b]? with
 | none=>simp [hb] at h
 | some ob=>
  cases ob<;>simp [hb] at h ⊢
  have hlt:=(Array.getElem?_eq_some_iff.1 h).1
  simp [Array.getElem?_setIfInBounds,hlt]
theorem ZL2 {k:IntKind} {a b:Int} (h:a=b):Ending.returned (.int k a)=.returned (.int k b):=by rw [h]
section
variable {w w':World} {n:Nat} {A:Option Addr} {zs:List Int} {L:List Nat}
end
section
variable {P:Program} {f:FuncId} {args:Array Value} {w:World} {a n:Nat} {v:Value}
end
end
end Go.Proofs.YthikodhnkaofaaaGreatDoor
namespace Go.Proofs.YthikodhnkaofaaaGreatDoor
open Go.RowKit
end Go.Proofs.YthikodhnkaofaaaGreatDoor
namespace Go
open Go.RowKit Go.Proofs.YthikodhnkaofaaaGreatDoor
def World.ownsV (w : World) (base : Nat) (e : TypeId) (size : Nat) (v : Value) (n : Nat) (xs : List Value) : Prop :=
  xs.length = n * size ∧ ((v = .slice none 0 0 ∧ n = 0) ∨
   ∃ g o cap cur, v = .slice (some ⟨g, o, none⟩) n cap ∧ base ≤ g ∧ w.heap[g]? = some (.cells cur e (0, 0)) ∧ n ≤ cap ∧ cap ≤ maxLen ∧ o + cap * size ≤ cur.size ∧ (cur.toList.drop o).take (n * size) = xs)
end Go
namespace Go.Proofs.YthikodhnkaofaaaGreatDoor
open Go.RowKit
section
variable {w w':World} {base:Nat} {e:TypeId} {size n:Nat} {v:Value} {xs:List Value}
theorem Zet (h:w.ownsRow base e size v n xs):w.ownsV base e size v n xs:=by
 refine ⟨h.1,?_⟩
 rcases h.2 with h0 | ⟨g,cap,cur,h1,h2,h3,h4,h5,h6,h7⟩
 ·exact .inl h0
 ·exact .inr ⟨g,0,cap,cur,h1,h2,h3,h4,h5,by omega,by simpa using h7⟩
theorem YH (h:w.ownsV base e size v n xs):∃A c,v=.slice A n c∧n≤c∧c≤maxLen:=by
 rcases h.2 with ⟨rfl,rfl⟩ | ⟨g,o,cap,cur,rfl,hb,hg,hnc,hm,hs,ht⟩
 ·exact ⟨none,0,rfl,Nat.le_refl _,Nat.zero_le _⟩
 ·exact ⟨_,cap,rfl,hnc,hm⟩
theorem YG (h:w.ownsV base e size v n xs) (hk:∀b∈v.ownBlock.toList,w'.heap[b]?=w.heap[b]?):w'.ownsV base e size v n xs:=by
 refine ⟨h.1,?_⟩
 rcases h.2 with h0 | ⟨g,o,cap,cur,hv,hg,hc,r⟩
 ·exact .inl h0
 ·refine .inr ⟨g,o,cap,cur,hv,hg,?_,r⟩
  rw [hk g (by simp [hv,Value.ownBlock])]
  exact hc
theorem Zah {g o n' cap:Nat} (h:w.ownsV base e size v n xs) (hv0:v=.slice (some ⟨g,o,none⟩) n' cap):∀j u,xs[j]?=some u→w.cell? ⟨g,o+j,none⟩=some u:=by
 intro j u hj
 subst hv0
 rcases h.2 with ⟨h0,_⟩ | ⟨g',o',cap',cur,hv,hb,hg,hnc,hm,hs,ht⟩
 ·simp at h0
 ·simp only [Value.slice.injEq,Option.some.injEq,Addr.mk.injEq,and_true,true_and] at hv
  obtain ⟨⟨rfl,rfl⟩,rfl,rfl⟩:=hv
  rw [cell_of_row w g (o+j) cur e (0,0) hg]
  rw [←ht] at hj
  have hl:j<n' * size:=by
   have:=(List.getElem?_eq_some_iff.1 hj).1
   simp at this
   omega
  rw [List.getElem?_take_of_lt hl,List.getElem?_drop] at hj
  simpa using hj
theorem Sl.of_ownV {c:Nat} {A:Option Addr} (h:w.ownsV base e size (.slice A n c) n xs):∃L,Sl w size A n xs L∧Own w base L∧∀b∈L,∃o,A=some ⟨b,o,none⟩:=by
 rcases h.2 with ⟨hv,hn⟩ | ⟨g,o,cap,cur,hv,hb,hg,hnc,hm,hs,ht⟩
 ·subst hn
  exact ⟨[],⟨h.1,.inl ⟨rfl,rfl⟩⟩,Own.nil _ _,by simp⟩
 ·injection hv with hA _ hc
  subst hA
  subst hc
  rcases Nat.eq_zero_or_pos n with h0 | h0
  ·subst h0
   exact ⟨[],⟨h.1,.inl ⟨rfl,rfl⟩⟩,Own.nil _ _,by simp⟩
  ·refine ⟨[g],⟨h.1,.inr ⟨h0,g,o,rfl,rfl,fun j u hu=>Zah h rfl j u hu⟩⟩,⟨by simp,by simpa using hb,fun b m=>?_⟩,by simp⟩
   simp at m
   subst m
   exact ⟨cur,e,hg⟩
end
section
variable {P:Program} (w:World)
end
end Go.Proofs.YthikodhnkaofaaaGreatDoor
namespace Go.Proofs.YthikodhnkaofaaaGreatDoor
section
open Go.RowKit
structure Yk (α:Type) where
 size:Nat
 rep:World→List Value→α→List Nat→Prop
 len:∀{w cs x L},rep w cs x L→cs.length=size
 keep:∀{w w' cs x L},rep w cs x L→(∀b∈L,w'.heap[b]?=w.heap[b]?)→rep w' cs x L
 lt:∀{w cs x L},rep w cs x L→∀b∈L,b<w.heap.size
 one:∀{w cs x L},rep w cs x L→∀u∈cs,u.oneCell'=true
 pos:0<size
def Zj7:Yk Int where
 size:=1
 rep:=fun _ cs x L=>cs=[.int .i64 x]∧L=[]
 len:=fun h=>by simp [h.1]
 keep:=fun h _=>h
 lt:=fun h=>by simp [h.2]
 one:=fun h=>by simp [h.1,Value.oneCell']
 pos:=by omega
def ZsX:Yk ByteArray where
 size:=1
 rep:=fun _ cs x L=>cs=[.string x]∧L=[]∧x.size≤9223372036854775807
 len:=fun h=>by simp [h.1]
 keep:=fun h _=>h
 lt:=fun h=>by simp [h.2.1]
 one:=fun h=>by simp [h.1,Value.oneCell']
 pos:=by omega
section
variable {α:Type} (c:Yk α)
def Yk.reps (w:World):List Value→List α→List Nat→Prop
 | xs,[],L=>xs=[]∧L=[]
 | xs,d::ds,L=>∃c1 c2 L1 L2,xs=c1++c2∧L=L1++L2∧c.rep w c1 d L1∧Yk.reps w c2 ds L2
variable {c}
theorem Zko {w:World}:∀{ds:List α} {xs:List Value} {L:List Nat},c.reps w xs ds L→xs.length=ds.length * c.size
 | [],_,_,h=>by simp [h.1]
 | d::ds,_,_,⟨c1,c2,L1,L2,rfl,rfl,h1,h2⟩=>by
  have:=Zko h2
  simp [c.len h1,this,Nat.add_mul];omega
theorem Xd {w w':World}:∀{ds:List α} {xs:List Value} {L:List Nat},c.reps w xs ds L→(∀b∈L,w'.heap[b]?=w.heap[b]?)→c.reps w' xs ds L
 | [],_,_,h,_=>h
 | d::ds,_,_,⟨c1,c2,L1,L2,rfl,rfl,h1,h2⟩,hk=>
  ⟨c1,c2,L1,L2,rfl,rfl,c.keep h1 (fun b m=>hk b (by simp [m])),Xd h2 (fun b m=>hk b (by simp [m]))⟩
theorem ZxE {w:World}:∀{ds:List α} {xs:List Value} {L:List Nat},c.reps w xs ds L→∀b∈L,b<w.heap.size
 | [],_,_,h=>by simp [h.2]
 | d::ds,_,_,⟨c1,c2,L1,L2,rfl,rfl,h1,h2⟩=>by
  intro b m
  rcases List.mem_append.1 m with m | m
  ·exact c.lt h1 b m
  ·exact ZxE h2 b m
theorem ZfG {w:World}:∀{ds es:List α} {xs ys:List Value} {L M:List Nat},c.reps w xs ds L→c.reps w ys es M→c.reps w (xs++ys) (ds++es) (L++M)
 | [],es,_,ys,_,M,h,h'=>by obtain ⟨rfl,rfl⟩:=h;simpa using h'
 | d::ds,es,_,ys,_,M,⟨c1,c2,L1,L2,rfl,rfl,h1,h2⟩,h'=>
  ⟨c1,c2++ys,L1,L2++M,by simp,by simp,h1,ZfG h2 h'⟩
theorem Zof {w:World}:∀{ds es:List α} {xs:List Value} {L:List Nat},c.reps w xs (ds++es) L→
  ∃x1 x2 L1 L2,xs=x1++x2∧L=L1++L2∧c.reps w x1 ds L1∧c.reps w x2 es L2
 | [],es,xs,L,h=>⟨[],xs,[],L,rfl,rfl,⟨rfl,rfl⟩,h⟩
 | d::ds,es,_,_,⟨c1,c2,L1,L2,rfl,rfl,h1,h2⟩=>by
  obtain ⟨x1,x2,M1,M2,rfl,rfl,h3,h4⟩:=Zof h2
  exact ⟨c1++x1,x2,L1++M1,M2,by simp,by simp,⟨c1,x1,L1,M1,rfl,rfl,h1,h3⟩,h4⟩
theorem Zxy {w:World} {ds:List α} {xs:List Value} {L:List Nat} (h:c.reps w xs ds L) {k:Nat} (hk:k<ds.length):
  ∃x1 cs x2 L1 Lk L2,xs=x1++(cs++x2)∧x1.length=k * c.size∧L=L1++(Lk++L2)∧c.reps w x1 (ds.take k) L1∧c.rep w cs ds[k] Lk∧c.reps w x2 (ds.drop (k+1)) L2:=by
 have e:ds=ds.take k++(ds[k]::ds.drop (k+1)):=by rw [←List.drop_eq_getElem_cons hk,List.take_append_drop]
 rw [e] at h
 obtain ⟨x1,x2,L1,L2,rfl,rfl,h1,c1,c2,M1,M2,rfl,rfl,h2,h3⟩:=Zof h
 refine ⟨x1,c1,c2,L1,M1,M2,rfl,?_,rfl,h1,h2,h3⟩
 have:=Zko h1
 rw [this,List.length_take,Nat.min_eq_left (by omega)]
def Sli (c:Yk α) (w:World) (A:Option Addr) (ds:List α) (L:List Nat):Prop:=
 ∃xs L0 L1,L=L0++L1∧Sl w c.size A ds.length xs L0∧c.reps w xs ds L1
theorem Sli.nil (w:World) (A:Option Addr):Sli c w A [] []:=⟨[],[],[],rfl,Sl.zero,rfl,rfl⟩
theorem Sli.keep {w w':World} {A:Option Addr} {ds:List α} {L:List Nat} (h:Sli c w A ds L) (hk:∀b∈L,w'.heap[b]?=w.heap[b]?):Sli c w' A ds L:=by
 obtain ⟨xs,L0,L1,rfl,h1,h2⟩:=h
 exact ⟨xs,L0,L1,rfl,h1.keep (fun b m=>hk b (by simp [m])),Xd h2 (fun b m=>hk b (by simp [m]))⟩
theorem Sli.lt {w:World} {A:Option Addr} {ds:List α} {L:List Nat} (h:Sli c w A ds L):∀b∈L,b<w.heap.size:=by
 obtain ⟨xs,L0,L1,rfl,h1,h2⟩:=h
 intro b m
 rcases List.mem_append.1 m with m | m
 ·exact h1.lt c.pos b m
 ·exact ZxE h2 b m
theorem Sli.below {w w':World} {A:Option Addr} {ds:List α} {L:List Nat} (h:Sli c w A ds L) (hb:Below w.heap.size w w'):Sli c w' A ds L:=h.keep (Qu hb h.lt)
theorem Sli.at_ {w:World} {A:Option Addr} {ds:List α} {L:List Nat} (h:Sli c w A ds L) {k:Nat} (hk:k<ds.length):
  ∃b off cs Lk,A=some ⟨b,off,none⟩∧b∈L∧(∀x∈Lk,x∈L)∧c.rep w cs ds[k] Lk∧∀j u,cs[j]?=some u→w.cell? ⟨b,off+(k * c.size+j),none⟩=some u:=by
 obtain ⟨xs,L0,L1,rfl,h1,h2⟩:=h
 obtain ⟨x1,cs,x2,M1,Mk,M2,rfl,hx,rfl,_,h3,_⟩:=Zxy h2 hk
 obtain ⟨b,off,hA,hL,hc⟩:=h1.at_ (by omega)
 subst hL
 refine ⟨b,off,cs,Mk,hA,by simp,fun x m=>by simp [m],h3,fun j u hu=>hc _ u ?_⟩
 rw [List.getElem?_append_right (by omega),hx,Nat.add_sub_cancel_left,List.getElem?_append_left (List.getElem?_eq_some_iff.1 hu).1]
 exact hu
def ZQ (c:Yk α):Yk (List α) where
 size:=1
 rep:=fun w cs ds L=>∃A cap,cs=[.slice A ds.length cap]∧ds.length≤cap∧cap≤maxLen∧Sli c w A ds L
 len:=fun ⟨_,_,h,_⟩=>by simp [h]
 keep:=fun ⟨A,cap,h,h1,h2,h3⟩ hk=>⟨A,cap,h,h1,h2,h3.keep hk⟩
 lt:=fun ⟨_,_,_,_,_,h3⟩=>h3.lt
 one:=fun ⟨_,_,h,_⟩=>by simp [h,Value.oneCell']
 pos:=by omega
theorem Own.sub {w:World} {base:Nat} {L M:List Nat} (h:Own w base L) (hs:M.Sublist L):Own w base M:=
 ⟨h.nodup.sublist hs,fun b m=>h.ge b (hs.subset m),fun b m=>h.plain b (hs.subset m)⟩
structure Got (c:Yk α) (base:Nat) (cs:List Value) (x:α) (L:List Nat) (w:World):Prop where
 rep:c.rep w cs x L
 own:Own w base L
section
variable {c:Yk α} {base:Nat} {cs:List Value} {x:α} {L M:List Nat} {w w':World}
theorem Got.keep (h:Got c base cs x L w) (hk:∀b∈L,w'.heap[b]?=w.heap[b]?):Got c base cs x L w':=⟨c.keep h.rep hk,h.own.keep hk⟩
theorem Got.later (h:Got c base cs x L w) (hb:Below w.heap.size w w'):Got c base cs x L w':=h.keep (Qu hb h.own.lt)
theorem Got.alloc (h:Got c base cs x L w) (o:Obj):Got c base cs x L (w.alloc o):=h.keep fun b m=>Below.heap_alloc w o b (h.own.lt b m)
theorem Got.only (h:Got c base cs x L w) (ho:ZLq M w w') (hd:∀b∈L,b∉M):Got c base cs x L w':=h.keep (ho.keep h.own.lt hd)
theorem Got.lt (h:Got c base cs x L w):∀b∈L,b<w.heap.size:=h.own.lt
end
def ZIj (c:Yk α) (w:World) (x:α) (e:Ending) (w':World):Prop:=∃cs L,e=.returned (.agg cs.toArray)∧Got c w.heap.size cs x L w'∧Below w.heap.size w w'
theorem ZeR {c:Yk α} {w:World} {A:Option Addr} {n cap:Nat} {ds:List α} {L:List Nat} (h:(ZQ c).rep w [.slice A n cap] ds L):ds.length≤cap∧cap≤maxLen∧Sli c w A ds L:=by
 obtain ⟨A',cap',hv,h1,h2,h3⟩:=h
 cases hv
 exact ⟨h1,h2,h3⟩
end
section
variable {α:Type} {c:Yk α} {E:TypeId} {W:World} {n:Nat} {ds:List α} {k:Nat} {w w':World}
end
def Zkn (l:List ByteArray):Nat:=l.length+(l.map ByteArray.size).sum
def Blk (w:World) (g:Nat) (t:TypeId) (cs:Array Value):Prop:=w.heap[g]?=some (.cells cs t (0,0))
section
variable {w w':World} {g:Nat} {t:TypeId} {cs:Array Value}
theorem Blk.lt (h:Blk w g t cs):g<w.heap.size:=(Array.getElem?_eq_some_iff.1 h).1
theorem Blk.at {i:Nat} {v:Value} (h:Blk w g t cs) (hv:cs[i]?=some v):w.cell? ⟨g,i,none⟩=some v:=(cell_of_row w g i cs t (0,0) h).trans hv
theorem Blk.frozen (h:Blk w g t cs) (i:Nat):w.frozen? ⟨g,i,none⟩=false:=by
 unfold Blk at h
 simp [World.frozen?,h]
theorem Blk.new (w:World) (t:TypeId) (cs:Array Value):Blk (w.alloc (.cells cs t)) w.heap.size t cs:=heap_alloc_new w _
theorem Blk.new_at {w:World} {t:TypeId} {cs:Array Value} {g:Nat} (hg:g=w.heap.size):Blk (w.alloc (.cells cs t)) g t cs:=by subst hg;exact heap_alloc_new w _
theorem Blk.alloc (h:Blk w g t cs) (o:Obj):Blk (w.alloc o) g t cs:=(Below.heap_alloc w o g h.lt).trans h
theorem Blk.set_ (h:Blk w g t cs) (i:Nat) (u:Value):Blk (w.setCell ⟨g,i,none⟩ u) g t (cs.setIfInBounds i u):=by
 unfold Blk at h ⊢
 simp [World.setCell,Array.getElem?_modify,h]
theorem Blk.far (h:Blk w g t cs) {p:Addr} (hp:g≠p.block) (u:Value):Blk (w.setCell p u) g t cs:=(Below.heap_setCell w p u g hp).trans h
theorem Blk.later (h:Blk w g t cs) (hb:Below w.heap.size w w'):Blk w' g t cs:=(hb.block g h.lt).trans h
end
theorem Got.focus {α:Type} {c:Yk α} {base:Nat} {A:Option Addr} {n cap:Nat} {ds:List α} {L:List Nat} {w:World} {k:Nat} (h:Got (ZQ c) base [.slice A n cap] ds L w) (hk:k<ds.length):
  ∃b off cs Lk,A=some ⟨b,off,none⟩∧b∈L∧(∀x∈Lk,x∈L)∧Own w base (b::Lk)∧c.rep w cs ds[k] Lk∧ZbE w b (off+k * c.size) cs∧
   ∀w' cs' x',ZLq (b::Lk) w w'→ZbE w' b (off+k * c.size) cs'→(∀o,o<off+k * c.size∨off+k * c.size+c.size≤o→w'.cell? ⟨b,o,none⟩=w.cell? ⟨b,o,none⟩)→
    c.rep w' cs' x' Lk→Own w' base (b::Lk)→Got (ZQ c) base [.slice A n cap] (ds.set k x') L w':=by
 obtain ⟨⟨A',cap',hv,hn,hm,xs,L0,L1,rfl,h1,h2⟩,ho⟩:=h
 cases hv
 obtain ⟨x1,cs,x2,M1,Mk,M2,rfl,hx,rfl,r1,r2,r3⟩:=Zxy h2 hk
 obtain ⟨b,off,rfl,rfl,hc⟩:=h1.at_ (by omega)
 have hcs:cs.length=c.size:=c.len r2
 have hmem:∀x∈Mk,x∈[b]++(M1++(Mk++M2)):=fun x m=>by simp [m]
 have hnd:=ho.nodup
 have hsub:(b::Mk).Sublist ([b]++(M1++(Mk++M2))):=by
  simp only [List.singleton_append]
  exact List.Sublist.cons_cons b ((List.sublist_append_left Mk M2).trans (List.sublist_append_right M1 _))
 refine ⟨b,off,cs,Mk,rfl,by simp,hmem,ho.sub hsub,r2,fun j u hu=>?_,?_⟩
 ·have:=hc (x1.length+j) u (by rw [List.getElem?_append_right (by omega),Nat.add_sub_cancel_left,List.getElem?_append_left (List.getElem?_eq_some_iff.1 hu).1];exact hu)
  rw [hx] at this
  rw [←this,Nat.add_assoc]
 ·intro w' cs' x' hon hcell hrest hrep hown
  have hcs':cs'.length=c.size:=c.len hrep
  simp only [List.singleton_append,List.nodup_cons,List.nodup_append,List.mem_append] at hnd
  obtain ⟨hb,hM1,⟨hMk,hM2,hd2⟩,hd1⟩:=hnd
  have e1:∀y∈M1,y∉b::Mk:=fun y m m'=>by
   rcases List.mem_cons.1 m' with rfl | m'
   ·exact hb (.inl m)
   ·exact hd1 y m y (.inl m') rfl
  have e2:∀y∈M2,y∉b::Mk:=fun y m m'=>by
   rcases List.mem_cons.1 m' with rfl | m'
   ·exact hb (.inr (.inr m))
   ·exact hd2 y m' y m rfl
  have k1:=hon.keep (fun y m=>ho.lt y (by simp [m])) e1
  have k2:=hon.keep (fun y m=>ho.lt y (by simp [m])) e2
  have eset:ds.set k x'=ds.take k++(x'::ds.drop (k+1)):=by rw [List.set_eq_take_append_cons_drop,if_pos hk]
  refine ⟨⟨some ⟨b,off,none⟩,cap,by simp,by simpa using hn,hm,x1++(cs'++x2),[b],M1++(Mk++M2),rfl,⟨?_,.inr ⟨by simp;omega,b,off,rfl,rfl,?_⟩⟩,?_⟩,?_⟩
  ·have:=h1.1
   simp only [List.length_append,List.length_set] at this ⊢
   omega
  ·intro j u hu
   rcases Nat.lt_or_ge j x1.length with hj | hj
   ·rw [hrest _ (.inl (by omega))]
    exact hc j u (by rw [List.getElem?_append_left hj] at hu ⊢;exact hu)
   ·rw [List.getElem?_append_right hj] at hu
    rcases Nat.lt_or_ge (j - x1.length) cs'.length with hj2 | hj2
    ·rw [List.getElem?_append_left hj2] at hu
     have:=hcell _ u hu
     rw [show off+k * c.size+(j - x1.length)=off+j by omega] at this
     exact this
    ·rw [List.getElem?_append_right hj2] at hu
     rw [hrest _ (.inr (by omega))]
     exact hc j u (by rw [List.getElem?_append_right hj,List.getElem?_append_right (by omega),hcs,←hcs'];exact hu)
  ·rw [eset]
   refine ZfG (Xd r1 k1) ⟨cs',x2,Mk,M2,rfl,rfl,hrep,Xd r3 k2⟩
  ·refine ⟨ho.nodup,ho.ge,fun y m=>?_⟩
   by_cases hy:y∈b::Mk
   ·exact hown.plain y hy
   ·rw [hon.block y (ho.lt y m) hy]
    exact ho.plain y m
structure ZMk (w0:World) (base b lo m:Nat) (Lk:List Nat) (cs:List Value) (w:World):Prop where
 cells:ZbE w b lo cs
 len:cs.length=m
 only:ZLq (b::Lk) w0 w
 rest:∀o,o<lo∨lo+m≤o→w.cell? ⟨b,o,none⟩=w0.cell? ⟨b,o,none⟩
 plain:∃cur e,w.heap[b]?=some (.cells cur e (0,0))
section
variable {w0:World} {base b lo m:Nat} {Lk M:List Nat} {cs:List Value} {w w':World}
theorem ZMk.start (h:ZbE w b lo cs) (hl:cs.length=m) (ho:Own w base (b::Lk)):ZMk w base b lo m Lk cs w:=⟨h,hl,ZLq.refl _ _,fun _ _=>rfl,ho.plain b (by simp)⟩
theorem ZMk.lt (h:ZMk w0 base b lo m Lk cs w):b<w.heap.size:=by obtain ⟨cur,e,hc⟩:=h.plain;exact (Array.getElem?_eq_some_iff.1 hc).1
theorem ZMk.keepb (h:ZMk w0 base b lo m Lk cs w) (hk:w'.heap[b]?=w.heap[b]?) (ho:ZLq (b::Lk) w w'):ZMk w0 base b lo m Lk cs w':=by
 refine ⟨fun j u hu=>?_,h.len,h.only.trans ho,fun o hr=>?_,?_⟩
 ·rw [←h.cells j u hu];exact World.cell?_of_block hk
 ·rw [←h.rest o hr];exact World.cell?_of_block hk
 ·rw [hk];exact h.plain
theorem ZMk.later (h:ZMk w0 base b lo m Lk cs w) (hb:Below w.heap.size w w'):ZMk w0 base b lo m Lk cs w':=h.keepb (hb.block b h.lt) (ZLq.of_below hb _)
theorem ZMk.marked (h:ZMk w0 base b lo m Lk cs w) (ho:ZLq M w w') (hs:∀y∈M,y∈Lk) (hd:b∉M):ZMk w0 base b lo m Lk cs w':=
 h.keepb (ho.block b h.lt hd) (ho.mono (fun y m=>by simp [hs y m]))
theorem ZMk.at (h:ZMk w0 base b lo m Lk cs w) {j:Nat} {u:Value} (hu:cs[j]?=some u):w.cell? ⟨b,lo+j,none⟩=some u:=h.cells j u hu
theorem ZMk.frozen (h:ZMk w0 base b lo m Lk cs w) (o:Nat):w.frozen? ⟨b,o,none⟩=false:=by
 obtain ⟨cur,e,hc⟩:=h.plain
 simp [World.frozen?,hc]
theorem ZMk.set (h:ZMk w0 base b lo m Lk cs w) (j:Nat) (hj:j<m) (u:Value):ZMk w0 base b lo m Lk (cs.set j u) (w.setCell ⟨b,lo+j,none⟩ u):=by
 have hl:=h.len
 refine ⟨fun i v hv=>?_,by simp [h.len],h.only.setCell (by simp) _,fun o hr=>?_,?_⟩
 ·by_cases hij:i=j
  ·subst hij
   rw [List.getElem?_set] at hv
   simp [show i<cs.length by omega] at hv
   subst hv
   exact ZNO (h.cells i _ (List.getElem?_eq_getElem (by omega)))
  ·rw [List.getElem?_set,if_neg (fun e=>hij e.symm)] at hv
   rw [World.cell?_setCell_other _ _ _ _ (by intro e;injection e with _ e;omega)]
   exact h.cells i v hv
 ·rw [World.cell?_setCell_other _ _ _ _ (by intro e;injection e with _ e;omega)]
  exact h.rest o hr
 ·obtain ⟨cur,e,hc⟩:=h.plain
  exact ⟨cur.setIfInBounds (lo+j) u,e,by simp [World.setCell,Array.getElem?_modify,hc]⟩
end
theorem Got.setFar {α:Type} {c:Yk α} {base:Nat} {cs:List Value} {x:α} {L:List Nat} {w:World} (h:Got c base cs x L w) {p:Addr} (hp:p.block∉L) (u:Value):Got c base cs x L (w.setCell p u):=
 h.keep fun b m=>Below.heap_setCell w p u b (fun e=>hp (e ▸ m))
theorem ZLD {w w':World} {base b:Nat} {Lk:List Nat} (h:Own w base (b::Lk)) (hp:∃cur e,w'.heap[b]?=some (.cells cur e (0,0))) (_ho:ZLq (b::Lk) w w') (hk:∀y∈Lk,∃cur e,w'.heap[y]?=some (.cells cur e (0,0))):Own w' base (b::Lk):=
 ⟨h.nodup,h.ge,fun y m=>by
  rcases List.mem_cons.1 m with rfl | m
  ·exact hp
  ·exact hk y m⟩
theorem Own.tail {w:World} {base b:Nat} {L:List Nat} (h:Own w base (b::L)):Own w base L:=h.sub (List.sublist_cons_self b L)
theorem Own.left {w:World} {base:Nat} {L M:List Nat} (h:Own w base (L++M)):Own w base L:=h.sub (List.sublist_append_left L M)
theorem Own.right {w:World} {base:Nat} {L M:List Nat} (h:Own w base (L++M)):Own w base M:=h.sub (List.sublist_append_right L M)
theorem Own.head {w:World} {base b:Nat} {L:List Nat} (h:Own w base (b::L)):b∉L:=(List.nodup_cons.1 h.nodup).1
theorem Own.apart {w:World} {base:Nat} {L M:List Nat} (h:Own w base (L++M)):∀y∈L,y∉M:=fun y m m'=>(List.nodup_append.1 h.nodup).2.2 y m y m' rfl
end
section
open Go.RowKit
structure Za where
 rel:ByteArray
 args:List ByteArray
def Yf:Yk Za where
 size:=2
 rep:=fun w cs x L=>∃A1 c1 L1,cs=[.string x.rel,.slice A1 x.args.length c1]∧L=L1∧x.rel.size≤9223372036854775807∧x.args.length≤c1∧c1≤maxLen∧Sli ZsX w A1 x.args L1
 len:=fun ⟨A1,c1,L1,h,hL,t0,n1,m1,s1⟩=>by simp [h]
 keep:=fun ⟨A1,c1,L1,h,hL,t0,n1,m1,s1⟩ hk=>⟨A1,c1,L1,h,hL,t0,n1,m1,s1.keep (fun b m=>hk b (by simp [hL,m]))⟩
 lt:=fun ⟨A1,c1,L1,h,hL,t0,n1,m1,s1⟩=>by intro b m;simp only [hL,List.mem_append] at m;exact s1.lt b m
 one:=fun ⟨A1,c1,L1,h,hL,t0,n1,m1,s1⟩=>by simp [h,Value.oneCell']
 pos:=by omega
theorem ZN2 {w:World} {cs:List Value} {x:Za} {L:List Nat} (h:Yf.rep w cs x L):∃A1 c1,cs=[.string x.rel,.slice A1 x.args.length c1]:=by
 obtain ⟨A1,c1,L1,h,hL,t0,n1,m1,s1⟩:=h
 exact ⟨A1,c1,h⟩
def ZaK (x:Za):Nat:=x.rel.size+Zkn x.args
def ZcO (l:List Za):Nat:=l.length+(l.map ZaK).sum
structure Zo where
 rel:ByteArray
 args:List ByteArray
def ZPl:Yk Zo where
 size:=2
 rep:=fun w cs x L=>∃A1 c1 L1,cs=[.string x.rel,.slice A1 x.args.length c1]∧L=L1∧x.rel.size≤9223372036854775807∧x.args.length≤c1∧c1≤maxLen∧Sli ZsX w A1 x.args L1
 len:=fun ⟨A1,c1,L1,h,hL,t0,n1,m1,s1⟩=>by simp [h]
 keep:=fun ⟨A1,c1,L1,h,hL,t0,n1,m1,s1⟩ hk=>⟨A1,c1,L1,h,hL,t0,n1,m1,s1.keep (fun b m=>hk b (by simp [hL,m]))⟩
 lt:=fun ⟨A1,c1,L1,h,hL,t0,n1,m1,s1⟩=>by intro b m;simp only [hL,List.mem_append] at m;exact s1.lt b m
 one:=fun ⟨A1,c1,L1,h,hL,t0,n1,m1,s1⟩=>by simp [h,Value.oneCell']
 pos:=by omega
def ZMh (x:Zo):Nat:=x.rel.size+Zkn x.args
structure Zx where
 var:ByteArray
 value:ByteArray
def ZDh:Yk Zx where
 size:=2
 rep:=fun w cs x L=>cs=[.string x.var,.string x.value]∧L=[]∧x.var.size≤9223372036854775807∧x.value.size≤9223372036854775807
 len:=fun h=>by simp [h.1]
 keep:=fun h _=>h
 lt:=fun h=>by simp [h.2.1]
 one:=fun h=>by simp [h.1,Value.oneCell']
 pos:=by omega
theorem ZNY {w:World} {cs:List Value} {x:Zx} {L:List Nat} (h:ZDh.rep w cs x L):cs=[.string x.var,.string x.value]:=by
 exact h.1
def ZOl (x:Zx):Nat:=x.var.size+x.value.size
def ZNp (l:List Zx):Nat:=l.length+(l.map ZOl).sum
structure Zu where
 kind:Int
 pattern:Zo
 left:ByteArray
 right:ByteArray
def ZC9:Yk Zu where
 size:=5
 rep:=fun w cs x L=>∃A1 c1 L1,cs=[.int .i64 x.kind,.string x.pattern.rel,.slice A1 x.pattern.args.length c1,.string x.left,.string x.right]∧L=L1∧x.pattern.rel.size≤9223372036854775807∧x.left.size≤9223372036854775807∧x.right.size≤9223372036854775807∧x.pattern.args.length≤c1∧c1≤maxLen∧Sli ZsX w A1 x.pattern.args L1
 len:=fun ⟨A1,c1,L1,h,hL,t0,t1,t2,n1,m1,s1⟩=>by simp [h]
 keep:=fun ⟨A1,c1,L1,h,hL,t0,t1,t2,n1,m1,s1⟩ hk=>⟨A1,c1,L1,h,hL,t0,t1,t2,n1,m1,s1.keep (fun b m=>hk b (by simp [hL,m]))⟩
 lt:=fun ⟨A1,c1,L1,h,hL,t0,t1,t2,n1,m1,s1⟩=>by intro b m;simp only [hL,List.mem_append] at m;exact s1.lt b m
 one:=fun ⟨A1,c1,L1,h,hL,t0,t1,t2,n1,m1,s1⟩=>by simp [h,Value.oneCell']
 pos:=by omega
theorem ZNZ {w:World} {cs:List Value} {x:Zu} {L:List Nat} (h:ZC9.rep w cs x L):∃A1 c1,cs=[.int .i64 x.kind,.string x.pattern.rel,.slice A1 x.pattern.args.length c1,.string x.left,.string x.right]:=by
 obtain ⟨A1,c1,L1,h,hL,t0,t1,t2,n1,m1,s1⟩:=h
 exact ⟨A1,c1,h⟩
def ZNg (x:Zu):Nat:=ZMh x.pattern+x.left.size+x.right.size
def ZNq (l:List Zu):Nat:=l.length+(l.map ZNg).sum
structure Zy where
 kind:Int
 pattern:Zo
def ZxH:Yk Zy where
 size:=3
 rep:=fun w cs x L=>∃A1 c1 L1,cs=[.int .i64 x.kind,.string x.pattern.rel,.slice A1 x.pattern.args.length c1]∧L=L1∧x.pattern.rel.size≤9223372036854775807∧x.pattern.args.length≤c1∧c1≤maxLen∧Sli ZsX w A1 x.pattern.args L1
 len:=fun ⟨A1,c1,L1,h,hL,t0,n1,m1,s1⟩=>by simp [h]
 keep:=fun ⟨A1,c1,L1,h,hL,t0,n1,m1,s1⟩ hk=>⟨A1,c1,L1,h,hL,t0,n1,m1,s1.keep (fun b m=>hk b (by simp [hL,m]))⟩
 lt:=fun ⟨A1,c1,L1,h,hL,t0,n1,m1,s1⟩=>by intro b m;simp only [hL,List.mem_append] at m;exact s1.lt b m
 one:=fun ⟨A1,c1,L1,h,hL,t0,n1,m1,s1⟩=>by simp [h,Value.oneCell']
 pos:=by omega
theorem ZNs {w:World} {cs:List Value} {x:Zy} {L:List Nat} (h:ZxH.rep w cs x L):∃A1 c1,cs=[.int .i64 x.kind,.string x.pattern.rel,.slice A1 x.pattern.args.length c1]:=by
 obtain ⟨A1,c1,L1,h,hL,t0,n1,m1,s1⟩:=h
 exact ⟨A1,c1,h⟩
def ZNF (x:Zy):Nat:=ZMh x.pattern
def ZMK (l:List Zy):Nat:=l.length+(l.map ZNF).sum
structure Zf where
 name:ByteArray
 priority:Int
 cond:List Zu
 thn:List Zy
def Zby:Yk Zf where
 size:=4
 rep:=fun w cs x L=>∃A1 c1 L1 A2 c2 L2,cs=[.string x.name,.int .i64 x.priority,.slice A1 x.cond.length c1,.slice A2 x.thn.length c2]∧L=L1++L2∧x.name.size≤9223372036854775807∧x.cond.length≤c1∧c1≤maxLen∧Sli ZC9 w A1 x.cond L1∧x.thn.length≤c2∧c2≤maxLen∧Sli ZxH w A2 x.thn L2
 len:=fun ⟨A1,c1,L1,A2,c2,L2,h,hL,t0,n1,m1,s1,n2,m2,s2⟩=>by simp [h]
 keep:=fun ⟨A1,c1,L1,A2,c2,L2,h,hL,t0,n1,m1,s1,n2,m2,s2⟩ hk=>⟨A1,c1,L1,A2,c2,L2,h,hL,t0,n1,m1,s1.keep (fun b m=>hk b (by simp [hL,m])),n2,m2,s2.keep (fun b m=>hk b (by simp [hL,m]))⟩
 lt:=fun ⟨A1,c1,L1,A2,c2,L2,h,hL,t0,n1,m1,s1,n2,m2,s2⟩=>by intro b m;simp only [hL,List.mem_append] at m;rcases m with m | m<;>first | exact s1.lt b m | exact s2.lt b m
 one:=fun ⟨A1,c1,L1,A2,c2,L2,h,hL,t0,n1,m1,s1,n2,m2,s2⟩=>by simp [h,Value.oneCell']
 pos:=by omega
theorem ZN0 {w:World} {cs:List Value} {x:Zf} {L:List Nat} (h:Zby.rep w cs x L):∃A1 c1 A2 c2,cs=[.string x.name,.int .i64 x.priority,.slice A1 x.cond.length c1,.slice A2 x.thn.length c2]:=by
 obtain ⟨A1,c1,L1,A2,c2,L2,h,hL,t0,n1,m1,s1,n2,m2,s2⟩:=h
 exact ⟨A1,c1,A2,c2,h⟩
def ZOz (x:Zf):Nat:=x.name.size+ZNq x.cond+ZMK x.thn
def ZMT (l:List Zf):Nat:=l.length+(l.map ZOz).sum
structure Zw where
 facts:List Za
 binding:List Zx
def ZlR:Yk Zw where
 size:=2
 rep:=fun w cs x L=>∃A1 c1 L1 A2 c2 L2,cs=[.slice A1 x.facts.length c1,.slice A2 x.binding.length c2]∧L=L1++L2∧x.facts.length≤c1∧c1≤maxLen∧Sli Yf w A1 x.facts L1∧x.binding.length≤c2∧c2≤maxLen∧Sli ZDh w A2 x.binding L2
 len:=fun ⟨A1,c1,L1,A2,c2,L2,h,hL,n1,m1,s1,n2,m2,s2⟩=>by simp [h]
 keep:=fun ⟨A1,c1,L1,A2,c2,L2,h,hL,n1,m1,s1,n2,m2,s2⟩ hk=>⟨A1,c1,L1,A2,c2,L2,h,hL,n1,m1,s1.keep (fun b m=>hk b (by simp [hL,m])),n2,m2,s2.keep (fun b m=>hk b (by simp [hL,m]))⟩
 lt:=fun ⟨A1,c1,L1,A2,c2,L2,h,hL,n1,m1,s1,n2,m2,s2⟩=>by intro b m;simp only [hL,List.mem_append] at m;rcases m with m | m<;>first | exact s1.lt b m | exact s2.lt b m
 one:=fun ⟨A1,c1,L1,A2,c2,L2,h,hL,n1,m1,s1,n2,m2,s2⟩=>by simp [h,Value.oneCell']
 pos:=by omega
theorem ZNP {w:World} {cs:List Value} {x:Zw} {L:List Nat} (h:ZlR.rep w cs x L):∃A1 c1 A2 c2,cs=[.slice A1 x.facts.length c1,.slice A2 x.binding.length c2]:=by
 obtain ⟨A1,c1,L1,A2,c2,L2,h,hL,n1,m1,s1,n2,m2,s2⟩:=h
 exact ⟨A1,c1,A2,c2,h⟩
def ZNS (x:Zw):Nat:=ZcO x.facts+ZNp x.binding
def ZMU (l:List Zw):Nat:=l.length+(l.map ZNS).sum
structure ZL4 where
 shape:Zo
 facts:List Za
def ZL7:Yk ZL4 where
 size:=3
 rep:=fun w cs x L=>∃A1 c1 L1 A2 c2 L2,cs=[.string x.shape.rel,.slice A1 x.shape.args.length c1,.slice A2 x.facts.length c2]∧L=L1++L2∧x.shape.rel.size≤9223372036854775807∧x.shape.args.length≤c1∧c1≤maxLen∧Sli ZsX w A1 x.shape.args L1∧x.facts.length≤c2∧c2≤maxLen∧Sli Yf w A2 x.facts L2
 len:=fun ⟨A1,c1,L1,A2,c2,L2,h,hL,t0,n1,m1,s1,n2,m2,s2⟩=>by simp [h]
 keep:=fun ⟨A1,c1,L1,A2,c2,L2,h,hL,t0,n1,m1,s1,n2,m2,s2⟩ hk=>⟨A1,c1,L1,A2,c2,L2,h,hL,t0,n1,m1,s1.keep (fun b m=>hk b (by simp [hL,m])),n2,m2,s2.keep (fun b m=>hk b (by simp [hL,m]))⟩
 lt:=fun ⟨A1,c1,L1,A2,c2,L2,h,hL,t0,n1,m1,s1,n2,m2,s2⟩=>by intro b m;simp only [hL,List.mem_append] at m;rcases m with m | m<;>first | exact s1.lt b m | exact s2.lt b m
 one:=fun ⟨A1,c1,L1,A2,c2,L2,h,hL,t0,n1,m1,s1,n2,m2,s2⟩=>by simp [h,Value.oneCell']
 pos:=by omega
theorem ZNL {w:World} {cs:List Value} {x:ZL4} {L:List Nat} (h:ZL7.rep w cs x L):∃A1 c1 A2 c2,cs=[.string x.shape.rel,.slice A1 x.shape.args.length c1,.slice A2 x.facts.length c2]:=by
 obtain ⟨A1,c1,L1,A2,c2,L2,h,hL,t0,n1,m1,s1,n2,m2,s2⟩:=h
 exact ⟨A1,c1,A2,c2,h⟩
def ZNV (x:ZL4):Nat:=ZMh x.shape+ZcO x.facts
def ZMY (l:List ZL4):Nat:=l.length+(l.map ZNV).sum
structure ZMe where
 parent:Int
 cond:Zu
 alpha:Int
 tokens:List Zw
def ZMg:Yk ZMe where
 size:=8
 rep:=fun w cs x L=>∃A1 c1 L1 A2 c2 L2,cs=[.int .i64 x.parent,.int .i64 x.cond.kind,.string x.cond.pattern.rel,.slice A1 x.cond.pattern.args.length c1,.string x.cond.left,.string x.cond.right,.int .i64 x.alpha,.slice A2 x.tokens.length c2]∧L=L1++L2∧x.cond.pattern.rel.size≤9223372036854775807∧x.cond.left.size≤9223372036854775807∧x.cond.right.size≤9223372036854775807∧x.cond.pattern.args.length≤c1∧c1≤maxLen∧Sli ZsX w A1 x.cond.pattern.args L1∧x.tokens.length≤c2∧c2≤maxLen∧Sli ZlR w A2 x.tokens L2
 len:=fun ⟨A1,c1,L1,A2,c2,L2,h,hL,t0,t1,t2,n1,m1,s1,n2,m2,s2⟩=>by simp [h]
 keep:=fun ⟨A1,c1,L1,A2,c2,L2,h,hL,t0,t1,t2,n1,m1,s1,n2,m2,s2⟩ hk=>⟨A1,c1,L1,A2,c2,L2,h,hL,t0,t1,t2,n1,m1,s1.keep (fun b m=>hk b (by simp [hL,m])),n2,m2,s2.keep (fun b m=>hk b (by simp [hL,m]))⟩
 lt:=fun ⟨A1,c1,L1,A2,c2,L2,h,hL,t0,t1,t2,n1,m1,s1,n2,m2,s2⟩=>by intro b m;simp only [hL,List.mem_append] at m;rcases m with m | m<;>first | exact s1.lt b m | exact s2.lt b m
 one:=fun ⟨A1,c1,L1,A2,c2,L2,h,hL,t0,t1,t2,n1,m1,s1,n2,m2,s2⟩=>by simp [h,Value.oneCell']
 pos:=by omega
theorem ZN3 {w:World} {cs:List Value} {x:ZMe} {L:List Nat} (h:ZMg.rep w cs x L):∃A1 c1 A2 c2,cs=[.int .i64 x.parent,.int .i64 x.cond.kind,.string x.cond.pattern.rel,.slice A1 x.cond.pattern.args.length c1,.string x.cond.left,.string x.cond.right,.int .i64 x.alpha,.slice A2 x.tokens.length c2]:=by
 obtain ⟨A1,c1,L1,A2,c2,L2,h,hL,t0,t1,t2,n1,m1,s1,n2,m2,s2⟩:=h
 exact ⟨A1,c1,A2,c2,h⟩
def ZOE (x:ZMe):Nat:=ZNg x.cond+ZMU x.tokens
def ZNo (l:List ZMe):Nat:=l.length+(l.map ZOE).sum
structure ZMb where
 rules:List Zf
 ends:List Int
 alphas:List ZL4
 nodes:List ZMe
 facts:List Za
 tries:Int
def ZPp:Yk ZMb where
 size:=6
 rep:=fun w cs x L=>∃A1 c1 L1 A2 c2 L2 A3 c3 L3 A4 c4 L4 A5 c5 L5,cs=[.slice A1 x.rules.length c1,.slice A2 x.ends.length c2,.slice A3 x.alphas.length c3,.slice A4 x.nodes.length c4,.slice A5 x.facts.length c5,.int .i64 x.tries]∧L=L1++(L2++(L3++(L4++L5)))∧x.rules.length≤c1∧c1≤maxLen∧Sli Zby w A1 x.rules L1∧x.ends.length≤c2∧c2≤maxLen∧Sli Zj7 w A2 x.ends L2∧x.alphas.length≤c3∧c3≤maxLen∧Sli ZL7 w A3 x.alphas L3∧x.nodes.length≤c4∧c4≤maxLen∧Sli ZMg w A4 x.nodes L4∧x.facts.length≤c5∧c5≤maxLen∧Sli Yf w A5 x.facts L5
 len:=fun ⟨A1,c1,L1,A2,c2,L2,A3,c3,L3,A4,c4,L4,A5,c5,L5,h,hL,n1,m1,s1,n2,m2,s2,n3,m3,s3,n4,m4,s4,n5,m5,s5⟩=>by simp [h]
 keep:=fun ⟨A1,c1,L1,A2,c2,L2,A3,c3,L3,A4,c4,L4,A5,c5,L5,h,hL,n1,m1,s1,n2,m2,s2,n3,m3,s3,n4,m4,s4,n5,m5,s5⟩ hk=>⟨A1,c1,L1,A2,c2,L2,A3,c3,L3,A4,c4,L4,A5,c5,L5,h,hL,n1,m1,s1.keep (fun b m=>hk b (by simp [hL,m])),n2,m2,s2.keep (fun b m=>hk b (by simp [hL,m])),n3,m3,s3.keep (fun b m=>hk b (by simp [hL,m])),n4,m4,s4.keep (fun b m=>hk b (by simp [hL,m])),n5,m5,s5.keep (fun b m=>hk b (by simp [hL,m]))⟩
 lt:=fun ⟨A1,c1,L1,A2,c2,L2,A3,c3,L3,A4,c4,L4,A5,c5,L5,h,hL,n1,m1,s1,n2,m2,s2,n3,m3,s3,n4,m4,s4,n5,m5,s5⟩=>by intro b m;simp only [hL,List.mem_append] at m;rcases m with m | m | m | m | m<;>first | exact s1.lt b m | exact s2.lt b m | exact s3.lt b m | exact s4.lt b m | exact s5.lt b m
 one:=fun ⟨A1,c1,L1,A2,c2,L2,A3,c3,L3,A4,c4,L4,A5,c5,L5,h,hL,n1,m1,s1,n2,m2,s2,n3,m3,s3,n4,m4,s4,n5,m5,s5⟩=>by simp [h,Value.oneCell']
 pos:=by omega
def ZNc (x:ZMb):Nat:=ZMT x.rules+x.ends.length+ZMY x.alphas+ZNo x.nodes+ZcO x.facts
structure ZL5 where
 fact:Za
 time:Int
def ZL8:Yk ZL5 where
 size:=3
 rep:=fun w cs x L=>∃A1 c1 L1,cs=[.string x.fact.rel,.slice A1 x.fact.args.length c1,.int .i64 x.time]∧L=L1∧x.fact.rel.size≤9223372036854775807∧x.fact.args.length≤c1∧c1≤maxLen∧Sli ZsX w A1 x.fact.args L1
 len:=fun ⟨A1,c1,L1,h,hL,t0,n1,m1,s1⟩=>by simp [h]
 keep:=fun ⟨A1,c1,L1,h,hL,t0,n1,m1,s1⟩ hk=>⟨A1,c1,L1,h,hL,t0,n1,m1,s1.keep (fun b m=>hk b (by simp [hL,m]))⟩
 lt:=fun ⟨A1,c1,L1,h,hL,t0,n1,m1,s1⟩=>by intro b m;simp only [hL,List.mem_append] at m;exact s1.lt b m
 one:=fun ⟨A1,c1,L1,h,hL,t0,n1,m1,s1⟩=>by simp [h,Value.oneCell']
 pos:=by omega
theorem ZNK {w:World} {cs:List Value} {x:ZL5} {L:List Nat} (h:ZL8.rep w cs x L):∃A1 c1,cs=[.string x.fact.rel,.slice A1 x.fact.args.length c1,.int .i64 x.time]:=by
 obtain ⟨A1,c1,L1,h,hL,t0,n1,m1,s1⟩:=h
 exact ⟨A1,c1,h⟩
def ZNU (x:ZL5):Nat:=ZaK x.fact
def ZMX (l:List ZL5):Nat:=l.length+(l.map ZNU).sum
structure ZLS where
 rule:ByteArray
 times:List Int
def ZLV:Yk ZLS where
 size:=2
 rep:=fun w cs x L=>∃A1 c1 L1,cs=[.string x.rule,.slice A1 x.times.length c1]∧L=L1∧x.rule.size≤9223372036854775807∧x.times.length≤c1∧c1≤maxLen∧Sli Zj7 w A1 x.times L1
 len:=fun ⟨A1,c1,L1,h,hL,t0,n1,m1,s1⟩=>by simp [h]
 keep:=fun ⟨A1,c1,L1,h,hL,t0,n1,m1,s1⟩ hk=>⟨A1,c1,L1,h,hL,t0,n1,m1,s1.keep (fun b m=>hk b (by simp [hL,m]))⟩
 lt:=fun ⟨A1,c1,L1,h,hL,t0,n1,m1,s1⟩=>by intro b m;simp only [hL,List.mem_append] at m;exact s1.lt b m
 one:=fun ⟨A1,c1,L1,h,hL,t0,n1,m1,s1⟩=>by simp [h,Value.oneCell']
 pos:=by omega
theorem ZNu {w:World} {cs:List Value} {x:ZLS} {L:List Nat} (h:ZLV.rep w cs x L):∃A1 c1,cs=[.string x.rule,.slice A1 x.times.length c1]:=by
 obtain ⟨A1,c1,L1,h,hL,t0,n1,m1,s1⟩:=h
 exact ⟨A1,c1,h⟩
def ZND (x:ZLS):Nat:=x.rule.size+x.times.length
def ZMI (l:List ZLS):Nat:=l.length+(l.map ZND).sum
structure ZL6 where
 kind:Int
 rule:ByteArray
 fact:Za
def ZL9:Yk ZL6 where
 size:=4
 rep:=fun w cs x L=>∃A1 c1 L1,cs=[.int .i64 x.kind,.string x.rule,.string x.fact.rel,.slice A1 x.fact.args.length c1]∧L=L1∧x.rule.size≤9223372036854775807∧x.fact.rel.size≤9223372036854775807∧x.fact.args.length≤c1∧c1≤maxLen∧Sli ZsX w A1 x.fact.args L1
 len:=fun ⟨A1,c1,L1,h,hL,t0,t1,n1,m1,s1⟩=>by simp [h]
 keep:=fun ⟨A1,c1,L1,h,hL,t0,t1,n1,m1,s1⟩ hk=>⟨A1,c1,L1,h,hL,t0,t1,n1,m1,s1.keep (fun b m=>hk b (by simp [hL,m]))⟩
 lt:=fun ⟨A1,c1,L1,h,hL,t0,t1,n1,m1,s1⟩=>by intro b m;simp only [hL,List.mem_append] at m;exact s1.lt b m
 one:=fun ⟨A1,c1,L1,h,hL,t0,t1,n1,m1,s1⟩=>by simp [h,Value.oneCell']
 pos:=by omega
theorem ZNG {w:World} {cs:List Value} {x:ZL6} {L:List Nat} (h:ZL9.rep w cs x L):∃A1 c1,cs=[.int .i64 x.kind,.string x.rule,.string x.fact.rel,.slice A1 x.fact.args.length c1]:=by
 obtain ⟨A1,c1,L1,h,hL,t0,t1,n1,m1,s1⟩:=h
 exact ⟨A1,c1,h⟩
def ZNT (x:ZL6):Nat:=x.rule.size+ZaK x.fact
def ZM4 (l:List ZL6):Nat:=l.length+(l.map ZNT).sum
structure ZMj where
 rules:List Zf
 memory:List ZL5
 clock:Int
 fired:List ZLS
 halted:Bool
 log:List ZL6
def ZPP:Yk ZMj where
 size:=6
 rep:=fun w cs x L=>∃A1 c1 L1 A2 c2 L2 A3 c3 L3 A4 c4 L4,cs=[.slice A1 x.rules.length c1,.slice A2 x.memory.length c2,.int .i64 x.clock,.slice A3 x.fired.length c3,.bool x.halted,.slice A4 x.log.length c4]∧L=L1++(L2++(L3++L4))∧x.rules.length≤c1∧c1≤maxLen∧Sli Zby w A1 x.rules L1∧x.memory.length≤c2∧c2≤maxLen∧Sli ZL8 w A2 x.memory L2∧x.fired.length≤c3∧c3≤maxLen∧Sli ZLV w A3 x.fired L3∧x.log.length≤c4∧c4≤maxLen∧Sli ZL9 w A4 x.log L4
 len:=fun ⟨A1,c1,L1,A2,c2,L2,A3,c3,L3,A4,c4,L4,h,hL,n1,m1,s1,n2,m2,s2,n3,m3,s3,n4,m4,s4⟩=>by simp [h]
 keep:=fun ⟨A1,c1,L1,A2,c2,L2,A3,c3,L3,A4,c4,L4,h,hL,n1,m1,s1,n2,m2,s2,n3,m3,s3,n4,m4,s4⟩ hk=>⟨A1,c1,L1,A2,c2,L2,A3,c3,L3,A4,c4,L4,h,hL,n1,m1,s1.keep (fun b m=>hk b (by simp [hL,m])),n2,m2,s2.keep (fun b m=>hk b (by simp [hL,m])),n3,m3,s3.keep (fun b m=>hk b (by simp [hL,m])),n4,m4,s4.keep (fun b m=>hk b (by simp [hL,m]))⟩
 lt:=fun ⟨A1,c1,L1,A2,c2,L2,A3,c3,L3,A4,c4,L4,h,hL,n1,m1,s1,n2,m2,s2,n3,m3,s3,n4,m4,s4⟩=>by intro b m;simp only [hL,List.mem_append] at m;rcases m with m | m | m | m<;>first | exact s1.lt b m | exact s2.lt b m | exact s3.lt b m | exact s4.lt b m
 one:=fun ⟨A1,c1,L1,A2,c2,L2,A3,c3,L3,A4,c4,L4,h,hL,n1,m1,s1,n2,m2,s2,n3,m3,s3,n4,m4,s4⟩=>by simp [h,Value.oneCell']
 pos:=by omega
def ZNB (x:ZMj):Nat:=ZMT x.rules+ZMX x.memory+ZMI x.fired+ZM4 x.log
structure ZMq where
 engine:ZMj
 network:ZMb
def ZNR:Yk ZMq where
 size:=12
 rep:=fun w cs x L=>∃A1 c1 L1 A2 c2 L2 A3 c3 L3 A4 c4 L4 A5 c5 L5 A6 c6 L6 A7 c7 L7 A8 c8 L8 A9 c9 L9,cs=[.slice A1 x.engine.rules.length c1,.slice A2 x.engine.memory.length c2,.int .i64 x.engine.clock,.slice A3 x.engine.fired.length c3,.bool x.engine.halted,.slice A4 x.engine.log.length c4,.slice A5 x.network.rules.length c5,.slice A6 x.network.ends.length c6,.slice A7 x.network.alphas.length c7,.slice A8 x.network.nodes.length c8,.slice A9 x.network.facts.length c9,.int .i64 x.network.tries]∧L=L1++(L2++(L3++(L4++(L5++(L6++(L7++(L8++L9)))))))∧x.engine.rules.length≤c1∧c1≤maxLen∧Sli Zby w A1 x.engine.rules L1∧x.engine.memory.length≤c2∧c2≤maxLen∧Sli ZL8 w A2 x.engine.memory L2∧x.engine.fired.length≤c3∧c3≤maxLen∧Sli ZLV w A3 x.engine.fired L3∧x.engine.log.length≤c4∧c4≤maxLen∧Sli ZL9 w A4 x.engine.log L4∧x.network.rules.length≤c5∧c5≤maxLen∧Sli Zby w A5 x.network.rules L5∧x.network.ends.length≤c6∧c6≤maxLen∧Sli Zj7 w A6 x.network.ends L6∧x.network.alphas.length≤c7∧c7≤maxLen∧Sli ZL7 w A7 x.network.alphas L7∧x.network.nodes.length≤c8∧c8≤maxLen∧Sli ZMg w A8 x.network.nodes L8∧x.network.facts.length≤c9∧c9≤maxLen∧Sli Yf w A9 x.network.facts L9
 len:=fun ⟨A1,c1,L1,A2,c2,L2,A3,c3,L3,A4,c4,L4,A5,c5,L5,A6,c6,L6,A7,c7,L7,A8,c8,L8,A9,c9,L9,h,hL,n1,m1,s1,n2,m2,s2,n3,m3,s3,n4,m4,s4,n5,m5,s5,n6,m6,s6,n7,m7,s7,n8,m8,s8,n9,m9,s9⟩=>by simp [h]
 keep:=fun ⟨A1,c1,L1,A2,c2,L2,A3,c3,L3,A4,c4,L4,A5,c5,L5,A6,c6,L6,A7,c7,L7,A8,c8,L8,A9,c9,L9,h,hL,n1,m1,s1,n2,m2,s2,n3,m3,s3,n4,m4,s4,n5,m5,s5,n6,m6,s6,n7,m7,s7,n8,m8,s8,n9,m9,s9⟩ hk=>⟨A1,c1,L1,A2,c2,L2,A3,c3,L3,A4,c4,L4,A5,c5,L5,A6,c6,L6,A7,c7,L7,A8,c8,L8,A9,c9,L9,h,hL,n1,m1,s1.keep (fun b m=>hk b (by simp [hL,m])),n2,m2,s2.keep (fun b m=>hk b (by simp [hL,m])),n3,m3,s3.keep (fun b m=>hk b (by simp [hL,m])),n4,m4,s4.keep (fun b m=>hk b (by simp [hL,m])),n5,m5,s5.keep (fun b m=>hk b (by simp [hL,m])),n6,m6,s6.keep (fun b m=>hk b (by simp [hL,m])),n7,m7,s7.keep (fun b m=>hk b (by simp [hL,m])),n8,m8,s8.keep (fun b m=>hk b (by simp [hL,m])),n9,m9,s9.keep (fun b m=>hk b (by simp [hL,m]))⟩
 lt:=fun ⟨A1,c1,L1,A2,c2,L2,A3,c3,L3,A4,c4,L4,A5,c5,L5,A6,c6,L6,A7,c7,L7,A8,c8,L8,A9,c9,L9,h,hL,n1,m1,s1,n2,m2,s2,n3,m3,s3,n4,m4,s4,n5,m5,s5,n6,m6,s6,n7,m7,s7,n8,m8,s8,n9,m9,s9⟩=>by intro b m;simp only [hL,List.mem_append] at m;rcases m with m | m | m | m | m | m | m | m | m<;>first | exact s1.lt b m | exact s2.lt b m | exact s3.lt b m | exact s4.lt b m | exact s5.lt b m | exact s6.lt b m | exact s7.lt b m | exact s8.lt b m | exact s9.lt b m
 one:=fun ⟨A1,c1,L1,A2,c2,L2,A3,c3,L3,A4,c4,L4,A5,c5,L5,A6,c6,L6,A7,c7,L7,A8,c8,L8,A9,c9,L9,h,hL,n1,m1,s1,n2,m2,s2,n3,m3,s3,n4,m4,s4,n5,m5,s5,n6,m6,s6,n7,m7,s7,n8,m8,s8,n9,m9,s9⟩=>by simp [h,Value.oneCell']
 pos:=by omega
theorem ZNb {w:World} {cs:List Value} {x:ZMq} {L:List Nat} (h:ZNR.rep w cs x L):∃A1 c1 A2 c2 A3 c3 A4 c4 A5 c5 A6 c6 A7 c7 A8 c8 A9 c9,cs=[.slice A1 x.engine.rules.length c1,.slice A2 x.engine.memory.length c2,.int .i64 x.engine.clock,.slice A3 x.engine.fired.length c3,.bool x.engine.halted,.slice A4 x.engine.log.length c4,.slice A5 x.network.rules.length c5,.slice A6 x.network.ends.length c6,.slice A7 x.network.alphas.length c7,.slice A8 x.network.nodes.length c8,.slice A9 x.network.facts.length c9,.int .i64 x.network.tries]:=by
 obtain ⟨A1,c1,L1,A2,c2,L2,A3,c3,L3,A4,c4,L4,A5,c5,L5,A6,c6,L6,A7,c7,L7,A8,c8,L8,A9,c9,L9,h,hL,n1,m1,s1,n2,m2,s2,n3,m3,s3,n4,m4,s4,n5,m5,s5,n6,m6,s6,n7,m7,s7,n8,m8,s8,n9,m9,s9⟩:=h
 exact ⟨A1,c1,A2,c2,A3,c3,A4,c4,A5,c5,A6,c6,A7,c7,A8,c8,A9,c9,h⟩
def ZOk (x:ZMq):Nat:=ZNB x.engine+ZNc x.network
end
section
open Go.RowKit
inductive PK where
 | int (k:IntKind)
 | bool
 | str
def Zjg:PK→Value→Prop
 | .int k,.int k' _=>k=k'
 | .bool,.bool _=>True
 | .str,.string s=>s.size≤9223372036854775807
 | _,_=>False
def Zlz (kk vk:PK) (kv:List (Value × Value)):Prop:=∀p∈kv,Zjg kk p.1∧Zjg vk p.2
inductive CT where
 | int (k:IntKind) (n:Int)
 | bool (b:Bool)
 | str (s:ByteArray)
 | sl (e m:Nat) (xs:List (List CT))
 /-- a pointer to cells that are only read -/
 | pt (es:List CT)
 /-- a function value with what it has captured -/
 | fn (f:Nat) (cs:List CT)
 /-- a map of plain keys and plain values that is only read -/
 | mp (kk vk:PK) (kv:List (Value × Value))
 /-- an interface value: nil or not -/
 | ifc (isNil:Bool)
 /-- a cell of which nothing is known -/
 | any
 /-- the nil slice -/
 | nl (e m:Nat)
def Zfh (es:Array MapEntry):List (Value × Value):=es.toList.map fun e=>(e.key,e.val)
mutual
def RC (w:World):CT→Value→List Nat→Prop
 | .int k n,v,L=>v=.int k n∧L=[]
 | .bool b,v,L=>v=.bool b∧L=[]
 | .str s,v,L=>v=.string s∧L=[]∧s.size≤9223372036854775807
 | .sl _ m xs,v,L=>∃A cap cs L0 L1,v=.slice A xs.length cap∧xs.length≤cap∧cap≤maxLen∧L=L0++L1∧0<m∧Sl w m A xs.length cs L0∧REs w m xs cs L1
 | .pt es,v,L=>∃b cs L1,v=.pointer (some ⟨b,0,none⟩)∧b<w.heap.size∧L=b::L1∧ZbE w b 0 cs∧RCs w es cs L1
 | .fn f es,v,L=>∃vs:List Value,v=.func (.func f) #[] vs.toArray∧RCs w es vs L
 | .mp kk vk kv,v,L=>∃b es c,v=.map (some b)∧w.heap[b]?=some (.map es c)∧Zfh es=kv∧Zlz kk vk kv∧L=[b]
 | .ifc b,v,L=>L=[]∧v.oneCell'=true∧(match b with | true=>v=.nilIface | false=>∃t x,v=.iface t x)
 | .any,v,L=>L=[]∧v.oneCell'=true
 | .nl _ _,v,L=>v=.slice none 0 0∧L=[]
def RCs (w:World):List CT→List Value→List Nat→Prop
 | [],cs,L=>cs=[]∧L=[]
 | x::r,cs,L=>∃v cs' L1 L2,cs=v::cs'∧L=L1++L2∧RC w x v L1∧RCs w r cs' L2
def REs (w:World) (m:Nat):List (List CT)→List Value→List Nat→Prop
 | [],cs,L=>cs=[]∧L=[]
 | e::r,cs,L=>∃c1 c2 L1 L2,cs=c1++c2∧L=L1++L2∧(RCs w e c1 L1∧c1.length=m)∧REs w m r c2 L2
end
mutual
theorem RC.keep {w w':World}:∀{x:CT} {v:Value} {L:List Nat},RC w x v L→(∀b∈L,w'.heap[b]?=w.heap[b]?)→RC w' x v L
 | .int _ _,_,_,h,_=>h
 | .bool _,_,_,h,_=>h
 | .str _,_,_,h,_=>h
 | .sl _ _ _,_,_,⟨A,cap,cs,L0,L1,h1,h2,h3,h4,h5,h6,h7⟩,hk=>⟨A,cap,cs,L0,L1,h1,h2,h3,h4,h5,h6.keep fun b m=>hk b (by simp [h4,m]),h7.keep fun b m=>hk b (by simp [h4,m])⟩
 | .pt _,_,_,⟨b,cs,L1,h1,h2,h3,h4,h5⟩,hk=>⟨b,cs,L1,h1,by
   have e:=hk b (by simp [h3])
   rcases Nat.lt_or_ge b w'.heap.size with h | h
   ·exact h
   ·rw [Array.getElem?_eq_none h] at e
    have:=Array.getElem?_eq_none_iff.1 e.symm
    omega,h3,fun j u hu=>by rw [←h4 j u hu];exact World.cell?_of_block (hk b (by simp [h3])),h5.keep fun b m=>hk b (by simp [h3,m])⟩
 | .fn _ _,_,_,⟨vs,h1,h2⟩,hk=>⟨vs,h1,h2.keep hk⟩
 | .mp _ _ _,_,_,⟨b,es,c,h1,h2,h3,h3',h4⟩,hk=>⟨b,es,c,h1,by rw [hk b (by simp [h4])];exact h2,h3,h3',h4⟩
 | .ifc _,_,_,h,_=>h
 | .any,_,_,h,_=>h
 | .nl _ _,_,_,h,_=>h
theorem RCs.keep {w w':World}:∀{x:List CT} {v:List Value} {L:List Nat},RCs w x v L→(∀b∈L,w'.heap[b]?=w.heap[b]?)→RCs w' x v L
 | [],_,_,h,_=>h
 | _::_,_,_,⟨v,cs,L1,L2,h1,h2,h3,h4⟩,hk=>⟨v,cs,L1,L2,h1,h2,h3.keep fun b m=>hk b (by simp [h2,m]),h4.keep fun b m=>hk b (by simp [h2,m])⟩
theorem REs.keep {w w':World} {m:Nat}:∀{x:List (List CT)} {v:List Value} {L:List Nat},REs w m x v L→(∀b∈L,w'.heap[b]?=w.heap[b]?)→REs w' m x v L
 | [],_,_,h,_=>h
 | _::_,_,_,⟨c1,c2,L1,L2,h1,h2,h3,h4⟩,hk=>⟨c1,c2,L1,L2,h1,h2,⟨h3.1.keep fun b m=>hk b (by simp [h2,m]),h3.2⟩,h4.keep fun b m=>hk b (by simp [h2,m])⟩
end
mutual
theorem RC.lt {w:World}:∀{x:CT} {v:Value} {L:List Nat},RC w x v L→∀b∈L,b<w.heap.size
 | .int _ _,_,_,h=>by simp [h.2]
 | .bool _,_,_,h=>by simp [h.2]
 | .str _,_,_,h=>by simp [h.2.1]
 | .sl _ _ _,_,_,⟨A,cap,cs,L0,L1,h1,h2,h3,h4,h5,h6,h7⟩=>fun b m=>by
  rw [h4] at m
  rcases List.mem_append.1 m with m | m
  ·exact h6.lt h5 b m
  ·exact h7.lt b m
 | .pt _,_,_,⟨b,cs,L1,h1,h2,h3,h4,h5⟩=>fun x m=>by
  rw [h3] at m
  rcases List.mem_cons.1 m with rfl | m
  ·exact h2
  ·exact h5.lt x m
 | .fn _ _,_,_,⟨vs,h1,h2⟩=>h2.lt
 | .mp _ _ _,_,_,⟨b,es,c,h1,h2,h3,h3',h4⟩=>fun x m=>by
  rw [h4] at m
  simp at m;subst m
  exact (Array.getElem?_eq_some_iff.1 h2).1
 | .ifc _,_,_,h=>by simp [h.1]
 | .any,_,_,h=>by simp [h.1]
 | .nl _ _,_,_,h=>by simp [h.2]
theorem RCs.lt {w:World}:∀{x:List CT} {v:List Value} {L:List Nat},RCs w x v L→∀b∈L,b<w.heap.size
 | [],_,_,h=>by simp [h.2]
 | _::_,_,_,⟨v,cs,L1,L2,h1,h2,h3,h4⟩=>fun b m=>by
  rw [h2] at m
  rcases List.mem_append.1 m with m | m
  ·exact h3.lt b m
  ·exact h4.lt b m
theorem REs.lt {w:World} {m:Nat}:∀{x:List (List CT)} {v:List Value} {L:List Nat},REs w m x v L→∀b∈L,b<w.heap.size
 | [],_,_,h=>by simp [h.2]
 | _::_,_,_,⟨c1,c2,L1,L2,h1,h2,h3,h4⟩=>fun b m=>by
  rw [h2] at m
  rcases List.mem_append.1 m with m | m
  ·exact h3.1.lt b m
  ·exact h4.lt b m
end
end
section
open Go.RowKit
inductive AV where
 | c (x:CT)
 /-- a row that the call has made with all that it leads to,from now on only read,maybe through others too -/
 | n (x:CT)
 | row (k:Nat)
 | nil (e m:Nat)
 | dead
inductive SV where
 | any
 | und
 | p (agg:Bool) (cs:List AV)
 | tup (xs:List (Bool × List AV))
 | bp (k off:Nat)
 | rp (k m i off:Nat)
 | ep (e:List CT) (off:Nat)
 | fn (f:FuncId)
inductive Ob where
 | gone
 | box (t:TypeId) (cs:List AV)
 | row (e m:Nat) (xs:List (List CT)) (deep:Nat)
 | map (kk vk:PK) (kv:List (Value × Value))
def upd {α:Type} (f:Nat→α) (k:Nat) (v:α):Nat→α:=fun j=>if j=k then v else f j
def Zg6 (a b:Nat):Nat:=if a≤b then a else b
structure St where
 sl:Nat→SV
 ob:Nat→Ob
 n:Nat
def St.put (st:St) (d:Option Nat) (v:SV):St:=match d with | none=>st | some t=>{ st with sl:=upd st.sl t v }
def Zv (ob:Nat→Ob):List (Nat × Ob)→Nat→Ob
 | []=>ob
 | p::r=>Zv (upd ob p.1 p.2) r
def St.app (st:St) (u:List (Nat × Ob)):St:={ st with ob:=Zv st.ob u }
structure FI where
 off:Nat
 size:Nat
 agg:Bool
inductive TI where
 | atom (z:AV)
 | strct (fs:List FI) (n:Nat) (z:List AV)
 | slice (e m bytes:Nat) (z:List AV)
 | map (kk vk:PK)
 | eqs (ks:List PK)
 | ifc
def ZBB:Option TI→Bool
 | some .ifc=>true
 | _=>false
def ZoJ:Option TI→Option (List AV)
 | some (.atom z)=>some [z]
 | some (.strct _ _ z)=>some z
 | some (.slice e m _ _)=>some [.nil e m]
 | _=>none
def ZB (s:ByteArray):Bool:=Nat.ble s.data.toList.length 9223372036854775807
def cvT (ti:Option TI):Value→SV
 | .int k n=>.p false [.c (.int k n)]
 | .bool b=>.p false [.c (.bool b)]
 | .string s=>if ZB s then .p false [.c (.str s)] else .any
 | .slice none 0 0=>match ti with | some (.slice e m _ _)=>.p false [.nil e m] | _=>.any
 | _=>.any
section
variable (tt:Nat→Option TI)
def St.ev (st:St) (t:Nat):Operand→SV
 | .tmp s=>st.sl s
 | .const v=>cvT (tt t) v
 | .func f=>.fn f
 | .global _=>.any
def ZoB (k:IntKind) (x y:Int):Int:=k.wrap (BitVec.ofInt k.bits x &&& BitVec.ofInt k.bits y).toNat
def orI (k:IntKind) (x y:Int):Int:=k.wrap (BitVec.ofInt k.bits x ||| BitVec.ofInt k.bits y).toNat
def ZCs (k:IntKind) (x y:Int):Int:=k.wrap (BitVec.ofInt k.bits x ^^^ BitVec.ofInt k.bits y).toNat
def Zxl (k:IntKind) (x y:Int):Int:=k.wrap (BitVec.ofInt k.bits x &&& ~~~ BitVec.ofInt k.bits y).toNat
def ZGQ (k:IntKind) (x y:Int):Int:=k.wrap (x * 2 ^ (min y.toNat k.bits))
def Zzc (k:IntKind) (x y:Int):Int:=x.fdiv (2 ^ (min y.toNat k.bits))
def ZDu (op:BinOp) (k:IntKind) (x y:Int):Option Int:=
 match op with
 | .and=>some (ZoB k x y)
 | .or=>some (orI k x y)
 | .xor=>some (ZCs k x y)
 | .andNot=>some (Zxl k x y)
 | _=>none
def ZB3 (op:BinOp) (k:IntKind) (x y:Int):Option CT:=
 match op with
 | .add=>some (.int k (k.wrap (x+y)))
 | .sub=>some (.int k (k.wrap (x - y)))
 | .mul=>some (.int k (k.wrap (x * y)))
 | .quo=>if y=0 then none else some (.int k (k.wrap (x.tdiv y)))
 | .rem=>if y=0 then none else some (.int k (x.tmod y))
 | .eql=>some (.bool (x==y))
 | .neq=>some (.bool (x != y))
 | .lss=>some (.bool (decide (x<y)))
 | .leq=>some (.bool (decide (x≤y)))
 | .gtr=>some (.bool (decide (y<x)))
 | .geq=>some (.bool (decide (y≤x)))
 | .shl=>if y<0 then none else some (.int k (ZGQ k x y))
 | .shr=>if y<0 then none else some (.int k (Zzc k x y))
 | op=>(ZDu op k x y).map (.int k)
def sLt (x y:ByteArray):Bool:=Op.bytesLess x.toList y.toList
def sEq (x y:ByteArray):Bool:=decide (x=y)
def ZBQ (op:BinOp) (x y:ByteArray):Option CT:=
 match op with
 | .add=>if x.size+y.size≤9223372036854775807 then some (.str (x++y)) else none
 | .eql=>some (.bool (sEq x y))
 | .neq=>some (.bool (!sEq x y))
 | .lss=>some (.bool (sLt x y))
 | .leq=>some (.bool (sLt x y||sEq x y))
 | .gtr=>some (.bool (!(sLt x y||sEq x y)))
 | .geq=>some (.bool (!sLt x y))
 | _=>none
def eqC:PK→AV→AV→Option Bool
 | .int _,.c (.int k x),.c (.int k' y)=>if k=k' then some (x==y) else none
 | .str,.c (.str x),.c (.str y)=>some (sEq x y)
 | .bool,.c (.bool x),.c (.bool y)=>some (x==y)
 | _,_,_=>none
def ZpZ:List PK→List AV→List AV→Option Bool
 | [],[],[]=>some true
 | k::ks,x::r,y::q=>(eqC k x y).bind fun a=>(ZpZ ks r q).map fun b=>a&&b
 | _,_,_=>none
def ZA2:Option TI→Option (List PK)
 | some (.eqs ks)=>some ks
 | _=>none
def Ztd (op:BinOp) (b:Bool):Option SV:=
 match op with
 | .eql=>some (.p false [.c (.bool b)])
 | .neq=>some (.p false [.c (.bool (!b))])
 | _=>none
def ZBV (t:Option TI) (op:BinOp):SV→SV→Option SV
 | .p true xs,.p true ys=>(ZA2 t).bind fun ks=>(ZpZ ks xs ys).bind (Ztd op)
 | _,_=>none
def ZvS:Value→Bool
 | .nilIface=>true
 | .int _ _=>false
 | .string _=>false
 | .bool _=>false
 | .slice _ _ _=>false
 | _=>false
def ZlU:Operand→Bool
 | .const v=>ZvS v
 | .tmp _=>false
 | .func _=>false
 | .global _=>false
def ZFe (op:BinOp):SV→Option SV
 | .p false [.c (.ifc b)]=>Ztd op b
 | _=>none
def Zz1:SV→Bool
 | .p ag _=>ag
 | _=>false
def ZBZ (t:Option TI) (op:BinOp):SV→SV→Option SV
 | .p false [.c (.int k x)],.p false [.c (.int k' y)]=>if k=k'∨op=.shl∨op=.shr then (ZB3 op k x y).map fun z=>.p false [.c z] else none
 | .p false [.c (.str x)],.p false [.c (.str y)]=>(ZBQ op x y).map fun z=>.p false [.c z]
 | .p false [.c (.bool x)],.p false [.c (.bool y)]=>
  match t,op with
  | some (.atom (.c (.bool _))),.eql=>some (.p false [.c (.bool (x==y))])
  | some (.atom (.c (.bool _))),.neq=>some (.p false [.c (.bool (!(x==y)))])
  | _,_=>none
 | _,_=>none
def unV (op:UnOp):SV→Option SV
 | .p false [.c (.bool b)]=>match op with | .not=>some (.p false [.c (.bool (!b))]) | _=>none
 | .p false [.c (.int k n)]=>match op with | .neg=>some (.p false [.c (.int k (k.wrap (0 - n)))]) | _=>none
 | _=>none
def ZzV (tt:Nat→Option TI) (t:Nat) (n:Bool) (op:BinOp) (x y:SV):Option SV:=
 if n=true then (if ZBB (tt t)=true then ZFe op x else none) else if Zz1 x=true then ZBV (tt (t+4000)) op x y else ZBZ (tt t) op x y
def ZfW:List (List CT)→Option (List Int)
 | []=>some []
 | [.int .u8 n]::r=>(ZfW r).map fun l=>n::l
 | _::_=>none
def Xz (l:List Int):ByteArray:=⟨(l.map fun n=>UInt8.ofNat n.toNat).toArray⟩
def ZnO:Option TI→Bool
 | some (.atom (.c (.int .u8 _)))=>true
 | _=>false
def Zuy (s t:Option TI):SV→Option SV
 | .p false [.c (.int _ n)]=>match s,t with | some (.atom _),some (.atom (.c (.int k _)))=>some (.p false [.c (.int k (k.wrap n))]) | _,_=>none
 | _=>none
def Zcs:Option TI→Bool
 | some (.slice _ _ _ _)=>true
 | _=>false
def Zdu:Option TI→Bool
 | some (.atom (.c (.str _)))=>true
 | _=>false
def ZpB (st:St) (t:Option TI):SV→Option SV
 | .p false [.c (.sl _ _ xs)]=>if Zcs t=true then some (.p false [.c (.int .i64 xs.length)]) else none
 | .p false [.n (.sl _ _ xs)]=>if Zcs t=true then some (.p false [.c (.int .i64 xs.length)]) else none
 | .p false [.c (.str s)]=>if Zdu t=true then some (.p false [.c (.int .i64 s.size)]) else none
 | .p false [.nil _ _]=>if Zcs t=true then some (.p false [.c (.int .i64 0)]) else none
 | .p false [.row k]=>match st.ob k with | .row _ _ xs _=>if Zcs t=true then some (.p false [.c (.int .i64 xs.length)]) else none | _=>none
 | _=>none
def Zcy (st:St) (m:Nat):SV→SV→Option SV
 | .p false [.c (.sl _ m' xs)],.p false [.c (.int _ i)]=>if 0≤i∧m=m' then (xs[i.toNat]?).map fun e=>.ep e 0 else none
 | .p false [.row k],.p false [.c (.int _ i)]=>match st.ob k with
  | .row _ m' xs _=>if 0≤i∧i<xs.length∧m=m' then some (.rp k m i.toNat 0) else none
  | _=>none
 | _,_=>none
def Zpb (t:Option TI):SV→SV→Option SV
 | .p false [.c (.str s)],.p false [.c (.int _ i)]=>if 0≤i∧Zdu t=true then (s[i.toNat]?).map fun b=>.p false [.c (.int .u8 b.toNat)] else none
 | _,_=>none
def cut (t:Option TI) (cs:List AV) (off:Nat):Option SV:=
 match t with
 | some (.strct _ n _)=>if off+n≤cs.length then some (.p true ((cs.drop off).take n)) else none
 | some (.eqs _)=>none
 | some _=>(cs[off]?).map fun x=>.p false [x]
 | none=>none
def Zat (st:St) (t:Option TI):SV→Option SV
 | .bp k off=>match st.ob k with | .box _ cs=>cut t cs off | _=>none
 | .rp k m i off=>match st.ob k with | .row _ m' xs _=>(xs[i]?).bind fun e=>if m=m' then cut t (e.map .c) off else none | _=>none
 | .ep e off=>cut t (e.map .c) off
 | .p false [.c (.pt e)]=>cut t (e.map .c) 0
 | _=>none
def splice {α:Type} (cs:List α) (off:Nat) (vs:List α):List α:=cs.take off++(vs++cs.drop (off+vs.length))
def Zxj:AV→Option CT
 | .c (.int k n)=>some (.int k n)
 | .c (.bool b)=>some (.bool b)
 | .c (.str s)=>some (.str s)
 | _=>none
def ZjN:List AV→Option (List CT)
 | []=>some []
 | x::r=>(Zxj x).bind fun a=>(ZjN r).map fun b=>a::b
def Zj5:Option TI→Nat
 | some (.strct _ n _)=>n
 | some (.atom _)=>1
 | some (.slice _ _ _ _)=>1
 | _=>0
def Zol (st:St) (t:Option TI):SV→SV→Option (List (Nat × Ob))
 | .bp k off,.p _ vs=>match st.ob k with
  | .box tb cs=>if vs.length=Zj5 t∧0<vs.length∧off+vs.length≤cs.length then some [(k,.box tb (splice cs off vs))] else none
  | _=>none
 | .rp k m i off,.p _ vs=>match st.ob k with
  | .row e m' xs d=>(xs[i]?).bind fun x=>(ZjN vs).bind fun ys=>if m=m'∧vs.length=Zj5 t∧0<vs.length∧off+vs.length≤m∧0<d then some [(k,.row e m (xs.set i (splice x off ys)) d)] else none
  | _=>none
 | _,_=>none
def ZlW (d:Nat):SV→Option SV
 | .bp k off=>some (.bp k (off+d))
 | .rp k m i off=>some (.rp k m i (off+d))
 | .ep e off=>some (.ep e (off+d))
 | .p false [.c (.pt e)]=>some (.ep e d)
 | _=>none
def ZnM (fs:List FI) (f:Nat):SV→Option SV
 | .p true cs=>(fs[f]?).bind fun i=>if i.agg then (if i.off+i.size≤cs.length then some (.p true ((cs.drop i.off).take i.size)) else none) else (cs[i.off]?).map fun x=>.p false [x]
 | _=>none
def Zlp (fs:List FI) (cs:List AV):List (Nat × SV)→Option (List AV)
 | []=>some cs
 | (i,.p _ vs)::r=>(fs[i]?).bind fun f=>if vs.length=f.size∧f.off+vs.length≤cs.length then Zlp fs (splice cs f.off vs) r else none
 | _::_=>none
def Zhs (st:St) (fs:List FI) (z:List AV) (p:Nat × Operand):Nat × SV:=
 match p.2 with
 | .const (.slice none 0 0)=>(p.1,match (fs[p.1]?).bind fun f=>z[f.off]? with | some (.nil e m)=>.p false [.nil e m] | _=>.any)
 | x=>(p.1,st.ev tt 0 x)
def avT (st:St):AV→Option (CT × List Nat × Nat)
 | .c (.int k n)=>some (.int k n,[],2)
 | .c (.bool b)=>some (.bool b,[],2)
 | .c (.str s)=>some (.str s,[],2)
 | .c x=>some (x,[],1)
 | .nil e m=>if 0<m then some (.sl e m [],[],2) else none
 | .row k=>match st.ob k with | .row e m xs d=>(if d=0 then some (.sl e m xs,[],1) else some (.sl e m xs,[k],d)) | _=>none
 | .n _=>none
 | .dead=>none
def ZhB (st:St):List AV→Option (List CT × List Nat × Nat)
 | []=>some ([],[],2)
 | x::r=>(avT st x).bind fun a=>(ZhB st r).map fun b=>(a.1::b.1,a.2.1++b.2.1,Zg6 a.2.2 b.2.2)
def Xt (st:St) (m:Nat):List SV→Option (List (List CT) × List Nat × Nat)
 | []=>some ([],[],2)
 | .p _ cs::r=>if cs.length=m then (ZhB st cs).bind fun a=>(Xt st m r).map fun b=>(a.1::b.1,a.2.1++b.2.1,Zg6 a.2.2 b.2.2) else none
 | _::_=>none
def Zma:AV→Bool
 | .c _=>true
 | _=>false
def Yv:Ob→Ob
 | .row e m xs _=>.row e m xs 0
 | o=>o
def Z8 (st:St):List Nat→List (Nat × Ob)
 | []=>[]
 | k::r=>(k,Yv (st.ob k))::Z8 st r
def ZbD (ks:List Nat):List (Nat × Ob):=ks.map fun k=>(k,Ob.gone)
def CT.flat:CT→Bool
 | .int _ _=>true
 | .bool _=>true
 | .str _=>true
 | _=>false
def ZbI (xs:List (List CT)):Bool:=xs.all fun e=>e.all CT.flat
def Zk6 (fl:Bool) (xs:List (List CT)):Nat:=if (fl&&ZbI xs)=true then 2 else 1
def ZgX (st:St) (fl:Bool):SV→Option (List (List CT) × List Nat × Nat)
 | .p false [.c (.sl _ _ ys)]=>some (ys,[],Zk6 fl ys)
 | .p false [.nil _ _]=>some ([],[],2)
 | .p false [.row j]=>match st.ob j with | .row _ _ ys d=>(if d=0 then some (ys,[],Zk6 fl ys) else some (ys,[j],d)) | _=>none
 | _=>none
def Zha (st:St):SV→Option (List (List CT) × List Nat × Nat)
 | .p false [.nil _ _]=>some ([],[],2)
 | .p false [.row k]=>match st.ob k with | .row _ _ xs d=>(if d=0 then none else some (xs,[k],d)) | _=>none
 | _=>none
def ZnV (st:St) (e m:Nat):SV→Bool
 | .p false [.row k]=>match st.ob k with | .row e' m' _ _=>e==e'&&m==m' | _=>false
 | .p false [.nil _ _]=>true
 | _=>false
def Zmf (st:St) (m:Nat):SV→Bool
 | .p false [.row k]=>match st.ob k with | .row _ m' _ _=>m==m' | _=>false
 | .p false [.c (.sl _ m' _)]=>m==m'
 | .p false [.nil _ _]=>true
 | _=>false
def ZpD (st:St) (key:Nat) (t:Option TI) (s x:SV):Option (SV × List (Nat × Ob)):=
 match t with
 | some (.slice e m _ z)=>
  (Zha st s).bind fun a=>(ZgX st (z.all Zma) x).bind fun b=>
   if ZnV st e m s=true∧Zmf st m x=true∧(a.2.1++b.2.1).Nodup∧a.1.length+b.1.length≤1073741824 then
    some (.p false [.row key],ZbD (a.2.1++b.2.1)++[(key,.row e m (a.1++b.1) (Zg6 a.2.2 b.2.2))]) else none
 | _=>none
def ZAD (lo:Bool):SV→SV→Option SV
 | .p false [.c (.int k x)],.p false [.c (.int _ y)]=>some (.p false [.c (.int k (if lo then (if y<x then y else x) else (if x<y then y else x)))])
 | _,_=>none
def Zl4:Option TI→Nat
 | some (.slice _ m _ _)=>m
 | _=>0
def hiB (n:Nat):Option SV→Option Nat
 | none=>some n
 | some (.p false [.c (.int _ h)])=>if 0≤h∧h≤n then some h.toNat else none
 | _=>none
def loB (n:Nat):Option SV→Option Nat
 | none=>some 0
 | some (.p false [.c (.int _ l)])=>if 0≤l∧l≤n then some l.toNat else none
 | _=>none
def Zou (t:Option TI) (lo hi:Option SV):SV→Option SV
 | .p false [.c (.str s)]=>if Zdu t=true then (hiB s.size hi).bind fun h=>(loB h lo).map fun l=>.p false [.c (.str (s.extract l h))] else none
 | .p false [.c (.sl e m xs)]=>if Zl4 t=m then (hiB xs.length hi).bind fun h=>(loB h lo).map fun l=>.p false [.c (.sl e m ((xs.take h).drop l))] else none
 | _=>none
def mvS (d:Nat):Option SV→Option SV→Bool
 | some _,none=>if d=0 then false else true
 | _,_=>false
def ZaE (st:St) (key:Nat) (t:Option TI) (lo hi:Option SV):SV→Option (SV × List (Nat × Ob))
 | .p false [.row k]=>if Zcs t=true then (match st.ob k with
  | .row e m xs d=>if Zl4 t=m then if mvS d lo hi=true then (loB xs.length lo).map fun l=>(.p false [.row key],[(k,.gone),(key,.row e m (xs.drop l) d)]) else (hiB xs.length hi).bind fun h=>(loB h lo).map fun l=>(.p false [.c (.sl e m ((xs.take h).drop l))],[(k,.row e m xs 0)]) else none
  | _=>none) else none
 | .p false [.c x]=>(Zou t lo hi (.p false [.c x])).map fun v=>(v,[])
 | _=>none
def vEq:Value→Value→Bool
 | .int k a,.int k' b=>k==k'&&a==b
 | .string a,.string b=>sEq a b
 | .bool a,.bool b=>a==b
 | _,_=>false
def ZmY:List (Value × Value)→Value→Option Value
 | [],_=>none
 | p::r,k=>if vEq k p.1=true then some p.2 else ZmY r k
def Zf3:List (Value × Value)→Value→Value→List (Value × Value)
 | [],k,v=>[(k,v)]
 | p::r,k,v=>if vEq k p.1=true then (k,v)::r else p::Zf3 r k v
def avV:Value→AV
 | .int k n=>.c (.int k n)
 | .bool b=>.c (.bool b)
 | .string s=>.c (.str s)
 | _=>.dead
def ZcF (kv:List (Value × Value)) (k:Value) (z:AV):AV:=match ZmY kv k with | some v=>avV v | none=>z
def ZfH (kv:List (Value × Value)) (k:Value):Bool:=(ZmY kv k).isSome
def ZfL:PK→AV
 | .int k=>.c (.int k 0)
 | .bool=>.c (.bool false)
 | .str=>.c (.str ⟨#[]⟩)
def ZxT:PK→SV→Option Value
 | .int k,.p false [.c (.int k' n)]=>if k=k' then some (.int k' n) else none
 | .str,.p false [.c (.str s)]=>some (.string s)
 | .bool,.p false [.c (.bool b)]=>some (.bool b)
 | _,_=>none
def Zu7 (kk vk:PK) (kv:List (Value × Value)) (i:SV) (ok:Bool):Option SV:=
 (ZxT kk i).map fun k=>match ok with
  | true=>.tup [(false,[ZcF kv k (ZfL vk)]),(false,[.c (.bool (ZfH kv k))])]
  | false=>.p false [ZcF kv k (ZfL vk)]
instance pkDec:DecidableEq PK:=fun a b=>match a,b with
 | .int k,.int k'=>if h:k=k' then isTrue (h ▸ rfl) else isFalse (fun e=>h (PK.int.inj e))
 | .bool,.bool=>isTrue rfl
 | .str,.str=>isTrue rfl
 | .int _,.bool=>isFalse (fun e=>by cases e)
 | .int _,.str=>isFalse (fun e=>by cases e)
 | .bool,.int _=>isFalse (fun e=>by cases e)
 | .bool,.str=>isFalse (fun e=>by cases e)
 | .str,.int _=>isFalse (fun e=>by cases e)
 | .str,.bool=>isFalse (fun e=>by cases e)
def Zfu (kk vk:PK):Option TI→Bool
 | some (.map a b)=>decide (a=kk)&&decide (b=vk)
 | _=>false
def ZhF (st:St) (t:Option TI) (x i:SV) (ok:Bool):Option SV:=
 match x with
 | .p false [.row k]=>match st.ob k with | .map kk vk kv=>if Zfu kk vk t=true then Zu7 kk vk kv i ok else none | _=>none
 | .p false [.c (.mp kk vk kv)]=>if Zfu kk vk t=true then Zu7 kk vk kv i ok else none
 | _=>none
def Zyf (st:St) (t:Option TI) (x i v:SV):Option (List (Nat × Ob)):=
 match x with
 | .p false [.row k]=>match st.ob k with | .map kk vk kv=>if Zfu kk vk t=true then (ZxT kk i).bind fun a=>(ZxT vk v).map fun b=>[(k,.map kk vk (Zf3 kv a b))] else none | _=>none
 | _=>none
def ZqV (key:Nat):Option TI→Option (SV × List (Nat × Ob))
 | some (.map kk vk)=>some (.p false [.row key],[(key,.map kk vk [])])
 | _=>none
def ZlB (st:St):SV→Option (CT × List (Nat × Ob))
 | .bp k 0=>match st.ob k with | .box _ cs=>(zBox cs).map fun l=>(.pt l,[(k,.gone)]) | _=>none
 | .p false [.c (.pt e)]=>some (.pt e,[])
 | _=>none
where zBox:List AV→Option (List CT)
 | []=>some []
 | .c x::r=>(zBox r).map fun b=>x::b
 | _::_=>none
def Zfr (st:St):List SV→Option (List CT × List (Nat × Ob))
 | []=>some ([],[])
 | x::r=>(ZlB st x).bind fun a=>(Zfr st r).map fun b=>(a.1::b.1,a.2++b.2)
def Zm4:List AV→Option (List CT)
 | []=>some []
 | .c x::r=>(Zm4 r).map fun b=>x::b
 | .nil e m::r=>if 0<m then (Zm4 r).map fun b=>.sl e m []::b else none
 | _::_=>none
def Zuu (key:Nat) (t:Option TI):SV→SV→Option (SV × List (Nat × Ob))
 | .p false [.c (.int .i64 n)],.p false [.c (.int .i64 c)]=>
  match t with
  | some (.slice e m _ z)=>(Zm4 z).bind fun ze=>if 0≤n∧n=c∧n≤1073741824 then some (.p false [.row key],[(key,.row e m (List.replicate n.toNat ze) 2)]) else none
  | _=>none
 | _,_=>none
def ZzC (i:Nat):SV→Option SV
 | .tup xs=>(xs[i]?).map fun x=>.p x.1 x.2
 | _=>none
def Zce (v:Option SV):Option (SV × List (Nat × Ob)):=v.map fun v=>(v,[])
def ZjB (st:St):SV→Option SV
 | .p false [.row k]=>match st.ob k with | .row _ _ xs _=>(ZfW xs).map fun l=>.p false [.c (.str (Xz l))] | _=>none
 | .p false [.c (.sl _ _ xs)]=>(ZfW xs).map fun l=>.p false [.c (.str (Xz l))]
 | _=>none
def ZsW (tt:Nat→Option TI):Option TI→Option TI
 | some (.slice e _ _ _)=>tt e
 | _=>none
def ZhW (tt:Nat→Option TI) (st:St) (s t:Nat) (x:SV):Option SV:=
 if (Zdu (tt t)&&ZnO (ZsW tt (tt s)))=true then ZjB st x else Zuy (tt s) (tt t) x
def Zlg:List TypeId→List Operand→List (TypeId × Operand)
 | t::ts,x::xs=>(t,x)::Zlg ts xs
 | [],x::xs=>(0,x)::Zlg [] xs
 | _,[]=>[]
def evs (st:St) (ts:List TypeId) (xs:List Operand):List SV:=(Zlg ts xs).map fun p=>st.ev tt p.1 p.2
def Zg3 (st:St) (key:Nat) (b:Builtin) (ts:List TypeId) (vs:List SV):Option (SV × List (Nat × Ob)):=
 match b,ts,vs with
 | .len,t::_,[x]=>Zce (ZpB st (tt t) x)
 | .append,[t,u],[s,x]=>if t=u then ZpD st key (tt t) s x else none
 | .max,_,[x,y]=>Zce (ZAD false x y)
 | .min,_,[x,y]=>Zce (ZAD true x y)
 | _,_,_=>none
def opE (key:Nat) (o:Oper) (st:St):Option (SV × List (Nat × Ob)):=
 match o.op with
 | .move x=>some (st.ev tt o.type x,[])
 | .assign x=>some (st.ev tt o.type x,[])
 | .pick c a b=>match st.ev tt 0 c with | .p false [.c (.bool t)]=>some (if t=true then st.ev tt o.type a else st.ev tt o.type b,[]) | _=>none
 | .alloc t=>(ZoJ (tt t)).map fun z=>(.bp key 0,[(key,.box t z)])
 | .box t x=>match st.ev tt t x with | .p _ cs=>some (.bp key 0,[(key,.box t cs)]) | _=>none
 | .build t parts=>match tt t with | some (.strct fs _ z)=>(Zlp fs z (parts.toList.map (Zhs tt st fs z))).map fun cs=>(.p true cs,[]) | _=>none
 | .buildSlice t len parts=>match tt t with
  | some (.slice e m _ z)=>(Xt st m (parts.toList.map fun p=>st.ev tt e p.2)).bind fun a=>
   if parts.toList.map (·.1)=List.range len∧len * m≤16777216∧a.2.1.Nodup∧(!z.all Zma||a.2.1.isEmpty)=true then some (.p false [.row key],Z8 st a.2.1++[(key,.row e m a.1 a.2.2)]) else none
  | _=>none
 | .load t x=>Zce (Zat st (tt t) (st.ev tt 0 x))
 | .store t x v=>(Zol st (tt t) (st.ev tt 0 x) (st.ev tt t v)).map fun u=>(.und,u)
 | .nilCheck x=>match st.ev tt 0 x with | .bp k i=>some (.bp k i,[]) | .rp k m i j=>some (.rp k m i j,[]) | .ep e i=>some (.ep e i,[]) | .p false [.c (.pt e)]=>some (.p false [.c (.pt e)],[]) | _=>none
 | .makeFunc (.func f) first caps=>if first.size=0 then (Zfr st (caps.toList.map (st.ev tt 0))).bind fun r=>if (r.2.map (·.1)).Nodup then some (.p false [.c (.fn f r.1)],r.2) else none else none
 | .makeMap t none=>ZqV key (tt t)
 | .lookup t x i ok=>Zce (ZhF st (tt t) (st.ev tt 0 x) (st.ev tt 0 i) ok)
 | .mapUpdate t x i v=>(Zyf st (tt t) (st.ev tt 0 x) (st.ev tt 0 i) (st.ev tt 0 v)).map fun u=>(.und,u)
 | .binOp op t x y _=>Zce (ZzV tt t (ZlU y) op (st.ev tt t x) (st.ev tt t y))
 | .unOp op _ x=>Zce (unV op (st.ev tt 0 x))
 | .convert s t x=>Zce (ZhW tt st s t (st.ev tt 0 x))
 | .makeSlice t n c=>Zuu key (tt t) (st.ev tt 0 n) (st.ev tt 0 c)
 | .slice t x lo hi none=>ZaE st key (tt t) (lo.map (st.ev tt 0)) (hi.map (st.ev tt 0)) (st.ev tt 0 x)
 | .fieldAddr t x f=>match tt t with | some (.strct fs _ _)=>Zce ((fs[f]?).bind fun i=>ZlW i.off (st.ev tt 0 x)) | _=>none
 | .field t x f=>match tt t with | some (.strct fs _ _)=>Zce (ZnM fs f (st.ev tt 0 x)) | _=>none
 | .indexAddr t x i=>match tt t with | some (.slice _ m _ _)=>Zce (Zcy st m (st.ev tt 0 x) (st.ev tt 0 i)) | _=>none
 | .index t x i=>Zce (Zpb (tt t) (st.ev tt 0 x) (st.ev tt 0 i))
 | .extract x i=>Zce (ZzC i (st.ev tt 0 x))
 | .call c=>match c.callee with
  | .builtin b=>Zg3 tt st key b c.argTypes.toList (evs tt st c.argTypes.toList c.args.toList)
  | _=>none
 | _=>none
end
def ZcK (st:St):AV→Option CT
 | .c x=>some x
 | .nil e m=>if 0<m then some (.sl e m []) else none
 | .row k=>match st.ob k with | .row e m xs _=>some (.sl e m xs) | _=>none
 | .n x=>some x
 | .dead=>none
def Y9 (st:St):List AV→Option (List CT)
 | []=>some []
 | x::r=>(ZcK st x).bind fun a=>(Y9 st r).map fun b=>a::b
def ZdX (st:St):SV→Option (Bool × List CT)
 | .p a cs=>(Y9 st cs).map fun l=>(a,l)
 | _=>none
def Yj (st:St):List SV→Option (List (Bool × List CT))
 | []=>some []
 | x::r=>(ZdX st x).bind fun a=>(Yj st r).map fun b=>a::b
def nlA:AV→AV
 | .nil e m=>.c (.nl e m)
 | .c x=>.c x
 | .n x=>.n x
 | .row k=>.row k
 | .dead=>.dead
def nlS:SV→SV
 | .p a cs=>.p a (cs.map nlA)
 | x=>x
def ZjT:CT→AV
 | .nl e m=>.nil e m
 | .int k n=>.c (.int k n)
 | .bool b=>.c (.bool b)
 | .str s=>.c (.str s)
 | .sl e m xs=>.c (.sl e m xs)
 | .pt es=>.c (.pt es)
 | .fn f es=>.c (.fn f es)
 | .mp k v kv=>.c (.mp k v kv)
 | .ifc b=>.c (.ifc b)
 | .any=>.c .any
abbrev RT:=Bool × List (Bool × CT)
def ZJj (l:List CT):List (Bool × CT):=l.map fun x=>(false,x)
def ZG5 (l:List CT):List (Bool × CT):=l.map fun x=>(true,x)
def Yr (key:Nat):List (Bool × CT)→List AV × List (Nat × Ob) × Nat
 | []=>([],[],key)
 | (false,.sl e m xs)::r=>let b:=Yr (key+1) r;(.row key::b.1,(key,.row e m xs 2)::b.2.1,b.2.2)
 | (false,.int k n)::r=>let b:=Yr key r;(.c (.int k n)::b.1,b.2.1,b.2.2)
 | (false,.bool k)::r=>let b:=Yr key r;(.c (.bool k)::b.1,b.2.1,b.2.2)
 | (false,.str s)::r=>let b:=Yr key r;(.c (.str s)::b.1,b.2.1,b.2.2)
 | (false,.ifc x)::r=>let b:=Yr key r;(.c (.ifc x)::b.1,b.2.1,b.2.2)
 | (false,.any)::r=>let b:=Yr key r;(.c .any::b.1,b.2.1,b.2.2)
 | (false,.nl e m)::r=>let b:=Yr key r;(.c (.nl e m)::b.1,b.2.1,b.2.2)
 | (false,.pt x)::r=>let b:=Yr key r;(.c (.pt x)::b.1,b.2.1,b.2.2)
 | (false,.fn f x)::r=>let b:=Yr key r;(.c (.fn f x)::b.1,b.2.1,b.2.2)
 | (false,.mp k v x)::r=>let b:=Yr key r;(.c (.mp k v x)::b.1,b.2.1,b.2.2)
 | (true,x)::r=>let b:=Yr key r;(.c x::b.1,b.2.1,b.2.2)
def ZX (key:Nat):List RT→List (Bool × List AV) × List (Nat × Ob) × Nat
 | []=>([],[],key)
 | x::r=>let a:=Yr key x.2;let b:=ZX a.2.2 r;((x.1,a.1)::b.1,a.2.1++b.2.1,b.2.2)
def ZdY:List (Bool × List AV)→SV
 | [x]=>.p x.1 x.2
 | xs=>.tup xs
inductive Zhx where
 | row (e m:Nat) (xs:List (List CT))
 | box (t:Nat) (cs:List CT)
inductive NB where
 | box (t:Nat) (cs:List CT)
 | map (kk vk:PK) (kv:List (Value × Value))
def ZIL (key:Nat):NB→SV
 | .box _ _=>.bp key 0
 | .map _ _ _=>.p false [.row key]
def ZAk:NB→Ob
 | .box t cs=>.box t (cs.map .c)
 | .map kk vk kv=>.map kk vk kv
structure Ctx where
 r:FuncId→List (Bool × List CT)→List RT→Prop
 h:FuncId→Zhx→List (Bool × List CT)→List RT→Zhx→Prop
 hd:FuncId→Nat
 b:FuncId→List (Bool × List CT)→NB→Prop
def ZbH:AV→Bool
 | .row _=>false
 | .dead=>false
 | _=>true
def Zi4:SV→Bool
 | .p _ cs=>cs.all ZbH
 | _=>true
def Zc2:List (Bool × CT)→Bool
 | []=>false
 | p::r=>p.1||Zc2 r
def ZdW:List RT→Bool
 | []=>false
 | x::r=>Zc2 x.2||ZdW r
def ZjY:List AV→List Nat
 | []=>[]
 | .row k::r=>k::ZjY r
 | _::r=>ZjY r
def Yq:List SV→List Nat
 | []=>[]
 | .p _ cs::r=>ZjY cs++Yq r
 | _::r=>Yq r
def ZgW (st:St):SV→Option (Nat × Zhx)
 | .bp k 0=>match st.ob k with | .box t cs=>(if cs.all ZbH=true then (Y9 st cs).map fun l=>(k,.box t l) else none) | _=>none
 | .p false [.row k]=>match st.ob k with | .row e m xs d=>(if d=2∧ZbI xs=true then some (k,.row e m xs) else none) | _=>none
 | _=>none
def Yh:Zhx→Ob
 | .row e m xs=>.row e m xs 2
 | .box t cs=>.box t (cs.map .c)
inductive Ex where
 | normal
 | exit (id:Nat)
 | ret
section
variable (tt:Nat→Option TI) (S:Ctx)
def Y8 {α:Type} (r:Option α) (K:α→Prop):Prop:=match r with | some v=>K v | none=>False
def Zjk (dst:Option Nat) (K:St→Prop) (st:St) (v:SV):Prop:=K (st.put dst v)
def Zm3 (dst:Option Nat) (K:St→Prop) (st:St) (r:SV × List (Nat × Ob)):Prop:=K ((st.put dst r.1).app r.2)
def Ztc (f:FuncId) (key:Nat) (dst:Option Nat) (K:St→Prop) (st:St) (vs:List SV) (l:List (Bool × List CT)):Prop:=
 ∃res,S.r f l res∧(!ZdW res||vs.all Zi4)=true∧(ZX key res).2.2≤key+16∧K ((st.put dst (ZdY (ZX key res).1)).app (ZX key res).2.1)
def ZCq (f:FuncId) (key:Nat) (dst:Option Nat) (K:St→Prop) (st:St) (vs:List SV) (l:List (Bool × List CT)):Prop:=
 ∃res,S.r f l res∧(ZX key res).2.2≤key+16∧K ((st.put dst (ZdY (ZX key res).1)).app (Z8 st (Yq vs)++(ZX key res).2.1))
def ZzT (f:FuncId) (key:Nat) (dst:Option Nat) (K:St→Prop) (st:St) (vs:List SV) (kh:Nat × Zhx) (l:List (Bool × List CT)):Prop:=
 ∃res h',S.h f kh.2 l res h'∧(Yq vs).all (fun j=>j != kh.1)=true∧(ZX key res).2.2≤key+16∧K ((st.put dst (ZdY (ZX key res).1)).app (Z8 st (Yq vs)++((kh.1,Yh h')::(ZX key res).2.1)))
def ZCA (f:FuncId) (key:Nat) (dst:Option Nat) (K:St→Prop) (st:St) (vs:List SV) (l:List (Bool × List CT)):Prop:=
 ∃nb,S.b f l nb∧K ((st.put dst (ZIL key nb)).app (Z8 st (Yq vs)++[(key,ZAk nb)]))
def Zw4 (f:FuncId) (key:Nat) (dst:Option Nat) (K:St→Prop) (st:St):List SV→Prop
 | []=>False
 | v::r=>Y8 (ZgW st v) fun kh=>Y8 (Yj st r) (ZzT S f key dst K st r kh)
def spK (f:FuncId) (n key:Nat) (dst:Option Nat) (K:St→Prop) (st:St) (vs:List SV):Prop:=
 match n with
 | 0=>Y8 (Yj st vs) (Ztc S f key dst K st vs)
 | 1=>Zw4 S f key dst K st vs
 | 3=>Y8 (Yj st vs) (ZCA S f key dst K st vs)
 | 4=>Y8 (Yj st (vs.map nlS)) (Ztc S f key dst K st (vs.map nlS))
 | _=>Y8 (Yj st vs) (ZCq S f key dst K st vs)
def Xe:Op→Option (FuncId × List TypeId × List Operand)
 | .call ⟨.value (.func f),args,ts⟩=>some (f,ts.toList,args.toList)
 | _=>none
def XA:Op→Option (Nat × List TypeId × List Operand)
 | .call ⟨.value (.tmp s),args,ts⟩=>some (s,ts.toList,args.toList)
 | _=>none
def ZqU:SV→Option (FuncId × List CT)
 | .p false [.c (.fn f es)]=>some (f,es)
 | .fn f=>some (f,[])
 | _=>none
def Zmi (c:CT):SV:=.p false [.c c]
def ZEX (key:Nat) (dst:Option Nat) (K:St→Prop) (st:St) (vs:List SV) (fc:FuncId × List CT):Prop:=S.hd fc.1=0∧spK S fc.1 0 key dst K st (vs++fc.2.map Zmi)
def opS (key:Nat) (o:Oper) (K:St→Prop) (st:St):Prop:=
 match Xe o.op with
 | some c=>spK S c.1 (S.hd c.1) key o.dst K st (evs tt st c.2.1 c.2.2)
 | none=>match XA o.op with
  | some c=>Y8 (ZqU (st.sl c.1)) (ZEX S key o.dst K st (evs tt st c.2.1 c.2.2))
  | none=>Y8 (opE tt key o st) (Zm3 o.dst K st)
def Zbo (all:List Oper) (o:Oper):Option (Option Nat × Bool):=
 match o.guard with
 | none=>none
 | some g=>some ((all[g.1]?).bind (·.dst),g.2)
def ZaY:SV→Bool
 | .p false [.c (.bool _)]=>true
 | _=>false
def QC:SV→Bool
 | .p false [.c (.bool b)]=>b
 | _=>false
def ZuD:SV→Bool
 | .und=>true
 | _=>false
def gK (v:SV) (want:Bool) (A B:Prop):Prop:=if ZaY v=true then (if (QC v==want)=true then A else B) else (if ZuD v=true then B else False)
def opG (all:List Oper) (key:Nat) (o:Oper) (K:St→Prop) (st:St):Prop:=
 match Zbo all o with
 | none=>opS tt S key o K st
 | some (none,_)=>K (st.put o.dst .und)
 | some (some t,want)=>gK (st.sl t) want (opS tt S key o K st) (K (st.put o.dst .und))
def Yp (all:List Oper) (key:Nat):List Oper→(St→Prop)→St→Prop
 | [],K,st=>K st
 | o::r,K,st=>opG tt S all key o (Yp all (key+16) r K) st
def Zr7 (n:Nat) (K:St→Prop) (st:St):Prop:=K { st with n:=n }
def ZBG (ops:List Oper) (K:St→Prop) (st:St):Prop:=Yp tt S ops st.n ops (Zr7 (st.n+16 * ops.length) K) st
def Zh9 (k:St→Prop) (Q:Ex→St→Prop):Ex→St→Prop
 | .normal,st=>k st
 | e,st=>Q e st
def Zix (id:Nat) (Q:Ex→St→Prop):Ex→St→Prop
 | .exit j,st=>if j=id then Q .normal st else Q (.exit j) st
 | e,st=>Q e st
def Zrt (v:SV) (a b:Prop):Prop:=if ZaY v=true then (if QC v=true then a else b) else False
def Zsq:List Nat→Nat→Nat→Option Nat
 | [],_,_=>none
 | x::r,k,i=>if x=k then some i else Zsq r k (i+1)
def rAV (ρ:List Nat):AV→AV
 | .row k=>match Zsq ρ k 0 with | some j=>.row j | none=>.dead
 | x=>x
def rSV (ρ:List Nat):SV→SV
 | .p a cs=>.p a (cs.map (rAV ρ))
 | .tup xs=>.tup (xs.map fun x=>(x.1,x.2.map (rAV ρ)))
 | .bp k off=>match Zsq ρ k 0 with | some j=>.bp j off | none=>.any
 | .rp k m i off=>match Zsq ρ k 0 with | some j=>.rp j m i off | none=>.any
 | x=>x
def rOb (ρ:List Nat):Ob→Ob
 | .box t cs=>.box t (cs.map (rAV ρ))
 | x=>x
def St.ren (st:St) (ρ:List Nat):St:=⟨fun t=>rSV ρ (st.sl t),fun j=>match ρ[j]? with | some k=>rOb ρ (st.ob k) | none=>.gone,ρ.length⟩
def St.mats (st : St) : List (Bool × Nat × Nat) → St
  | [] => st
  | m :: r => (if m.1 = false ∧ 4096 ≤ m.2.2 then st.matN m else st.mat m).mats r
/- no slice and no text is longer than Go allows, at any depth -/
mutual
def ctD:CT→Prop
 | .sl _ _ xs=>xs.length≤9223372036854775807∧essD xs
 | .pt es=>ctsD es
 | .fn _ es=>ctsD es
 | .str s=>s.size≤9223372036854775807
 | _=>True
def ctsD:List CT→Prop
 | []=>True
 | x::r=>ctD x∧ctsD r
def essD:List (List CT)→Prop
 | []=>True
 | e::r=>ctsD e∧essD r
end
def avD:AV→Prop
 | .c x=>ctD x
 | .n x=>ctD x
 | _=>True
def Zzz:List AV→Prop
 | []=>True
 | x::r=>avD x∧Zzz r
structure WF (st:St):Prop where
 sl:∀t a cs,st.sl t=.p a cs→Zzz cs
 box:∀k t cs,st.ob k=.box t cs→Zzz cs
 row:∀k e m xs d,st.ob k=.row e m xs d→xs.length≤9223372036854775807∧essD xs
def ZmK (F:(Ex→St→Prop)→St→Prop) (Q:Ex→St→Prop):Nat→St→Prop
 | 0,_=>False
 | n+1,st=>∃(ms:List (Bool × Nat × Nat)) (ρ:List Nat),ρ.Nodup∧(WF ((st.mats ms).ren ρ)→F (Zh9 (ZmK F Q n) Q) ((st.mats ms).ren ρ))
def ldB:SV→Bool
 | .bp k _=>!decide (k=0)
 | .rp k _ _ _=>!decide (k=0)
 | _=>true
def hdB:SV→Bool
 | .bp k _=>decide (k=0)
 | _=>false
def hdC (n:Nat) (x:Option Operand) (st:St):Bool:=match n with
 | 1=>match x with | some x=>hdB (st.ev tt 0 x) | none=>false
 | _=>true
def slB:SV→Bool
 | .p false [.c _]=>true
 | _=>false
def stk (o:Op) (st:St):Bool:=match o with
 | .load _ x=>ldB (st.ev tt 0 x)
 | .slice _ x _ _ _=>slB (st.ev tt 0 x)
 | o=>match Xe o with | some c=>hdC tt (S.hd c.1) c.2.2.head? st | none=>true
def ifB (b:Bool) (c:Bool) (P:Prop):Prop:=match b with
 | true=>c=true∧P
 | false=>P
def ZgR (b:Bool) (all:List Oper) (base:Nat):List Nat→(St→Prop)→St→Prop
 | [],K,st=>K st
 | i::r,K,st=>match all[i]? with
  | some o=>ifB b (stk tt S o.op st) (opG tt S all (base+16 * i) o (ZgR b all base r K) st)
  | none=>ZgR b all base r K st
def Zwj (od:Option (List Nat × Bool)) (ops:List Oper) (K:St→Prop) (st:St):Prop:=match od with
 | none=>ZBG tt S ops K st
 | some l=>ZgR tt S l.2 ops st.n l.1 (Zr7 (st.n+16 * ops.length) K) st
abbrev OD:=Nat→Option (List Nat × Bool)
def swp (od:OD):Code→(Ex→St→Prop)→St→Prop
 | .skip,Q,st=>Q .normal st
 | .region id ops _,Q,st=>Zwj tt S (od id) ops.toList (Q .normal) st
 | .seq a b,Q,st=>swp od a (Zh9 (swp od b Q) Q) st
 | .cond c a b,Q,st=>Zrt (st.ev tt 0 c) (swp od a Q st) (swp od b Q st)
 | .block id b,Q,st=>swp od b (Zix id Q) st
 | .loop b,Q,st=>∃n,ZmK (swp od b) Q n st
 | .exit id,Q,st=>Q (.exit id) st
 | .ret,Q,st=>Q .ret st
 | _,_,_=>False
end
def Zf6 (st:St):AV→Option ((Bool × CT) × List Nat)
 | .c (.sl e m xs)=>some ((true,.sl e m xs),[])
 | .c (.int k n)=>some ((false,.int k n),[])
 | .c (.bool b)=>some ((false,.bool b),[])
 | .c (.str s)=>some ((false,.str s),[])
 | .nil e m=>if 0<m then some ((false,.sl e m []),[]) else none
 | .c (.ifc x)=>some ((false,.ifc x),[])
 | .c x=>some ((true,x),[])
 | .row k=>match st.ob k with | .row e m xs d=>(if d=2 then some ((false,.sl e m xs),[k]) else some ((true,.sl e m xs),[])) | .map kk vk kv=>some ((true,.mp kk vk kv),[]) | _=>none
 | .n x=>some ((true,x),[])
 | .dead=>some ((true,.any),[])
def ZdV (st:St):List AV→Option (List (Bool × CT) × List Nat)
 | []=>some ([],[])
 | x::r=>(Zf6 st x).bind fun a=>(ZdV st r).map fun b=>(a.1::b.1,a.2++b.2)
def ZcL (tt:Nat→Option TI) (st:St):List ResultVar→Option (List RT × List Nat)
 | []=>some ([],[])
 | .tmp t::r=>match st.sl t with
  | .p a cs=>(ZdV st cs).bind fun x=>(ZcL tt st r).map fun b=>((a,x.1)::b.1,x.2++b.2)
  | _=>none
 | .cell t ty::r=>match Zat st (tt ty) (st.sl t) with
  | some (.p a cs)=>(ZdV st cs).bind fun x=>(ZcL tt st r).map fun b=>((a,x.1)::b.1,x.2++b.2)
  | _=>none
def Zxz:CT→Bool
 | .any=>true
 | .int _ _=>false
 | .bool _=>false
 | .str _=>false
 | .sl _ _ _=>false
 | .pt _=>false
 | .fn _ _=>false
 | .mp _ _ _=>false
 | .ifc _=>false
 | .nl _ _=>false
def wk1 (x y:Bool × CT) (R:Prop):Prop:=if Zxz y.2=true then R else x.2=y.2∧(x.1=y.1∨y.1=true)∧R
def wkC:List (Bool × CT)→List (Bool × CT)→Prop
 | [],[]=>True
 | x::r,y::q=>wk1 x y (wkC r q)
 | _,_=>False
def wkR:List RT→List RT→Prop
 | [],[]=>True
 | x::r,y::q=>x.1=y.1∧wkC x.2 y.2∧wkR r q
 | _,_=>False
def ZuJ (tt:Nat→Option TI) (rs:List ResultVar) (R:St→List RT→List Nat→Prop):Ex→St→Prop
 | .exit _,_=>False
 | _,st=>match ZcL tt st rs with | some x=>x.2.Nodup∧R st x.1 x.2 | none=>False
def ZkM (st:St) (ks:List Nat) (h':Zhx):Prop:=
 match h' with
 | .row e m xs=>∃k,st.sl 0=.p false [.row k]∧st.ob k=.row e m xs 2∧ZbI xs=true∧k∉ks
 | .box t cs=>∃k ds,st.sl 0=.bp k 0∧st.ob k=.box t ds∧ds.all ZbH=true∧Y9 st ds=some cs
def Zg2 (st:St) (rs:List ResultVar) (nb:NB):Prop:=
 match rs with
 | [.tmp s]=>(match nb with
  | .box t cs=>∃k ds,st.sl s=.bp k 0∧st.ob k=.box t ds∧ds.all ZbH=true∧Y9 st ds=some cs
  | .map kk vk kv=>∃k,st.sl s=.p false [.row k]∧st.ob k=.map kk vk kv)
 | _=>False
def ZB2 (rs:List ResultVar) (nb:NB):Ex→St→Prop
 | .exit _,_=>False
 | _,st=>Zg2 st rs nb
def hbO (st:St) (t:Nat) (cs:List CT):Ob→Prop
 | .box t' ds=>t'=t∧ds.all ZbH=true∧Y9 st ds=some cs
 | _=>False
def hbS (st:St) (t:Nat) (cs:List CT):SV→Prop
 | .bp k 0=>hbO st t cs (st.ob k)
 | _=>False
theorem Zw2 {st:St} {t:Nat} {cs:List CT} {v:SV}:hbS st t cs v↔∃k ds,v=.bp k 0∧st.ob k=.box t ds∧ds.all ZbH=true∧Y9 st ds=some cs:=by
 constructor
 ·intro h
  unfold hbS at h
  split at h
  ·rename_i k
   unfold hbO at h
   split at h
   ·rename_i t' ds hk
    obtain ⟨rfl,h2,h3⟩:=h
    exact ⟨k,ds,rfl,hk,h2,h3⟩
   ·exact h.elim
  ·exact h.elim
 ·rintro ⟨k,ds,rfl,h1,h2,h3⟩
  show hbO st t cs (st.ob k)
  rw [h1]
  exact ⟨rfl,h2,h3⟩
theorem ZsG {st:St} {ks:List Nat} {t:Nat} {cs:List CT}:ZkM st ks (.box t cs)=hbS st t cs (st.sl 0):=propext Zw2.symm
theorem Ztl {st:St} {s t:Nat} {cs:List CT}:Zg2 st [.tmp s] (.box t cs)=hbS st t cs (st.sl s):=propext Zw2.symm
def mbO (kk vk:PK) (kv:List (Value × Value)):Ob→Prop
 | .map kk' vk' kv'=>kk'=kk∧vk'=vk∧kv'=kv
 | _=>False
def mbS (st:St) (kk vk:PK) (kv:List (Value × Value)):SV→Prop
 | .p false [.row k]=>mbO kk vk kv (st.ob k)
 | _=>False
theorem ZC5 {st:St} {kk vk:PK} {kv:List (Value × Value)} {v:SV}:mbS st kk vk kv v↔∃k,v=.p false [.row k]∧st.ob k=.map kk vk kv:=by
 constructor
 ·intro h
  unfold mbS at h
  split at h
  ·rename_i k
   unfold mbO at h
   split at h
   ·rename_i a b c hk
    obtain ⟨rfl,rfl,rfl⟩:=h
    exact ⟨k,rfl,hk⟩
   ·exact h.elim
  ·exact h.elim
 ·rintro ⟨k,rfl,h1⟩
  show mbO kk vk kv (st.ob k)
  rw [h1]
  exact ⟨rfl,rfl,rfl⟩
theorem ZtB {st:St} {s:Nat} {kk vk:PK} {kv:List (Value × Value)}:Zg2 st [.tmp s] (.map kk vk kv)=mbS st kk vk kv (st.sl s):=propext ZC5.symm
theorem ZCH {st:St} {k:Nat} {kk vk:PK} {kv:List (Value × Value)}:mbS st kk vk kv (.p false [.row k])=mbO kk vk kv (st.ob k):=_root_.id rfl
theorem ZCY {kk vk kk' vk':PK} {kv kv':List (Value × Value)}:mbO kk vk kv (.map kk' vk' kv')=(kk'=kk∧vk'=vk∧kv'=kv):=_root_.id rfl
theorem ZF7 {st:St} {t k:Nat} {cs:List CT}:hbS st t cs (.bp k 0)=hbO st t cs (st.ob k):=_root_.id rfl
theorem ZCO {st:St} {t t':Nat} {cs:List CT} {ds:List AV}:hbO st t cs (.box t' ds)=(t'=t∧ds.all ZbH=true∧Y9 st ds=some cs):=_root_.id rfl
theorem ZA1 {rs:List ResultVar} {nb:NB} {st:St}:ZB2 rs nb .ret st=Zg2 st rs nb:=_root_.id rfl
theorem Zy6 {rs:List ResultVar} {nb:NB} {st:St}:ZB2 rs nb .normal st=Zg2 st rs nb:=_root_.id rfl
def Zxn (k:Nat):Ob→AV
 | .row _ _ _ d=>if d=2 then .row k else .dead
 | .gone=>.dead
 | .box _ _=>.dead
 | .map _ _ _=>.dead
def ZkE (st:St):AV→AV
 | .c (.int k n)=>.c (.int k n)
 | .c (.bool b)=>.c (.bool b)
 | .c (.str s)=>.c (.str s)
 | .row k=>Zxn k (st.ob k)
 | _=>.dead
def Zrs (st:St):SV→SV
 | .p ag cs=>.p ag (cs.map (ZkE st))
 | .bp k off=>.bp k off
 | _=>.any
def Zbz (st:St):Ob→Ob
 | .row e m xs d=>if d=2 then .row e m xs d else .gone
 | .gone=>.gone
 | .box t cs=>.box t (cs.map (ZkE st))
 | .map _ _ _=>.gone
def Zt3 (st:St) (t:Nat):SV→St
 | .p false [.n (.sl e m xs)]=>⟨fun s=>if s=t then .p false [.row st.n] else Zrs st (st.sl s),fun k=>if k=st.n then .row e m xs 2 else Zbz st (st.ob k),st.n+1⟩
 | _=>st
def St.thaw (st:St) (t:Nat):St:=Zt3 st t (st.sl t)
def ZC6 (t:Nat) (Q:Ex→St→Prop):Ex→St→Prop
 | e,st=>Q e (st.thaw t)
theorem ZBE (sl:Nat→SV) (ob:Nat→Ob) (n t:Nat):St.thaw ⟨sl,ob,n⟩ t=Zt3 ⟨sl,ob,n⟩ t (sl t):=_root_.id rfl
theorem ZCC (t:Nat) (Q:Ex→St→Prop) (e:Ex) (st:St):ZC6 t Q e st=Q e (st.thaw t):=_root_.id rfl
end
section
open Go.RowKit
def ZW {α β:Type} (R:α→β→Prop):List α→List β→Prop
 | [],[]=>True
 | a::l,b::r=>R a b∧ZW R l r
 | _,_=>False
section
variable {α β:Type} {R R':α→β→Prop}
end
class NW where
 B0:Nat
structure Gh where
 val:Nat→Value
 O:Nat→List Nat
 D:Nat→List Nat
 Z:Nat→Prop
structure Zbb extends World where
 z:Nat→Prop
 x:Nat→Prop
 hv:Option Value
section
variable {g g':Gh} {w w':World} {U:Nat→Prop}
end
end
section
open Go.RowKit
section
variable {P:Program} {W:Zbb} {U:Nat→Prop} {key:Nat} {st:St} {g:Gh} {w:World} {a:Act} {tt:Nat→Option TI}
theorem ZW.splice {α β : Type} {R : α → β → Prop} {l vs : List α} {r us : List β} (h : ZW R l r) (h' : ZW R vs us) (off : Nat) : ZW R (splice l off vs) (splice r off us) := by
  unfold Go.Proofs.YthikodhnkaofaaaGreatDoor.splice
  rw [h'.len]
  exact (h.take _).append (h'.append (h.drop _))
end
end
section
open Go.RowKit
def Zh3 (w:World) (z:Nat→Prop) (x:Bool × List CT) (v:Value):Prop:=
 (x.1=true∧∃(vs:List Value) (L:List Nat),v=.agg vs.toArray∧RCs w x.2 vs L∧∀b∈L,¬z b)∨(x.1=false∧∃(ct:CT) (L:List Nat),x.2=[ct]∧RC w ct v L∧∀b∈L,¬z b)
def OC (w:World) (B:Nat) (n:Nat→Prop):Bool × CT→Value→List Nat→Prop
 | (false,.sl e m xs),v,F=>0<m∧∃cs L,w.ownsV B e m v xs.length cs∧REs w m xs cs L∧F=v.ownBlock.toList++L∧∀b∈v.ownBlock.toList,n b
 | (false,.int k i),v,F=>RC w (.int k i) v []∧F=[]
 | (false,.bool b),v,F=>RC w (.bool b) v []∧F=[]
 | (false,.str s),v,F=>RC w (.str s) v []∧F=[]
 | (false,.ifc b),v,F=>RC w (.ifc b) v []∧F=[]
 | (false,.any),v,F=>RC w .any v []∧F=[]
 | (false,.pt _),_,_=>False
 | (false,.fn _ _),_,_=>False
 | (false,.mp _ _ _),_,_=>False
 | (false,.nl _ _),_,_=>False
 | (true,x),v,F=>F=[]∧∃L,RC w x v L∧∀b∈L,¬n b
def OCs (w:World) (B:Nat) (n:Nat→Prop):List (Bool × CT)→List Value→List Nat→Prop
 | [],vs,F=>vs=[]∧F=[]
 | x::r,vs,F=>∃v vs' F1 F2,vs=v::vs'∧F=F1++F2∧OC w B n x v F1∧OCs w B n r vs' F2
def OP (w:World) (B:Nat) (n:Nat→Prop) (x:RT) (v:Value) (F:List Nat):Prop:=
 (x.1=true∧∃vs:List Value,v=.agg vs.toArray∧OCs w B n x.2 vs F)∨(x.1=false∧∃ct,x.2=[ct]∧OC w B n ct v F)
def OPs (w:World) (B:Nat) (n:Nat→Prop):List RT→List Value→List Nat→Prop
 | [],vs,F=>vs=[]∧F=[]
 | x::r,vs,F=>∃v vs' F1 F2,vs=v::vs'∧F=F1++F2∧OP w B n x v F1∧OPs w B n r vs' F2
def Zgi (w:World) (B:Nat) (n:Nat→Prop) (res:List RT) (v:Value):Prop:=
 ∃(vs:List Value) (F:List Nat),OPs w B n res vs F∧Own w B F∧v=(if h:vs.toArray.size=1 then vs.toArray[0] else .tuple vs.toArray)
def ZdI (P : Program) (f : FuncId) : Prop := ∃ fn, P.funcs[f]? = some fn ∧ (fn.name == "runtime.NumGoroutine") = false ∧ fn.body.isNone = false
def Zp (P:Program) (J:World→Prop) (f:FuncId) (args:List (Bool × List CT)) (res:List RT):Prop:=
 ZdI P f∧∀(w:World) (z:Nat→Prop) (vs:List Value),J w→(∀b,z b→b<w.heap.size)→ZW (Zh3 w z) args vs→Calls P f vs.toArray w fun e w'=>∃v n,e=.returned v∧Zgi w' w.heap.size n res v∧(∀b,z b→n b)∧Below w.heap.size w w'
def Znp (w:World) (z:Nat→Prop) (q:Option Nat):Zhx→Value→Prop
 | .row e m xs,v=>ZbI xs=true∧0<m∧v.ownBlock=q∧∃cs,w.ownsV 0 e m v xs.length cs∧REs w m xs cs []
 | .box t cs,v=>∃b vs L,q=some b∧v=.pointer (some ⟨b,0,none⟩)∧w.heap[b]?=some (.cells (vs:List Value).toArray t (0,0))∧RCs w cs vs L∧∀a∈L,¬z a
def inQ (z:Nat→Prop) (q:Option Nat) (a:Nat):Prop:=z a∨q=some a
structure Zgo (q:Option Nat) (w w':World):Prop where
 os:w'.os=w.os
 tape:w'.tape=w.tape
 output:w'.output=w.output
 size:w.heap.size≤w'.heap.size
 block:∀k,k<w.heap.size→¬q=some k→w'.heap[k]?=w.heap[k]?
def Ys (P:Program) (J:World→Prop) (JF:Nat→Prop) (f:FuncId) (h:Zhx) (args:List (Bool × List CT)) (res:List RT) (h':Zhx):Prop:=
 ZdI P f∧∀(w:World) (z:Nat→Prop) (q:Option Nat) (v0:Value) (vs:List Value),J w→(∀b,q=some b→JF b)→(∀b,z b→b<w.heap.size∧¬q=some b)→Znp w (inQ z q) q h v0→ZW (Zh3 w (inQ z q)) args vs→
  Calls P f (v0::vs).toArray w fun e w'=>∃v n,e=.returned v∧Zgi w' w.heap.size n res v∧(∀b,inQ z q b→n b)∧Znp w' n q h' v0∧Zgo q w w'
def Zqk (b:Nat):NB→Value
 | .box _ _=>.pointer (some ⟨b,0,none⟩)
 | .map _ _ _=>.map (some b)
def nbR (w:World) (n:Nat→Prop) (b:Nat):NB→Prop
 | .box t cs=>∃us L,w.heap[b]?=some (.cells (us:List Value).toArray t (0,0))∧RCs w cs us L∧∀x∈L,¬n x
 | .map kk vk kv=>∃es c,w.heap[b]?=some (.map es c)∧Zfh es=kv∧Zlz kk vk kv
def ZoH (P:Program) (J:World→Prop) (f:FuncId) (args:List (Bool × List CT)) (nb:NB):Prop:=
 ZdI P f∧∀(w:World) (z:Nat→Prop) (vs:List Value),J w→(∀b,z b→b<w.heap.size)→ZW (Zh3 w z) args vs→
  Calls P f vs.toArray w fun e w'=>∃(b:Nat) (n:Nat→Prop),e=.returned (Zqk b nb)∧w.heap.size≤b∧nbR w' n b nb∧n b∧(∀x,z x→n x)∧Below w.heap.size w w'
def SC (P:Program) (J:World→Prop) (JF:Nat→Prop) (hd:FuncId→Nat):Ctx:=⟨Zp P J,Ys P J JF,hd,ZoH P J⟩
section
variable {P:Program} {J:World→Prop} {W:Zbb} {U:Nat→Prop} {key:Nat} {st:St} {g:Gh} {w w':World} {a:Act} {tt:Nat→Option TI}
end
end
section
open Go.RowKit
section
variable {P:Program} {W:Zbb} {U:Nat→Prop} {key:Nat} {st st':St} {w w':World} {a:Act} {tt:Nat→Option TI} {S:Ctx} {Q:Exit→Act→World→Prop}
def Mk (st st':St) (U:Nat→Prop):Prop:=∀k,U k→st'.ob k=st.ob k∨st'.ob k=.gone
/- a load and a call into which something is handed: what is handed in stands at the key 0, the load looks elsewhere -/
end
end
section
open Go.RowKit
section
variable {P:Program} {J:World→Prop} {JF:Nat→Prop} {W:Zbb} {U:Nat→Prop} {st st':St} {w w':World} {a:Act} {tt:Nat→Option TI} {S:Ctx}
mutual
theorem RC.deep {w:World}:∀{x:CT} {v:Value} {L:List Nat},RC w x v L→ctD x
 | .int _ _,_,_,_=>trivial
 | .bool _,_,_,_=>trivial
 | .str _,_,_,h=>h.2.2
 | .sl _ _ _,_,_,⟨A,cap,cs,L0,L1,h1,h2,h3,h4,h5,h6,h7⟩=>⟨by unfold maxLen at h3;omega,h7.deep⟩
 | .pt _,_,_,⟨_,_,_,_,_,_,_,h⟩=>h.deep
 | .fn _ _,_,_,⟨_,_,h⟩=>h.deep
 | .mp _ _ _,_,_,_=>trivial
 | .ifc _,_,_,_=>trivial
 | .any,_,_,_=>trivial
 | .nl _ _,_,_,_=>trivial
theorem RCs.deep {w:World}:∀{x:List CT} {v:List Value} {L:List Nat},RCs w x v L→ctsD x
 | [],_,_,_=>trivial
 | _::_,_,_,⟨v,cs,L1,L2,h1,h2,h3,h4⟩=>⟨h3.deep,h4.deep⟩
theorem REs.deep {w:World} {m:Nat}:∀{x:List (List CT)} {v:List Value} {L:List Nat},REs w m x v L→essD x
 | [],_,_,_=>trivial
 | _::_,_,_,⟨c1,c2,L1,L2,h1,h2,h3,h4⟩=>⟨h3.1.deep,h4.deep⟩
end
end
end
section
section
variable {tt:Nat→Option TI} {S:Ctx} {all:List Oper} {key:Nat} {d:Option Nat} {ty:TypeId} {pos:String} {af:Array Edge} {r:List Oper} {K:St→Prop} {st:St}
theorem ZEx:Yp tt S all key [] K st=K st:=_root_.id rfl
theorem ZCU (x:Operand):Yp tt S all key (⟨d,.move x,ty,pos,af,none⟩::r) K st=Yp tt S all (key+16) r K (st.put d (st.ev tt ty x)):=_root_.id rfl
theorem Zyw (x:Operand):Yp tt S all key (⟨d,.assign x,ty,pos,af,none⟩::r) K st=Yp tt S all (key+16) r K (st.put d (st.ev tt ty x)):=_root_.id rfl
def Zqr (v a b:SV) (K:SV→Prop):Prop:=if ZaY v=true then (if QC v=true then K a else K b) else False
theorem ZJA (a b:SV) (K:SV→Prop):Zqr (.p false [.c (.bool true)]) a b K=K a:=by simp [Zqr,ZaY,QC]
theorem ZJi (a b:SV) (K:SV→Prop):Zqr (.p false [.c (.bool false)]) a b K=K b:=by simp [Zqr,ZaY,QC]
theorem ZCf (c a b:Operand):Yp tt S all key (⟨d,.pick c a b,ty,pos,af,none⟩::r) K st=Zqr (st.ev tt 0 c) (st.ev tt ty a) (st.ev tt ty b) (Zjk d (Yp tt S all (key+16) r K) st):=by
 simp only [Yp,opG,Zbo,opS,Xe,XA,opE,Zqr]
 generalize st.ev tt 0 c=v
 unfold ZaY
 split
 ·simp only [QC,Y8,if_true]
  split<;>simp [Zm3,Zjk,St.app,Zv, *]
 ·simp [Y8]
theorem ZAd (t:TypeId):Yp tt S all key (⟨d,.alloc t,ty,pos,af,none⟩::r) K st=Y8 ((ZoJ (tt t)).map fun z=>(SV.bp key 0,[(key,Ob.box t z)])) (Zm3 d (Yp tt S all (key+16) r K) st):=_root_.id rfl
def ZIP (key:Nat) (t:TypeId):SV→Option (SV × List (Nat × Ob))
 | .p _ cs=>some (.bp key 0,[(key,.box t cs)])
 | _=>none
theorem ZEq (t:TypeId) (x:Operand):Yp tt S all key (⟨d,.box t x,ty,pos,af,none⟩::r) K st=Y8 (ZIP key t (st.ev tt t x)) (Zm3 d (Yp tt S all (key+16) r K) st):=_root_.id rfl
def Zv9 (tt:Nat→Option TI) (st:St) (parts:List (Nat × Operand)):Option TI→Option SV
 | some (.strct fs _ z)=>(Zlp fs z (parts.map (Zhs tt st fs z))).map (.p true)
 | _=>none
theorem ZbF (v:Option SV):Y8 (Zce v) (Zm3 d K st)=Y8 v (Zjk d K st):=by cases v<;>rfl
theorem ZAh (t:TypeId) (parts:Array (Nat × Operand)):Yp tt S all key (⟨d,.build t parts,ty,pos,af,none⟩::r) K st=Y8 (Zv9 tt st parts.toList (tt t)) (Zjk d (Yp tt S all (key+16) r K) st):=by
 rw [←ZbF]
 simp only [Yp,opG,Zbo,opS,Xe,XA,opE,Zv9]
 cases tt t with
 | none=>rfl
 | some ti=>cases ti<;>first | rfl | (simp [Zce,Option.map_map];rfl)
def ZET (st:St) (key len:Nat) (is:List Nat) (xs:List SV) (e:Nat):Option TI→Option (SV × List (Nat × Ob))
 | some (.slice _ m _ z)=>(Xt st m xs).bind fun a=>if is=List.range len∧len * m≤16777216∧a.2.1.Nodup∧(!z.all Zma||a.2.1.isEmpty)=true then some (.p false [.row key],Z8 st a.2.1++[(key,.row e m a.1 a.2.2)]) else none
 | _=>none
def ZrT:Option TI→Nat
 | some (.slice e _ _ _)=>e
 | _=>0
theorem ZGh (t:TypeId) (len:Nat) (parts:Array (Nat × Operand)):Yp tt S all key (⟨d,.buildSlice t len parts,ty,pos,af,none⟩::r) K st=Y8 (ZET st key len (parts.toList.map (·.1)) (parts.toList.map fun p=>st.ev tt (ZrT (tt t)) p.2) (ZrT (tt t)) (tt t)) (Zm3 d (Yp tt S all (key+16) r K) st):=by
 simp only [Yp,opG,Zbo,opS,Xe,XA,opE,ZET,ZrT]
 cases tt t with
 | none=>rfl
 | some ti=>cases ti<;>rfl
theorem ZB1 (t:TypeId) (x:Operand):Yp tt S all key (⟨d,.load t x,ty,pos,af,none⟩::r) K st=Y8 (Zat st (tt t) (st.ev tt 0 x)) (Zjk d (Yp tt S all (key+16) r K) st):=ZbF _
def ZFJ (d:Option Nat) (K:St→Prop) (st:St) (u:List (Nat × Ob)):Prop:=K ((st.put d .und).app u)
theorem Zz3 (t:TypeId) (x v:Operand):Yp tt S all key (⟨d,.store t x v,ty,pos,af,none⟩::r) K st=Y8 (Zol st (tt t) (st.ev tt 0 x) (st.ev tt t v)) (ZFJ d (Yp tt S all (key+16) r K) st):=by
 simp only [Yp,opG,Zbo,opS,Xe,XA,opE]
 cases Zol st (tt t) (st.ev tt 0 x) (st.ev tt t v)<;>rfl
def ZDB:SV→Option SV
 | .bp k i=>some (.bp k i)
 | .rp k m i j=>some (.rp k m i j)
 | .ep e i=>some (.ep e i)
 | .p false [.c (.pt e)]=>some (.p false [.c (.pt e)])
 | _=>none
theorem ZF2 (x:Operand):Yp tt S all key (⟨d,.nilCheck x,ty,pos,af,none⟩::r) K st=Y8 (ZDB (st.ev tt 0 x)) (Zjk d (Yp tt S all (key+16) r K) st):=by
 simp only [Yp,opG,Zbo,opS,Xe,XA,opE,←ZbF,ZDB]
 generalize st.ev tt 0 x=v
 cases v with
 | p ag cs=>cases ag with
  | true=>rfl
  | false=>cases cs with
   | nil=>rfl
   | cons y r=>cases r<;>cases y<;>first | rfl | (rename_i z;cases z<;>rfl) | (rename_i z _ _;cases z<;>rfl)
 | _=>rfl
theorem ZD3 (op:BinOp) (t u:TypeId) (x y:Operand):Yp tt S all key (⟨d,.binOp op t x y u,ty,pos,af,none⟩::r) K st=Y8 (ZzV tt t (ZlU y) op (st.ev tt t x) (st.ev tt t y)) (Zjk d (Yp tt S all (key+16) r K) st):=ZbF _
theorem ZGY (op:UnOp) (t:TypeId) (x:Operand):Yp tt S all key (⟨d,.unOp op t x,ty,pos,af,none⟩::r) K st=Y8 (unV op (st.ev tt 0 x)) (Zjk d (Yp tt S all (key+16) r K) st):=ZbF _
theorem ZCS (s t:TypeId) (x:Operand):Yp tt S all key (⟨d,.convert s t x,ty,pos,af,none⟩::r) K st=Y8 (ZhW tt st s t (st.ev tt 0 x)) (Zjk d (Yp tt S all (key+16) r K) st):=ZbF _
theorem ZBI (t:TypeId) (n c:Operand):Yp tt S all key (⟨d,.makeSlice t n c,ty,pos,af,none⟩::r) K st=Y8 (Zuu key (tt t) (st.ev tt 0 n) (st.ev tt 0 c)) (Zm3 d (Yp tt S all (key+16) r K) st):=_root_.id rfl
theorem ZAU (t:TypeId) (x:Operand) (lo hi:Option Operand):Yp tt S all key (⟨d,.slice t x lo hi none,ty,pos,af,none⟩::r) K st=Y8 (ZaE st key (tt t) (lo.map (st.ev tt 0)) (hi.map (st.ev tt 0)) (st.ev tt 0 x)) (Zm3 d (Yp tt S all (key+16) r K) st):=_root_.id rfl
def ZEM (fs:Option TI) (f:Nat):Option Nat:=match fs with | some (.strct fs _ _)=>(fs[f]?).map FI.off | _=>none
def ZDC (fs:Option TI) (f:Nat) (v:SV):Option SV:=(ZEM fs f).bind fun o=>ZlW o v
theorem ZFZ (t:TypeId) (x:Operand) (f:Nat):Yp tt S all key (⟨d,.fieldAddr t x f,ty,pos,af,none⟩::r) K st=Y8 (ZDC (tt t) f (st.ev tt 0 x)) (Zjk d (Yp tt S all (key+16) r K) st):=by
 rw [←ZbF]
 simp only [Yp,opG,Zbo,opS,Xe,XA,opE,ZDC,ZEM]
 cases tt t with
 | none=>rfl
 | some ti=>cases ti<;>first | rfl | (simp only [Option.bind_map];rfl)
def ZGL (fs:Option TI) (f:Nat) (v:SV):Option SV:=match fs with | some (.strct fs _ _)=>ZnM fs f v | _=>none
theorem ZDQ (t:TypeId) (x:Operand) (f:Nat):Yp tt S all key (⟨d,.field t x f,ty,pos,af,none⟩::r) K st=Y8 (ZGL (tt t) f (st.ev tt 0 x)) (Zjk d (Yp tt S all (key+16) r K) st):=by
 rw [←ZbF]
 simp only [Yp,opG,Zbo,opS,Xe,XA,opE,ZGL]
 cases tt t with
 | none=>rfl
 | some ti=>cases ti<;>rfl
def ZF1 (st:St) (t:Option TI) (x i:SV):Option SV:=match t with | some (.slice _ m _ _)=>Zcy st m x i | _=>none
theorem ZEn (t:TypeId) (x i:Operand):Yp tt S all key (⟨d,.indexAddr t x i,ty,pos,af,none⟩::r) K st=Y8 (ZF1 st (tt t) (st.ev tt 0 x) (st.ev tt 0 i)) (Zjk d (Yp tt S all (key+16) r K) st):=by
 rw [←ZbF]
 simp only [Yp,opG,Zbo,opS,Xe,XA,opE,ZF1]
 cases tt t with
 | none=>rfl
 | some ti=>cases ti<;>rfl
theorem ZDN (t:TypeId) (x i:Operand):Yp tt S all key (⟨d,.index t x i,ty,pos,af,none⟩::r) K st=Y8 (Zpb (tt t) (st.ev tt 0 x) (st.ev tt 0 i)) (Zjk d (Yp tt S all (key+16) r K) st):=ZbF _
theorem ZDi (x:Operand) (i:Nat):Yp tt S all key (⟨d,.extract x i,ty,pos,af,none⟩::r) K st=Y8 (ZzC i (st.ev tt 0 x)) (Zjk d (Yp tt S all (key+16) r K) st):=ZbF _
theorem ZDD (b:Builtin) (args:Array Operand) (ts:Array TypeId):Yp tt S all key (⟨d,.call ⟨.builtin b,args,ts⟩,ty,pos,af,none⟩::r) K st=Y8 (Zg3 tt st key b ts.toList (evs tt st ts.toList args.toList)) (Zm3 d (Yp tt S all (key+16) r K) st):=_root_.id rfl
def ZHg (f:FuncId) (n:Nat) (st:St) (vs:List SV):Option (SV × List (Nat × Ob)):=if n=0 then (Zfr st vs).bind fun r=>if (r.2.map (·.1)).Nodup then some (.p false [.c (.fn f r.1)],r.2) else none else none
theorem ZF3 (f:FuncId) (first caps:Array Operand):Yp tt S all key (⟨d,.makeFunc (.func f) first caps,ty,pos,af,none⟩::r) K st=Y8 (ZHg f first.size st (caps.toList.map (st.ev tt 0))) (Zm3 d (Yp tt S all (key+16) r K) st):=_root_.id rfl
theorem ZEO (t:TypeId):Yp tt S all key (⟨d,.makeMap t none,ty,pos,af,none⟩::r) K st=Y8 (ZqV key (tt t)) (Zm3 d (Yp tt S all (key+16) r K) st):=_root_.id rfl
theorem ZCk (t:TypeId) (x i:Operand) (ok:Bool):Yp tt S all key (⟨d,.lookup t x i ok,ty,pos,af,none⟩::r) K st=Y8 (ZhF st (tt t) (st.ev tt 0 x) (st.ev tt 0 i) ok) (Zjk d (Yp tt S all (key+16) r K) st):=ZbF _
theorem ZGA (t:TypeId) (x i v:Operand):Yp tt S all key (⟨d,.mapUpdate t x i v,ty,pos,af,none⟩::r) K st=Y8 (Zyf st (tt t) (st.ev tt 0 x) (st.ev tt 0 i) (st.ev tt 0 v)) (ZFJ d (Yp tt S all (key+16) r K) st):=by
 simp only [Yp,opG,Zbo,opS,Xe,XA,opE]
 cases Zyf st (tt t) (st.ev tt 0 x) (st.ev tt 0 i) (st.ev tt 0 v)<;>rfl
theorem ZEQ (s:Nat) (args:Array Operand) (ts:Array TypeId):Yp tt S all key (⟨d,.call ⟨.value (.tmp s),args,ts⟩,ty,pos,af,none⟩::r) K st=Y8 (ZqU (st.sl s)) (ZEX S key d (Yp tt S all (key+16) r K) st (evs tt st ts.toList args.toList)):=_root_.id rfl
theorem ZCc (vs:List SV) (f:FuncId) (es:List CT):ZEX S key d K st vs (f,es)=(S.hd f=0∧spK S f 0 key d K st (vs++es.map Zmi)):=_root_.id rfl
theorem ZB5 (f:FuncId) (args:Array Operand) (ts:Array TypeId):Yp tt S all key (⟨d,.call ⟨.value (.func f),args,ts⟩,ty,pos,af,none⟩::r) K st=spK S f (S.hd f) key d (Yp tt S all (key+16) r K) st (evs tt st ts.toList args.toList):=_root_.id rfl
theorem ZI5 (f:FuncId) (vs:List SV):spK S f 0 key d K st vs=Y8 (Yj st vs) (Ztc S f key d K st vs):=_root_.id rfl
theorem ZJv (f:FuncId) (v:SV) (vs:List SV):spK S f 1 key d K st (v::vs)=Y8 (ZgW st v) fun kh=>Y8 (Yj st vs) (ZzT S f key d K st vs kh):=_root_.id rfl
theorem ZJx (f:FuncId) (vs:List SV):spK S f 3 key d K st vs=Y8 (Yj st vs) (ZCA S f key d K st vs):=_root_.id rfl
theorem ZIW (f:FuncId) (vs:List SV):spK S f 4 key d K st vs=Y8 (Yj st (vs.map nlS)) (Ztc S f key d K st (vs.map nlS)):=_root_.id rfl
theorem ZI4 (f:FuncId) (vs:List SV):spK S f 2 key d K st vs=Y8 (Yj st vs) (ZCq S f key d K st vs):=_root_.id rfl
def gOf (all:List Oper) (j:Nat):Option Nat:=(all[j]?).bind (·.dst)
def gL (tt:Nat→Option TI) (S:Ctx) (all:List Oper) (key:Nat) (v:SV) (w:Bool) (o:Oper) (r:List Oper) (K:St→Prop) (st:St):Prop:=gK v w (Yp tt S all key (o::r) K st) (Yp tt S all (key+16) r K (st.put o.dst .und))
def Zs8 (st:St):Option Nat→SV
 | some t=>st.sl t
 | none=>.und
theorem ZvU (sl:Nat→SV) (ob:Nat→Ob) (n t:Nat):Zs8 ⟨sl,ob,n⟩ (some t)=sl t:=_root_.id rfl
theorem ZwM:Zs8 st none=.und:=_root_.id rfl
theorem ZBu (op:Op) (j:Nat) (w:Bool):Yp tt S all key (⟨d,op,ty,pos,af,some (j,w)⟩::r) K st=gL tt S all key (Zs8 st (gOf all j)) w ⟨d,op,ty,pos,af,none⟩ r K st:=by
 cases hg:gOf all j with
 | none=>
  have h:Zbo all ⟨d,op,ty,pos,af,some (j,w)⟩=some (none,w):=by simp only [Zbo];rw [show (all[j]?).bind (·.dst)=none from hg]
  simp only [Yp,opG,h,gL,Zs8]
  simp [gK,ZaY,ZuD]
 | some t=>
  have h:Zbo all ⟨d,op,ty,pos,af,some (j,w)⟩=some (some t,w):=by simp only [Zbo];rw [show (all[j]?).bind (·.dst)=some t from hg]
  simp only [Yp,opG,h,gL,Zs8]
  rfl
theorem ZHq (o:Oper):gL tt S all key (.p false [.c (.bool true)]) true o r K st=Yp tt S all key (o::r) K st:=by simp [gL,gK,ZaY,QC]
theorem ZIi (o:Oper):gL tt S all key (.p false [.c (.bool false)]) false o r K st=Yp tt S all key (o::r) K st:=by simp [gL,gK,ZaY,QC]
theorem ZIT (o:Oper):gL tt S all key (.p false [.c (.bool true)]) false o r K st=Yp tt S all (key+16) r K (st.put o.dst .und):=by simp [gL,gK,ZaY,QC]
theorem ZIy (o:Oper):gL tt S all key (.p false [.c (.bool false)]) true o r K st=Yp tt S all (key+16) r K (st.put o.dst .und):=by simp [gL,gK,ZaY,QC]
theorem ZFA (o:Oper) (w:Bool):gL tt S all key .und w o r K st=Yp tt S all (key+16) r K (st.put o.dst .und):=by simp [gL,gK,ZaY,ZuD]
theorem ZBP (v:SV):Zjk d K st v=K (st.put d v):=_root_.id rfl
theorem ZCb (v:SV) (u:List (Nat × Ob)):Zm3 d K st (v,u)=K ((st.put d v).app u):=_root_.id rfl
theorem ZCZ (u:List (Nat × Ob)):ZFJ d K st u=K ((st.put d .und).app u):=_root_.id rfl
theorem ZyP {α:Type} (v:α) (K:α→Prop):Y8 (some v) K=K v:=_root_.id rfl
theorem Zzi {α:Type} (K:α→Prop):Y8 none K=False:=_root_.id rfl
theorem ZB4 (n m:Nat) (sl:Nat→SV) (ob:Nat→Ob):Zr7 n K ⟨sl,ob,m⟩=K ⟨sl,ob,n⟩:=_root_.id rfl
theorem ZCM (ops:List Oper) (sl:Nat→SV) (ob:Nat→Ob) (n:Nat):ZBG tt S ops K ⟨sl,ob,n⟩=Yp tt S ops n ops (Zr7 (n+16 * ops.length) K) ⟨sl,ob,n⟩:=_root_.id rfl
theorem ZBa (sl:Nat→SV) (ob:Nat→Ob) (n t:Nat) (v:SV):St.put ⟨sl,ob,n⟩ (some t) v=⟨upd sl t v,ob,n⟩:=_root_.id rfl
theorem ZBg (v:SV):St.put st none v=st:=_root_.id rfl
theorem ZCt (sl:Nat→SV) (ob:Nat→Ob) (n:Nat):St.app ⟨sl,ob,n⟩ []=⟨sl,ob,n⟩:=_root_.id rfl
theorem ZAc (sl:Nat→SV) (ob:Nat→Ob) (n:Nat) (p:Nat × Ob) (u:List (Nat × Ob)):St.app ⟨sl,ob,n⟩ (p::u)=St.app ⟨sl,upd ob p.1 p.2,n⟩ u:=_root_.id rfl
theorem ZDp {α:Type} (f:Nat→α) (k j:Nat) (v:α):upd f k v j=if j=k then v else f j:=_root_.id rfl
end
section
variable {od:OD} {tt:Nat→Option TI} {S:Ctx} {Q:Ex→St→Prop} {st:St}
theorem ZCi:swp tt S od .skip Q st=Q .normal st:=_root_.id rfl
theorem Zy2 (id:Nat) (ops:Array Oper) (dr:Bool):swp tt S (fun _=>none) (.region id ops dr) Q st=ZBG tt S ops.toList (Q .normal) st:=_root_.id rfl
def Zuv:List (Nat × List Nat × Bool)→OD
 | [],_=>none
 | p::r,i=>if i=p.1 then some p.2 else Zuv r i
theorem ZF4 (i:Nat):Zuv [] i=none:=_root_.id rfl
theorem ZCF (p:Nat × List Nat × Bool) (m:List (Nat × List Nat × Bool)) (i:Nat):Zuv (p::m) i=if i=p.1 then some p.2 else Zuv m i:=_root_.id rfl
theorem ZBJ (ops:List Oper) (K:St→Prop):Zwj tt S none ops K st=ZBG tt S ops K st:=_root_.id rfl
theorem ZCT (l:List Nat) (b:Bool) (ops:List Oper) (K:St→Prop) (sl:Nat→SV) (ob:Nat→Ob) (n:Nat):Zwj tt S (some (l,b)) ops K ⟨sl,ob,n⟩=ZgR tt S b ops n l (Zr7 (n+16 * ops.length) K) ⟨sl,ob,n⟩:=_root_.id rfl
def ZHh (tt:Nat→Option TI) (S:Ctx) (b:Bool) (all:List Oper) (key:Nat) (K:St→Prop) (st:St):Option Oper→Prop
 | some o=>ifB b (stk tt S o.op st) (Yp tt S all key [o] K st)
 | none=>K st
theorem ZFv (b:Bool) (all:List Oper) (base:Nat) (K:St→Prop):ZgR tt S b all base [] K st=K st:=_root_.id rfl
theorem ZC4 (b:Bool) (all:List Oper) (base i:Nat) (r:List Nat) (K:St→Prop):ZgR tt S b all base (i::r) K st=ZHh tt S b all (base+16 * i) (ZgR tt S b all base r K) st (all[i]?):=by
 simp only [ZgR]
 cases all[i]?<;>rfl
theorem ZEZ (b:Bool) (all:List Oper) (key:Nat) (K:St→Prop) (o:Oper):ZHh tt S b all key K st (some o)=ifB b (stk tt S o.op st) (Yp tt S all key [o] K st):=_root_.id rfl
theorem ZHG (c:Bool) (P:Prop):ifB true c P=(c=true∧P):=_root_.id rfl
theorem ZHH (c:Bool) (P:Prop):ifB false c P=P:=_root_.id rfl
theorem ZFi (a b:Code):swp tt S od (.seq a b) Q st=swp tt S od a (Zh9 (swp tt S od b Q) Q) st:=_root_.id rfl
def ZtT (tt:Nat→Option TI) (S:Ctx) (od:OD) (v:SV) (a b:Code) (Q:Ex→St→Prop) (st:St):Prop:=Zrt v (swp tt S od a Q st) (swp tt S od b Q st)
theorem ZC2 (c:Operand) (a b:Code):swp tt S od (.cond c a b) Q st=ZtT tt S od (st.ev tt 0 c) a b Q st:=_root_.id rfl
theorem ZJm (a b:Code):ZtT tt S od (.p false [.c (.bool true)]) a b Q st=swp tt S od a Q st:=by simp [ZtT,Zrt,ZaY,QC]
theorem ZI8 (a b:Code):ZtT tt S od (.p false [.c (.bool false)]) a b Q st=swp tt S od b Q st:=by simp [ZtT,Zrt,ZaY,QC]
theorem ZzH (id:Nat) (b:Code):swp tt S od (.block id b) Q st=swp tt S od b (Zix id Q) st:=_root_.id rfl
theorem ZC7 (id:Nat):swp tt S od (.exit id) Q st=Q (.exit id) st:=_root_.id rfl
theorem ZFQ:swp tt S od .ret Q st=Q .ret st:=_root_.id rfl
theorem ZJu (k:St→Prop):Zh9 k Q .normal st=k st:=_root_.id rfl
theorem ZJe (k:St→Prop) (i:Nat):Zh9 k Q (.exit i) st=Q (.exit i) st:=_root_.id rfl
theorem ZIZ (k:St→Prop):Zh9 k Q .ret st=Q .ret st:=_root_.id rfl
theorem ZJD (i:Nat):Zix i Q .normal st=Q .normal st:=_root_.id rfl
theorem ZJF (i:Nat):Zix i Q .ret st=Q .ret st:=_root_.id rfl
theorem ZJs (i j:Nat):Zix i Q (.exit j) st=if j=i then Q .normal st else Q (.exit j) st:=_root_.id rfl
theorem ZGd (sl:Nat→SV) (ob:Nat→Ob) (n t s:Nat):St.ev tt ⟨sl,ob,n⟩ t (.tmp s)=sl s:=_root_.id rfl
theorem ZzD (t:Nat) (v:Value):St.ev tt st t (.const v)=cvT (tt t) v:=_root_.id rfl
theorem ZBY (t f:Nat):St.ev tt st t (.func f)=.fn f:=_root_.id rfl
theorem ZJd (rs:List ResultVar) (R:St→List RT→List Nat→Prop):ZuJ tt rs R .ret st=match ZcL tt st rs with | some x=>x.2.Nodup∧R st x.1 x.2 | none=>False:=_root_.id rfl
theorem ZJn (rs:List ResultVar) (R:St→List RT→List Nat→Prop):ZuJ tt rs R .normal st=match ZcL tt st rs with | some x=>x.2.Nodup∧R st x.1 x.2 | none=>False:=_root_.id rfl
end
attribute [go_sem] ZEx ZCU Zyw ZCf ZAd ZEq ZAh ZGh ZB1 Zz3 ZF2 ZD3 ZGY ZCS ZBI ZAU ZFZ ZDQ ZEn ZDN ZDi ZDD ZB5 ZF3 ZEO ZCk ZGA ZEQ ZCc ZHg ZqV ZhF Zu7 Zyf ZxT Zfu ZfL Zfr ZlB ZlB.zBox ZqU Zmi eqC ZpZ ZBV ZA2 Ztd ZvS ZlU ZFe Zz1 ZBB ZzV ZfW ZnO ZjB ZsW ZhW ZBu ZBP ZCb ZCZ ZyP Zzi ZB4 ZCM ZBa ZBg ZCt ZAc ZDp ZCi Zy2 ZBJ ZCT ZFv ZC4 ZEZ ZF4 ZCF ZHG ZHH stk hdC ldB hdB Xe List.head?_cons ZFi ZC2 ZzH ZC7 ZFQ ZJu ZJe ZIZ ZJD ZJF ZJs ZGd ZzD ZBY ZJd ZJn ZJA ZJi ZJm ZI8 ZHq ZIi ZIT ZIy ZFA ZvU ZwM ZIP Zv9 ZET ZrT Zma List.all_cons List.all_nil List.isEmpty_nil Bool.true_or Bool.false_or Bool.or_true Bool.or_false Bool.false_and ZDB ZEM ZDC ZGL ZF1 gOf cvT ZoJ ZBZ ZB3 ZBQ unV Zuy ZpB Zcy Zpb cut Zat splice Zj5 Zol ZlW ZnM Zlp Zhs avT Zg6 Zk6 ZhB Xt ZbD ZgX Zha ZnV Zmf ZpD ZAD Zou ZaE mvS hiB loB Zl4 Zcs Zdu Zuu ZzC Zce Zg3 evs ZcK Y9 ZdX Yj Zlg ZI5 ZJv ZI4 ZgW Yh ZbH Zi4 ZdW Zc2 ZjY Yq Yv Z8 ZJj ZG5 wkC wkR ZsG Ztl ZtB ZCH ZCY ZF7 ZCO ZA1 Zy6 ZJx ZIW nlA nlS ZjT ZCC ZBE Zt3 Zrs ZkE Zxn Zbz Zxz wk1 Zf6 ZdV ZcL ZX Yr ZdY List.length_cons List.length_nil List.length_map List.length_replicate List.getElem?_cons_zero List.getElem?_cons_succ List.getElem?_nil List.map_cons List.map_nil Option.bind_some Option.bind_none Option.map_some Option.map_none List.cons_append List.nil_append List.append_nil List.nodup_nil List.drop_zero List.drop_succ_cons List.drop_nil List.take_succ_cons List.take_zero List.take_nil List.set_cons_zero List.set_cons_succ List.range_zero Bool.and_true Bool.true_and Bool.and_self and_true true_and and_self Nat.zero_le Nat.le_refl beq_self_eq_true Option.getD_some ite_true ite_false Nat.zero_add Nat.lt_add_one Nat.zero_lt_succ eq_self or_false false_or and_false false_and or_self Nat.lt_irrefl true_or or_true List.not_mem_nil List.nodup_cons List.mem_cons Bool.false_eq_true if_true if_false decide_true decide_false Bool.not_true Bool.not_false Int.toNat_natCast ne_eq not_true_eq_false not_false_eq_true
end
section
open Go.RowKit
section
variable {P:Program} {J:World→Prop} {JF:Nat→Prop} {W:Zbb} {U:Nat→Prop} {st:St} {w w':World} {a:Act} {tt:Nat→Option TI} {g:Gh}
variable {K:Nat→Prop}
/- what is given is said to be lent -/
end
abbrev nw0:NW:=⟨0⟩
section
variable {P:Program} {J:World→Prop} {JF:Nat→Prop} {W:Zbb} {U:Nat→Prop} {st:St} {w w':World} {a:Act} {tt:Nat→Option TI} {od:OD} {g:Gh}
structure JOk (J:World→Prop) (JF:Nat→Prop):Prop where
 below:∀(x:Nat→Prop) (w w':World),J w→(∀b,x b→JF b)→w'.os=w.os→w'.tape=w.tape→w'.output=w.output→w.heap.size≤w'.heap.size→(∀k,k<w.heap.size→¬x k→w'.heap[k]?=w.heap[k]?)→J w'
 new:∀(w:World) b,J w→w.heap.size≤b→JF b
end
instance nwD:NW:=nw0
end
section
open Go.RowKit
def ZAX:List (Nat × TI)→Nat→Option TI
 | [],_=>none
 | p::r,t=>if p.1=t then some p.2 else ZAX r t
end
section
open Go.RowKit
section
variable {od:OD} {tt:Nat→Option TI} {S:Ctx}
end
theorem ZE9 (sl:Nat→SV) (ob:Nat→Ob) (n:Nat) (ρ:List Nat) (t:Nat):(St.ren ⟨sl,ob,n⟩ ρ).sl t=rSV ρ (sl t):=_root_.id rfl
theorem ZEv (sl:Nat→SV) (ob:Nat→Ob) (n:Nat) (ρ:List Nat) (j:Nat):(St.ren ⟨sl,ob,n⟩ ρ).ob j=match ρ[j]? with | some k=>rOb ρ (ob k) | none=>.gone:=_root_.id rfl
theorem ZHf (st:St) (ρ:List Nat):(st.ren ρ).n=ρ.length:=_root_.id rfl
theorem ZzB (st:St):st.mats []=st:=_root_.id rfl
theorem ZxZ (sl : Nat → SV) (ob : Nat → Ob) (n t j : Nat) (r : List (Bool × Nat × Nat)) : St.mats ⟨sl, ob, n⟩ ((false, t, j) :: r) = if 4096 ≤ j then St.mats (match sl t with
    | .p ag cs => (match cs[j - 4096]? with
      | some (.row k) => (match ob k with
        | .row e q xs d => if d = 2 then ⟨upd sl t (.p ag (cs.set (j - 4096) (.n (.sl e q xs)))), upd ob k (.row e q xs 0), n⟩ else ⟨sl, ob, n⟩
        | _ => ⟨sl, ob, n⟩)
      | _ => ⟨sl, ob, n⟩)
    | _ => ⟨sl, ob, n⟩) r else St.mats (match sl t with
    | .p ag cs => (match cs[j]? with
      | some (.nil e q) => if 0 < q then ⟨upd sl t (.p ag (cs.set j (.row n))), upd ob n (.row e q [] 2), n + 1⟩ else ⟨sl, ob, n⟩
      | some (.row k) => (match ob k with
        | .row e q xs _ => ⟨upd sl t (.p ag (cs.set j (.c (.sl e q xs)))), upd ob k (.row e q xs 0), n⟩
        | _ => ⟨sl, ob, n⟩)
      | _ => ⟨sl, ob, n⟩)
    | _ => ⟨sl, ob, n⟩) r := by
  by_cases h : 4096 ≤ j
  · rw [if_pos h, St.mats, if_pos ⟨rfl, h⟩]; rfl
  · rw [if_neg h, St.mats, if_neg (fun e => h e.2)]; rfl
theorem Zz4 (sl : Nat → SV) (ob : Nat → Ob) (n k i : Nat) (r : List (Bool × Nat × Nat)) : St.mats ⟨sl, ob, n⟩ ((true, k, i) :: r) = St.mats (match ob k with
    | .box ty cs => (match cs[i]? with
      | some (.nil e q) => if 0 < q then ⟨sl, upd (upd ob k (.box ty (cs.set i (.row n)))) n (.row e q [] 2), n + 1⟩ else ⟨sl, ob, n⟩
      | some (.row j) => (match ob j with
        | .row e q xs _ => ⟨sl, upd (upd ob j (.row e q xs 0)) k (.box ty (cs.set i (.c (.sl e q xs)))), n⟩
        | _ => ⟨sl, ob, n⟩)
      | _ => ⟨sl, ob, n⟩)
    | .row e q xs d => (if i < d then ⟨sl, upd ob k (.row e q xs i), n⟩ else ⟨sl, ob, n⟩)
    | _ => ⟨sl, ob, n⟩) r := _root_.id rfl
theorem nn (k:Nat):(0≤(k:Int))=True:=by simp
theorem ZIh:(true==true)=true:=_root_.id rfl
theorem ZIl:(false==true)=false:=_root_.id rfl
theorem ZHo:(true==false)=false:=_root_.id rfl
theorem ZGM:(false==false)=true:=_root_.id rfl
attribute [go_sem] Zxj ZjN Zm4 ZzB ZxZ Zz4 nn ZIh ZIl ZHo ZGM ZE9 ZEv ZHf rSV rAV rOb Zsq
end
section
open Go.RowKit
section
variable {α β σ ρ:Type} {r:ρ}
end
section
variable {od:OD} {tt:Nat→Option TI} {S:Ctx}
end
def sts:List (Nat × SV)→St→Prop
 | [],_=>True
 | p::r,st=>st.sl p.1=p.2∧sts r st
def obs:List Ob→Nat→St→Prop
 | [],k,st=>st.n=k
 | o::r,k,st=>st.ob k=o∧obs r (k+1) st
def IV (s:List (Nat × SV)) (o:List Ob) (st:St):Prop:=sts s st∧obs o 0 st
theorem ZC1 (st:St):sts [] st=True:=_root_.id rfl
theorem ZA4 (st:St) (t:Nat) (v:SV) (r:List (Nat × SV)):sts ((t,v)::r) st=(st.sl t=v∧sts r st):=_root_.id rfl
theorem ZCD (st:St) (k:Nat):obs [] k st=(st.n=k):=_root_.id rfl
theorem ZzA (st:St) (o:Ob) (k:Nat) (r:List Ob):obs (o::r) k st=(st.ob k=o∧obs r (k+1) st):=_root_.id rfl
attribute [go_sem] IV ZA4 ZC1 ZzA ZCD
theorem ZcS {α:Type} {g:α→List CT} (h:∀x,(g x).all CT.flat=true) (l:List α):ZbI (l.map g)=true:=by
 simp only [ZbI,List.all_map,List.all_eq_true]
 exact fun x _=>h x
def ZC (s:ByteArray):List CT:=[.str s]
def ZP (n:Int):List CT:=[.int .i64 n]
def Zhm (b:Bool):List CT:=[.bool b]
def ZbA (n:Int):List CT:=[.int .u8 n]
theorem Zkx (s:ByteArray):ZC s=[.str s]:=_root_.id rfl
theorem Zw8 (n:Int):ZP n=[.int .i64 n]:=_root_.id rfl
theorem ZBd (b:Bool):Zhm b=[.bool b]:=_root_.id rfl
theorem Ztg (n:Int):ZbA n=[.int .u8 n]:=_root_.id rfl
theorem Zx3 (l:List ByteArray):ZbI (l.map ZC)=true:=ZcS (fun _=>rfl) l
theorem Zq7 (l:List Int):ZbI (l.map ZP)=true:=ZcS (fun _=>rfl) l
theorem ZvM (l:List Bool):ZbI (l.map Zhm)=true:=ZcS (fun _=>rfl) l
theorem Zwu (l:List Int):ZbI (l.map ZbA)=true:=ZcS (fun _=>rfl) l
section
variable {α:Type} {st:St} {t k j e m:Nat} {a:Bool} {d:Nat} {cs:List AV} {g:α→List CT} {l:List α} {s:ByteArray}
end
/- maps of plain keys, as lists of pairs -/
def eSB (p:ByteArray × Bool):Value × Value:=(.string p.1,.bool p.2)
def eSS (p:ByteArray × ByteArray):Value × Value:=(.string p.1,.string p.2)
def eIB (p:Int × Bool):Value × Value:=(.int .i64 p.1,.bool p.2)
def Zhv {α β:Type} [DecidableEq α]:List (α × β)→α→Option β
 | [],_=>none
 | p::r,k=>if k=p.1 then some p.2 else Zhv r k
def ZgQ {α β:Type} [DecidableEq α]:List (α × β)→α→β→List (α × β)
 | [],k,v=>[(k,v)]
 | p::r,k,v=>if k=p.1 then (k,v)::r else p::ZgQ r k v
def Zbi {α β:Type} [DecidableEq α] (l:List (α × β)) (k:α) (z:β):β:=(Zhv l k).getD z
def Zx9 {α β:Type} [DecidableEq α] (l:List (α × β)) (k:α):Bool:=(Zhv l k).isSome
section
variable {α β:Type} [DecidableEq α] {e:α × β→Value × Value} {fk:α→Value} {fv:β→Value}
theorem ZeI (he:∀p,e p=(fk p.1,fv p.2)) (hk:∀a b,vEq (fk a) (fk b)=decide (a=b)):∀(l:List (α × β)) (k:α),ZmY (l.map e) (fk k)=(Zhv l k).map fv
 | [],_=>rfl
 | p::r,k=>by
  simp only [List.map_cons,ZmY,Zhv,he,hk,decide_eq_true_eq]
  split
  ·rfl
  ·exact ZeI he hk r k
theorem Zkh (he:∀p,e p=(fk p.1,fv p.2)) (hk:∀a b,vEq (fk a) (fk b)=decide (a=b)) (v:β):∀(l:List (α × β)) (k:α),Zf3 (l.map e) (fk k) (fv v)=(ZgQ l k v).map e
 | [],k=>by simp [Zf3,ZgQ,he]
 | p::r,k=>by
  simp only [List.map_cons,Zf3,ZgQ,he,hk,decide_eq_true_eq]
  split
  ·simp [he]
  ·rw [Zkh he hk v r k];simp [he]
end
theorem ZqC (a b:ByteArray):vEq (.string a) (.string b)=decide (a=b):=rfl
theorem ZAl (a b:Int):vEq (.int .i64 a) (.int .i64 b)=decide (a=b):=by simp [vEq,BEq.beq]
theorem ZCo (l:List (ByteArray × Bool)) (k:ByteArray):ZcF (l.map eSB) (.string k) (.c (.bool false))=.c (.bool (Zbi l k false)):=by
 simp only [ZcF,ZeI (e:=eSB) (fk:=.string) (fv:=.bool) (fun _=>rfl) ZqC,Zbi]
 cases Zhv l k<;>rfl
theorem ZB8 (l:List (ByteArray × ByteArray)) (k:ByteArray):ZcF (l.map eSS) (.string k) (.c (.str ⟨#[]⟩))=.c (.str (Zbi l k ⟨#[]⟩)):=by
 simp only [ZcF,ZeI (e:=eSS) (fk:=.string) (fv:=.string) (fun _=>rfl) ZqC,Zbi]
 cases Zhv l k<;>rfl
theorem ZBH (l:List (Int × Bool)) (k:Int):ZcF (l.map eIB) (.int .i64 k) (.c (.bool false))=.c (.bool (Zbi l k false)):=by
 simp only [ZcF,ZeI (e:=eIB) (fk:=.int .i64) (fv:=.bool) (fun _=>rfl) ZAl,Zbi]
 cases Zhv l k<;>rfl
theorem ZDM (l:List (ByteArray × Bool)) (k:ByteArray):ZfH (l.map eSB) (.string k)=Zx9 l k:=by
 simp only [ZfH,ZeI (e:=eSB) (fk:=.string) (fv:=.bool) (fun _=>rfl) ZqC,Zx9]
 cases Zhv l k<;>rfl
theorem ZDF (l:List (ByteArray × ByteArray)) (k:ByteArray):ZfH (l.map eSS) (.string k)=Zx9 l k:=by
 simp only [ZfH,ZeI (e:=eSS) (fk:=.string) (fv:=.string) (fun _=>rfl) ZqC,Zx9]
 cases Zhv l k<;>rfl
theorem ZGu (l:List (Int × Bool)) (k:Int):ZfH (l.map eIB) (.int .i64 k)=Zx9 l k:=by
 simp only [ZfH,ZeI (e:=eIB) (fk:=.int .i64) (fv:=.bool) (fun _=>rfl) ZAl,Zx9]
 cases Zhv l k<;>rfl
theorem ZEG (l:List (ByteArray × Bool)) (k:ByteArray) (v:Bool):Zf3 (l.map eSB) (.string k) (.bool v)=(ZgQ l k v).map eSB:=Zkh (fk:=.string) (fv:=.bool) (fun _=>rfl) ZqC v l k
theorem ZD0 (l:List (ByteArray × ByteArray)) (k v:ByteArray):Zf3 (l.map eSS) (.string k) (.string v)=(ZgQ l k v).map eSS:=Zkh (fk:=.string) (fv:=.string) (fun _=>rfl) ZqC v l k
theorem ZGr (l:List (Int × Bool)) (k:Int) (v:Bool):Zf3 (l.map eIB) (.int .i64 k) (.bool v)=(ZgQ l k v).map eIB:=Zkh (fk:=.int .i64) (fv:=.bool) (fun _=>rfl) ZAl v l k
theorem Zoz:∀l:List Int,ZfW (l.map ZbA)=some l
 | []=>rfl
 | n::r=>by simp only [List.map_cons,Ztg,ZfW,Zoz r,Option.map_some]
theorem ZmB (st:St):∀l:List CT,Yj st (l.map Zmi)=some (l.map fun c=>(false,[c]))
 | []=>rfl
 | c::r=>by
  have h:=ZmB st r
  simp only [List.map_cons,Yj,h,Zmi,ZdX,Y9,ZcK,Option.bind_some,Option.map_some]
theorem ZIM:((0:Nat):Int)=0:=_root_.id rfl
attribute [go_sem] ZmB ZCo ZB8 ZBH ZDM ZDF ZGu ZEG ZD0 ZGr Zoz ZIM ZDu List.map_replicate Zkx Zw8 ZBd Ztg Zx3 Zq7 ZvM Zwu List.map_append List.getElem?_map List.map_set List.map_take List.map_drop List.length_append List.length_set Int.toNat_natCast
end
section
open Go.RowKit
def ZDf (P:Program) (L:List (String × (Array Value→Prop))) (w:World):Prop:=∀x∈L,∃cs,w.var? P x.1=some cs∧x.2 cs
def ZDb (P:Program) (L:List (String × (Array Value→Prop))) (b:Nat):Prop:=∀x∈L,¬P.globalNamed x.1=some b
theorem ZCV (P:Program) (L:List (String × (Array Value→Prop))):JOk (ZDf P L) (ZDb P L) where
 below:=fun x w w' hj hx _ _ _ hs hb y my=>by
  obtain ⟨cs,h1,h2⟩:=hj y my
  refine ⟨cs,?_,h2⟩
  unfold World.var? at h1 ⊢
  obtain ⟨g,hg,h1⟩:=Option.bind_eq_some_iff.1 h1
  rw [hg,Option.bind_some]
  have hlt:g<w.heap.size:=by
   rcases Nat.lt_or_ge g w.heap.size with h | h
   ·exact h
   ·rw [Array.getElem?_eq_none h] at h1;simp at h1
  rw [hb g hlt (fun h=>hx g h y my hg)]
  exact h1
 new:=fun w b hj hb y my hg=>by
  obtain ⟨cs,h1,_⟩:=hj y my
  unfold World.var? at h1
  rw [hg,Option.bind_some,Array.getElem?_eq_none hb] at h1
  simp at h1
theorem Zcb {J:World→Prop} {JF:Nat→Prop} (h:JOk J JF) {w w':World} (hj:J w) (hb:Below w.heap.size w w'):J w':=
 h.below (fun _=>False) w w' hj (fun _ h=>h.elim) hb.os hb.tape hb.output hb.size fun k hk _=>hb.block k hk
end
section
open Go.RowKit
def ttL:List (Nat × TI):=[
 (2,.atom (.c (.int .i64 0))),
 (3,.atom (.c (.int .i64 0))),
 (4,.atom (.c (.bool false))),
 (5,.atom (.c (.int .u8 0))),
 (9,.atom (.c (.str ⟨#[]⟩))),
 (12,.atom (.c (.int .u64 0))),
 (14,.strct [⟨0,1,false⟩,⟨1,1,false⟩] 2 [.c (.str ⟨#[]⟩),.c (.int .u64 0)]),
 (20,.ifc),
 (21,.atom (.c (.int .i32 0))),
 (22,.slice 65 4 72 [.c (.str ⟨#[]⟩),.c (.int .i64 0),.nil 58 5,.nil 126 3]),
 (23,.slice 100 3 48 [.c (.str ⟨#[]⟩),.nil 9 1,.c (.int .i64 0)]),
 (24,.slice 103 2 40 [.c (.str ⟨#[]⟩),.nil 3 1]),
 (25,.slice 106 4 64 [.c (.int .i64 0),.c (.str ⟨#[]⟩),.c (.str ⟨#[]⟩),.nil 9 1]),
 (27,.strct [⟨0,1,false⟩,⟨1,1,false⟩,⟨2,1,false⟩,⟨3,1,false⟩,⟨4,1,false⟩,⟨5,1,false⟩] 6 [.nil 65 4,.nil 100 3,.c (.int .i64 0),.nil 103 2,.c (.bool false),.nil 106 4]),
 (28,.slice 3 1 8 [.c (.int .i64 0)]),
 (29,.slice 109 3 64 [.c (.str ⟨#[]⟩),.nil 9 1,.nil 98 2]),
 (30,.slice 60 8 120 [.c (.int .i64 0),.c (.int .i64 0),.c (.str ⟨#[]⟩),.nil 9 1,.c (.str ⟨#[]⟩),.c (.str ⟨#[]⟩),.c (.int .i64 0),.nil 52 2]),
 (31,.slice 98 2 40 [.c (.str ⟨#[]⟩),.nil 9 1]),
 (33,.strct [⟨0,1,false⟩,⟨1,1,false⟩,⟨2,1,false⟩,⟨3,1,false⟩,⟨4,1,false⟩,⟨5,1,false⟩] 6 [.nil 65 4,.nil 3 1,.nil 109 3,.nil 60 8,.nil 98 2,.c (.int .i64 0)]),
 (35,.strct [⟨0,6,true⟩,⟨6,6,true⟩] 12 [.nil 65 4,.nil 100 3,.c (.int .i64 0),.nil 103 2,.c (.bool false),.nil 106 4,.nil 65 4,.nil 3 1,.nil 109 3,.nil 60 8,.nil 98 2,.c (.int .i64 0)]),
 (50,.slice 150 2 32 [.c (.str ⟨#[]⟩),.c (.str ⟨#[]⟩)]),
 (52,.strct [⟨0,1,false⟩,⟨1,1,false⟩] 2 [.nil 98 2,.nil 150 2]),
 (53,.slice 52 2 48 [.nil 98 2,.nil 150 2]),
 (54,.slice 9 1 16 [.c (.str ⟨#[]⟩)]),
 (56,.strct [⟨0,1,false⟩,⟨1,1,false⟩] 2 [.c (.str ⟨#[]⟩),.nil 9 1]),
 (58,.strct [⟨0,1,false⟩,⟨1,2,true⟩,⟨3,1,false⟩,⟨4,1,false⟩] 5 [.c (.int .i64 0),.c (.str ⟨#[]⟩),.nil 9 1,.c (.str ⟨#[]⟩),.c (.str ⟨#[]⟩)]),
 (60,.strct [⟨0,1,false⟩,⟨1,5,true⟩,⟨6,1,false⟩,⟨7,1,false⟩] 8 [.c (.int .i64 0),.c (.int .i64 0),.c (.str ⟨#[]⟩),.nil 9 1,.c (.str ⟨#[]⟩),.c (.str ⟨#[]⟩),.c (.int .i64 0),.nil 52 2]),
 (61,.slice 58 5 80 [.c (.int .i64 0),.c (.str ⟨#[]⟩),.nil 9 1,.c (.str ⟨#[]⟩),.c (.str ⟨#[]⟩)]),
 (63,.slice 126 3 48 [.c (.int .i64 0),.c (.str ⟨#[]⟩),.nil 9 1]),
 (65,.strct [⟨0,1,false⟩,⟨1,1,false⟩,⟨2,1,false⟩,⟨3,1,false⟩] 4 [.c (.str ⟨#[]⟩),.c (.int .i64 0),.nil 58 5,.nil 126 3]),
 (98,.strct [⟨0,1,false⟩,⟨1,1,false⟩] 2 [.c (.str ⟨#[]⟩),.nil 9 1]),
 (100,.strct [⟨0,2,true⟩,⟨2,1,false⟩] 3 [.c (.str ⟨#[]⟩),.nil 9 1,.c (.int .i64 0)]),
 (103,.strct [⟨0,1,false⟩,⟨1,1,false⟩] 2 [.c (.str ⟨#[]⟩),.nil 3 1]),
 (106,.strct [⟨0,1,false⟩,⟨1,1,false⟩,⟨2,2,true⟩] 4 [.c (.int .i64 0),.c (.str ⟨#[]⟩),.c (.str ⟨#[]⟩),.nil 9 1]),
 (109,.strct [⟨0,2,true⟩,⟨2,1,false⟩] 3 [.c (.str ⟨#[]⟩),.nil 9 1,.nil 98 2]),
 (126,.strct [⟨0,1,false⟩,⟨1,2,true⟩] 3 [.c (.int .i64 0),.c (.str ⟨#[]⟩),.nil 9 1]),
 (145,.slice 5 1 1 [.c (.int .u8 0)]),
 (150,.strct [⟨0,1,false⟩,⟨1,1,false⟩] 2 [.c (.str ⟨#[]⟩),.c (.str ⟨#[]⟩)]),
 (168,.atom (.c (.int .u64 0))),
 (169,.map .str .bool),
 (184,.atom (.c (.int .u32 0))),
 (186,.atom (.c (.int .u64 0))),
 (187,.ifc),
 (188,.ifc),
 (227,.strct [⟨0,1,false⟩] 1 [.c (.str ⟨#[]⟩)])]
def tt (t:Nat):Option TI:=ZAX ttL t
def ZCd : List (String × (Array Value → Prop)) := [("internal/strconv.uint64pow10", fun cs => cs = (Lib.pow10Tab.map fun z => Value.int .u64 z).toArray), ("strconv.ErrSyntax", fun cs => ∃ tp p, cs = #[.iface tp p])]
def J0:World→Prop:=ZDf Tryz.prog ZCd
def JF0:Nat→Prop:=ZDb Tryz.prog ZCd
theorem hJ0:JOk J0 JF0:=ZCV _ _
def hdL:List (Nat × Nat):=[(110,2),(135,1)]
def ZAv:List (Nat × Nat)→Nat→Nat
 | [],_=>0
 | p::r,f=>match Nat.beq p.1 f with | true=>p.2 | false=>ZAv r f
def hds (f:FuncId):Nat:=ZAv hdL f
theorem ZJw:(SC Tryz.prog J0 JF0 hds).hd 9=0:=_root_.id (by kernel_rfl)
theorem ZHK:(SC Tryz.prog J0 JF0 hds).hd 11=0:=_root_.id (by kernel_rfl)
theorem ZHT:(SC Tryz.prog J0 JF0 hds).hd 19=0:=_root_.id (by kernel_rfl)
theorem ZIc:(SC Tryz.prog J0 JF0 hds).hd 20=0:=_root_.id (by kernel_rfl)
theorem ZIr:(SC Tryz.prog J0 JF0 hds).hd 23=0:=_root_.id (by kernel_rfl)
theorem ZIz:(SC Tryz.prog J0 JF0 hds).hd 24=0:=_root_.id (by kernel_rfl)
theorem ZHB:(SC Tryz.prog J0 JF0 hds).hd 50=0:=_root_.id (by kernel_rfl)
theorem ZHn:(SC Tryz.prog J0 JF0 hds).hd 51=0:=_root_.id (by kernel_rfl)
theorem ZIA:(SC Tryz.prog J0 JF0 hds).hd 52=0:=_root_.id (by kernel_rfl)
theorem ZG9:(SC Tryz.prog J0 JF0 hds).hd 54=0:=_root_.id (by kernel_rfl)
theorem ZG7:(SC Tryz.prog J0 JF0 hds).hd 55=0:=_root_.id (by kernel_rfl)
theorem ZHa:(SC Tryz.prog J0 JF0 hds).hd 56=0:=_root_.id (by kernel_rfl)
theorem ZG3:(SC Tryz.prog J0 JF0 hds).hd 59=0:=_root_.id (by kernel_rfl)
theorem ZHw:(SC Tryz.prog J0 JF0 hds).hd 60=0:=_root_.id (by kernel_rfl)
theorem ZHb:(SC Tryz.prog J0 JF0 hds).hd 61=0:=_root_.id (by kernel_rfl)
theorem ZIk:(SC Tryz.prog J0 JF0 hds).hd 80=0:=_root_.id (by kernel_rfl)
theorem ZGN:(SC Tryz.prog J0 JF0 hds).hd 81=0:=_root_.id (by kernel_rfl)
theorem ZIV:(SC Tryz.prog J0 JF0 hds).hd 82=0:=_root_.id (by kernel_rfl)
theorem ZHr:(SC Tryz.prog J0 JF0 hds).hd 83=0:=_root_.id (by kernel_rfl)
theorem ZIb:(SC Tryz.prog J0 JF0 hds).hd 84=0:=_root_.id (by kernel_rfl)
theorem ZIG:(SC Tryz.prog J0 JF0 hds).hd 85=0:=_root_.id (by kernel_rfl)
theorem ZHU:(SC Tryz.prog J0 JF0 hds).hd 86=0:=_root_.id (by kernel_rfl)
theorem ZGT:(SC Tryz.prog J0 JF0 hds).hd 87=0:=_root_.id (by kernel_rfl)
theorem ZHN:(SC Tryz.prog J0 JF0 hds).hd 88=0:=_root_.id (by kernel_rfl)
theorem ZHu:(SC Tryz.prog J0 JF0 hds).hd 89=0:=_root_.id (by kernel_rfl)
theorem ZG2:(SC Tryz.prog J0 JF0 hds).hd 90=0:=_root_.id (by kernel_rfl)
theorem ZG1:(SC Tryz.prog J0 JF0 hds).hd 91=0:=_root_.id (by kernel_rfl)
theorem ZIt:(SC Tryz.prog J0 JF0 hds).hd 93=0:=_root_.id (by kernel_rfl)
theorem ZHl:(SC Tryz.prog J0 JF0 hds).hd 94=0:=_root_.id (by kernel_rfl)
theorem ZH8:(SC Tryz.prog J0 JF0 hds).hd 95=0:=_root_.id (by kernel_rfl)
theorem ZHX:(SC Tryz.prog J0 JF0 hds).hd 96=0:=_root_.id (by kernel_rfl)
theorem ZHv:(SC Tryz.prog J0 JF0 hds).hd 97=0:=_root_.id (by kernel_rfl)
theorem ZP8:(SC Tryz.prog J0 JF0 hds).hd 98=0:=_root_.id (by kernel_rfl)
theorem ZH4:(SC Tryz.prog J0 JF0 hds).hd 99=0:=_root_.id (by kernel_rfl)
theorem ZFq:(SC Tryz.prog J0 JF0 hds).hd 100=0:=_root_.id (by kernel_rfl)
theorem ZEN:(SC Tryz.prog J0 JF0 hds).hd 101=0:=_root_.id (by kernel_rfl)
theorem ZGy:(SC Tryz.prog J0 JF0 hds).hd 102=0:=_root_.id (by kernel_rfl)
theorem ZD8:(SC Tryz.prog J0 JF0 hds).hd 103=0:=_root_.id (by kernel_rfl)
theorem ZGp:(SC Tryz.prog J0 JF0 hds).hd 104=0:=_root_.id (by kernel_rfl)
theorem ZEF:(SC Tryz.prog J0 JF0 hds).hd 105=0:=_root_.id (by kernel_rfl)
theorem ZDl:(SC Tryz.prog J0 JF0 hds).hd 106=0:=_root_.id (by kernel_rfl)
theorem ZDj:(SC Tryz.prog J0 JF0 hds).hd 108=0:=_root_.id (by kernel_rfl)
theorem ZFT:(SC Tryz.prog J0 JF0 hds).hd 109=0:=_root_.id (by kernel_rfl)
theorem ZEz:(SC Tryz.prog J0 JF0 hds).hd 110=2:=_root_.id (by kernel_rfl)
theorem ZGg:(SC Tryz.prog J0 JF0 hds).hd 111=0:=_root_.id (by kernel_rfl)
theorem ZE7:(SC Tryz.prog J0 JF0 hds).hd 120=0:=_root_.id (by kernel_rfl)
theorem ZGt:(SC Tryz.prog J0 JF0 hds).hd 121=0:=_root_.id (by kernel_rfl)
theorem ZGa:(SC Tryz.prog J0 JF0 hds).hd 122=0:=_root_.id (by kernel_rfl)
theorem ZFM:(SC Tryz.prog J0 JF0 hds).hd 123=0:=_root_.id (by kernel_rfl)
theorem ZGj:(SC Tryz.prog J0 JF0 hds).hd 124=0:=_root_.id (by kernel_rfl)
theorem ZDz:(SC Tryz.prog J0 JF0 hds).hd 125=0:=_root_.id (by kernel_rfl)
theorem ZFw:(SC Tryz.prog J0 JF0 hds).hd 126=0:=_root_.id (by kernel_rfl)
theorem ZEs:(SC Tryz.prog J0 JF0 hds).hd 127=0:=_root_.id (by kernel_rfl)
theorem ZDn:(SC Tryz.prog J0 JF0 hds).hd 128=0:=_root_.id (by kernel_rfl)
theorem ZE0:(SC Tryz.prog J0 JF0 hds).hd 129=0:=_root_.id (by kernel_rfl)
theorem ZGe:(SC Tryz.prog J0 JF0 hds).hd 130=0:=_root_.id (by kernel_rfl)
theorem ZP5:(SC Tryz.prog J0 JF0 hds).hd 131=0:=_root_.id (by kernel_rfl)
theorem ZFX:(SC Tryz.prog J0 JF0 hds).hd 132=0:=_root_.id (by kernel_rfl)
theorem ZP7:(SC Tryz.prog J0 JF0 hds).hd 133=0:=_root_.id (by kernel_rfl)
theorem ZP3:(SC Tryz.prog J0 JF0 hds).hd 134=0:=_root_.id (by kernel_rfl)
theorem ZP6:(SC Tryz.prog J0 JF0 hds).hd 135=1:=_root_.id (by kernel_rfl)
theorem ZP4:(SC Tryz.prog J0 JF0 hds).hd 136=0:=_root_.id (by kernel_rfl)
theorem ZDY:(SC Tryz.prog J0 JF0 hds).hd 137=0:=_root_.id (by kernel_rfl)
theorem ZD1:(SC Tryz.prog J0 JF0 hds).hd 138=0:=_root_.id (by kernel_rfl)
theorem ZEk:(SC Tryz.prog J0 JF0 hds).hd 139=0:=_root_.id (by kernel_rfl)
theorem ZDW:(SC Tryz.prog J0 JF0 hds).hd 140=0:=_root_.id (by kernel_rfl)
theorem ZEV:(SC Tryz.prog J0 JF0 hds).hd 142=0:=_root_.id (by kernel_rfl)
theorem ZFc:(SC Tryz.prog J0 JF0 hds).hd 143=0:=_root_.id (by kernel_rfl)
theorem ZFk:(SC Tryz.prog J0 JF0 hds).hd 144=0:=_root_.id (by kernel_rfl)
theorem ZEY:(SC Tryz.prog J0 JF0 hds).hd 145=0:=_root_.id (by kernel_rfl)
theorem ZFb:(SC Tryz.prog J0 JF0 hds).hd 148=0:=_root_.id (by kernel_rfl)
theorem ZDG:(SC Tryz.prog J0 JF0 hds).hd 150=0:=_root_.id (by kernel_rfl)
theorem ZFs:(SC Tryz.prog J0 JF0 hds).hd 151=0:=_root_.id (by kernel_rfl)
theorem ZFW:(SC Tryz.prog J0 JF0 hds).hd 152=0:=_root_.id (by kernel_rfl)
theorem ZE6:(SC Tryz.prog J0 JF0 hds).hd 153=0:=_root_.id (by kernel_rfl)
theorem ZE4:(SC Tryz.prog J0 JF0 hds).hd 154=0:=_root_.id (by kernel_rfl)
theorem ZF5:(SC Tryz.prog J0 JF0 hds).hd 155=0:=_root_.id (by kernel_rfl)
theorem ZE5:(SC Tryz.prog J0 JF0 hds).hd 156=0:=_root_.id (by kernel_rfl)
theorem ZD9:(SC Tryz.prog J0 JF0 hds).hd 157=0:=_root_.id (by kernel_rfl)
theorem ZDZ:(SC Tryz.prog J0 JF0 hds).hd 161=0:=_root_.id (by kernel_rfl)
theorem ZDT:(SC Tryz.prog J0 JF0 hds).hd 162=0:=_root_.id (by kernel_rfl)
theorem ZGz:(SC Tryz.prog J0 JF0 hds).hd 163=0:=_root_.id (by kernel_rfl)
theorem ZEW:(SC Tryz.prog J0 JF0 hds).hd 164=0:=_root_.id (by kernel_rfl)
theorem ZE1:(SC Tryz.prog J0 JF0 hds).hd 165=0:=_root_.id (by kernel_rfl)
theorem ZEH:(SC Tryz.prog J0 JF0 hds).hd 178=0:=_root_.id (by kernel_rfl)
theorem ZFx:(SC Tryz.prog J0 JF0 hds).hd 179=0:=_root_.id (by kernel_rfl)
theorem tt2:tt 2=some (.atom (.c (.int .i64 0))):=_root_.id rfl
theorem tt3:tt 3=some (.atom (.c (.int .i64 0))):=_root_.id rfl
theorem tt4:tt 4=some (.atom (.c (.bool false))):=_root_.id rfl
theorem tt5:tt 5=some (.atom (.c (.int .u8 0))):=_root_.id rfl
theorem tt9:tt 9=some (.atom (.c (.str ⟨#[]⟩))):=_root_.id rfl
theorem ZJc:tt 12=some (.atom (.c (.int .u64 0))):=_root_.id rfl
theorem ZJk:tt 14=some (.strct [⟨0,1,false⟩,⟨1,1,false⟩] 2 [.c (.str ⟨#[]⟩),.c (.int .u64 0)]):=_root_.id rfl
theorem ZJh:tt 20=some (.ifc):=_root_.id rfl
theorem ZI0:tt 21=some (.atom (.c (.int .i32 0))):=_root_.id rfl
theorem ZJl:tt 22=some (.slice 65 4 72 [.c (.str ⟨#[]⟩),.c (.int .i64 0),.nil 58 5,.nil 126 3]):=_root_.id rfl
theorem ZQs:tt 23=some (.slice 100 3 48 [.c (.str ⟨#[]⟩),.nil 9 1,.c (.int .i64 0)]):=_root_.id rfl
theorem ZI1:tt 24=some (.slice 103 2 40 [.c (.str ⟨#[]⟩),.nil 3 1]):=_root_.id rfl
theorem ZJp:tt 25=some (.slice 106 4 64 [.c (.int .i64 0),.c (.str ⟨#[]⟩),.c (.str ⟨#[]⟩),.nil 9 1]):=_root_.id rfl
theorem ZQz:tt 27=some (.strct [⟨0,1,false⟩,⟨1,1,false⟩,⟨2,1,false⟩,⟨3,1,false⟩,⟨4,1,false⟩,⟨5,1,false⟩] 6 [.nil 65 4,.nil 100 3,.c (.int .i64 0),.nil 103 2,.c (.bool false),.nil 106 4]):=_root_.id rfl
theorem ZQq:tt 28=some (.slice 3 1 8 [.c (.int .i64 0)]):=_root_.id rfl
theorem ZQB:tt 29=some (.slice 109 3 64 [.c (.str ⟨#[]⟩),.nil 9 1,.nil 98 2]):=_root_.id rfl
theorem ZQv:tt 30=some (.slice 60 8 120 [.c (.int .i64 0),.c (.int .i64 0),.c (.str ⟨#[]⟩),.nil 9 1,.c (.str ⟨#[]⟩),.c (.str ⟨#[]⟩),.c (.int .i64 0),.nil 52 2]):=_root_.id rfl
theorem ZQo:tt 31=some (.slice 98 2 40 [.c (.str ⟨#[]⟩),.nil 9 1]):=_root_.id rfl
theorem ZJE:tt 33=some (.strct [⟨0,1,false⟩,⟨1,1,false⟩,⟨2,1,false⟩,⟨3,1,false⟩,⟨4,1,false⟩,⟨5,1,false⟩] 6 [.nil 65 4,.nil 3 1,.nil 109 3,.nil 60 8,.nil 98 2,.c (.int .i64 0)]):=_root_.id rfl
theorem ZJg:tt 35=some (.strct [⟨0,6,true⟩,⟨6,6,true⟩] 12 [.nil 65 4,.nil 100 3,.c (.int .i64 0),.nil 103 2,.c (.bool false),.nil 106 4,.nil 65 4,.nil 3 1,.nil 109 3,.nil 60 8,.nil 98 2,.c (.int .i64 0)]):=_root_.id rfl
theorem ZQn:tt 50=some (.slice 150 2 32 [.c (.str ⟨#[]⟩),.c (.str ⟨#[]⟩)]):=_root_.id rfl
theorem ZQp:tt 52=some (.strct [⟨0,1,false⟩,⟨1,1,false⟩] 2 [.nil 98 2,.nil 150 2]):=_root_.id rfl
theorem ZJb:tt 53=some (.slice 52 2 48 [.nil 98 2,.nil 150 2]):=_root_.id rfl
theorem ZQr:tt 54=some (.slice 9 1 16 [.c (.str ⟨#[]⟩)]):=_root_.id rfl
theorem ZQw:tt 56=some (.strct [⟨0,1,false⟩,⟨1,1,false⟩] 2 [.c (.str ⟨#[]⟩),.nil 9 1]):=_root_.id rfl
theorem ZQt:tt 58=some (.strct [⟨0,1,false⟩,⟨1,2,true⟩,⟨3,1,false⟩,⟨4,1,false⟩] 5 [.c (.int .i64 0),.c (.str ⟨#[]⟩),.nil 9 1,.c (.str ⟨#[]⟩),.c (.str ⟨#[]⟩)]):=_root_.id rfl
theorem ZJJ:tt 60=some (.strct [⟨0,1,false⟩,⟨1,5,true⟩,⟨6,1,false⟩,⟨7,1,false⟩] 8 [.c (.int .i64 0),.c (.int .i64 0),.c (.str ⟨#[]⟩),.nil 9 1,.c (.str ⟨#[]⟩),.c (.str ⟨#[]⟩),.c (.int .i64 0),.nil 52 2]):=_root_.id rfl
theorem ZQA:tt 61=some (.slice 58 5 80 [.c (.int .i64 0),.c (.str ⟨#[]⟩),.nil 9 1,.c (.str ⟨#[]⟩),.c (.str ⟨#[]⟩)]):=_root_.id rfl
theorem ZQx:tt 63=some (.slice 126 3 48 [.c (.int .i64 0),.c (.str ⟨#[]⟩),.nil 9 1]):=_root_.id rfl
theorem ZQy:tt 65=some (.strct [⟨0,1,false⟩,⟨1,1,false⟩,⟨2,1,false⟩,⟨3,1,false⟩] 4 [.c (.str ⟨#[]⟩),.c (.int .i64 0),.nil 58 5,.nil 126 3]):=_root_.id rfl
theorem ZQu:tt 98=some (.strct [⟨0,1,false⟩,⟨1,1,false⟩] 2 [.c (.str ⟨#[]⟩),.nil 9 1]):=_root_.id rfl
theorem ZQg:tt 100=some (.strct [⟨0,2,true⟩,⟨2,1,false⟩] 3 [.c (.str ⟨#[]⟩),.nil 9 1,.c (.int .i64 0)]):=_root_.id rfl
theorem ZQc:tt 103=some (.strct [⟨0,1,false⟩,⟨1,1,false⟩] 2 [.c (.str ⟨#[]⟩),.nil 3 1]):=_root_.id rfl
theorem ZQk:tt 106=some (.strct [⟨0,1,false⟩,⟨1,1,false⟩,⟨2,2,true⟩] 4 [.c (.int .i64 0),.c (.str ⟨#[]⟩),.c (.str ⟨#[]⟩),.nil 9 1]):=_root_.id rfl
theorem ZGV:tt 109=some (.strct [⟨0,2,true⟩,⟨2,1,false⟩] 3 [.c (.str ⟨#[]⟩),.nil 9 1,.nil 98 2]):=_root_.id rfl
theorem ZQb:tt 126=some (.strct [⟨0,1,false⟩,⟨1,2,true⟩] 3 [.c (.int .i64 0),.c (.str ⟨#[]⟩),.nil 9 1]):=_root_.id rfl
theorem ZQa:tt 145=some (.slice 5 1 1 [.c (.int .u8 0)]):=_root_.id rfl
theorem ZQe:tt 150=some (.strct [⟨0,1,false⟩,⟨1,1,false⟩] 2 [.c (.str ⟨#[]⟩),.c (.str ⟨#[]⟩)]):=_root_.id rfl
theorem ZQl:tt 168=some (.atom (.c (.int .u64 0))):=_root_.id rfl
theorem ZQh:tt 169=some (.map .str .bool):=_root_.id rfl
theorem ZP9:tt 184=some (.atom (.c (.int .u32 0))):=_root_.id rfl
theorem ZQm:tt 186=some (.atom (.c (.int .u64 0))):=_root_.id rfl
theorem ZQi:tt 187=some (.ifc):=_root_.id rfl
theorem ZQj:tt 188=some (.ifc):=_root_.id rfl
theorem ZQf:tt 227=some (.strct [⟨0,1,false⟩] 1 [.c (.str ⟨#[]⟩)]):=_root_.id rfl
def ZaW (x:Zo):List CT:=[.str x.rel,.sl 9 1 (List.map ZC x.args)]
theorem ZtI (x:Zo):ZaW x=[.str x.rel,.sl 9 1 (List.map ZC x.args)]:=_root_.id rfl
def ZT (x:Zu):List CT:=[.int .i64 x.kind,.str x.pattern.rel,.sl 9 1 (List.map ZC x.pattern.args),.str x.left,.str x.right]
theorem ZAs (x:Zu):ZT x=[.int .i64 x.kind,.str x.pattern.rel,.sl 9 1 (List.map ZC x.pattern.args),.str x.left,.str x.right]:=_root_.id rfl
def ZM (x:Zy):List CT:=[.int .i64 x.kind,.str x.pattern.rel,.sl 9 1 (List.map ZC x.pattern.args)]
theorem ZwR (x:Zy):ZM x=[.int .i64 x.kind,.str x.pattern.rel,.sl 9 1 (List.map ZC x.pattern.args)]:=_root_.id rfl
def ZF (x:Zf):List CT:=[.str x.name,.int .i64 x.priority,.sl 58 5 (List.map ZT x.cond),.sl 126 3 (List.map ZM x.thn)]
theorem ZzG (x:Zf):ZF x=[.str x.name,.int .i64 x.priority,.sl 58 5 (List.map ZT x.cond),.sl 126 3 (List.map ZM x.thn)]:=_root_.id rfl
def Zq (x:Za):List CT:=[.str x.rel,.sl 9 1 (List.map ZC x.args)]
theorem Zz8 (x:Za):Zq x=[.str x.rel,.sl 9 1 (List.map ZC x.args)]:=_root_.id rfl
def ZOC (x:ZL5):List CT:=[.str x.fact.rel,.sl 9 1 (List.map ZC x.fact.args),.int .i64 x.time]
theorem ZPT (x:ZL5):ZOC x=[.str x.fact.rel,.sl 9 1 (List.map ZC x.fact.args),.int .i64 x.time]:=_root_.id rfl
def ZNI (x:ZLS):List CT:=[.str x.rule,.sl 3 1 (List.map ZP x.times)]
theorem ZPI (x:ZLS):ZNI x=[.str x.rule,.sl 3 1 (List.map ZP x.times)]:=_root_.id rfl
def ZOj (x:ZL6):List CT:=[.int .i64 x.kind,.str x.rule,.str x.fact.rel,.sl 9 1 (List.map ZC x.fact.args)]
theorem ZPU (x:ZL6):ZOj x=[.int .i64 x.kind,.str x.rule,.str x.fact.rel,.sl 9 1 (List.map ZC x.fact.args)]:=_root_.id rfl
def ZP0 (x:ZMj):List CT:=[.sl 65 4 (List.map ZF x.rules),.sl 100 3 (List.map ZOC x.memory),.int .i64 x.clock,.sl 103 2 (List.map ZNI x.fired),.bool x.halted,.sl 106 4 (List.map ZOj x.log)]
theorem ZPJ (x:ZMj):ZP0 x=[.sl 65 4 (List.map ZF x.rules),.sl 100 3 (List.map ZOC x.memory),.int .i64 x.clock,.sl 103 2 (List.map ZNI x.fired),.bool x.halted,.sl 106 4 (List.map ZOj x.log)]:=_root_.id rfl
def ZOq (x:ZL4):List CT:=[.str x.shape.rel,.sl 9 1 (List.map ZC x.shape.args),.sl 98 2 (List.map Zq x.facts)]
theorem ZPR (x:ZL4):ZOq x=[.str x.shape.rel,.sl 9 1 (List.map ZC x.shape.args),.sl 98 2 (List.map Zq x.facts)]:=_root_.id rfl
def Yi (x:Zx):List CT:=[.str x.var,.str x.value]
theorem ZBi (x:Zx):Yi x=[.str x.var,.str x.value]:=_root_.id rfl
theorem ZvC (l:List Zx):ZbI (l.map Yi)=true:=ZcS (fun _=>rfl) l
def YD (x:Zw):List CT:=[.sl 98 2 (List.map Zq x.facts),.sl 150 2 (List.map Yi x.binding)]
theorem Zyq (x:Zw):YD x=[.sl 98 2 (List.map Zq x.facts),.sl 150 2 (List.map Yi x.binding)]:=_root_.id rfl
def ZPq (x:ZMe):List CT:=[.int .i64 x.parent,.int .i64 x.cond.kind,.str x.cond.pattern.rel,.sl 9 1 (List.map ZC x.cond.pattern.args),.str x.cond.left,.str x.cond.right,.int .i64 x.alpha,.sl 52 2 (List.map YD x.tokens)]
theorem ZPW (x:ZMe):ZPq x=[.int .i64 x.parent,.int .i64 x.cond.kind,.str x.cond.pattern.rel,.sl 9 1 (List.map ZC x.cond.pattern.args),.str x.cond.left,.str x.cond.right,.int .i64 x.alpha,.sl 52 2 (List.map YD x.tokens)]:=_root_.id rfl
def ZPZ (x:ZMb):List CT:=[.sl 65 4 (List.map ZF x.rules),.sl 3 1 (List.map ZP x.ends),.sl 109 3 (List.map ZOq x.alphas),.sl 60 8 (List.map ZPq x.nodes),.sl 98 2 (List.map Zq x.facts),.int .i64 x.tries]
theorem ZPF (x:ZMb):ZPZ x=[.sl 65 4 (List.map ZF x.rules),.sl 3 1 (List.map ZP x.ends),.sl 109 3 (List.map ZOq x.alphas),.sl 60 8 (List.map ZPq x.nodes),.sl 98 2 (List.map Zq x.facts),.int .i64 x.tries]:=_root_.id rfl
def ZQd (x:ZMq):List CT:=[.sl 65 4 (List.map ZF x.engine.rules),.sl 100 3 (List.map ZOC x.engine.memory),.int .i64 x.engine.clock,.sl 103 2 (List.map ZNI x.engine.fired),.bool x.engine.halted,.sl 106 4 (List.map ZOj x.engine.log),.sl 65 4 (List.map ZF x.network.rules),.sl 3 1 (List.map ZP x.network.ends),.sl 109 3 (List.map ZOq x.network.alphas),.sl 60 8 (List.map ZPq x.network.nodes),.sl 98 2 (List.map Zq x.network.facts),.int .i64 x.network.tries]
theorem ZPV (x:ZMq):ZQd x=[.sl 65 4 (List.map ZF x.engine.rules),.sl 100 3 (List.map ZOC x.engine.memory),.int .i64 x.engine.clock,.sl 103 2 (List.map ZNI x.engine.fired),.bool x.engine.halted,.sl 106 4 (List.map ZOj x.engine.log),.sl 65 4 (List.map ZF x.network.rules),.sl 3 1 (List.map ZP x.network.ends),.sl 109 3 (List.map ZOq x.network.alphas),.sl 60 8 (List.map ZPq x.network.nodes),.sl 98 2 (List.map Zq x.network.facts),.int .i64 x.network.tries]:=_root_.id rfl
attribute [go_sem] tt2 tt3 tt4 tt5 tt9 ZJc ZJk ZJh ZI0 ZJl ZQs ZI1 ZJp ZQz ZQq ZQB ZQv ZQo ZJE ZJg ZQn ZQp ZJb ZQr ZQw ZQt ZJJ ZQA ZQx ZQy ZQu ZQg ZQc ZQk ZGV ZQb ZQa ZQe ZQl ZQh
attribute [go_sem] ZP9 ZQm ZQi ZQj ZQf ZJw ZHK ZHT ZIc ZIr ZIz ZHB ZHn ZIA ZG9 ZG7 ZHa ZG3 ZHw ZHb ZIk ZGN ZIV ZHr ZIb ZIG ZHU ZGT ZHN ZHu ZG2 ZG1 ZIt ZHl ZH8 ZHX ZHv ZP8 ZH4 ZFq
attribute [go_sem] ZEN ZGy ZD8 ZGp ZEF ZDl ZDj ZFT ZEz ZGg ZE7 ZGt ZGa ZFM ZGj ZDz ZFw ZEs ZDn ZE0 ZGe ZP5 ZFX ZP7 ZP3 ZP6 ZP4 ZDY ZD1 ZEk ZDW ZEV ZFc ZFk ZEY ZFb ZDG ZFs ZFW ZE6
attribute [go_sem] ZE4 ZF5 ZE5 ZD9 ZDZ ZDT ZGz ZEW ZE1 ZEH ZFx ZtI ZAs ZwR ZzG Zz8 ZPT ZPI ZPU ZPJ ZPR ZvC ZBi Zyq ZPW ZPF ZPV
end
section
open Go.RowKit
set_option maxHeartbeats 1000000
theorem ZM6 (w:World) (A:Option Addr) (c:Nat):Calls Tryz.prog 24 #[.slice A 0 c] w fun e w'=>e=.returned (.slice none 0 0)∧w'=w:=by
 go_enter Tryz.func24,Tryz.ntmps24
 go_wp2
 go_loopw [3,8] (fun o i wr=>o=.slice none 0 0∧i=.int .i64 0∧wr=w) (fun _ _ _=>0)
 case atStart=>exact ⟨rfl,rfl,rfl⟩
 case round=>
  obtain ⟨rfl,rfl,rfl⟩:=hrel
  go_wp2
  go_ret
  exact ⟨rfl,rfl⟩
theorem ZNk (w:World) (A:Option Addr) (c:Nat):Calls Tryz.prog 23 #[.slice A 0 c] w fun e w'=>e=.returned (.bool true)∧w'=w:=by
 go_enter Tryz.func23,Tryz.ntmps23
 go_wp2
 go_loopw [10] (fun i wr=>i=.int .i64 0∧wr=w) (fun _ _=>0)
 case atStart=>exact ⟨rfl,rfl⟩
 case round=>
  obtain ⟨rfl,rfl⟩:=hrel
  go_wp2
  go_ret
  exact ⟨rfl,rfl⟩
theorem ZNa (w:World) (A:Option Addr) (c:Nat):Calls Tryz.prog 19 #[.slice A 0 c] w fun e w'=>e=.returned (.bool true)∧w'=w:=by
 go_enter Tryz.func19,Tryz.ntmps19
 go_wp2
 go_loopw [3] (fun i wr=>i=.int .i64 0∧wr=w) (fun _ _=>0)
 case atStart=>exact ⟨rfl,rfl⟩
 case round=>
  obtain ⟨rfl,rfl⟩:=hrel
  go_wp2
  go_ret
  exact ⟨rfl,rfl⟩
theorem ZNj (w:World) (A:Option Addr) (c:Nat):Calls Tryz.prog 20 #[.slice A 0 c] w fun e w'=>e=.returned (.slice (some ⟨w.heap.size,0,none⟩) 0 0)∧w'=w.alloc (.cells #[] 65):=by
 go_enter Tryz.func20,Tryz.ntmps20
 go_wp2
 go_loopw [3,4] (fun o i wr=>o=.slice (some ⟨w.heap.size,0,none⟩) 0 0∧i=.int .i64 0∧wr=w.alloc (.cells #[] 65)) (fun _ _ _=>0)
 case atStart=>exact ⟨rfl,rfl,rfl⟩
 case round=>
  obtain ⟨rfl,rfl,rfl⟩:=hrel
  go_wp2
  go_ret
  exact ⟨rfl,rfl⟩
def ZMR (v:Value):Array Value:=#[.int .i64 (-1),.int .i64 0,.string ⟨#[]⟩,.slice none 0 0,.string ⟨#[]⟩,.string ⟨#[]⟩,.int .i64 (-1),v]
def ZMA (r n:Value):Value:=.agg #[r,.slice none 0 0,.slice none 0 0,n,.slice none 0 0,.int .i64 0]
def ZNX (r:Value):Value:=.agg #[r,.slice none 0 0,.int .i64 0,.slice none 0 0,.bool false,.slice none 0 0]
theorem ZOa (w:World):Calls Tryz.prog 11 #[.slice none 0 0] w fun e w'=>e=.returned (.tuple #[ZNX (.slice none 0 0),.bool true])∧Below w.heap.size w w':=by
 go_enter Tryz.func11,Tryz.ntmps11
 go_wp2_with fail
 refine (ZNk _ _ _).mono ?_
 rintro e w1 ⟨rfl,rfl⟩
 go_wp2_with fail
 refine (ZM6 _ _ _).mono ?_
 rintro e w1 ⟨rfl,rfl⟩
 go_wp2_with fail
 refine bodyPost_ret (v:=.tuple #[ZNX (.slice none 0 0),.bool true]) (by simp [results,Tryz.results11,go_sem,ZNX]) rfl ?_
 exact ⟨rfl,Below.alloc (Below.refl _ _) (Nat.le_refl _) _⟩
theorem ZOb (w:World):Calls Tryz.prog 9 #[.slice none 0 0] w fun e w'=>e=.returned (.tuple #[ZNX (.slice (some ⟨w.heap.size+1,0,none⟩) 0 0),.bool true])∧Blk w' (w.heap.size+1) 65 #[]∧Below w.heap.size w w':=by
 go_enter Tryz.func9,Tryz.ntmps9
 go_wp2_with fail
 refine (ZNa _ _ _).mono ?_
 rintro e w1 ⟨rfl,rfl⟩
 go_wp2_with fail
 refine (ZNj _ _ _).mono ?_
 rintro e w1 ⟨rfl,rfl⟩
 go_wp2_with fail
 refine bodyPost_ret (v:=.tuple #[ZNX (.slice (some ⟨w.heap.size+1,0,none⟩) 0 0),.bool true]) (by simp [results,Tryz.results9,go_sem,ZNX]) rfl ?_
 exact ⟨rfl,Blk.new_at (by simp),Below.alloc (Below.alloc (Below.refl _ _) (Nat.le_refl _) _) (by simp) _⟩
theorem ZOM (w:World):Calls Tryz.prog 62 #[.slice none 0 0] w fun e w'=>e=.returned (ZMA (.slice none 0 0) (.slice (some ⟨w.heap.size+1,0,none⟩) 1 1))∧Blk w' (w.heap.size+1) 60 (ZMR (.slice none 0 0))∧Below w.heap.size w w':=by
 go_enter Tryz.func62,Tryz.ntmps62
 go_wp2_with fail
 refine (ZM6 _ _ _).mono ?_
 rintro e w1 ⟨rfl,rfl⟩
 go_wp2_with fail
 go_loopw [16] (fun i wr=>i=.int .i64 0∧wr=(((w.alloc (.cells #[.slice none 0 0,.slice none 0 0,.slice none 0 0,.slice none 0 0,.slice none 0 0,.int .i64 0] 33)).alloc (.cells #[.int .i64 (-1),.int .i64 0,.string ⟨#[]⟩,.slice none 0 0,.string ⟨#[]⟩,.string ⟨#[]⟩,.int .i64 (-1),.slice none 0 0] 60))).alloc (.cells #[.slice none 0 0,.slice none 0 0,.slice none 0 0,.slice (some ⟨w.heap.size+1,0,none⟩) 1 1,.slice none 0 0,.int .i64 0] 33)) (fun _ _=>0)
 case atStart=>exact ⟨rfl,rfl⟩
 case round=>
  obtain ⟨rfl,rfl⟩:=hrel
  go_wp2
  refine bodyPost_ret (v:=ZMA (.slice none 0 0) (.slice (some ⟨w.heap.size+1,0,none⟩) 1 1)) (by simp [results,Tryz.results62,go_sem,ZMA]) rfl ?_
  exact ⟨rfl,Blk.alloc (Blk.new_at (by simp)) _,Below.alloc (Below.alloc (Below.alloc (Below.refl _ _) (Nat.le_refl _) _) (by simp) _) (by simp;omega) _⟩
theorem ZN8 (w:World) (A:Option Addr) (c:Nat):Calls Tryz.prog 108 #[.slice A 0 c] w fun e w'=>e=.returned (.slice none 0 0)∧w'=w:=by
 go_enter Tryz.func108,Tryz.ntmps108
 go_wp2
 go_loopw [3,8] (fun o i wr=>o=.slice none 0 0∧i=.int .i64 0∧wr=w) (fun _ _ _=>0)
 case atStart=>exact ⟨rfl,rfl,rfl⟩
 case round=>
  obtain ⟨rfl,rfl,rfl⟩:=hrel
  go_wp2
  go_ret
  exact ⟨rfl,rfl⟩
theorem ZPK (w:World) (A B:Option Addr) (c d:Nat):Calls Tryz.prog 110 #[.slice A 0 c,.slice B 0 d] w fun e w'=>e=.returned (.slice (some ⟨w.heap.size,0,none⟩) 1 1)∧w'=w.alloc (.cells #[.slice none 0 0,.slice none 0 0] 52):=by
 go_enter Tryz.func110,Tryz.ntmps110
 go_wp2
 go_loopw [5,19] (fun o i wr=>o=.slice (some ⟨w.heap.size,0,none⟩) 1 1∧i=.int .i64 0∧wr=w.alloc (.cells #[.slice none 0 0,.slice none 0 0] 52)) (fun _ _ _=>0)
 case atStart=>exact ⟨rfl,rfl,rfl⟩
 case round=>
  obtain ⟨rfl,rfl,rfl⟩:=hrel
  go_wp2
  go_ret
  exact ⟨rfl,rfl⟩
theorem ZPY (w:World) (cs:Array Value):Calls Tryz.prog 111 #[.agg cs,.int .i64 0] w fun e w'=>e=.returned (.slice none 0 0)∧Below w.heap.size w w':=by
 go_enter Tryz.func111,Tryz.ntmps111
 go_wp2
 go_ret
 exact ⟨rfl,Below.alloc (Below.refl _ _) (Nat.le_refl _) _⟩
theorem ZP1 {w w1:World} (h:Below w.drew.heap.size w.drew w1):Below w.heap.size w w1:=⟨h.os,h.tape,h.output,h.size,fun k hk=>h.block k hk⟩
structure NdQ (w:World) (b g:Nat) (v:Value) (wr:World):Prop where
 box:Blk wr b 33 #[.slice none 0 0,.slice none 0 0,.slice none 0 0,.slice (some ⟨g,0,none⟩) 1 1,.slice none 0 0,.int .i64 0]
 node:Blk wr g 60 #[.int .i64 (-1),.int .i64 0,.string ⟨#[]⟩,.slice none 0 0,.string ⟨#[]⟩,.string ⟨#[]⟩,.int .i64 (-1),v]
 only:ZLq [b,g] w wr
theorem NdQ.later {w:World} {b g:Nat} {v:Value} {wr w2:World} (h:NdQ w b g v wr) (hb:Below wr.heap.size wr w2):NdQ w b g v w2:=⟨h.box.later hb,h.node.later hb,h.only.trans (ZLq.of_below hb _)⟩
theorem ZPX (w:World) (b g:Nat) (hbg:b≠g) (h:NdQ w b g (.slice none 0 0) w):Calls Tryz.prog 63 #[.pointer (some ⟨b,0,none⟩),.slice none 0 0] w fun e w'=>e=.returned (.tuple #[])∧∃k,w.heap.size≤k∧NdQ w b g (.slice (some ⟨k,0,none⟩) 1 1) w'∧Blk w' k 52 #[.slice none 0 0,.slice none 0 0]:=by
 have H:=Lib.hid h
 clear h
 have f0:=H.out.box.at (i:=0) rfl
 have f1:=H.out.box.at (i:=1) rfl
 have f2:=H.out.box.at (i:=2) rfl
 have f3:=H.out.box.at (i:=3) rfl
 have f4:=H.out.box.at (i:=4) rfl
 have f5:=H.out.box.at (i:=5) rfl
 have z4:=H.out.box.frozen 4
 go_enter Tryz.func63,Tryz.ntmps63
 go_wp2_with fail
 refine (ZN8 _ _ _).mono ?_
 rintro e w1 ⟨rfl,rfl⟩
 go_wp2
 have HQ1:Hid (NdQ w1 b g (.slice none 0 0) (w1.setCell ⟨b,4,none⟩ (.slice none 0 0))):=⟨by have:=Blk.set_ H.out.box 4 (.slice none 0 0);exact this,Blk.far H.out.node (Ne.symm hbg) _,H.out.only.setCell (by simp) _⟩
 generalize hW:w1.setCell ⟨b,4,none⟩ (.slice none 0 0)=W1 at HQ1 ⊢
 clear hW f0 f1 f2 f3 f4 f5 z4
 go_loopw [16] (fun i wr=>i=.int .i64 0∧wr=W1) (fun _ _=>0)
 case atStart=>exact ⟨rfl,rfl⟩
 case round=>
  obtain ⟨rfl,rfl⟩:=hrel
  have f0:=HQ1.out.box.at (i:=0) rfl
  have f1:=HQ1.out.box.at (i:=1) rfl
  have f2:=HQ1.out.box.at (i:=2) rfl
  have f3:=HQ1.out.box.at (i:=3) rfl
  have f4:=HQ1.out.box.at (i:=4) rfl
  have f5:=HQ1.out.box.at (i:=5) rfl
  go_wp2
  clear f0 f1 f2 f3 f4 f5
  go_loopw [42] (fun i wr=>(i=.int .i64 0∧Hid (NdQ w1 b g (.slice none 0 0) wr))∨(i=.int .i64 1∧Hid (∃k,w1.heap.size≤k∧NdQ w1 b g (.slice (some ⟨k,0,none⟩) 1 1) wr∧Blk wr k 52 #[.slice none 0 0,.slice none 0 0]))) (fun i _=>1 - (intOf i).toNat)
  case atStart=>exact .inl ⟨rfl,HQ1⟩
  case round=>
   clear HQ1
   rcases hrel with ⟨rfl,HQ⟩ | ⟨rfl,HQ⟩
   ·have f0:=HQ.out.box.at (i:=0) rfl
    have f1:=HQ.out.box.at (i:=1) rfl
    have f2:=HQ.out.box.at (i:=2) rfl
    have f3:=HQ.out.box.at (i:=3) rfl
    have f4:=HQ.out.box.at (i:=4) rfl
    have f5:=HQ.out.box.at (i:=5) rfl
    have n7:=HQ.out.node.at (i:=7) rfl
    have m7:=HQ.out.node.frozen 7
    go_wp2
    go_region_held3 (fun W=>W.cell? ⟨b,0,none⟩=some (.slice none 0 0)∧W.cell? ⟨b,1,none⟩=some (.slice none 0 0)∧W.cell? ⟨b,2,none⟩=some (.slice none 0 0)∧W.cell? ⟨b,3,none⟩=some (.slice (some ⟨g,0,none⟩) 1 1)∧W.cell? ⟨b,4,none⟩=some (.slice none 0 0)∧W.cell? ⟨b,5,none⟩=some (.int .i64 0)) (first | exact ⟨f0,f1,f2,f3,f4,f5⟩ | exact ⟨r0,r1,r2,r3,r4,r5⟩ | exact ⟨(Blk.far HQ3.box hbg _).at (i:=0) rfl,(Blk.far HQ3.box hbg _).at (i:=1) rfl,(Blk.far HQ3.box hbg _).at (i:=2) rfl,(Blk.far HQ3.box hbg _).at (i:=3) rfl,(Blk.far HQ3.box hbg _).at (i:=4) rfl,(Blk.far HQ3.box hbg _).at (i:=5) rfl⟩) (first | (go_at_call 111;refine (ZPY _ _).mono ?_;rintro e w2 ⟨rfl,hb⟩;have HQ2:=HQ.out.later (ZP1 hb);have r0:=HQ2.box.at (i:=0) rfl;have r1:=HQ2.box.at (i:=1) rfl;have r2:=HQ2.box.at (i:=2) rfl;have r3:=HQ2.box.at (i:=3) rfl;have r4:=HQ2.box.at (i:=4) rfl;have r5:=HQ2.box.at (i:=5) rfl;have r7:=HQ2.node.at (i:=7) rfl;have s7:=HQ2.node.frozen 7) | (go_at_call 110;refine (ZPK _ _ _ _ _).mono ?_;rintro e w3 ⟨rfl,rfl⟩;have hb3:Below w2.heap.size w2 (w2.alloc (.cells #[.slice none 0 0,.slice none 0 0] 52)):=Below.alloc (Below.refl _ _) (Nat.le_refl _) _;have HQ3:=HQ2.later hb3;have r0:=HQ3.box.at (i:=0) rfl;have r1:=HQ3.box.at (i:=1) rfl;have r2:=HQ3.box.at (i:=2) rfl;have r3:=HQ3.box.at (i:=3) rfl;have r4:=HQ3.box.at (i:=4) rfl;have r5:=HQ3.box.at (i:=5) rfl;have r7:=HQ3.node.at (i:=7) rfl;have s7:=HQ3.node.frozen 7))
    go_wp2
    exact ⟨.inr ⟨rfl,w2.heap.size,HQ2.only.size,⟨Blk.far HQ3.box hbg _,Blk.set_ HQ3.node 7 _,HQ3.only.setCell (by simp) _⟩,Blk.far (Blk.new w2 52 _) (by have:=HQ2.node.lt;dsimp only;omega) _⟩,by simp [intOf]⟩
   ·go_wp2
    exact bodyPost_end (v:=.tuple #[]) (by simp [results,Tryz.results63]) rfl ⟨rfl,HQ.out⟩
theorem ZPS (w:World):Calls Tryz.prog 25 #[.slice none 0 0,.slice none 0 0,.int .i64 0] w fun e w'=>∃g k,w.heap.size≤g∧g<k∧e=.returned (ZMA (.slice none 0 0) (.slice (some ⟨g,0,none⟩) 1 1))∧Blk w' g 60 (ZMR (.slice (some ⟨k,0,none⟩) 1 1))∧Blk w' k 52 #[.slice none 0 0,.slice none 0 0]∧Below w.heap.size w w':=by
 go_enter Tryz.func25,Tryz.ntmps25
 go_wp2_with fail
 refine (ZOM _).mono ?_
 rintro e w1 ⟨rfl,hk,hb⟩
 simp only [ZMA]
 go_wp2_with fail
 have hs1:=hb.size
 have hs2:=hk.lt
 have hK0:Blk w1 w.heap.size 33 #[.slice none 0 0,.slice none 0 0,.slice none 0 0,.slice none 0 0,.slice none 0 0,.int .i64 0]:=(Blk.new w 33 _).later hb
 have hB1:Below w.heap.size w w1:=Below.trans (Below.alloc (Below.refl _ _) (Nat.le_refl _) _) (hb.mono (by simp))
 simp only [World.alloc,Array.size_push] at hs1 hs2
 have hq:NdQ (w1.alloc (.cells #[.slice none 0 0,.slice none 0 0,.slice none 0 0,.slice (some ⟨w.heap.size+1+1,0,none⟩) 1 1,.slice none 0 0,.int .i64 0] 33)) w1.heap.size (w.heap.size+1+1) (.slice none 0 0) (w1.alloc (.cells #[.slice none 0 0,.slice none 0 0,.slice none 0 0,.slice (some ⟨w.heap.size+1+1,0,none⟩) 1 1,.slice none 0 0,.int .i64 0] 33)):=⟨Blk.new _ _ _,by have:=Blk.alloc hk (.cells #[.slice none 0 0,.slice none 0 0,.slice none 0 0,.slice (some ⟨w.heap.size+1+1,0,none⟩) 1 1,.slice none 0 0,.int .i64 0] 33);simpa [ZMR] using this,ZLq.refl _ _⟩
 have HB1:=Lib.hid hB1
 have HK0:=Lib.hid hK0
 clear hB1 hK0 hk hb
 refine (ZPX _ w1.heap.size (w.heap.size+1+1) (by omega) hq).mono ?_
 rintro e w2 ⟨rfl,k,hk0,hQ,hT⟩
 have HQ:=Lib.hid hQ
 have HT:=Lib.hid hT
 have HK:Hid (Blk w2 w.heap.size 33 #[.slice none 0 0,.slice none 0 0,.slice none 0 0,.slice none 0 0,.slice none 0 0,.int .i64 0]):=(hQ.only.block _ (by simp;omega) (by simp;omega)).trans (Blk.alloc HK0.out _)
 have HB:Hid (Below w.heap.size w w2):=Below.trans (Below.alloc HB1.out (by omega) _) (hQ.only.below (by simp;omega) (by simp;omega))
 have hk1:w1.heap.size+1≤k:=by simpa using hk0
 clear hQ hT hq hk0
 have f0:=HQ.out.box.at (i:=0) rfl
 have f1:=HQ.out.box.at (i:=1) rfl
 have f2:=HQ.out.box.at (i:=2) rfl
 have f3:=HQ.out.box.at (i:=3) rfl
 have f4:=HQ.out.box.at (i:=4) rfl
 have f5:=HQ.out.box.at (i:=5) rfl
 have r0:=HK.out.at (i:=0) rfl
 have r1:=HK.out.at (i:=1) rfl
 have r2:=HK.out.at (i:=2) rfl
 have r3:=HK.out.at (i:=3) rfl
 have r4:=HK.out.at (i:=4) rfl
 have r5:=HK.out.at (i:=5) rfl
 have z0:=HK.out.frozen 0
 have z1:=HK.out.frozen 1
 have z2:=HK.out.frozen 2
 have z3:=HK.out.frozen 3
 have z4:=HK.out.frozen 4
 have z5:=HK.out.frozen 5
 have y5:=HQ.out.box.frozen 5
 go_wp2_with fail
 refine bodyPost_ret (v:=ZMA (.slice none 0 0) (.slice (some ⟨w.heap.size+1+1,0,none⟩) 1 1)) (by simp [results,Tryz.results25,go_sem,ZMA,r0,r1,r2,r3,r4,r5]) rfl ?_
 have hw1:w.heap.size+1+1<w1.heap.size:=hs2
 exact ⟨_,k,by omega,by omega,rfl,by repeat (first | refine Blk.far ?_ (by dsimp only;omega) _ | exact HQ.out.node),by repeat (first | refine Blk.far ?_ (by dsimp only;omega) _ | exact HT.out),by repeat (first | refine Below.setCell ?_ (by dsimp only;omega) _ | exact HB.out)⟩
theorem ZNz (w:World):Calls Tryz.prog 12 #[.slice none 0 0] w fun e w'=>∃g k,w.heap.size≤g∧g<k∧e=.returned (.tuple #[ZMA (.slice none 0 0) (.slice (some ⟨g,0,none⟩) 1 1),.bool true])∧Blk w' g 60 (ZMR (.slice (some ⟨k,0,none⟩) 1 1))∧Blk w' k 52 #[.slice none 0 0,.slice none 0 0]∧Below w.heap.size w w':=by
 go_enter Tryz.func12,Tryz.ntmps12
 go_wp2_with fail
 refine (ZNk _ _ _).mono ?_
 rintro e w1 ⟨rfl,rfl⟩
 go_wp2_with fail
 refine (ZPS _).mono ?_
 rintro e w1 ⟨g,k,hg0,hg1,rfl,hg,hk,hb⟩
 simp only [World.alloc,Array.size_push] at hg0
 have hb2:=hb.size
 simp only [World.alloc,Array.size_push] at hb2
 have HK:Hid (Blk w1 w.heap.size 33 #[.slice none 0 0,.slice none 0 0,.slice none 0 0,.slice none 0 0,.slice none 0 0,.int .i64 0]):=(Blk.new w 33 _).later hb
 have HB:Hid (Below w.heap.size w w1):=Below.trans (Below.alloc (Below.refl _ _) (Nat.le_refl _) _) (hb.mono (by simp))
 have HG:=Lib.hid hg
 have HT:=Lib.hid hk
 clear hb hg hk
 simp only [ZMA]
 have r0:=HK.out.at (i:=0) rfl
 have r1:=HK.out.at (i:=1) rfl
 have r2:=HK.out.at (i:=2) rfl
 have r3:=HK.out.at (i:=3) rfl
 have r4:=HK.out.at (i:=4) rfl
 have r5:=HK.out.at (i:=5) rfl
 have z0:=HK.out.frozen 0
 have z1:=HK.out.frozen 1
 have z2:=HK.out.frozen 2
 have z3:=HK.out.frozen 3
 have z4:=HK.out.frozen 4
 have z5:=HK.out.frozen 5
 go_wp2_with fail
 refine bodyPost_ret (v:=.tuple #[ZMA (.slice none 0 0) (.slice (some ⟨g,0,none⟩) 1 1),.bool true]) (by simp [results,Tryz.results12,go_sem,ZMA,r0,r1,r2,r3,r4,r5]) rfl ?_
 exact ⟨g,k,by omega,hg1,rfl,by repeat (first | refine Blk.far ?_ (by dsimp only;omega) _ | exact HG.out),by repeat (first | refine Blk.far ?_ (by dsimp only;omega) _ | exact HT.out),by repeat (first | refine Below.setCell ?_ (by dsimp only;omega) _ | exact HB.out)⟩
theorem ZNC (w:World):Calls Tryz.prog 10 #[.slice none 0 0] w fun e w'=>∃r g k,w.heap.size≤r∧r<k∧k<g∧e=.returned (.tuple #[ZMA (.slice (some ⟨r,0,none⟩) 0 0) (.slice (some ⟨g,0,none⟩) 1 1),.bool true])∧Blk w' r 65 #[]∧Blk w' g 60 (ZMR (.slice (some ⟨k,0,none⟩) 1 1))∧Blk w' k 52 #[.slice none 0 0,.slice none 0 0]∧Below w.heap.size w w':=by
 go_enter Tryz.func10,Tryz.ntmps10
 go_wp2_with fail
 refine (ZNa _ _ _).mono ?_
 rintro e w1 ⟨rfl,rfl⟩
 go_wp2_with fail
 refine (ZNj _ _ _).mono ?_
 rintro e w1 ⟨rfl,rfl⟩
 go_wp2_with fail
 go_loopw [5] (fun i wr=>i=.int .i64 0∧wr=(((((w.alloc (.cells #[.slice none 0 0,.slice none 0 0,.slice none 0 0,.slice none 0 0,.slice none 0 0,.int .i64 0] 33)).alloc (.cells #[] 65)).alloc (.cells #[.slice none 0 0,.slice none 0 0] 52)).alloc (.cells #[.int .i64 (-1),.int .i64 0,.string ⟨#[]⟩,.slice none 0 0,.string ⟨#[]⟩,.string ⟨#[]⟩,.int .i64 (-1),.slice (some ⟨w.heap.size+1+1,0,none⟩) 1 1] 60)).alloc (.cells #[.slice (some ⟨w.heap.size+1,0,none⟩) 0 0,.slice none 0 0,.slice none 0 0,.slice (some ⟨w.heap.size+1+1+1,0,none⟩) 1 1,.slice none 0 0,.int .i64 0] 33))) (fun _ _=>0)
 case atStart=>exact ⟨rfl,rfl⟩
 case round=>
  obtain ⟨rfl,rfl⟩:=hrel
  go_wp2
  refine bodyPost_ret (v:=.tuple #[ZMA (.slice (some ⟨w.heap.size+1,0,none⟩) 0 0) (.slice (some ⟨w.heap.size+1+1+1,0,none⟩) 1 1),.bool true]) (by simp [results,Tryz.results10,go_sem,ZMA]) rfl ?_
  exact ⟨w.heap.size+1,w.heap.size+1+1+1,w.heap.size+1+1,by omega,by omega,by omega,rfl,Blk.alloc (Blk.alloc (Blk.alloc (Blk.new_at (by simp)) _) _) _,Blk.alloc (Blk.new_at (by simp)) _,Blk.alloc (Blk.alloc (Blk.new_at (by simp)) _) _,Below.alloc (Below.alloc (Below.alloc (Below.alloc (Below.alloc (Below.refl _ _) (Nat.le_refl _) _) (by simp) _) (by simp;omega) _) (by simp;omega) _) (by simp;omega) _⟩
def ZNA (re rn n:Value):Value:=.agg #[re,.slice none 0 0,.int .i64 0,.slice none 0 0,.bool false,.slice none 0 0,rn,.slice none 0 0,.slice none 0 0,n,.slice none 0 0,.int .i64 0]
theorem ZN7 (w:World):Calls Tryz.prog 5 #[] w fun e w'=>∃g k,w.heap.size≤g∧g<k∧e=.returned (ZNA (.slice none 0 0) (.slice none 0 0) (.slice (some ⟨g,0,none⟩) 1 1))∧Blk w' g 60 (ZMR (.slice (some ⟨k,0,none⟩) 1 1))∧Blk w' k 52 #[.slice none 0 0,.slice none 0 0]∧Below w.heap.size w w':=by
 go_enter Tryz.func5,Tryz.ntmps5
 go_wp2_with fail
 refine (ZOa _).mono ?_
 rintro e w1 ⟨rfl,hb⟩
 have hb2:=hb.size
 simp only [World.alloc,Array.size_push] at hb2
 have HK:Hid (Blk w1 w.heap.size 35 #[.slice none 0 0,.slice none 0 0,.int .i64 0,.slice none 0 0,.bool false,.slice none 0 0,.slice none 0 0,.slice none 0 0,.slice none 0 0,.slice none 0 0,.slice none 0 0,.int .i64 0]):=(Blk.new w 35 _).later hb
 have HB:Hid (Below w.heap.size w w1):=Below.trans (Below.alloc (Below.refl _ _) (Nat.le_refl _) _) (hb.mono (by simp))
 clear hb
 simp only [ZNX]
 go_wp2_with fail
 refine (ZNz _).mono ?_
 rintro e w2 ⟨g,k,hg0,hg1,rfl,hg,hk,hb⟩
 have hb3:=hb.size
 simp only [World.alloc,Array.size_push] at hg0 hb3
 have HE:Hid (Blk w2 w1.heap.size 27 #[.slice none 0 0,.slice none 0 0,.int .i64 0,.slice none 0 0,.bool false,.slice none 0 0]):=(Blk.new w1 27 _).later hb
 have HK2:Hid (Blk w2 w.heap.size 35 #[.slice none 0 0,.slice none 0 0,.int .i64 0,.slice none 0 0,.bool false,.slice none 0 0,.slice none 0 0,.slice none 0 0,.slice none 0 0,.slice none 0 0,.slice none 0 0,.int .i64 0]):=(Blk.alloc HK.out _).later hb
 have HB2:Hid (Below w.heap.size w w2):=Below.trans (Below.alloc HB.out (by omega) _) (hb.mono (by simp;omega))
 have HG:=Lib.hid hg
 have HT:=Lib.hid hk
 clear hb hg hk
 simp only [ZMA]
 have HE2:=Lib.hid (Blk.alloc HE.out (.cells #[.slice none 0 0,.slice none 0 0,.slice none 0 0,.slice (some ⟨g,0,none⟩) 1 1,.slice none 0 0,.int .i64 0] 33))
 have HK3:=Lib.hid (Blk.alloc HK2.out (.cells #[.slice none 0 0,.slice none 0 0,.slice none 0 0,.slice (some ⟨g,0,none⟩) 1 1,.slice none 0 0,.int .i64 0] 33))
 have f0:=HE2.out.at (i:=0) rfl
 have f1:=HE2.out.at (i:=1) rfl
 have f2:=HE2.out.at (i:=2) rfl
 have f3:=HE2.out.at (i:=3) rfl
 have f4:=HE2.out.at (i:=4) rfl
 have f5:=HE2.out.at (i:=5) rfl
 have r0:=HK3.out.at (i:=0) rfl
 have r1:=HK3.out.at (i:=1) rfl
 have r2:=HK3.out.at (i:=2) rfl
 have r3:=HK3.out.at (i:=3) rfl
 have r4:=HK3.out.at (i:=4) rfl
 have r5:=HK3.out.at (i:=5) rfl
 have r6:=HK3.out.at (i:=6) rfl
 have r7:=HK3.out.at (i:=7) rfl
 have r8:=HK3.out.at (i:=8) rfl
 have r9:=HK3.out.at (i:=9) rfl
 have r10:=HK3.out.at (i:=10) rfl
 have r11:=HK3.out.at (i:=11) rfl
 have z0:=HK3.out.frozen 0
 have z1:=HK3.out.frozen 1
 have z2:=HK3.out.frozen 2
 have z3:=HK3.out.frozen 3
 have z4:=HK3.out.frozen 4
 have z5:=HK3.out.frozen 5
 have z6:=HK3.out.frozen 6
 have z7:=HK3.out.frozen 7
 have z8:=HK3.out.frozen 8
 have z9:=HK3.out.frozen 9
 have z10:=HK3.out.frozen 10
 have z11:=HK3.out.frozen 11
 go_wp2_with fail
 refine bodyPost_ret (v:=ZNA (.slice none 0 0) (.slice none 0 0) (.slice (some ⟨g,0,none⟩) 1 1)) (by simp [results,Tryz.results5,go_sem,ZNA,r0,r1,r2,r3,r4,r5,r6,r7,r8,r9,r10,r11]) rfl ?_
 exact ⟨g,k,by omega,hg1,rfl,by repeat (first | refine Blk.far ?_ (by dsimp only;omega) _ | refine Blk.alloc ?_ _ | exact HG.out),by repeat (first | refine Blk.far ?_ (by dsimp only;omega) _ | refine Blk.alloc ?_ _ | exact HT.out),by repeat (first | refine Below.setCell ?_ (by dsimp only;omega) _ | refine Below.alloc ?_ (by omega) _ | exact HB2.out)⟩
theorem ZN5 (w:World):Calls Tryz.prog 4 #[] w fun e w'=>∃p r g k,w.heap.size≤k∧k<g∧e=.returned (ZNA (.slice (some ⟨p,0,none⟩) 0 0) (.slice (some ⟨r,0,none⟩) 0 0) (.slice (some ⟨g,0,none⟩) 1 1))∧Blk w' g 60 (ZMR (.slice (some ⟨k,0,none⟩) 1 1))∧Blk w' k 52 #[.slice none 0 0,.slice none 0 0]∧Below w.heap.size w w':=by
 go_enter Tryz.func4,Tryz.ntmps4
 go_wp2_with fail
 refine (ZOb _).mono ?_
 rintro e w1 ⟨rfl,hp,hb⟩
 generalize (w.alloc (.cells #[.slice none 0 0,.slice none 0 0,.int .i64 0,.slice none 0 0,.bool false,.slice none 0 0,.slice none 0 0,.slice none 0 0,.slice none 0 0,.slice none 0 0,.slice none 0 0,.int .i64 0] 35)).heap.size+1=p at hp ⊢
 clear hp
 have hb2:=hb.size
 simp only [World.alloc,Array.size_push] at hb2
 have HK:Hid (Blk w1 w.heap.size 35 #[.slice none 0 0,.slice none 0 0,.int .i64 0,.slice none 0 0,.bool false,.slice none 0 0,.slice none 0 0,.slice none 0 0,.slice none 0 0,.slice none 0 0,.slice none 0 0,.int .i64 0]):=(Blk.new w 35 _).later hb
 have HB:Hid (Below w.heap.size w w1):=Below.trans (Below.alloc (Below.refl _ _) (Nat.le_refl _) _) (hb.mono (by simp))
 clear hb
 simp only [ZNX]
 go_wp2_with fail
 refine (ZNC _).mono ?_
 rintro e w2 ⟨r,g,k,hr0,hr1,hg1,rfl,-,hg,hk,hb⟩
 have hg0:=Nat.le_of_lt (Nat.lt_of_le_of_lt hr0 hr1)
 have hb3:=hb.size
 simp only [World.alloc,Array.size_push] at hg0 hb3
 have HE:Hid (Blk w2 w1.heap.size 27 #[.slice (some ⟨p,0,none⟩) 0 0,.slice none 0 0,.int .i64 0,.slice none 0 0,.bool false,.slice none 0 0]):=(Blk.new w1 27 _).later hb
 have HK2:Hid (Blk w2 w.heap.size 35 #[.slice none 0 0,.slice none 0 0,.int .i64 0,.slice none 0 0,.bool false,.slice none 0 0,.slice none 0 0,.slice none 0 0,.slice none 0 0,.slice none 0 0,.slice none 0 0,.int .i64 0]):=(Blk.alloc HK.out _).later hb
 have HB2:Hid (Below w.heap.size w w2):=Below.trans (Below.alloc HB.out (by omega) _) (hb.mono (by simp;omega))
 have HG:=Lib.hid hg
 have HT:=Lib.hid hk
 clear hb hg hk
 simp only [ZMA]
 have HE2:=Lib.hid (Blk.alloc HE.out (.cells #[.slice (some ⟨r,0,none⟩) 0 0,.slice none 0 0,.slice none 0 0,.slice (some ⟨g,0,none⟩) 1 1,.slice none 0 0,.int .i64 0] 33))
 have HK3:=Lib.hid (Blk.alloc HK2.out (.cells #[.slice (some ⟨r,0,none⟩) 0 0,.slice none 0 0,.slice none 0 0,.slice (some ⟨g,0,none⟩) 1 1,.slice none 0 0,.int .i64 0] 33))
 have f0:=HE2.out.at (i:=0) rfl
 have f1:=HE2.out.at (i:=1) rfl
 have f2:=HE2.out.at (i:=2) rfl
 have f3:=HE2.out.at (i:=3) rfl
 have f4:=HE2.out.at (i:=4) rfl
 have f5:=HE2.out.at (i:=5) rfl
 have r0:=HK3.out.at (i:=0) rfl
 have r1:=HK3.out.at (i:=1) rfl
 have r2:=HK3.out.at (i:=2) rfl
 have r3:=HK3.out.at (i:=3) rfl
 have r4:=HK3.out.at (i:=4) rfl
 have r5:=HK3.out.at (i:=5) rfl
 have r6:=HK3.out.at (i:=6) rfl
 have r7:=HK3.out.at (i:=7) rfl
 have r8:=HK3.out.at (i:=8) rfl
 have r9:=HK3.out.at (i:=9) rfl
 have r10:=HK3.out.at (i:=10) rfl
 have r11:=HK3.out.at (i:=11) rfl
 have z0:=HK3.out.frozen 0
 have z1:=HK3.out.frozen 1
 have z2:=HK3.out.frozen 2
 have z3:=HK3.out.frozen 3
 have z4:=HK3.out.frozen 4
 have z5:=HK3.out.frozen 5
 have z6:=HK3.out.frozen 6
 have z7:=HK3.out.frozen 7
 have z8:=HK3.out.frozen 8
 have z9:=HK3.out.frozen 9
 have z10:=HK3.out.frozen 10
 have z11:=HK3.out.frozen 11
 go_wp2_with fail
 refine bodyPost_ret (v:=ZNA (.slice (some ⟨p,0,none⟩) 0 0) (.slice (some ⟨r,0,none⟩) 0 0) (.slice (some ⟨g,0,none⟩) 1 1)) (by simp [results,Tryz.results4,go_sem,ZNA,r0,r1,r2,r3,r4,r5,r6,r7,r8,r9,r10,r11]) rfl ?_
 exact ⟨p,r,g,k,by omega,hg1,rfl,by repeat (first | refine Blk.far ?_ (by dsimp only;omega) _ | refine Blk.alloc ?_ _ | exact HG.out),by repeat (first | refine Blk.far ?_ (by dsimp only;omega) _ | refine Blk.alloc ?_ _ | exact HT.out),by repeat (first | refine Below.setCell ?_ (by dsimp only;omega) _ | refine Below.alloc ?_ (by omega) _ | exact HB2.out)⟩
def ZAT:Zw:={ facts:=[],binding:=[] }
def ZP2:ZMe:={ parent:=-1,cond:={ kind:=0,pattern:={ rel:=⟨#[]⟩,args:=[] },left:=⟨#[]⟩,right:=⟨#[]⟩ },alpha:=-1,tokens:=[ZAT] }
def ZPO:ZMq:={ engine:={ rules:=[],memory:=[],clock:=0,fired:=[],halted:=false,log:=[] },network:={ rules:=[],ends:=[],alphas:=[],nodes:=[ZP2],facts:=[],tries:=0 } }
def ZOY:Option ZMq:=some ZPO
def ZO0:Option ZMq:=some ZPO
theorem ZOZ {w:World} {g:Nat} {t:TypeId} {cs:Array Value} (h:Blk w g t cs) {xs:List Value} (e:xs=cs.toList):ZbE w g 0 xs:=by
 subst e
 intro i v hv
 rw [Nat.zero_add]
 exact h.at (by simpa using hv)
theorem ZPE {w w':World} {A B:Option Addr} {g k:Nat} (hg:w.heap.size≤g) (hk:w.heap.size≤k) (hne:g≠k) (h1:Blk w' g 60 (ZMR (.slice (some ⟨k,0,none⟩) 1 1))) (h2:Blk w' k 52 #[.slice none 0 0,.slice none 0 0]) (hb:Below w.heap.size w w'):ZIj ZNR w ZPO (.returned (ZNA (.slice A 0 0) (.slice B 0 0) (.slice (some ⟨g,0,none⟩) 1 1))) w':=by
 have hm:(1:Nat)≤maxLen:=by unfold maxLen;omega
 have ht:Sli ZlR w' (some ⟨k,0,none⟩) [ZAT] [k]:=⟨[.slice none 0 0,.slice none 0 0],[k],[],rfl,⟨rfl,.inr ⟨by simp,k,0,rfl,rfl,ZOZ h2 rfl⟩⟩,[.slice none 0 0,.slice none 0 0],[],[],[],rfl,rfl,⟨none,0,[],none,0,[],rfl,rfl,Nat.le_refl _,Nat.zero_le _,Sli.nil _ _,Nat.le_refl _,Nat.zero_le _,Sli.nil _ _⟩,rfl,rfl⟩
 have hn:Sli ZMg w' (some ⟨g,0,none⟩) [ZP2] [g,k]:=⟨(ZMR (.slice (some ⟨k,0,none⟩) 1 1)).toList,[g],[k],rfl,⟨rfl,.inr ⟨by simp,g,0,rfl,rfl,ZOZ h1 rfl⟩⟩,(ZMR (.slice (some ⟨k,0,none⟩) 1 1)).toList,[],[k],[],rfl,rfl,⟨none,0,[],some ⟨k,0,none⟩,1,[k],rfl,rfl,by decide,by decide,by decide,Nat.le_refl _,Nat.zero_le _,Sli.nil _ _,Nat.le_refl _,hm,ht⟩,rfl,rfl⟩
 refine ⟨[.slice A 0 0,.slice none 0 0,.int .i64 0,.slice none 0 0,.bool false,.slice none 0 0,.slice B 0 0,.slice none 0 0,.slice none 0 0,.slice (some ⟨g,0,none⟩) 1 1,.slice none 0 0,.int .i64 0],[g,k],rfl,⟨⟨A,0,[],none,0,[],none,0,[],none,0,[],B,0,[],none,0,[],none,0,[],some ⟨g,0,none⟩,1,[g,k],none,0,[],rfl,rfl,Nat.le_refl _,Nat.zero_le _,Sli.nil _ _,Nat.le_refl _,Nat.zero_le _,Sli.nil _ _,Nat.le_refl _,Nat.zero_le _,Sli.nil _ _,Nat.le_refl _,Nat.zero_le _,Sli.nil _ _,Nat.le_refl _,Nat.zero_le _,Sli.nil _ _,Nat.le_refl _,Nat.zero_le _,Sli.nil _ _,Nat.le_refl _,Nat.zero_le _,Sli.nil _ _,Nat.le_refl _,hm,hn,Nat.le_refl _,Nat.zero_le _,Sli.nil _ _⟩,?_⟩,hb⟩
 refine ⟨by simp [hne],fun b m=>?_,fun b m=>?_⟩
 ·simp at m;rcases m with rfl | rfl
  ·exact hg
  ·exact hk
 ·simp at m;rcases m with rfl | rfl
  ·exact ⟨_,_,h1⟩
  ·exact ⟨_,_,h2⟩
theorem ZOW:∃r,ZOY=some r∧ZO0=some r∧ZOk r≤1048576:=⟨ZPO,rfl,rfl,by decide⟩
theorem ZNQ {r:ZMq} (hh:ZO0=some r) (w:World) (_:J0 w):Calls Tryz.prog 5 #[] w (ZIj ZNR w r):=by
 obtain rfl:=Option.some.inj hh
 refine (ZN7 w).mono ?_
 rintro e w' ⟨g,k,h1,h2,rfl,h3,h4,hb⟩
 exact ZPE h1 (by omega) (by omega) h3 h4 hb
theorem ZO9 {r:ZMq} (hh:ZOY=some r) (w:World) (_:J0 w):Calls Tryz.prog 4 #[] w (ZIj ZNR w r):=by
 obtain rfl:=Option.some.inj hh
 refine (ZN5 w).mono ?_
 rintro e w' ⟨p,r,g,k,h1,h2,rfl,h3,h4,hb⟩
 exact ZPE (by omega) h1 (by omega) h3 h4 hb
end
end Go.Proofs.YthikodhnkaofaaaGreatDoor
