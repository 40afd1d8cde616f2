/- Texts of this proof, joined: Base, Own, Codec, Types, Nd, Eq, MText, Mk. What each holds is said at its theorems. -/
import Derived.WalkKit
import Derived.Lib.Hide
import Derived.Deep.Draws
import Derived.Maps.AppendAt
import Derived.Deep.QuietTactic
import Derived.BigQuiet
import Derived.Test.YthikodhnkaofaaaGreatDoorProg
import Derived.OwnWalk
import Derived.Outline
import Derived.WalkSpells
import Derived.StillTailTactics
import Derived.Deep.RegionHeld3
import Derived.WalkLawsBesides
set_option linter.unusedSimpArgs false
set_option linter.unusedVariables false
open Array renaming size_push→AH,getElem?_eq_some_iff→AJ,getElem?_modify→AM
open ByteArray renaming size→AR
open Go.ByteArray renaming mk_append_mk→Aa
open Int renaming le_refl→AD,le_trans→AE
open List renaming mem_append→AB,length_cons→AC,map_cons→AF,sum_cons→AG,getElem?_append_right→AI,getElem?_append_left→AK,mem_cons→AN,getElem?_eq_getElem→AO,getElem?_eq_some_iff→AQ,singleton_append→AS,sublist_append_left→AT,sublist_append_right→AU,nodup_cons→AW,nodup_append→AX,getElem?_set→AY
open Nat renaming le_refl→A0,zero_le→AA,add_sub_cancel_left→AP
open Option.some renaming inj→AZ
open UInt8 renaming ofNat→AL
open Go.Proofs.Tryz
namespace Go.Proofs.YthikodhnkaofaaaGreatDoor
theorem yi{p:Prop}(h:p):p:=h
section
open Go.RowKit
def ZbE (w:World) (b off:Nat) (xs:List Value):Prop:=∀j u,xs[j]?=some u→w.cell? ⟨b,off+j,none⟩=some u
def Sl (w:World) (size:Nat) (A:Option Addr) (n:Nat) (xs:List Value) (L:List Nat):Prop:=
 xs.length=n * size∧((n=0∧L=[])∨(0<n∧∃b off,A=some ⟨b,off,none⟩∧L=[b]∧ZbE w b off xs))
section
variable {w w':World} {size n:Nat} {A:Option Addr} {xs:List Value} {L:List Nat}
theorem Sl.zero:Sl w size A 0 [] []:=⟨by simp,.inl ⟨rfl,rfl⟩⟩
theorem Sl.at_ (h:Sl w size A n xs L) (hn:0<n):∃b off,A=some ⟨b,off,none⟩∧L=[b]∧ZbE w b off xs:=by
 rcases h.2 with ⟨h0,_⟩ | ⟨_,h⟩
 ·omega
 ·exact h
theorem Sl.keep (h:Sl w size A n xs L) (hk:∀b∈L,w'.heap[b]?=w.heap[b]?):Sl w' size A n xs L:=by
 refine ⟨h.1,?_⟩
 rcases h.2 with h0 | ⟨hn,b,off,hA,hL,hc⟩
 ·exact .inl h0
 ·refine .inr ⟨hn,b,off,hA,hL,fun j u hu=>?_⟩
  rw [←hc j u hu]
  exact World.cell?_of_block (hk b (by simp [hL]))
theorem Sl.lt (h:Sl w size A n xs L) (hs:0<size):∀b∈L,b<w.heap.size:=by
 rcases h.2 with h0 | ⟨hn,b,off,hA,hL,hc⟩
 ·simp [h0.2]
 ·intro x hx
  rw [hL] at hx
  simp at hx
  subst hx
  have hp:0<xs.length:=by rw [h.1];exact Nat.mul_pos hn hs
  exact World.block_lt_of_cell? w _ (hc 0 _ (AO hp))
end
structure Own (w:World) (base:Nat) (L:List Nat):Prop where
 nodup:L.Nodup
 ge:∀b∈L,base≤b
 plain:∀b∈L,∃cur e,w.heap[b]?=some (.cells cur e (0,0))
theorem Own.lt {w:World} {base:Nat} {L:List Nat} (h:Own w base L):∀b∈L,b<w.heap.size:=by
 intro b hb
 obtain ⟨cur,e,hc⟩:=h.plain b hb
 exact (AJ.1 hc).1
theorem Own.keep {w w':World} {base:Nat} {L:List Nat} (h:Own w base L) (hk:∀b∈L,w'.heap[b]?=w.heap[b]?):Own w' base L:=
 ⟨h.nodup,h.ge,fun b hb=>by rw [hk b hb];exact h.plain b hb⟩
theorem Qu {B:Nat} {w w':World} {L:List Nat} (hb:Below B w w') (h:∀b∈L,b<B):∀b∈L,w'.heap[b]?=w.heap[b]?:=
 fun b m=>hb.block b (h b m)
structure ZLq (L:List Nat) (w w':World):Prop where
 os:w'.os=w.os
 tape:w'.tape=w.tape
 output:w'.output=w.output
 size:w.heap.size≤w'.heap.size
 block:∀k,k<w.heap.size→k∉L→w'.heap[k]?=w.heap[k]?
theorem ZLq.refl (L:List Nat) (w:World):ZLq L w w:=⟨rfl,rfl,rfl,A0 _,fun _ _ _=>rfl⟩
theorem ZLq.trans {L:List Nat} {a b c:World} (h:ZLq L a b) (k:ZLq L b c):ZLq L a c:=
 ⟨k.os.trans h.os,k.tape.trans h.tape,k.output.trans h.output,Nat.le_trans h.size k.size,fun i hi hn=>(k.block i (Nat.lt_of_lt_of_le hi h.size) hn).trans (h.block i hi hn)⟩
theorem ZLq.mono {L L':List Nat} {w w':World} (h:ZLq L w w') (hl:∀b∈L,b∈L'):ZLq L' w w':=
 ⟨h.os,h.tape,h.output,h.size,fun k hk hn=>h.block k hk (fun m=>hn (hl k m))⟩
theorem ZLq.below {L:List Nat} {B:Nat} {w w':World} (h:ZLq L w w') (hB:B≤w.heap.size) (hl:∀b∈L,B≤b):Below B w w':=
 ⟨h.os,h.tape,h.output,h.size,fun k hk=>h.block k (by omega) (fun m=>by have:=hl k m;omega)⟩
theorem ZLq.of_below {w w':World} (h:Below w.heap.size w w') (L:List Nat):ZLq L w w':=⟨h.os,h.tape,h.output,h.size,fun k hk _=>h.block k hk⟩
theorem ZLq.keep {L M:List Nat} {w w':World} (h:ZLq L w w') (hl:∀b∈M,b<w.heap.size) (hd:∀b∈M,b∉L):∀b∈M,w'.heap[b]?=w.heap[b]?:=
 fun b m=>h.block b (hl b m) (hd b m)
theorem ZLq.setCell {L:List Nat} {a w:World} (h:ZLq L a w) {p:Addr} (hp:p.block∈L) (u:Value):ZLq L a (w.setCell p u):=
 h.trans ⟨rfl,rfl,rfl,by simp [World.setCell],fun k _ hn=>Below.heap_setCell _ _ _ _ (fun e=>hn (by rw [e];exact hp))⟩
theorem ZPw {B:Nat} {a w:World} (h:Below B a w) (n:Nat):Below B a (w.drewN n):=⟨h.os,h.tape,h.output,h.size,h.block⟩
theorem ZNn (B:Nat) (w:World) (n:Nat):Below B w (w.drewN n):=ZPw (Below.refl _ _) n
theorem ZPQ (w:World) (q p:Nat):∃r,(w.drewN q).drewN p=w.drewN r:=⟨q+p,World.drewN_drewN w q p⟩
theorem ZPr (w:World) (q:Nat):∃r,w.drewN q=w.drewN r:=⟨q,rfl⟩
theorem ZNO {w:World} {b o:Nat} {u v:Value} (h:w.cell? ⟨b,o,none⟩=some v):(w.setCell ⟨b,o,none⟩ u).cell? ⟨b,o,none⟩=some u:=by
 unfold World.cell? at h ⊢
 unfold World.setCell
 simp only[AM,if_true]
 cases hb:w.heap[b]? with
 | none=>simp [hb] at h
 | some ob=>
  cases ob<;>simp [hb] at h ⊢
  have hlt:=(AJ.1 h).1
  simp [Array.getElem?_setIfInBounds,hlt]
theorem ZL2 {k:IntKind} {a b:Int} (h:a=b):Ending.returned (.int k a)=.returned (.int k b):=by rw [h]
section
variable {w w':World} {n:Nat} {A:Option Addr} {zs:List Int} {L:List Nat}
end
section
variable {P:Program} {f:FuncId} {args:Array Value} {w:World} {a n:Nat} {v:Value}
end
end
end Go.Proofs.YthikodhnkaofaaaGreatDoor
namespace Go.Proofs.YthikodhnkaofaaaGreatDoor
open Go.RowKit
end Go.Proofs.YthikodhnkaofaaaGreatDoor
namespace Go
open Go.RowKit Go.Proofs.YthikodhnkaofaaaGreatDoor
def World.ownsV (w : World) (base : Nat) (e : TypeId) (size : Nat) (v : Value) (n : Nat) (xs : List Value) : Prop :=
  xs.length = n * size ∧ ((v = .slice none 0 0 ∧ n = 0) ∨
   ∃ g o cap cur, v = .slice (some ⟨g, o, none⟩) n cap ∧ base ≤ g ∧ w.heap[g]? = some (.cells cur e (0, 0)) ∧ n ≤ cap ∧ cap ≤ maxLen ∧ o + cap * size ≤ cur.size ∧ (cur.toList.drop o).take (n * size) = xs)
end Go
namespace Go.Proofs.YthikodhnkaofaaaGreatDoor
open Go.RowKit
section
variable {w w':World} {base:Nat} {e:TypeId} {size n:Nat} {v:Value} {xs:List Value}
theorem Zet (h:w.ownsRow base e size v n xs):w.ownsV base e size v n xs:=by
 refine ⟨h.1,?_⟩
 rcases h.2 with h0 | ⟨g,cap,cur,h1,h2,h3,h4,h5,h6,h7⟩
 ·exact .inl h0
 ·exact .inr ⟨g,0,cap,cur,h1,h2,h3,h4,h5,by omega,by simpa using h7⟩
theorem YH (h:w.ownsV base e size v n xs):∃A c,v=.slice A n c∧n≤c∧c≤maxLen:=by
 rcases h.2 with ⟨rfl,rfl⟩ | ⟨g,o,cap,cur,rfl,hb,hg,hnc,hm,hs,ht⟩
 ·exact ⟨none,0,rfl,A0 _,AA _⟩
 ·exact ⟨_,cap,rfl,hnc,hm⟩
end
section
variable {P:Program} (w:World)
end
end Go.Proofs.YthikodhnkaofaaaGreatDoor
namespace Go.Proofs.YthikodhnkaofaaaGreatDoor
section
open Go.RowKit
structure Yk (α:Type) where
 size:Nat
 rep:World→List Value→α→List Nat→Prop
 len:∀{w cs x L},rep w cs x L→cs.length=size
 keep:∀{w w' cs x L},rep w cs x L→(∀b∈L,w'.heap[b]?=w.heap[b]?)→rep w' cs x L
 lt:∀{w cs x L},rep w cs x L→∀b∈L,b<w.heap.size
 one:∀{w cs x L},rep w cs x L→∀u∈cs,u.oneCell'=true
 pos:0<size
def Zj7:Yk Int where
 size:=1
 rep:=fun _ cs x L=>cs=[.int .i64 x]∧L=[]
 len:=fun h=>by simp [h.1]
 keep:=fun h _=>h
 lt:=fun h=>by simp [h.2]
 one:=fun h=>by simp [h.1,Value.oneCell']
 pos:=by omega
def ZsX:Yk ByteArray where
 size:=1
 rep:=fun _ cs x L=>cs=[.string x]∧L=[]∧x.size≤9223372036854775807
 len:=fun h=>by simp [h.1]
 keep:=fun h _=>h
 lt:=fun h=>by simp [h.2.1]
 one:=fun h=>by simp [h.1,Value.oneCell']
 pos:=by omega
section
variable {α:Type} (c:Yk α)
def Yk.reps (w:World):List Value→List α→List Nat→Prop
 | xs,[],L=>xs=[]∧L=[]
 | xs,d::ds,L=>∃c1 c2 L1 L2,xs=c1++c2∧L=L1++L2∧c.rep w c1 d L1∧Yk.reps w c2 ds L2
variable {c}
theorem Zko {w:World}:∀{ds:List α} {xs:List Value} {L:List Nat},c.reps w xs ds L→xs.length=ds.length * c.size
 | [],_,_,h=>by simp [h.1]
 | d::ds,_,_,⟨c1,c2,L1,L2,rfl,rfl,h1,h2⟩=>by
  have:=Zko h2
  simp [c.len h1,this,Nat.add_mul];omega
theorem Xd {w w':World}:∀{ds:List α} {xs:List Value} {L:List Nat},c.reps w xs ds L→(∀b∈L,w'.heap[b]?=w.heap[b]?)→c.reps w' xs ds L
 | [],_,_,h,_=>h
 | d::ds,_,_,⟨c1,c2,L1,L2,rfl,rfl,h1,h2⟩,hk=>
  ⟨c1,c2,L1,L2,rfl,rfl,c.keep h1 (fun b m=>hk b (by simp [m])),Xd h2 (fun b m=>hk b (by simp [m]))⟩
theorem ZxE {w:World}:∀{ds:List α} {xs:List Value} {L:List Nat},c.reps w xs ds L→∀b∈L,b<w.heap.size
 | [],_,_,h=>by simp [h.2]
 | d::ds,_,_,⟨c1,c2,L1,L2,rfl,rfl,h1,h2⟩=>by
  intro b m
  rcases AB.1 m with m | m
  ·exact c.lt h1 b m
  ·exact ZxE h2 b m
theorem ZfG {w:World}:∀{ds es:List α} {xs ys:List Value} {L M:List Nat},c.reps w xs ds L→c.reps w ys es M→c.reps w (xs++ys) (ds++es) (L++M)
 | [],es,_,ys,_,M,h,h'=>by obtain ⟨rfl,rfl⟩:=h;simpa using h'
 | d::ds,es,_,ys,_,M,⟨c1,c2,L1,L2,rfl,rfl,h1,h2⟩,h'=>
  ⟨c1,c2++ys,L1,L2++M,by simp,by simp,h1,ZfG h2 h'⟩
theorem Zof {w:World}:∀{ds es:List α} {xs:List Value} {L:List Nat},c.reps w xs (ds++es) L→
  ∃x1 x2 L1 L2,xs=x1++x2∧L=L1++L2∧c.reps w x1 ds L1∧c.reps w x2 es L2
 | [],es,xs,L,h=>⟨[],xs,[],L,rfl,rfl,⟨rfl,rfl⟩,h⟩
 | d::ds,es,_,_,⟨c1,c2,L1,L2,rfl,rfl,h1,h2⟩=>by
  obtain ⟨x1,x2,M1,M2,rfl,rfl,h3,h4⟩:=Zof h2
  exact ⟨c1++x1,x2,L1++M1,M2,by simp,by simp,⟨c1,x1,L1,M1,rfl,rfl,h1,h3⟩,h4⟩
theorem Zxy {w:World} {ds:List α} {xs:List Value} {L:List Nat} (h:c.reps w xs ds L) {k:Nat} (hk:k<ds.length):
  ∃x1 cs x2 L1 Lk L2,xs=x1++(cs++x2)∧x1.length=k * c.size∧L=L1++(Lk++L2)∧c.reps w x1 (ds.take k) L1∧c.rep w cs ds[k] Lk∧c.reps w x2 (ds.drop (k+1)) L2:=by
 have e:ds=ds.take k++(ds[k]::ds.drop (k+1)):=by rw [←List.drop_eq_getElem_cons hk,List.take_append_drop]
 rw [e] at h
 obtain ⟨x1,x2,L1,L2,rfl,rfl,h1,c1,c2,M1,M2,rfl,rfl,h2,h3⟩:=Zof h
 refine ⟨x1,c1,c2,L1,M1,M2,rfl,?_,rfl,h1,h2,h3⟩
 have:=Zko h1
 rw [this,List.length_take,Nat.min_eq_left (by omega)]
def Sli (c:Yk α) (w:World) (A:Option Addr) (ds:List α) (L:List Nat):Prop:=
 ∃xs L0 L1,L=L0++L1∧Sl w c.size A ds.length xs L0∧c.reps w xs ds L1
theorem Sli.nil (w:World) (A:Option Addr):Sli c w A [] []:=⟨[],[],[],rfl,Sl.zero,rfl,rfl⟩
theorem Sli.keep {w w':World} {A:Option Addr} {ds:List α} {L:List Nat} (h:Sli c w A ds L) (hk:∀b∈L,w'.heap[b]?=w.heap[b]?):Sli c w' A ds L:=by
 obtain ⟨xs,L0,L1,rfl,h1,h2⟩:=h
 exact ⟨xs,L0,L1,rfl,h1.keep (fun b m=>hk b (by simp [m])),Xd h2 (fun b m=>hk b (by simp [m]))⟩
theorem Sli.lt {w:World} {A:Option Addr} {ds:List α} {L:List Nat} (h:Sli c w A ds L):∀b∈L,b<w.heap.size:=by
 obtain ⟨xs,L0,L1,rfl,h1,h2⟩:=h
 intro b m
 rcases AB.1 m with m | m
 ·exact h1.lt c.pos b m
 ·exact ZxE h2 b m
theorem Sli.below {w w':World} {A:Option Addr} {ds:List α} {L:List Nat} (h:Sli c w A ds L) (hb:Below w.heap.size w w'):Sli c w' A ds L:=h.keep (Qu hb h.lt)
theorem Sli.at_ {w:World} {A:Option Addr} {ds:List α} {L:List Nat} (h:Sli c w A ds L) {k:Nat} (hk:k<ds.length):
  ∃b off cs Lk,A=some ⟨b,off,none⟩∧b∈L∧(∀x∈Lk,x∈L)∧c.rep w cs ds[k] Lk∧∀j u,cs[j]?=some u→w.cell? ⟨b,off+(k * c.size+j),none⟩=some u:=by
 obtain ⟨xs,L0,L1,rfl,h1,h2⟩:=h
 obtain ⟨x1,cs,x2,M1,Mk,M2,rfl,hx,rfl,_,h3,_⟩:=Zxy h2 hk
 obtain ⟨b,off,hA,hL,hc⟩:=h1.at_ (by omega)
 subst hL
 refine ⟨b,off,cs,Mk,hA,by simp,fun x m=>by simp [m],h3,fun j u hu=>hc _ u ?_⟩
 rw [AI (by omega),hx,AP,AK (AQ.1 hu).1]
 exact hu
def ZQ (c:Yk α):Yk (List α) where
 size:=1
 rep:=fun w cs ds L=>∃A cap,cs=[.slice A ds.length cap]∧ds.length≤cap∧cap≤maxLen∧Sli c w A ds L
 len:=fun ⟨_,_,h,_⟩=>by simp [h]
 keep:=fun ⟨A,cap,h,h1,h2,h3⟩ hk=>⟨A,cap,h,h1,h2,h3.keep hk⟩
 lt:=fun ⟨_,_,_,_,_,h3⟩=>h3.lt
 one:=fun ⟨_,_,h,_⟩=>by simp [h,Value.oneCell']
 pos:=by omega
theorem Own.sub {w:World} {base:Nat} {L M:List Nat} (h:Own w base L) (hs:M.Sublist L):Own w base M:=
 ⟨h.nodup.sublist hs,fun b m=>h.ge b (hs.subset m),fun b m=>h.plain b (hs.subset m)⟩
structure Got (c:Yk α) (base:Nat) (cs:List Value) (x:α) (L:List Nat) (w:World):Prop where
 rep:c.rep w cs x L
 own:Own w base L
section
variable {c:Yk α} {base:Nat} {cs:List Value} {x:α} {L M:List Nat} {w w':World}
theorem Got.keep (h:Got c base cs x L w) (hk:∀b∈L,w'.heap[b]?=w.heap[b]?):Got c base cs x L w':=⟨c.keep h.rep hk,h.own.keep hk⟩
theorem Got.later (h:Got c base cs x L w) (hb:Below w.heap.size w w'):Got c base cs x L w':=h.keep (Qu hb h.own.lt)
theorem Got.alloc (h:Got c base cs x L w) (o:Obj):Got c base cs x L (w.alloc o):=h.keep fun b m=>Below.heap_alloc w o b (h.own.lt b m)
theorem Got.only (h:Got c base cs x L w) (ho:ZLq M w w') (hd:∀b∈L,b∉M):Got c base cs x L w':=h.keep (ho.keep h.own.lt hd)
theorem Got.lt (h:Got c base cs x L w):∀b∈L,b<w.heap.size:=h.own.lt
end
def ZIj (c:Yk α) (w:World) (x:α) (e:Ending) (w':World):Prop:=∃cs L,e=.returned (.agg cs.toArray)∧Got c w.heap.size cs x L w'∧Below w.heap.size w w'
theorem ZeR {c:Yk α} {w:World} {A:Option Addr} {n cap:Nat} {ds:List α} {L:List Nat} (h:(ZQ c).rep w [.slice A n cap] ds L):ds.length≤cap∧cap≤maxLen∧Sli c w A ds L:=by
 obtain ⟨A',cap',hv,h1,h2,h3⟩:=h
 cases hv
 exact ⟨h1,h2,h3⟩
end
section
variable {α:Type} {c:Yk α} {E:TypeId} {W:World} {n:Nat} {ds:List α} {k:Nat} {w w':World}
end
def Zkn (l:List ByteArray):Nat:=l.length+(l.map AR).sum
def Blk (w:World) (g:Nat) (t:TypeId) (cs:Array Value):Prop:=w.heap[g]?=some (.cells cs t (0,0))
section
variable {w w':World} {g:Nat} {t:TypeId} {cs:Array Value}
theorem Blk.lt (h:Blk w g t cs):g<w.heap.size:=(AJ.1 h).1
theorem Blk.at {i:Nat} {v:Value} (h:Blk w g t cs) (hv:cs[i]?=some v):w.cell? ⟨g,i,none⟩=some v:=(cell_of_row w g i cs t (0,0) h).trans hv
theorem Blk.frozen (h:Blk w g t cs) (i:Nat):w.frozen? ⟨g,i,none⟩=false:=by
 unfold Blk at h
 simp [World.frozen?,h]
theorem Blk.new (w:World) (t:TypeId) (cs:Array Value):Blk (w.alloc (.cells cs t)) w.heap.size t cs:=heap_alloc_new w _
theorem Blk.new_at {w:World} {t:TypeId} {cs:Array Value} {g:Nat} (hg:g=w.heap.size):Blk (w.alloc (.cells cs t)) g t cs:=by subst hg;exact heap_alloc_new w _
theorem Blk.alloc (h:Blk w g t cs) (o:Obj):Blk (w.alloc o) g t cs:=(Below.heap_alloc w o g h.lt).trans h
theorem Blk.set_ (h:Blk w g t cs) (i:Nat) (u:Value):Blk (w.setCell ⟨g,i,none⟩ u) g t (cs.setIfInBounds i u):=by
 unfold Blk at h ⊢
 simp [World.setCell,AM,h]
theorem Blk.far (h:Blk w g t cs) {p:Addr} (hp:g≠p.block) (u:Value):Blk (w.setCell p u) g t cs:=(Below.heap_setCell w p u g hp).trans h
theorem Blk.later (h:Blk w g t cs) (hb:Below w.heap.size w w'):Blk w' g t cs:=(hb.block g h.lt).trans h
end
theorem Got.focus {α:Type} {c:Yk α} {base:Nat} {A:Option Addr} {n cap:Nat} {ds:List α} {L:List Nat} {w:World} {k:Nat} (h:Got (ZQ c) base [.slice A n cap] ds L w) (hk:k<ds.length):
  ∃b off cs Lk,A=some ⟨b,off,none⟩∧b∈L∧(∀x∈Lk,x∈L)∧Own w base (b::Lk)∧c.rep w cs ds[k] Lk∧ZbE w b (off+k * c.size) cs∧
   ∀w' cs' x',ZLq (b::Lk) w w'→ZbE w' b (off+k * c.size) cs'→(∀o,o<off+k * c.size∨off+k * c.size+c.size≤o→w'.cell? ⟨b,o,none⟩=w.cell? ⟨b,o,none⟩)→
    c.rep w' cs' x' Lk→Own w' base (b::Lk)→Got (ZQ c) base [.slice A n cap] (ds.set k x') L w':=by
 obtain ⟨⟨A',cap',hv,hn,hm,xs,L0,L1,rfl,h1,h2⟩,ho⟩:=h
 cases hv
 obtain ⟨x1,cs,x2,M1,Mk,M2,rfl,hx,rfl,r1,r2,r3⟩:=Zxy h2 hk
 obtain ⟨b,off,rfl,rfl,hc⟩:=h1.at_ (by omega)
 have hcs:cs.length=c.size:=c.len r2
 have hmem:∀x∈Mk,x∈[b]++(M1++(Mk++M2)):=fun x m=>by simp [m]
 have hnd:=ho.nodup
 have hsub:(b::Mk).Sublist ([b]++(M1++(Mk++M2))):=by
  simp only[AS]
  exact List.Sublist.cons_cons b ((AT Mk M2).trans (AU M1 _))
 refine ⟨b,off,cs,Mk,rfl,by simp,hmem,ho.sub hsub,r2,fun j u hu=>?_,?_⟩
 ·have:=hc (x1.length+j) u (by rw [AI (by omega),AP,AK (AQ.1 hu).1];exact hu)
  rw [hx] at this
  rw [←this,Nat.add_assoc]
 ·intro w' cs' x' hon hcell hrest hrep hown
  have hcs':cs'.length=c.size:=c.len hrep
  simp only[AS,AW,AX,AB] at hnd
  obtain ⟨hb,hM1,⟨hMk,hM2,hd2⟩,hd1⟩:=hnd
  have e1:∀y∈M1,y∉b::Mk:=fun y m m'=>by
   rcases AN.1 m' with rfl | m'
   ·exact hb (.inl m)
   ·exact hd1 y m y (.inl m') rfl
  have e2:∀y∈M2,y∉b::Mk:=fun y m m'=>by
   rcases AN.1 m' with rfl | m'
   ·exact hb (.inr (.inr m))
   ·exact hd2 y m' y m rfl
  have k1:=hon.keep (fun y m=>ho.lt y (by simp [m])) e1
  have k2:=hon.keep (fun y m=>ho.lt y (by simp [m])) e2
  have eset:ds.set k x'=ds.take k++(x'::ds.drop (k+1)):=by rw [List.set_eq_take_append_cons_drop,if_pos hk]
  refine ⟨⟨some ⟨b,off,none⟩,cap,by simp,by simpa using hn,hm,x1++(cs'++x2),[b],M1++(Mk++M2),rfl,⟨?_,.inr ⟨by simp;omega,b,off,rfl,rfl,?_⟩⟩,?_⟩,?_⟩
  ·have:=h1.1
   simp only[List.length_append,List.length_set] at this ⊢
   omega
  ·intro j u hu
   rcases Nat.lt_or_ge j x1.length with hj | hj
   ·rw [hrest _ (.inl (by omega))]
    exact hc j u (by rw [AK hj] at hu ⊢;exact hu)
   ·rw [AI hj] at hu
    rcases Nat.lt_or_ge (j - x1.length) cs'.length with hj2 | hj2
    ·rw [AK hj2] at hu
     have:=hcell _ u hu
     rw [show off+k * c.size+(j - x1.length)=off+j by omega] at this
     exact this
    ·rw [AI hj2] at hu
     rw [hrest _ (.inr (by omega))]
     exact hc j u (by rw [AI hj,AI (by omega),hcs,←hcs'];exact hu)
  ·rw [eset]
   refine ZfG (Xd r1 k1) ⟨cs',x2,Mk,M2,rfl,rfl,hrep,Xd r3 k2⟩
  ·refine ⟨ho.nodup,ho.ge,fun y m=>?_⟩
   by_cases hy:y∈b::Mk
   ·exact hown.plain y hy
   ·rw [hon.block y (ho.lt y m) hy]
    exact ho.plain y m
structure ZMk (w0:World) (base b lo m:Nat) (Lk:List Nat) (cs:List Value) (w:World):Prop where
 cells:ZbE w b lo cs
 len:cs.length=m
 only:ZLq (b::Lk) w0 w
 rest:∀o,o<lo∨lo+m≤o→w.cell? ⟨b,o,none⟩=w0.cell? ⟨b,o,none⟩
 plain:∃cur e,w.heap[b]?=some (.cells cur e (0,0))
section
variable {w0:World} {base b lo m:Nat} {Lk M:List Nat} {cs:List Value} {w w':World}
theorem ZMk.start (h:ZbE w b lo cs) (hl:cs.length=m) (ho:Own w base (b::Lk)):ZMk w base b lo m Lk cs w:=⟨h,hl,ZLq.refl _ _,fun _ _=>rfl,ho.plain b (by simp)⟩
theorem ZMk.lt (h:ZMk w0 base b lo m Lk cs w):b<w.heap.size:=by obtain ⟨cur,e,hc⟩:=h.plain;exact (AJ.1 hc).1
theorem ZMk.keepb (h:ZMk w0 base b lo m Lk cs w) (hk:w'.heap[b]?=w.heap[b]?) (ho:ZLq (b::Lk) w w'):ZMk w0 base b lo m Lk cs w':=by
 refine ⟨fun j u hu=>?_,h.len,h.only.trans ho,fun o hr=>?_,?_⟩
 ·rw [←h.cells j u hu];exact World.cell?_of_block hk
 ·rw [←h.rest o hr];exact World.cell?_of_block hk
 ·rw [hk];exact h.plain
theorem ZMk.later (h:ZMk w0 base b lo m Lk cs w) (hb:Below w.heap.size w w'):ZMk w0 base b lo m Lk cs w':=h.keepb (hb.block b h.lt) (ZLq.of_below hb _)
theorem ZMk.marked (h:ZMk w0 base b lo m Lk cs w) (ho:ZLq M w w') (hs:∀y∈M,y∈Lk) (hd:b∉M):ZMk w0 base b lo m Lk cs w':=
 h.keepb (ho.block b h.lt hd) (ho.mono (fun y m=>by simp [hs y m]))
theorem ZMk.at (h:ZMk w0 base b lo m Lk cs w) {j:Nat} {u:Value} (hu:cs[j]?=some u):w.cell? ⟨b,lo+j,none⟩=some u:=h.cells j u hu
theorem ZMk.frozen (h:ZMk w0 base b lo m Lk cs w) (o:Nat):w.frozen? ⟨b,o,none⟩=false:=by
 obtain ⟨cur,e,hc⟩:=h.plain
 simp [World.frozen?,hc]
theorem ZMk.set (h:ZMk w0 base b lo m Lk cs w) (j:Nat) (hj:j<m) (u:Value):ZMk w0 base b lo m Lk (cs.set j u) (w.setCell ⟨b,lo+j,none⟩ u):=by
 have hl:=h.len
 refine ⟨fun i v hv=>?_,by simp [h.len],h.only.setCell (by simp) _,fun o hr=>?_,?_⟩
 ·by_cases hij:i=j
  ·subst hij
   rw [AY] at hv
   simp [show i<cs.length by omega] at hv
   subst hv
   exact ZNO (h.cells i _ (AO (by omega)))
  ·rw [AY,if_neg (fun e=>hij e.symm)] at hv
   rw [World.cell?_setCell_other _ _ _ _ (by intro e;injection e with _ e;omega)]
   exact h.cells i v hv
 ·rw [World.cell?_setCell_other _ _ _ _ (by intro e;injection e with _ e;omega)]
  exact h.rest o hr
 ·obtain ⟨cur,e,hc⟩:=h.plain
  exact ⟨cur.setIfInBounds (lo+j) u,e,by simp [World.setCell,AM,hc]⟩
end
theorem Got.setFar {α:Type} {c:Yk α} {base:Nat} {cs:List Value} {x:α} {L:List Nat} {w:World} (h:Got c base cs x L w) {p:Addr} (hp:p.block∉L) (u:Value):Got c base cs x L (w.setCell p u):=
 h.keep fun b m=>Below.heap_setCell w p u b (fun e=>hp (e ▸ m))
theorem ZLD {w w':World} {base b:Nat} {Lk:List Nat} (h:Own w base (b::Lk)) (hp:∃cur e,w'.heap[b]?=some (.cells cur e (0,0))) (_ho:ZLq (b::Lk) w w') (hk:∀y∈Lk,∃cur e,w'.heap[y]?=some (.cells cur e (0,0))):Own w' base (b::Lk):=
 ⟨h.nodup,h.ge,fun y m=>by
  rcases AN.1 m with rfl | m
  ·exact hp
  ·exact hk y m⟩
theorem Own.tail {w:World} {base b:Nat} {L:List Nat} (h:Own w base (b::L)):Own w base L:=h.sub (List.sublist_cons_self b L)
theorem Own.left {w:World} {base:Nat} {L M:List Nat} (h:Own w base (L++M)):Own w base L:=h.sub (AT L M)
theorem Own.right {w:World} {base:Nat} {L M:List Nat} (h:Own w base (L++M)):Own w base M:=h.sub (AU L M)
theorem Own.head {w:World} {base b:Nat} {L:List Nat} (h:Own w base (b::L)):b∉L:=(AW.1 h.nodup).1
theorem Own.apart {w:World} {base:Nat} {L M:List Nat} (h:Own w base (L++M)):∀y∈L,y∉M:=fun y m m'=>(AX.1 h.nodup).2.2 y m y m' rfl
end
section
open Go.RowKit
structure Za where
 rel:ByteArray
 args:List ByteArray
def Yf:Yk Za where
 size:=2
 rep:=fun w cs x L=>∃A1 c1 L1,cs=[.string x.rel,.slice A1 x.args.length c1]∧L=L1∧x.rel.size≤9223372036854775807∧x.args.length≤c1∧c1≤maxLen∧Sli ZsX w A1 x.args L1
 len:=fun ⟨A1,c1,L1,h,hL,t0,n1,m1,s1⟩=>by simp [h]
 keep:=fun ⟨A1,c1,L1,h,hL,t0,n1,m1,s1⟩ hk=>⟨A1,c1,L1,h,hL,t0,n1,m1,s1.keep (fun b m=>hk b (by simp [hL,m]))⟩
 lt:=fun ⟨A1,c1,L1,h,hL,t0,n1,m1,s1⟩=>by intro b m;simp only[hL,AB] at m;exact s1.lt b m
 one:=fun ⟨A1,c1,L1,h,hL,t0,n1,m1,s1⟩=>by simp [h,Value.oneCell']
 pos:=by omega
theorem ZN2 {w:World} {cs:List Value} {x:Za} {L:List Nat} (h:Yf.rep w cs x L):∃A1 c1,cs=[.string x.rel,.slice A1 x.args.length c1]:=by
 obtain ⟨A1,c1,L1,h,hL,t0,n1,m1,s1⟩:=h
 exact ⟨A1,c1,h⟩
def ZaK (x:Za):Nat:=x.rel.size+Zkn x.args
def ZcO (l:List Za):Nat:=l.length+(l.map ZaK).sum
structure Zo where
 rel:ByteArray
 args:List ByteArray
def ZPl:Yk Zo where
 size:=2
 rep:=fun w cs x L=>∃A1 c1 L1,cs=[.string x.rel,.slice A1 x.args.length c1]∧L=L1∧x.rel.size≤9223372036854775807∧x.args.length≤c1∧c1≤maxLen∧Sli ZsX w A1 x.args L1
 len:=fun ⟨A1,c1,L1,h,hL,t0,n1,m1,s1⟩=>by simp [h]
 keep:=fun ⟨A1,c1,L1,h,hL,t0,n1,m1,s1⟩ hk=>⟨A1,c1,L1,h,hL,t0,n1,m1,s1.keep (fun b m=>hk b (by simp [hL,m]))⟩
 lt:=fun ⟨A1,c1,L1,h,hL,t0,n1,m1,s1⟩=>by intro b m;simp only[hL,AB] at m;exact s1.lt b m
 one:=fun ⟨A1,c1,L1,h,hL,t0,n1,m1,s1⟩=>by simp [h,Value.oneCell']
 pos:=by omega
def ZMh (x:Zo):Nat:=x.rel.size+Zkn x.args
structure Zx where
 var:ByteArray
 value:ByteArray
def ZDh:Yk Zx where
 size:=2
 rep:=fun w cs x L=>cs=[.string x.var,.string x.value]∧L=[]∧x.var.size≤9223372036854775807∧x.value.size≤9223372036854775807
 len:=fun h=>by simp [h.1]
 keep:=fun h _=>h
 lt:=fun h=>by simp [h.2.1]
 one:=fun h=>by simp [h.1,Value.oneCell']
 pos:=by omega
theorem ZNY {w:World} {cs:List Value} {x:Zx} {L:List Nat} (h:ZDh.rep w cs x L):cs=[.string x.var,.string x.value]:=by
 exact h.1
def ZOl (x:Zx):Nat:=x.var.size+x.value.size
def ZNp (l:List Zx):Nat:=l.length+(l.map ZOl).sum
structure Zu where
 kind:Int
 pattern:Zo
 left:ByteArray
 right:ByteArray
def ZC9:Yk Zu where
 size:=5
 rep:=fun w cs x L=>∃A1 c1 L1,cs=[.int .i64 x.kind,.string x.pattern.rel,.slice A1 x.pattern.args.length c1,.string x.left,.string x.right]∧L=L1∧x.pattern.rel.size≤9223372036854775807∧x.left.size≤9223372036854775807∧x.right.size≤9223372036854775807∧x.pattern.args.length≤c1∧c1≤maxLen∧Sli ZsX w A1 x.pattern.args L1
 len:=fun ⟨A1,c1,L1,h,hL,t0,t1,t2,n1,m1,s1⟩=>by simp [h]
 keep:=fun ⟨A1,c1,L1,h,hL,t0,t1,t2,n1,m1,s1⟩ hk=>⟨A1,c1,L1,h,hL,t0,t1,t2,n1,m1,s1.keep (fun b m=>hk b (by simp [hL,m]))⟩
 lt:=fun ⟨A1,c1,L1,h,hL,t0,t1,t2,n1,m1,s1⟩=>by intro b m;simp only[hL,AB] at m;exact s1.lt b m
 one:=fun ⟨A1,c1,L1,h,hL,t0,t1,t2,n1,m1,s1⟩=>by simp [h,Value.oneCell']
 pos:=by omega
theorem ZNZ {w:World} {cs:List Value} {x:Zu} {L:List Nat} (h:ZC9.rep w cs x L):∃A1 c1,cs=[.int .i64 x.kind,.string x.pattern.rel,.slice A1 x.pattern.args.length c1,.string x.left,.string x.right]:=by
 obtain ⟨A1,c1,L1,h,hL,t0,t1,t2,n1,m1,s1⟩:=h
 exact ⟨A1,c1,h⟩
def ZNg (x:Zu):Nat:=ZMh x.pattern+x.left.size+x.right.size
def ZNq (l:List Zu):Nat:=l.length+(l.map ZNg).sum
structure Zy where
 kind:Int
 pattern:Zo
def ZxH:Yk Zy where
 size:=3
 rep:=fun w cs x L=>∃A1 c1 L1,cs=[.int .i64 x.kind,.string x.pattern.rel,.slice A1 x.pattern.args.length c1]∧L=L1∧x.pattern.rel.size≤9223372036854775807∧x.pattern.args.length≤c1∧c1≤maxLen∧Sli ZsX w A1 x.pattern.args L1
 len:=fun ⟨A1,c1,L1,h,hL,t0,n1,m1,s1⟩=>by simp [h]
 keep:=fun ⟨A1,c1,L1,h,hL,t0,n1,m1,s1⟩ hk=>⟨A1,c1,L1,h,hL,t0,n1,m1,s1.keep (fun b m=>hk b (by simp [hL,m]))⟩
 lt:=fun ⟨A1,c1,L1,h,hL,t0,n1,m1,s1⟩=>by intro b m;simp only[hL,AB] at m;exact s1.lt b m
 one:=fun ⟨A1,c1,L1,h,hL,t0,n1,m1,s1⟩=>by simp [h,Value.oneCell']
 pos:=by omega
theorem ZNs {w:World} {cs:List Value} {x:Zy} {L:List Nat} (h:ZxH.rep w cs x L):∃A1 c1,cs=[.int .i64 x.kind,.string x.pattern.rel,.slice A1 x.pattern.args.length c1]:=by
 obtain ⟨A1,c1,L1,h,hL,t0,n1,m1,s1⟩:=h
 exact ⟨A1,c1,h⟩
def ZNF (x:Zy):Nat:=ZMh x.pattern
def ZMK (l:List Zy):Nat:=l.length+(l.map ZNF).sum
structure Zf where
 name:ByteArray
 priority:Int
 cond:List Zu
 thn:List Zy
def Zby:Yk Zf where
 size:=4
 rep:=fun w cs x L=>∃A1 c1 L1 A2 c2 L2,cs=[.string x.name,.int .i64 x.priority,.slice A1 x.cond.length c1,.slice A2 x.thn.length c2]∧L=L1++L2∧x.name.size≤9223372036854775807∧x.cond.length≤c1∧c1≤maxLen∧Sli ZC9 w A1 x.cond L1∧x.thn.length≤c2∧c2≤maxLen∧Sli ZxH w A2 x.thn L2
 len:=fun ⟨A1,c1,L1,A2,c2,L2,h,hL,t0,n1,m1,s1,n2,m2,s2⟩=>by simp [h]
 keep:=fun ⟨A1,c1,L1,A2,c2,L2,h,hL,t0,n1,m1,s1,n2,m2,s2⟩ hk=>⟨A1,c1,L1,A2,c2,L2,h,hL,t0,n1,m1,s1.keep (fun b m=>hk b (by simp [hL,m])),n2,m2,s2.keep (fun b m=>hk b (by simp [hL,m]))⟩
 lt:=fun ⟨A1,c1,L1,A2,c2,L2,h,hL,t0,n1,m1,s1,n2,m2,s2⟩=>by intro b m;simp only[hL,AB] at m;rcases m with m | m<;>first | exact s1.lt b m | exact s2.lt b m
 one:=fun ⟨A1,c1,L1,A2,c2,L2,h,hL,t0,n1,m1,s1,n2,m2,s2⟩=>by simp [h,Value.oneCell']
 pos:=by omega
theorem ZN0 {w:World} {cs:List Value} {x:Zf} {L:List Nat} (h:Zby.rep w cs x L):∃A1 c1 A2 c2,cs=[.string x.name,.int .i64 x.priority,.slice A1 x.cond.length c1,.slice A2 x.thn.length c2]:=by
 obtain ⟨A1,c1,L1,A2,c2,L2,h,hL,t0,n1,m1,s1,n2,m2,s2⟩:=h
 exact ⟨A1,c1,A2,c2,h⟩
def ZOz (x:Zf):Nat:=x.name.size+ZNq x.cond+ZMK x.thn
def ZMT (l:List Zf):Nat:=l.length+(l.map ZOz).sum
structure Zw where
 facts:List Za
 binding:List Zx
def ZlR:Yk Zw where
 size:=2
 rep:=fun w cs x L=>∃A1 c1 L1 A2 c2 L2,cs=[.slice A1 x.facts.length c1,.slice A2 x.binding.length c2]∧L=L1++L2∧x.facts.length≤c1∧c1≤maxLen∧Sli Yf w A1 x.facts L1∧x.binding.length≤c2∧c2≤maxLen∧Sli ZDh w A2 x.binding L2
 len:=fun ⟨A1,c1,L1,A2,c2,L2,h,hL,n1,m1,s1,n2,m2,s2⟩=>by simp [h]
 keep:=fun ⟨A1,c1,L1,A2,c2,L2,h,hL,n1,m1,s1,n2,m2,s2⟩ hk=>⟨A1,c1,L1,A2,c2,L2,h,hL,n1,m1,s1.keep (fun b m=>hk b (by simp [hL,m])),n2,m2,s2.keep (fun b m=>hk b (by simp [hL,m]))⟩
 lt:=fun ⟨A1,c1,L1,A2,c2,L2,h,hL,n1,m1,s1,n2,m2,s2⟩=>by intro b m;simp only[hL,AB] at m;rcases m with m | m<;>first | exact s1.lt b m | exact s2.lt b m
 one:=fun ⟨A1,c1,L1,A2,c2,L2,h,hL,n1,m1,s1,n2,m2,s2⟩=>by simp [h,Value.oneCell']
 pos:=by omega
theorem ZNP {w:World} {cs:List Value} {x:Zw} {L:List Nat} (h:ZlR.rep w cs x L):∃A1 c1 A2 c2,cs=[.slice A1 x.facts.length c1,.slice A2 x.binding.length c2]:=by
 obtain ⟨A1,c1,L1,A2,c2,L2,h,hL,n1,m1,s1,n2,m2,s2⟩:=h
 exact ⟨A1,c1,A2,c2,h⟩
def ZNS (x:Zw):Nat:=ZcO x.facts+ZNp x.binding
def ZMU (l:List Zw):Nat:=l.length+(l.map ZNS).sum
structure ZL4 where
 shape:Zo
 facts:List Za
def ZL7:Yk ZL4 where
 size:=3
 rep:=fun w cs x L=>∃A1 c1 L1 A2 c2 L2,cs=[.string x.shape.rel,.slice A1 x.shape.args.length c1,.slice A2 x.facts.length c2]∧L=L1++L2∧x.shape.rel.size≤9223372036854775807∧x.shape.args.length≤c1∧c1≤maxLen∧Sli ZsX w A1 x.shape.args L1∧x.facts.length≤c2∧c2≤maxLen∧Sli Yf w A2 x.facts L2
 len:=fun ⟨A1,c1,L1,A2,c2,L2,h,hL,t0,n1,m1,s1,n2,m2,s2⟩=>by simp [h]
 keep:=fun ⟨A1,c1,L1,A2,c2,L2,h,hL,t0,n1,m1,s1,n2,m2,s2⟩ hk=>⟨A1,c1,L1,A2,c2,L2,h,hL,t0,n1,m1,s1.keep (fun b m=>hk b (by simp [hL,m])),n2,m2,s2.keep (fun b m=>hk b (by simp [hL,m]))⟩
 lt:=fun ⟨A1,c1,L1,A2,c2,L2,h,hL,t0,n1,m1,s1,n2,m2,s2⟩=>by intro b m;simp only[hL,AB] at m;rcases m with m | m<;>first | exact s1.lt b m | exact s2.lt b m
 one:=fun ⟨A1,c1,L1,A2,c2,L2,h,hL,t0,n1,m1,s1,n2,m2,s2⟩=>by simp [h,Value.oneCell']
 pos:=by omega
theorem ZNL {w:World} {cs:List Value} {x:ZL4} {L:List Nat} (h:ZL7.rep w cs x L):∃A1 c1 A2 c2,cs=[.string x.shape.rel,.slice A1 x.shape.args.length c1,.slice A2 x.facts.length c2]:=by
 obtain ⟨A1,c1,L1,A2,c2,L2,h,hL,t0,n1,m1,s1,n2,m2,s2⟩:=h
 exact ⟨A1,c1,A2,c2,h⟩
def ZNV (x:ZL4):Nat:=ZMh x.shape+ZcO x.facts
def ZMY (l:List ZL4):Nat:=l.length+(l.map ZNV).sum
structure ZMe where
 parent:Int
 cond:Zu
 alpha:Int
 tokens:List Zw
def ZMg:Yk ZMe where
 size:=8
 rep:=fun w cs x L=>∃A1 c1 L1 A2 c2 L2,cs=[.int .i64 x.parent,.int .i64 x.cond.kind,.string x.cond.pattern.rel,.slice A1 x.cond.pattern.args.length c1,.string x.cond.left,.string x.cond.right,.int .i64 x.alpha,.slice A2 x.tokens.length c2]∧L=L1++L2∧x.cond.pattern.rel.size≤9223372036854775807∧x.cond.left.size≤9223372036854775807∧x.cond.right.size≤9223372036854775807∧x.cond.pattern.args.length≤c1∧c1≤maxLen∧Sli ZsX w A1 x.cond.pattern.args L1∧x.tokens.length≤c2∧c2≤maxLen∧Sli ZlR w A2 x.tokens L2
 len:=fun ⟨A1,c1,L1,A2,c2,L2,h,hL,t0,t1,t2,n1,m1,s1,n2,m2,s2⟩=>by simp [h]
 keep:=fun ⟨A1,c1,L1,A2,c2,L2,h,hL,t0,t1,t2,n1,m1,s1,n2,m2,s2⟩ hk=>⟨A1,c1,L1,A2,c2,L2,h,hL,t0,t1,t2,n1,m1,s1.keep (fun b m=>hk b (by simp [hL,m])),n2,m2,s2.keep (fun b m=>hk b (by simp [hL,m]))⟩
 lt:=fun ⟨A1,c1,L1,A2,c2,L2,h,hL,t0,t1,t2,n1,m1,s1,n2,m2,s2⟩=>by intro b m;simp only[hL,AB] at m;rcases m with m | m<;>first | exact s1.lt b m | exact s2.lt b m
 one:=fun ⟨A1,c1,L1,A2,c2,L2,h,hL,t0,t1,t2,n1,m1,s1,n2,m2,s2⟩=>by simp [h,Value.oneCell']
 pos:=by omega
theorem ZN3 {w:World} {cs:List Value} {x:ZMe} {L:List Nat} (h:ZMg.rep w cs x L):∃A1 c1 A2 c2,cs=[.int .i64 x.parent,.int .i64 x.cond.kind,.string x.cond.pattern.rel,.slice A1 x.cond.pattern.args.length c1,.string x.cond.left,.string x.cond.right,.int .i64 x.alpha,.slice A2 x.tokens.length c2]:=by
 obtain ⟨A1,c1,L1,A2,c2,L2,h,hL,t0,t1,t2,n1,m1,s1,n2,m2,s2⟩:=h
 exact ⟨A1,c1,A2,c2,h⟩
def ZOE (x:ZMe):Nat:=ZNg x.cond+ZMU x.tokens
def ZNo (l:List ZMe):Nat:=l.length+(l.map ZOE).sum
structure ZMb where
 rules:List Zf
 ends:List Int
 alphas:List ZL4
 nodes:List ZMe
 facts:List Za
 tries:Int
def ZPp:Yk ZMb where
 size:=6
 rep:=fun w cs x L=>∃A1 c1 L1 A2 c2 L2 A3 c3 L3 A4 c4 L4 A5 c5 L5,cs=[.slice A1 x.rules.length c1,.slice A2 x.ends.length c2,.slice A3 x.alphas.length c3,.slice A4 x.nodes.length c4,.slice A5 x.facts.length c5,.int .i64 x.tries]∧L=L1++(L2++(L3++(L4++L5)))∧x.rules.length≤c1∧c1≤maxLen∧Sli Zby w A1 x.rules L1∧x.ends.length≤c2∧c2≤maxLen∧Sli Zj7 w A2 x.ends L2∧x.alphas.length≤c3∧c3≤maxLen∧Sli ZL7 w A3 x.alphas L3∧x.nodes.length≤c4∧c4≤maxLen∧Sli ZMg w A4 x.nodes L4∧x.facts.length≤c5∧c5≤maxLen∧Sli Yf w A5 x.facts L5
 len:=fun ⟨A1,c1,L1,A2,c2,L2,A3,c3,L3,A4,c4,L4,A5,c5,L5,h,hL,n1,m1,s1,n2,m2,s2,n3,m3,s3,n4,m4,s4,n5,m5,s5⟩=>by simp [h]
 keep:=fun ⟨A1,c1,L1,A2,c2,L2,A3,c3,L3,A4,c4,L4,A5,c5,L5,h,hL,n1,m1,s1,n2,m2,s2,n3,m3,s3,n4,m4,s4,n5,m5,s5⟩ hk=>⟨A1,c1,L1,A2,c2,L2,A3,c3,L3,A4,c4,L4,A5,c5,L5,h,hL,n1,m1,s1.keep (fun b m=>hk b (by simp [hL,m])),n2,m2,s2.keep (fun b m=>hk b (by simp [hL,m])),n3,m3,s3.keep (fun b m=>hk b (by simp [hL,m])),n4,m4,s4.keep (fun b m=>hk b (by simp [hL,m])),n5,m5,s5.keep (fun b m=>hk b (by simp [hL,m]))⟩
 lt:=fun ⟨A1,c1,L1,A2,c2,L2,A3,c3,L3,A4,c4,L4,A5,c5,L5,h,hL,n1,m1,s1,n2,m2,s2,n3,m3,s3,n4,m4,s4,n5,m5,s5⟩=>by intro b m;simp only[hL,AB] at m;rcases m with m | m | m | m | m<;>first | exact s1.lt b m | exact s2.lt b m | exact s3.lt b m | exact s4.lt b m | exact s5.lt b m
 one:=fun ⟨A1,c1,L1,A2,c2,L2,A3,c3,L3,A4,c4,L4,A5,c5,L5,h,hL,n1,m1,s1,n2,m2,s2,n3,m3,s3,n4,m4,s4,n5,m5,s5⟩=>by simp [h,Value.oneCell']
 pos:=by omega
def ZNc (x:ZMb):Nat:=ZMT x.rules+x.ends.length+ZMY x.alphas+ZNo x.nodes+ZcO x.facts
structure ZL5 where
 fact:Za
 time:Int
def ZL8:Yk ZL5 where
 size:=3
 rep:=fun w cs x L=>∃A1 c1 L1,cs=[.string x.fact.rel,.slice A1 x.fact.args.length c1,.int .i64 x.time]∧L=L1∧x.fact.rel.size≤9223372036854775807∧x.fact.args.length≤c1∧c1≤maxLen∧Sli ZsX w A1 x.fact.args L1
 len:=fun ⟨A1,c1,L1,h,hL,t0,n1,m1,s1⟩=>by simp [h]
 keep:=fun ⟨A1,c1,L1,h,hL,t0,n1,m1,s1⟩ hk=>⟨A1,c1,L1,h,hL,t0,n1,m1,s1.keep (fun b m=>hk b (by simp [hL,m]))⟩
 lt:=fun ⟨A1,c1,L1,h,hL,t0,n1,m1,s1⟩=>by intro b m;simp only[hL,AB] at m;exact s1.lt b m
 one:=fun ⟨A1,c1,L1,h,hL,t0,n1,m1,s1⟩=>by simp [h,Value.oneCell']
 pos:=by omega
theorem ZNK {w:World} {cs:List Value} {x:ZL5} {L:List Nat} (h:ZL8.rep w cs x L):∃A1 c1,cs=[.string x.fact.rel,.slice A1 x.fact.args.length c1,.int .i64 x.time]:=by
 obtain ⟨A1,c1,L1,h,hL,t0,n1,m1,s1⟩:=h
 exact ⟨A1,c1,h⟩
def ZNU (x:ZL5):Nat:=ZaK x.fact
def ZMX (l:List ZL5):Nat:=l.length+(l.map ZNU).sum
structure ZLS where
 rule:ByteArray
 times:List Int
def ZLV:Yk ZLS where
 size:=2
 rep:=fun w cs x L=>∃A1 c1 L1,cs=[.string x.rule,.slice A1 x.times.length c1]∧L=L1∧x.rule.size≤9223372036854775807∧x.times.length≤c1∧c1≤maxLen∧Sli Zj7 w A1 x.times L1
 len:=fun ⟨A1,c1,L1,h,hL,t0,n1,m1,s1⟩=>by simp [h]
 keep:=fun ⟨A1,c1,L1,h,hL,t0,n1,m1,s1⟩ hk=>⟨A1,c1,L1,h,hL,t0,n1,m1,s1.keep (fun b m=>hk b (by simp [hL,m]))⟩
 lt:=fun ⟨A1,c1,L1,h,hL,t0,n1,m1,s1⟩=>by intro b m;simp only[hL,AB] at m;exact s1.lt b m
 one:=fun ⟨A1,c1,L1,h,hL,t0,n1,m1,s1⟩=>by simp [h,Value.oneCell']
 pos:=by omega
theorem ZNu {w:World} {cs:List Value} {x:ZLS} {L:List Nat} (h:ZLV.rep w cs x L):∃A1 c1,cs=[.string x.rule,.slice A1 x.times.length c1]:=by
 obtain ⟨A1,c1,L1,h,hL,t0,n1,m1,s1⟩:=h
 exact ⟨A1,c1,h⟩
def ZND (x:ZLS):Nat:=x.rule.size+x.times.length
def ZMI (l:List ZLS):Nat:=l.length+(l.map ZND).sum
structure ZL6 where
 kind:Int
 rule:ByteArray
 fact:Za
def ZL9:Yk ZL6 where
 size:=4
 rep:=fun w cs x L=>∃A1 c1 L1,cs=[.int .i64 x.kind,.string x.rule,.string x.fact.rel,.slice A1 x.fact.args.length c1]∧L=L1∧x.rule.size≤9223372036854775807∧x.fact.rel.size≤9223372036854775807∧x.fact.args.length≤c1∧c1≤maxLen∧Sli ZsX w A1 x.fact.args L1
 len:=fun ⟨A1,c1,L1,h,hL,t0,t1,n1,m1,s1⟩=>by simp [h]
 keep:=fun ⟨A1,c1,L1,h,hL,t0,t1,n1,m1,s1⟩ hk=>⟨A1,c1,L1,h,hL,t0,t1,n1,m1,s1.keep (fun b m=>hk b (by simp [hL,m]))⟩
 lt:=fun ⟨A1,c1,L1,h,hL,t0,t1,n1,m1,s1⟩=>by intro b m;simp only[hL,AB] at m;exact s1.lt b m
 one:=fun ⟨A1,c1,L1,h,hL,t0,t1,n1,m1,s1⟩=>by simp [h,Value.oneCell']
 pos:=by omega
theorem ZNG {w:World} {cs:List Value} {x:ZL6} {L:List Nat} (h:ZL9.rep w cs x L):∃A1 c1,cs=[.int .i64 x.kind,.string x.rule,.string x.fact.rel,.slice A1 x.fact.args.length c1]:=by
 obtain ⟨A1,c1,L1,h,hL,t0,t1,n1,m1,s1⟩:=h
 exact ⟨A1,c1,h⟩
def ZNT (x:ZL6):Nat:=x.rule.size+ZaK x.fact
def ZM4 (l:List ZL6):Nat:=l.length+(l.map ZNT).sum
structure ZMj where
 rules:List Zf
 memory:List ZL5
 clock:Int
 fired:List ZLS
 halted:Bool
 log:List ZL6
def ZPP:Yk ZMj where
 size:=6
 rep:=fun w cs x L=>∃A1 c1 L1 A2 c2 L2 A3 c3 L3 A4 c4 L4,cs=[.slice A1 x.rules.length c1,.slice A2 x.memory.length c2,.int .i64 x.clock,.slice A3 x.fired.length c3,.bool x.halted,.slice A4 x.log.length c4]∧L=L1++(L2++(L3++L4))∧x.rules.length≤c1∧c1≤maxLen∧Sli Zby w A1 x.rules L1∧x.memory.length≤c2∧c2≤maxLen∧Sli ZL8 w A2 x.memory L2∧x.fired.length≤c3∧c3≤maxLen∧Sli ZLV w A3 x.fired L3∧x.log.length≤c4∧c4≤maxLen∧Sli ZL9 w A4 x.log L4
 len:=fun ⟨A1,c1,L1,A2,c2,L2,A3,c3,L3,A4,c4,L4,h,hL,n1,m1,s1,n2,m2,s2,n3,m3,s3,n4,m4,s4⟩=>by simp [h]
 keep:=fun ⟨A1,c1,L1,A2,c2,L2,A3,c3,L3,A4,c4,L4,h,hL,n1,m1,s1,n2,m2,s2,n3,m3,s3,n4,m4,s4⟩ hk=>⟨A1,c1,L1,A2,c2,L2,A3,c3,L3,A4,c4,L4,h,hL,n1,m1,s1.keep (fun b m=>hk b (by simp [hL,m])),n2,m2,s2.keep (fun b m=>hk b (by simp [hL,m])),n3,m3,s3.keep (fun b m=>hk b (by simp [hL,m])),n4,m4,s4.keep (fun b m=>hk b (by simp [hL,m]))⟩
 lt:=fun ⟨A1,c1,L1,A2,c2,L2,A3,c3,L3,A4,c4,L4,h,hL,n1,m1,s1,n2,m2,s2,n3,m3,s3,n4,m4,s4⟩=>by intro b m;simp only[hL,AB] at m;rcases m with m | m | m | m<;>first | exact s1.lt b m | exact s2.lt b m | exact s3.lt b m | exact s4.lt b m
 one:=fun ⟨A1,c1,L1,A2,c2,L2,A3,c3,L3,A4,c4,L4,h,hL,n1,m1,s1,n2,m2,s2,n3,m3,s3,n4,m4,s4⟩=>by simp [h,Value.oneCell']
 pos:=by omega
def ZNB (x:ZMj):Nat:=ZMT x.rules+ZMX x.memory+ZMI x.fired+ZM4 x.log
structure ZMq where
 engine:ZMj
 network:ZMb
def ZNR:Yk ZMq where
 size:=12
 rep:=fun w cs x L=>∃A1 c1 L1 A2 c2 L2 A3 c3 L3 A4 c4 L4 A5 c5 L5 A6 c6 L6 A7 c7 L7 A8 c8 L8 A9 c9 L9,cs=[.slice A1 x.engine.rules.length c1,.slice A2 x.engine.memory.length c2,.int .i64 x.engine.clock,.slice A3 x.engine.fired.length c3,.bool x.engine.halted,.slice A4 x.engine.log.length c4,.slice A5 x.network.rules.length c5,.slice A6 x.network.ends.length c6,.slice A7 x.network.alphas.length c7,.slice A8 x.network.nodes.length c8,.slice A9 x.network.facts.length c9,.int .i64 x.network.tries]∧L=L1++(L2++(L3++(L4++(L5++(L6++(L7++(L8++L9)))))))∧x.engine.rules.length≤c1∧c1≤maxLen∧Sli Zby w A1 x.engine.rules L1∧x.engine.memory.length≤c2∧c2≤maxLen∧Sli ZL8 w A2 x.engine.memory L2∧x.engine.fired.length≤c3∧c3≤maxLen∧Sli ZLV w A3 x.engine.fired L3∧x.engine.log.length≤c4∧c4≤maxLen∧Sli ZL9 w A4 x.engine.log L4∧x.network.rules.length≤c5∧c5≤maxLen∧Sli Zby w A5 x.network.rules L5∧x.network.ends.length≤c6∧c6≤maxLen∧Sli Zj7 w A6 x.network.ends L6∧x.network.alphas.length≤c7∧c7≤maxLen∧Sli ZL7 w A7 x.network.alphas L7∧x.network.nodes.length≤c8∧c8≤maxLen∧Sli ZMg w A8 x.network.nodes L8∧x.network.facts.length≤c9∧c9≤maxLen∧Sli Yf w A9 x.network.facts L9
 len:=fun ⟨A1,c1,L1,A2,c2,L2,A3,c3,L3,A4,c4,L4,A5,c5,L5,A6,c6,L6,A7,c7,L7,A8,c8,L8,A9,c9,L9,h,hL,n1,m1,s1,n2,m2,s2,n3,m3,s3,n4,m4,s4,n5,m5,s5,n6,m6,s6,n7,m7,s7,n8,m8,s8,n9,m9,s9⟩=>by simp [h]
 keep:=fun ⟨A1,c1,L1,A2,c2,L2,A3,c3,L3,A4,c4,L4,A5,c5,L5,A6,c6,L6,A7,c7,L7,A8,c8,L8,A9,c9,L9,h,hL,n1,m1,s1,n2,m2,s2,n3,m3,s3,n4,m4,s4,n5,m5,s5,n6,m6,s6,n7,m7,s7,n8,m8,s8,n9,m9,s9⟩ hk=>⟨A1,c1,L1,A2,c2,L2,A3,c3,L3,A4,c4,L4,A5,c5,L5,A6,c6,L6,A7,c7,L7,A8,c8,L8,A9,c9,L9,h,hL,n1,m1,s1.keep (fun b m=>hk b (by simp [hL,m])),n2,m2,s2.keep (fun b m=>hk b (by simp [hL,m])),n3,m3,s3.keep (fun b m=>hk b (by simp [hL,m])),n4,m4,s4.keep (fun b m=>hk b (by simp [hL,m])),n5,m5,s5.keep (fun b m=>hk b (by simp [hL,m])),n6,m6,s6.keep (fun b m=>hk b (by simp [hL,m])),n7,m7,s7.keep (fun b m=>hk b (by simp [hL,m])),n8,m8,s8.keep (fun b m=>hk b (by simp [hL,m])),n9,m9,s9.keep (fun b m=>hk b (by simp [hL,m]))⟩
 lt:=fun ⟨A1,c1,L1,A2,c2,L2,A3,c3,L3,A4,c4,L4,A5,c5,L5,A6,c6,L6,A7,c7,L7,A8,c8,L8,A9,c9,L9,h,hL,n1,m1,s1,n2,m2,s2,n3,m3,s3,n4,m4,s4,n5,m5,s5,n6,m6,s6,n7,m7,s7,n8,m8,s8,n9,m9,s9⟩=>by intro b m;simp only[hL,AB] at m;rcases m with m | m | m | m | m | m | m | m | m<;>first | exact s1.lt b m | exact s2.lt b m | exact s3.lt b m | exact s4.lt b m | exact s5.lt b m | exact s6.lt b m | exact s7.lt b m | exact s8.lt b m | exact s9.lt b m
 one:=fun ⟨A1,c1,L1,A2,c2,L2,A3,c3,L3,A4,c4,L4,A5,c5,L5,A6,c6,L6,A7,c7,L7,A8,c8,L8,A9,c9,L9,h,hL,n1,m1,s1,n2,m2,s2,n3,m3,s3,n4,m4,s4,n5,m5,s5,n6,m6,s6,n7,m7,s7,n8,m8,s8,n9,m9,s9⟩=>by simp [h,Value.oneCell']
 pos:=by omega
theorem ZNb {w:World} {cs:List Value} {x:ZMq} {L:List Nat} (h:ZNR.rep w cs x L):∃A1 c1 A2 c2 A3 c3 A4 c4 A5 c5 A6 c6 A7 c7 A8 c8 A9 c9,cs=[.slice A1 x.engine.rules.length c1,.slice A2 x.engine.memory.length c2,.int .i64 x.engine.clock,.slice A3 x.engine.fired.length c3,.bool x.engine.halted,.slice A4 x.engine.log.length c4,.slice A5 x.network.rules.length c5,.slice A6 x.network.ends.length c6,.slice A7 x.network.alphas.length c7,.slice A8 x.network.nodes.length c8,.slice A9 x.network.facts.length c9,.int .i64 x.network.tries]:=by
 obtain ⟨A1,c1,L1,A2,c2,L2,A3,c3,L3,A4,c4,L4,A5,c5,L5,A6,c6,L6,A7,c7,L7,A8,c8,L8,A9,c9,L9,h,hL,n1,m1,s1,n2,m2,s2,n3,m3,s3,n4,m4,s4,n5,m5,s5,n6,m6,s6,n7,m7,s7,n8,m8,s8,n9,m9,s9⟩:=h
 exact ⟨A1,c1,A2,c2,A3,c3,A4,c4,A5,c5,A6,c6,A7,c7,A8,c8,A9,c9,h⟩
def ZOk (x:ZMq):Nat:=ZNB x.engine+ZNc x.network
end
section
open Go.RowKit
set_option maxHeartbeats 1000000
theorem ZM6 (w:World) (A:Option Addr) (c:Nat):Calls prog 24 #[.slice A 0 c] w fun e w'=>e=.returned (.slice none 0 0)∧w'=w:=by
 go_enter func24,ntmps24
 go_wp2
 go_loopw [3,8] (fun o i wr=>o=.slice none 0 0∧i=.int .i64 0∧wr=w) (fun _ _ _=>0)
 case atStart=>exact ⟨rfl,rfl,rfl⟩
 case round=>
  obtain ⟨rfl,rfl,rfl⟩:=hrel
  go_wp2
  go_ret
  exact ⟨rfl,rfl⟩
theorem ZNk (w:World) (A:Option Addr) (c:Nat):Calls prog 23 #[.slice A 0 c] w fun e w'=>e=.returned (.bool true)∧w'=w:=by
 go_enter func23,ntmps23
 go_wp2
 go_loopw [10] (fun i wr=>i=.int .i64 0∧wr=w) (fun _ _=>0)
 case atStart=>exact ⟨rfl,rfl⟩
 case round=>
  obtain ⟨rfl,rfl⟩:=hrel
  go_wp2
  go_ret
  exact ⟨rfl,rfl⟩
theorem ZNa (w:World) (A:Option Addr) (c:Nat):Calls prog 19 #[.slice A 0 c] w fun e w'=>e=.returned (.bool true)∧w'=w:=by
 go_enter func19,ntmps19
 go_wp2
 go_loopw [3] (fun i wr=>i=.int .i64 0∧wr=w) (fun _ _=>0)
 case atStart=>exact ⟨rfl,rfl⟩
 case round=>
  obtain ⟨rfl,rfl⟩:=hrel
  go_wp2
  go_ret
  exact ⟨rfl,rfl⟩
theorem ZNj (w:World) (A:Option Addr) (c:Nat):Calls prog 20 #[.slice A 0 c] w fun e w'=>e=.returned (.slice (some ⟨w.heap.size,0,none⟩) 0 0)∧w'=w.alloc (.cells #[] 65):=by
 go_enter func20,ntmps20
 go_wp2
 go_loopw [3,4] (fun o i wr=>o=.slice (some ⟨w.heap.size,0,none⟩) 0 0∧i=.int .i64 0∧wr=w.alloc (.cells #[] 65)) (fun _ _ _=>0)
 case atStart=>exact ⟨rfl,rfl,rfl⟩
 case round=>
  obtain ⟨rfl,rfl,rfl⟩:=hrel
  go_wp2
  go_ret
  exact ⟨rfl,rfl⟩
def ZMR (v:Value):Array Value:=#[.int .i64 (-1),.int .i64 0,.string ⟨#[]⟩,.slice none 0 0,.string ⟨#[]⟩,.string ⟨#[]⟩,.int .i64 (-1),v]
def ZMA (r n:Value):Value:=.agg #[r,.slice none 0 0,.slice none 0 0,n,.slice none 0 0,.int .i64 0]
def ZNX (r:Value):Value:=.agg #[r,.slice none 0 0,.int .i64 0,.slice none 0 0,.bool false,.slice none 0 0]
theorem ZOa (w:World):Calls prog 11 #[.slice none 0 0] w fun e w'=>e=.returned (.tuple #[ZNX (.slice none 0 0),.bool true])∧Below w.heap.size w w':=by
 go_enter func11,ntmps11
 go_wp2_with fail
 refine (ZNk _ _ _).mono ?_
 rintro e w1 ⟨rfl,rfl⟩
 go_wp2_with fail
 refine (ZM6 _ _ _).mono ?_
 rintro e w1 ⟨rfl,rfl⟩
 go_wp2_with fail
 refine bodyPost_ret (v:=.tuple #[ZNX (.slice none 0 0),.bool true]) (by simp [results,results11,go_sem,ZNX]) rfl ?_
 exact ⟨rfl,Below.alloc (Below.refl _ _) (A0 _) _⟩
theorem ZOb (w:World):Calls prog 9 #[.slice none 0 0] w fun e w'=>e=.returned (.tuple #[ZNX (.slice (some ⟨w.heap.size+1,0,none⟩) 0 0),.bool true])∧Blk w' (w.heap.size+1) 65 #[]∧Below w.heap.size w w':=by
 go_enter func9,ntmps9
 go_wp2_with fail
 refine (ZNa _ _ _).mono ?_
 rintro e w1 ⟨rfl,rfl⟩
 go_wp2_with fail
 refine (ZNj _ _ _).mono ?_
 rintro e w1 ⟨rfl,rfl⟩
 go_wp2_with fail
 refine bodyPost_ret (v:=.tuple #[ZNX (.slice (some ⟨w.heap.size+1,0,none⟩) 0 0),.bool true]) (by simp [results,results9,go_sem,ZNX]) rfl ?_
 exact ⟨rfl,Blk.new_at (by simp),Below.alloc (Below.alloc (Below.refl _ _) (A0 _) _) (by simp) _⟩
theorem ZOM (w:World):Calls prog 62 #[.slice none 0 0] w fun e w'=>e=.returned (ZMA (.slice none 0 0) (.slice (some ⟨w.heap.size+1,0,none⟩) 1 1))∧Blk w' (w.heap.size+1) 60 (ZMR (.slice none 0 0))∧Below w.heap.size w w':=by
 go_enter func62,ntmps62
 go_wp2_with fail
 refine (ZM6 _ _ _).mono ?_
 rintro e w1 ⟨rfl,rfl⟩
 go_wp2_with fail
 go_loopw [16] (fun i wr=>i=.int .i64 0∧wr=(((w.alloc (.cells #[.slice none 0 0,.slice none 0 0,.slice none 0 0,.slice none 0 0,.slice none 0 0,.int .i64 0] 33)).alloc (.cells #[.int .i64 (-1),.int .i64 0,.string ⟨#[]⟩,.slice none 0 0,.string ⟨#[]⟩,.string ⟨#[]⟩,.int .i64 (-1),.slice none 0 0] 60))).alloc (.cells #[.slice none 0 0,.slice none 0 0,.slice none 0 0,.slice (some ⟨w.heap.size+1,0,none⟩) 1 1,.slice none 0 0,.int .i64 0] 33)) (fun _ _=>0)
 case atStart=>exact ⟨rfl,rfl⟩
 case round=>
  obtain ⟨rfl,rfl⟩:=hrel
  go_wp2
  refine bodyPost_ret (v:=ZMA (.slice none 0 0) (.slice (some ⟨w.heap.size+1,0,none⟩) 1 1)) (by simp [results,results62,go_sem,ZMA]) rfl ?_
  exact ⟨rfl,Blk.alloc (Blk.new_at (by simp)) _,Below.alloc (Below.alloc (Below.alloc (Below.refl _ _) (A0 _) _) (by simp) _) (by simp;omega) _⟩
theorem ZN8 (w:World) (A:Option Addr) (c:Nat):Calls prog 108 #[.slice A 0 c] w fun e w'=>e=.returned (.slice none 0 0)∧w'=w:=by
 go_enter func108,ntmps108
 go_wp2
 go_loopw [3,8] (fun o i wr=>o=.slice none 0 0∧i=.int .i64 0∧wr=w) (fun _ _ _=>0)
 case atStart=>exact ⟨rfl,rfl,rfl⟩
 case round=>
  obtain ⟨rfl,rfl,rfl⟩:=hrel
  go_wp2
  go_ret
  exact ⟨rfl,rfl⟩
theorem ZPK (w:World) (A B:Option Addr) (c d:Nat):Calls prog 110 #[.slice A 0 c,.slice B 0 d] w fun e w'=>e=.returned (.slice (some ⟨w.heap.size,0,none⟩) 1 1)∧w'=w.alloc (.cells #[.slice none 0 0,.slice none 0 0] 52):=by
 go_enter func110,ntmps110
 go_wp2
 go_loopw [5,19] (fun o i wr=>o=.slice (some ⟨w.heap.size,0,none⟩) 1 1∧i=.int .i64 0∧wr=w.alloc (.cells #[.slice none 0 0,.slice none 0 0] 52)) (fun _ _ _=>0)
 case atStart=>exact ⟨rfl,rfl,rfl⟩
 case round=>
  obtain ⟨rfl,rfl,rfl⟩:=hrel
  go_wp2
  go_ret
  exact ⟨rfl,rfl⟩
theorem ZPY (w:World) (cs:Array Value):Calls prog 111 #[.agg cs,.int .i64 0] w fun e w'=>e=.returned (.slice none 0 0)∧Below w.heap.size w w':=by
 go_enter func111,ntmps111
 go_wp2
 go_ret
 exact ⟨rfl,Below.alloc (Below.refl _ _) (A0 _) _⟩
theorem ZP1 {w w1:World} (h:Below w.drew.heap.size w.drew w1):Below w.heap.size w w1:=⟨h.os,h.tape,h.output,h.size,fun k hk=>h.block k hk⟩
structure NdQ (w:World) (b g:Nat) (v:Value) (wr:World):Prop where
 box:Blk wr b 33 #[.slice none 0 0,.slice none 0 0,.slice none 0 0,.slice (some ⟨g,0,none⟩) 1 1,.slice none 0 0,.int .i64 0]
 node:Blk wr g 60 #[.int .i64 (-1),.int .i64 0,.string ⟨#[]⟩,.slice none 0 0,.string ⟨#[]⟩,.string ⟨#[]⟩,.int .i64 (-1),v]
 only:ZLq [b,g] w wr
theorem NdQ.later {w:World} {b g:Nat} {v:Value} {wr w2:World} (h:NdQ w b g v wr) (hb:Below wr.heap.size wr w2):NdQ w b g v w2:=⟨h.box.later hb,h.node.later hb,h.only.trans (ZLq.of_below hb _)⟩
theorem ZPX (w:World) (b g:Nat) (hbg:b≠g) (h:NdQ w b g (.slice none 0 0) w):Calls prog 63 #[.pointer (some ⟨b,0,none⟩),.slice none 0 0] w fun e w'=>e=.returned (.tuple #[])∧∃k,w.heap.size≤k∧NdQ w b g (.slice (some ⟨k,0,none⟩) 1 1) w'∧Blk w' k 52 #[.slice none 0 0,.slice none 0 0]:=by
 have H:=Lib.hid h
 clear h
 have f0:=H.out.box.at (i:=0) rfl
 have f1:=H.out.box.at (i:=1) rfl
 have f2:=H.out.box.at (i:=2) rfl
 have f3:=H.out.box.at (i:=3) rfl
 have f4:=H.out.box.at (i:=4) rfl
 have f5:=H.out.box.at (i:=5) rfl
 have z4:=H.out.box.frozen 4
 go_enter func63,ntmps63
 go_wp2_with fail
 refine (ZN8 _ _ _).mono ?_
 rintro e w1 ⟨rfl,rfl⟩
 go_wp2
 have HQ1:Hid (NdQ w1 b g (.slice none 0 0) (w1.setCell ⟨b,4,none⟩ (.slice none 0 0))):=⟨by have:=Blk.set_ H.out.box 4 (.slice none 0 0);exact this,Blk.far H.out.node (Ne.symm hbg) _,H.out.only.setCell (by simp) _⟩
 generalize hW:w1.setCell ⟨b,4,none⟩ (.slice none 0 0)=W1 at HQ1 ⊢
 clear hW f0 f1 f2 f3 f4 f5 z4
 go_loopw [16] (fun i wr=>i=.int .i64 0∧wr=W1) (fun _ _=>0)
 case atStart=>exact ⟨rfl,rfl⟩
 case round=>
  obtain ⟨rfl,rfl⟩:=hrel
  have f0:=HQ1.out.box.at (i:=0) rfl
  have f1:=HQ1.out.box.at (i:=1) rfl
  have f2:=HQ1.out.box.at (i:=2) rfl
  have f3:=HQ1.out.box.at (i:=3) rfl
  have f4:=HQ1.out.box.at (i:=4) rfl
  have f5:=HQ1.out.box.at (i:=5) rfl
  go_wp2
  clear f0 f1 f2 f3 f4 f5
  go_loopw [42] (fun i wr=>(i=.int .i64 0∧Hid (NdQ w1 b g (.slice none 0 0) wr))∨(i=.int .i64 1∧Hid (∃k,w1.heap.size≤k∧NdQ w1 b g (.slice (some ⟨k,0,none⟩) 1 1) wr∧Blk wr k 52 #[.slice none 0 0,.slice none 0 0]))) (fun i _=>1 - (intOf i).toNat)
  case atStart=>exact .inl ⟨rfl,HQ1⟩
  case round=>
   clear HQ1
   rcases hrel with ⟨rfl,HQ⟩ | ⟨rfl,HQ⟩
   ·have f0:=HQ.out.box.at (i:=0) rfl
    have f1:=HQ.out.box.at (i:=1) rfl
    have f2:=HQ.out.box.at (i:=2) rfl
    have f3:=HQ.out.box.at (i:=3) rfl
    have f4:=HQ.out.box.at (i:=4) rfl
    have f5:=HQ.out.box.at (i:=5) rfl
    have n7:=HQ.out.node.at (i:=7) rfl
    have m7:=HQ.out.node.frozen 7
    go_wp2
    go_region_held3 (fun W=>W.cell? ⟨b,0,none⟩=some (.slice none 0 0)∧W.cell? ⟨b,1,none⟩=some (.slice none 0 0)∧W.cell? ⟨b,2,none⟩=some (.slice none 0 0)∧W.cell? ⟨b,3,none⟩=some (.slice (some ⟨g,0,none⟩) 1 1)∧W.cell? ⟨b,4,none⟩=some (.slice none 0 0)∧W.cell? ⟨b,5,none⟩=some (.int .i64 0)) (first | exact ⟨f0,f1,f2,f3,f4,f5⟩ | exact ⟨r0,r1,r2,r3,r4,r5⟩ | exact ⟨(Blk.far HQ3.box hbg _).at (i:=0) rfl,(Blk.far HQ3.box hbg _).at (i:=1) rfl,(Blk.far HQ3.box hbg _).at (i:=2) rfl,(Blk.far HQ3.box hbg _).at (i:=3) rfl,(Blk.far HQ3.box hbg _).at (i:=4) rfl,(Blk.far HQ3.box hbg _).at (i:=5) rfl⟩) (first | (go_at_call 111;refine (ZPY _ _).mono ?_;rintro e w2 ⟨rfl,hb⟩;have HQ2:=HQ.out.later (ZP1 hb);have r0:=HQ2.box.at (i:=0) rfl;have r1:=HQ2.box.at (i:=1) rfl;have r2:=HQ2.box.at (i:=2) rfl;have r3:=HQ2.box.at (i:=3) rfl;have r4:=HQ2.box.at (i:=4) rfl;have r5:=HQ2.box.at (i:=5) rfl;have r7:=HQ2.node.at (i:=7) rfl;have s7:=HQ2.node.frozen 7) | (go_at_call 110;refine (ZPK _ _ _ _ _).mono ?_;rintro e w3 ⟨rfl,rfl⟩;have hb3:Below w2.heap.size w2 (w2.alloc (.cells #[.slice none 0 0,.slice none 0 0] 52)):=Below.alloc (Below.refl _ _) (A0 _) _;have HQ3:=HQ2.later hb3;have r0:=HQ3.box.at (i:=0) rfl;have r1:=HQ3.box.at (i:=1) rfl;have r2:=HQ3.box.at (i:=2) rfl;have r3:=HQ3.box.at (i:=3) rfl;have r4:=HQ3.box.at (i:=4) rfl;have r5:=HQ3.box.at (i:=5) rfl;have r7:=HQ3.node.at (i:=7) rfl;have s7:=HQ3.node.frozen 7))
    go_wp2
    exact ⟨.inr ⟨rfl,w2.heap.size,HQ2.only.size,⟨Blk.far HQ3.box hbg _,Blk.set_ HQ3.node 7 _,HQ3.only.setCell (by simp) _⟩,Blk.far (Blk.new w2 52 _) (by have:=HQ2.node.lt;dsimp only;omega) _⟩,by simp [intOf]⟩
   ·go_wp2
    exact bodyPost_end (v:=.tuple #[]) (by simp [results,results63]) rfl ⟨rfl,HQ.out⟩
theorem ZPS (w:World):Calls prog 25 #[.slice none 0 0,.slice none 0 0,.int .i64 0] w fun e w'=>∃g k,w.heap.size≤g∧g<k∧e=.returned (ZMA (.slice none 0 0) (.slice (some ⟨g,0,none⟩) 1 1))∧Blk w' g 60 (ZMR (.slice (some ⟨k,0,none⟩) 1 1))∧Blk w' k 52 #[.slice none 0 0,.slice none 0 0]∧Below w.heap.size w w':=by
 go_enter func25,ntmps25
 go_wp2_with fail
 refine (ZOM _).mono ?_
 rintro e w1 ⟨rfl,hk,hb⟩
 simp only[ZMA]
 go_wp2_with fail
 have hs1:=hb.size
 have hs2:=hk.lt
 have hK0:Blk w1 w.heap.size 33 #[.slice none 0 0,.slice none 0 0,.slice none 0 0,.slice none 0 0,.slice none 0 0,.int .i64 0]:=(Blk.new w 33 _).later hb
 have hB1:Below w.heap.size w w1:=Below.trans (Below.alloc (Below.refl _ _) (A0 _) _) (hb.mono (by simp))
 simp only[World.alloc,AH] at hs1 hs2
 have hq:NdQ (w1.alloc (.cells #[.slice none 0 0,.slice none 0 0,.slice none 0 0,.slice (some ⟨w.heap.size+1+1,0,none⟩) 1 1,.slice none 0 0,.int .i64 0] 33)) w1.heap.size (w.heap.size+1+1) (.slice none 0 0) (w1.alloc (.cells #[.slice none 0 0,.slice none 0 0,.slice none 0 0,.slice (some ⟨w.heap.size+1+1,0,none⟩) 1 1,.slice none 0 0,.int .i64 0] 33)):=⟨Blk.new _ _ _,by have:=Blk.alloc hk (.cells #[.slice none 0 0,.slice none 0 0,.slice none 0 0,.slice (some ⟨w.heap.size+1+1,0,none⟩) 1 1,.slice none 0 0,.int .i64 0] 33);simpa [ZMR] using this,ZLq.refl _ _⟩
 have HB1:=Lib.hid hB1
 have HK0:=Lib.hid hK0
 clear hB1 hK0 hk hb
 refine (ZPX _ w1.heap.size (w.heap.size+1+1) (by omega) hq).mono ?_
 rintro e w2 ⟨rfl,k,hk0,hQ,hT⟩
 have HQ:=Lib.hid hQ
 have HT:=Lib.hid hT
 have HK:Hid (Blk w2 w.heap.size 33 #[.slice none 0 0,.slice none 0 0,.slice none 0 0,.slice none 0 0,.slice none 0 0,.int .i64 0]):=(hQ.only.block _ (by simp;omega) (by simp;omega)).trans (Blk.alloc HK0.out _)
 have HB:Hid (Below w.heap.size w w2):=Below.trans (Below.alloc HB1.out (by omega) _) (hQ.only.below (by simp;omega) (by simp;omega))
 have hk1:w1.heap.size+1≤k:=by simpa using hk0
 clear hQ hT hq hk0
 have f0:=HQ.out.box.at (i:=0) rfl
 have f1:=HQ.out.box.at (i:=1) rfl
 have f2:=HQ.out.box.at (i:=2) rfl
 have f3:=HQ.out.box.at (i:=3) rfl
 have f4:=HQ.out.box.at (i:=4) rfl
 have f5:=HQ.out.box.at (i:=5) rfl
 have r0:=HK.out.at (i:=0) rfl
 have r1:=HK.out.at (i:=1) rfl
 have r2:=HK.out.at (i:=2) rfl
 have r3:=HK.out.at (i:=3) rfl
 have r4:=HK.out.at (i:=4) rfl
 have r5:=HK.out.at (i:=5) rfl
 have z0:=HK.out.frozen 0
 have z1:=HK.out.frozen 1
 have z2:=HK.out.frozen 2
 have z3:=HK.out.frozen 3
 have z4:=HK.out.frozen 4
 have z5:=HK.out.frozen 5
 have y5:=HQ.out.box.frozen 5
 go_wp2_with fail
 refine bodyPost_ret (v:=ZMA (.slice none 0 0) (.slice (some ⟨w.heap.size+1+1,0,none⟩) 1 1)) (by simp [results,results25,go_sem,ZMA,r0,r1,r2,r3,r4,r5]) rfl ?_
 have hw1:w.heap.size+1+1<w1.heap.size:=hs2
 exact ⟨_,k,by omega,by omega,rfl,by repeat (first | refine Blk.far ?_ (by dsimp only;omega) _ | exact HQ.out.node),by repeat (first | refine Blk.far ?_ (by dsimp only;omega) _ | exact HT.out),by repeat (first | refine Below.setCell ?_ (by dsimp only;omega) _ | exact HB.out)⟩
theorem ZNz (w:World):Calls prog 12 #[.slice none 0 0] w fun e w'=>∃g k,w.heap.size≤g∧g<k∧e=.returned (.tuple #[ZMA (.slice none 0 0) (.slice (some ⟨g,0,none⟩) 1 1),.bool true])∧Blk w' g 60 (ZMR (.slice (some ⟨k,0,none⟩) 1 1))∧Blk w' k 52 #[.slice none 0 0,.slice none 0 0]∧Below w.heap.size w w':=by
 go_enter func12,ntmps12
 go_wp2_with fail
 refine (ZNk _ _ _).mono ?_
 rintro e w1 ⟨rfl,rfl⟩
 go_wp2_with fail
 refine (ZPS _).mono ?_
 rintro e w1 ⟨g,k,hg0,hg1,rfl,hg,hk,hb⟩
 simp only[World.alloc,AH] at hg0
 have hb2:=hb.size
 simp only[World.alloc,AH] at hb2
 have HK:Hid (Blk w1 w.heap.size 33 #[.slice none 0 0,.slice none 0 0,.slice none 0 0,.slice none 0 0,.slice none 0 0,.int .i64 0]):=(Blk.new w 33 _).later hb
 have HB:Hid (Below w.heap.size w w1):=Below.trans (Below.alloc (Below.refl _ _) (A0 _) _) (hb.mono (by simp))
 have HG:=Lib.hid hg
 have HT:=Lib.hid hk
 clear hb hg hk
 simp only[ZMA]
 have r0:=HK.out.at (i:=0) rfl
 have r1:=HK.out.at (i:=1) rfl
 have r2:=HK.out.at (i:=2) rfl
 have r3:=HK.out.at (i:=3) rfl
 have r4:=HK.out.at (i:=4) rfl
 have r5:=HK.out.at (i:=5) rfl
 have z0:=HK.out.frozen 0
 have z1:=HK.out.frozen 1
 have z2:=HK.out.frozen 2
 have z3:=HK.out.frozen 3
 have z4:=HK.out.frozen 4
 have z5:=HK.out.frozen 5
 go_wp2_with fail
 refine bodyPost_ret (v:=.tuple #[ZMA (.slice none 0 0) (.slice (some ⟨g,0,none⟩) 1 1),.bool true]) (by simp [results,results12,go_sem,ZMA,r0,r1,r2,r3,r4,r5]) rfl ?_
 exact ⟨g,k,by omega,hg1,rfl,by repeat (first | refine Blk.far ?_ (by dsimp only;omega) _ | exact HG.out),by repeat (first | refine Blk.far ?_ (by dsimp only;omega) _ | exact HT.out),by repeat (first | refine Below.setCell ?_ (by dsimp only;omega) _ | exact HB.out)⟩
theorem ZNC (w:World):Calls prog 10 #[.slice none 0 0] w fun e w'=>∃r g k,w.heap.size≤r∧r<k∧k<g∧e=.returned (.tuple #[ZMA (.slice (some ⟨r,0,none⟩) 0 0) (.slice (some ⟨g,0,none⟩) 1 1),.bool true])∧Blk w' r 65 #[]∧Blk w' g 60 (ZMR (.slice (some ⟨k,0,none⟩) 1 1))∧Blk w' k 52 #[.slice none 0 0,.slice none 0 0]∧Below w.heap.size w w':=by
 go_enter func10,ntmps10
 go_wp2_with fail
 refine (ZNa _ _ _).mono ?_
 rintro e w1 ⟨rfl,rfl⟩
 go_wp2_with fail
 refine (ZNj _ _ _).mono ?_
 rintro e w1 ⟨rfl,rfl⟩
 go_wp2_with fail
 go_loopw [5] (fun i wr=>i=.int .i64 0∧wr=(((((w.alloc (.cells #[.slice none 0 0,.slice none 0 0,.slice none 0 0,.slice none 0 0,.slice none 0 0,.int .i64 0] 33)).alloc (.cells #[] 65)).alloc (.cells #[.slice none 0 0,.slice none 0 0] 52)).alloc (.cells #[.int .i64 (-1),.int .i64 0,.string ⟨#[]⟩,.slice none 0 0,.string ⟨#[]⟩,.string ⟨#[]⟩,.int .i64 (-1),.slice (some ⟨w.heap.size+1+1,0,none⟩) 1 1] 60)).alloc (.cells #[.slice (some ⟨w.heap.size+1,0,none⟩) 0 0,.slice none 0 0,.slice none 0 0,.slice (some ⟨w.heap.size+1+1+1,0,none⟩) 1 1,.slice none 0 0,.int .i64 0] 33))) (fun _ _=>0)
 case atStart=>exact ⟨rfl,rfl⟩
 case round=>
  obtain ⟨rfl,rfl⟩:=hrel
  go_wp2
  refine bodyPost_ret (v:=.tuple #[ZMA (.slice (some ⟨w.heap.size+1,0,none⟩) 0 0) (.slice (some ⟨w.heap.size+1+1+1,0,none⟩) 1 1),.bool true]) (by simp [results,results10,go_sem,ZMA]) rfl ?_
  exact ⟨w.heap.size+1,w.heap.size+1+1+1,w.heap.size+1+1,by omega,by omega,by omega,rfl,Blk.alloc (Blk.alloc (Blk.alloc (Blk.new_at (by simp)) _) _) _,Blk.alloc (Blk.new_at (by simp)) _,Blk.alloc (Blk.alloc (Blk.new_at (by simp)) _) _,Below.alloc (Below.alloc (Below.alloc (Below.alloc (Below.alloc (Below.refl _ _) (A0 _) _) (by simp) _) (by simp;omega) _) (by simp;omega) _) (by simp;omega) _⟩
def ZNA (re rn n:Value):Value:=.agg #[re,.slice none 0 0,.int .i64 0,.slice none 0 0,.bool false,.slice none 0 0,rn,.slice none 0 0,.slice none 0 0,n,.slice none 0 0,.int .i64 0]
theorem ZN7 (w:World):Calls prog 5 #[] w fun e w'=>∃g k,w.heap.size≤g∧g<k∧e=.returned (ZNA (.slice none 0 0) (.slice none 0 0) (.slice (some ⟨g,0,none⟩) 1 1))∧Blk w' g 60 (ZMR (.slice (some ⟨k,0,none⟩) 1 1))∧Blk w' k 52 #[.slice none 0 0,.slice none 0 0]∧Below w.heap.size w w':=by
 go_enter func5,ntmps5
 go_wp2_with fail
 refine (ZOa _).mono ?_
 rintro e w1 ⟨rfl,hb⟩
 have hb2:=hb.size
 simp only[World.alloc,AH] at hb2
 have HK:Hid (Blk w1 w.heap.size 35 #[.slice none 0 0,.slice none 0 0,.int .i64 0,.slice none 0 0,.bool false,.slice none 0 0,.slice none 0 0,.slice none 0 0,.slice none 0 0,.slice none 0 0,.slice none 0 0,.int .i64 0]):=(Blk.new w 35 _).later hb
 have HB:Hid (Below w.heap.size w w1):=Below.trans (Below.alloc (Below.refl _ _) (A0 _) _) (hb.mono (by simp))
 clear hb
 simp only[ZNX]
 go_wp2_with fail
 refine (ZNz _).mono ?_
 rintro e w2 ⟨g,k,hg0,hg1,rfl,hg,hk,hb⟩
 have hb3:=hb.size
 simp only[World.alloc,AH] at hg0 hb3
 have HE:Hid (Blk w2 w1.heap.size 27 #[.slice none 0 0,.slice none 0 0,.int .i64 0,.slice none 0 0,.bool false,.slice none 0 0]):=(Blk.new w1 27 _).later hb
 have HK2:Hid (Blk w2 w.heap.size 35 #[.slice none 0 0,.slice none 0 0,.int .i64 0,.slice none 0 0,.bool false,.slice none 0 0,.slice none 0 0,.slice none 0 0,.slice none 0 0,.slice none 0 0,.slice none 0 0,.int .i64 0]):=(Blk.alloc HK.out _).later hb
 have HB2:Hid (Below w.heap.size w w2):=Below.trans (Below.alloc HB.out (by omega) _) (hb.mono (by simp;omega))
 have HG:=Lib.hid hg
 have HT:=Lib.hid hk
 clear hb hg hk
 simp only[ZMA]
 have HE2:=Lib.hid (Blk.alloc HE.out (.cells #[.slice none 0 0,.slice none 0 0,.slice none 0 0,.slice (some ⟨g,0,none⟩) 1 1,.slice none 0 0,.int .i64 0] 33))
 have HK3:=Lib.hid (Blk.alloc HK2.out (.cells #[.slice none 0 0,.slice none 0 0,.slice none 0 0,.slice (some ⟨g,0,none⟩) 1 1,.slice none 0 0,.int .i64 0] 33))
 have f0:=HE2.out.at (i:=0) rfl
 have f1:=HE2.out.at (i:=1) rfl
 have f2:=HE2.out.at (i:=2) rfl
 have f3:=HE2.out.at (i:=3) rfl
 have f4:=HE2.out.at (i:=4) rfl
 have f5:=HE2.out.at (i:=5) rfl
 have r0:=HK3.out.at (i:=0) rfl
 have r1:=HK3.out.at (i:=1) rfl
 have r2:=HK3.out.at (i:=2) rfl
 have r3:=HK3.out.at (i:=3) rfl
 have r4:=HK3.out.at (i:=4) rfl
 have r5:=HK3.out.at (i:=5) rfl
 have r6:=HK3.out.at (i:=6) rfl
 have r7:=HK3.out.at (i:=7) rfl
 have r8:=HK3.out.at (i:=8) rfl
 have r9:=HK3.out.at (i:=9) rfl
 have r10:=HK3.out.at (i:=10) rfl
 have r11:=HK3.out.at (i:=11) rfl
 have z0:=HK3.out.frozen 0
 have z1:=HK3.out.frozen 1
 have z2:=HK3.out.frozen 2
 have z3:=HK3.out.frozen 3
 have z4:=HK3.out.frozen 4
 have z5:=HK3.out.frozen 5
 have z6:=HK3.out.frozen 6
 have z7:=HK3.out.frozen 7
 have z8:=HK3.out.frozen 8
 have z9:=HK3.out.frozen 9
 have z10:=HK3.out.frozen 10
 have z11:=HK3.out.frozen 11
 go_wp2_with fail
 refine bodyPost_ret (v:=ZNA (.slice none 0 0) (.slice none 0 0) (.slice (some ⟨g,0,none⟩) 1 1)) (by simp [results,results5,go_sem,ZNA,r0,r1,r2,r3,r4,r5,r6,r7,r8,r9,r10,r11]) rfl ?_
 exact ⟨g,k,by omega,hg1,rfl,by repeat (first | refine Blk.far ?_ (by dsimp only;omega) _ | refine Blk.alloc ?_ _ | exact HG.out),by repeat (first | refine Blk.far ?_ (by dsimp only;omega) _ | refine Blk.alloc ?_ _ | exact HT.out),by repeat (first | refine Below.setCell ?_ (by dsimp only;omega) _ | refine Below.alloc ?_ (by omega) _ | exact HB2.out)⟩
theorem ZN5 (w:World):Calls prog 4 #[] w fun e w'=>∃p r g k,w.heap.size≤k∧k<g∧e=.returned (ZNA (.slice (some ⟨p,0,none⟩) 0 0) (.slice (some ⟨r,0,none⟩) 0 0) (.slice (some ⟨g,0,none⟩) 1 1))∧Blk w' g 60 (ZMR (.slice (some ⟨k,0,none⟩) 1 1))∧Blk w' k 52 #[.slice none 0 0,.slice none 0 0]∧Below w.heap.size w w':=by
 go_enter func4,ntmps4
 go_wp2_with fail
 refine (ZOb _).mono ?_
 rintro e w1 ⟨rfl,hp,hb⟩
 generalize (w.alloc (.cells #[.slice none 0 0,.slice none 0 0,.int .i64 0,.slice none 0 0,.bool false,.slice none 0 0,.slice none 0 0,.slice none 0 0,.slice none 0 0,.slice none 0 0,.slice none 0 0,.int .i64 0] 35)).heap.size+1=p at hp ⊢
 clear hp
 have hb2:=hb.size
 simp only[World.alloc,AH] at hb2
 have HK:Hid (Blk w1 w.heap.size 35 #[.slice none 0 0,.slice none 0 0,.int .i64 0,.slice none 0 0,.bool false,.slice none 0 0,.slice none 0 0,.slice none 0 0,.slice none 0 0,.slice none 0 0,.slice none 0 0,.int .i64 0]):=(Blk.new w 35 _).later hb
 have HB:Hid (Below w.heap.size w w1):=Below.trans (Below.alloc (Below.refl _ _) (A0 _) _) (hb.mono (by simp))
 clear hb
 simp only[ZNX]
 go_wp2_with fail
 refine (ZNC _).mono ?_
 rintro e w2 ⟨r,g,k,hr0,hr1,hg1,rfl,-,hg,hk,hb⟩
 have hg0:=Nat.le_of_lt (Nat.lt_of_le_of_lt hr0 hr1)
 have hb3:=hb.size
 simp only[World.alloc,AH] at hg0 hb3
 have HE:Hid (Blk w2 w1.heap.size 27 #[.slice (some ⟨p,0,none⟩) 0 0,.slice none 0 0,.int .i64 0,.slice none 0 0,.bool false,.slice none 0 0]):=(Blk.new w1 27 _).later hb
 have HK2:Hid (Blk w2 w.heap.size 35 #[.slice none 0 0,.slice none 0 0,.int .i64 0,.slice none 0 0,.bool false,.slice none 0 0,.slice none 0 0,.slice none 0 0,.slice none 0 0,.slice none 0 0,.slice none 0 0,.int .i64 0]):=(Blk.alloc HK.out _).later hb
 have HB2:Hid (Below w.heap.size w w2):=Below.trans (Below.alloc HB.out (by omega) _) (hb.mono (by simp;omega))
 have HG:=Lib.hid hg
 have HT:=Lib.hid hk
 clear hb hg hk
 simp only[ZMA]
 have HE2:=Lib.hid (Blk.alloc HE.out (.cells #[.slice (some ⟨r,0,none⟩) 0 0,.slice none 0 0,.slice none 0 0,.slice (some ⟨g,0,none⟩) 1 1,.slice none 0 0,.int .i64 0] 33))
 have HK3:=Lib.hid (Blk.alloc HK2.out (.cells #[.slice (some ⟨r,0,none⟩) 0 0,.slice none 0 0,.slice none 0 0,.slice (some ⟨g,0,none⟩) 1 1,.slice none 0 0,.int .i64 0] 33))
 have f0:=HE2.out.at (i:=0) rfl
 have f1:=HE2.out.at (i:=1) rfl
 have f2:=HE2.out.at (i:=2) rfl
 have f3:=HE2.out.at (i:=3) rfl
 have f4:=HE2.out.at (i:=4) rfl
 have f5:=HE2.out.at (i:=5) rfl
 have r0:=HK3.out.at (i:=0) rfl
 have r1:=HK3.out.at (i:=1) rfl
 have r2:=HK3.out.at (i:=2) rfl
 have r3:=HK3.out.at (i:=3) rfl
 have r4:=HK3.out.at (i:=4) rfl
 have r5:=HK3.out.at (i:=5) rfl
 have r6:=HK3.out.at (i:=6) rfl
 have r7:=HK3.out.at (i:=7) rfl
 have r8:=HK3.out.at (i:=8) rfl
 have r9:=HK3.out.at (i:=9) rfl
 have r10:=HK3.out.at (i:=10) rfl
 have r11:=HK3.out.at (i:=11) rfl
 have z0:=HK3.out.frozen 0
 have z1:=HK3.out.frozen 1
 have z2:=HK3.out.frozen 2
 have z3:=HK3.out.frozen 3
 have z4:=HK3.out.frozen 4
 have z5:=HK3.out.frozen 5
 have z6:=HK3.out.frozen 6
 have z7:=HK3.out.frozen 7
 have z8:=HK3.out.frozen 8
 have z9:=HK3.out.frozen 9
 have z10:=HK3.out.frozen 10
 have z11:=HK3.out.frozen 11
 go_wp2_with fail
 refine bodyPost_ret (v:=ZNA (.slice (some ⟨p,0,none⟩) 0 0) (.slice (some ⟨r,0,none⟩) 0 0) (.slice (some ⟨g,0,none⟩) 1 1)) (by simp [results,results4,go_sem,ZNA,r0,r1,r2,r3,r4,r5,r6,r7,r8,r9,r10,r11]) rfl ?_
 exact ⟨p,r,g,k,by omega,hg1,rfl,by repeat (first | refine Blk.far ?_ (by dsimp only;omega) _ | refine Blk.alloc ?_ _ | exact HG.out),by repeat (first | refine Blk.far ?_ (by dsimp only;omega) _ | refine Blk.alloc ?_ _ | exact HT.out),by repeat (first | refine Below.setCell ?_ (by dsimp only;omega) _ | refine Below.alloc ?_ (by omega) _ | exact HB2.out)⟩
def ZAT:Zw:={ facts:=[],binding:=[] }
def ZP2:ZMe:={ parent:=-1,cond:={ kind:=0,pattern:={ rel:=⟨#[]⟩,args:=[] },left:=⟨#[]⟩,right:=⟨#[]⟩ },alpha:=-1,tokens:=[ZAT] }
def ZPO:ZMq:={ engine:={ rules:=[],memory:=[],clock:=0,fired:=[],halted:=false,log:=[] },network:={ rules:=[],ends:=[],alphas:=[],nodes:=[ZP2],facts:=[],tries:=0 } }
def ZOY:Option ZMq:=some ZPO
def ZO0:Option ZMq:=some ZPO
theorem ZOZ {w:World} {g:Nat} {t:TypeId} {cs:Array Value} (h:Blk w g t cs) {xs:List Value} (e:xs=cs.toList):ZbE w g 0 xs:=by
 subst e
 intro i v hv
 rw [Nat.zero_add]
 exact h.at (by simpa using hv)
theorem ZPE {w w':World} {A B:Option Addr} {g k:Nat} (hg:w.heap.size≤g) (hk:w.heap.size≤k) (hne:g≠k) (h1:Blk w' g 60 (ZMR (.slice (some ⟨k,0,none⟩) 1 1))) (h2:Blk w' k 52 #[.slice none 0 0,.slice none 0 0]) (hb:Below w.heap.size w w'):ZIj ZNR w ZPO (.returned (ZNA (.slice A 0 0) (.slice B 0 0) (.slice (some ⟨g,0,none⟩) 1 1))) w':=by
 have hm:(1:Nat)≤maxLen:=by unfold maxLen;omega
 have ht:Sli ZlR w' (some ⟨k,0,none⟩) [ZAT] [k]:=⟨[.slice none 0 0,.slice none 0 0],[k],[],rfl,⟨rfl,.inr ⟨by simp,k,0,rfl,rfl,ZOZ h2 rfl⟩⟩,[.slice none 0 0,.slice none 0 0],[],[],[],rfl,rfl,⟨none,0,[],none,0,[],rfl,rfl,A0 _,AA _,Sli.nil _ _,A0 _,AA _,Sli.nil _ _⟩,rfl,rfl⟩
 have hn:Sli ZMg w' (some ⟨g,0,none⟩) [ZP2] [g,k]:=⟨(ZMR (.slice (some ⟨k,0,none⟩) 1 1)).toList,[g],[k],rfl,⟨rfl,.inr ⟨by simp,g,0,rfl,rfl,ZOZ h1 rfl⟩⟩,(ZMR (.slice (some ⟨k,0,none⟩) 1 1)).toList,[],[k],[],rfl,rfl,⟨none,0,[],some ⟨k,0,none⟩,1,[k],rfl,rfl,by decide,by decide,by decide,A0 _,AA _,Sli.nil _ _,A0 _,hm,ht⟩,rfl,rfl⟩
 refine ⟨[.slice A 0 0,.slice none 0 0,.int .i64 0,.slice none 0 0,.bool false,.slice none 0 0,.slice B 0 0,.slice none 0 0,.slice none 0 0,.slice (some ⟨g,0,none⟩) 1 1,.slice none 0 0,.int .i64 0],[g,k],rfl,⟨⟨A,0,[],none,0,[],none,0,[],none,0,[],B,0,[],none,0,[],none,0,[],some ⟨g,0,none⟩,1,[g,k],none,0,[],rfl,rfl,A0 _,AA _,Sli.nil _ _,A0 _,AA _,Sli.nil _ _,A0 _,AA _,Sli.nil _ _,A0 _,AA _,Sli.nil _ _,A0 _,AA _,Sli.nil _ _,A0 _,AA _,Sli.nil _ _,A0 _,AA _,Sli.nil _ _,A0 _,hm,hn,A0 _,AA _,Sli.nil _ _⟩,?_⟩,hb⟩
 refine ⟨by simp [hne],fun b m=>?_,fun b m=>?_⟩
 ·simp at m;rcases m with rfl | rfl
  ·exact hg
  ·exact hk
 ·simp at m;rcases m with rfl | rfl
  ·exact ⟨_,_,h1⟩
  ·exact ⟨_,_,h2⟩
theorem ZOW:∃r,ZOY=some r∧ZO0=some r∧ZOk r≤1048576:=⟨ZPO,rfl,rfl,by decide⟩
theorem ZNQ {r:ZMq} (hh:ZO0=some r) (w:World):Calls prog 5 #[] w (ZIj ZNR w r):=by
 obtain rfl:=AZ hh
 refine (ZN7 w).mono ?_
 rintro e w' ⟨g,k,h1,h2,rfl,h3,h4,hb⟩
 exact ZPE h1 (by omega) (by omega) h3 h4 hb
theorem ZO9 {r:ZMq} (hh:ZOY=some r) (w:World):Calls prog 4 #[] w (ZIj ZNR w r):=by
 obtain rfl:=AZ hh
 refine (ZN5 w).mono ?_
 rintro e w' ⟨p,r,g,k,h1,h2,rfl,h3,h4,hb⟩
 exact ZPE (by omega) h1 (by omega) h3 h4 hb
end
section
open Go.RowKit
def ZLx (w:World) (e:Ending) (w':World):Prop:=e=.returned (.bool true)∧Below w.heap.size w w'
set_option maxHeartbeats 1600000 in
theorem ZNv (A B:Option Addr) (n c d:Nat) (ds:List ByteArray) (L M:List Nat) (w:World) (hn:n=ds.length) (hm:n≤9223372036854775807) (h1:Sli ZsX w A ds L) (h2:Sli ZsX w B ds M):
  Calls prog 117 #[.slice A n c,.slice B n d] w (ZLx w):=by
 have H1:=Lib.hid h1
 have H2:=Lib.hid h2
 have HN:=Lib.hid hn
 clear h1 h2 hn
 have hne:((n:Int) != n)=false:=by simp
 go_enter func117,ntmps117
 go_wp2
 go_loopw [5] (fun i wr=>∃(k:Nat),k≤n∧i=.int .i64 k∧Hid (∃q,wr=w.drewN q)) (fun i _=>n - (intOf i).toNat)
 case atStart=>exact ⟨0,AA _,rfl,0,rfl⟩
 case round=>
  obtain ⟨k,hk,rfl,hq⟩:=hrel
  obtain ⟨q,rfl⟩:=hq.out
  by_cases hlt:k<n
  ·have hkl:k<ds.length:=by have:=HN.out;omega
   obtain ⟨b,off,cs,Lk,rfl,_,_,hrep,hc⟩:=H1.out.at_ hkl
   obtain ⟨b',off',cs',Mk,rfl,_,_,hrep',hc'⟩:=H2.out.at_ hkl
   generalize ds[k]=x at *
   obtain ⟨rfl,_,_⟩:=hrep
   obtain ⟨rfl,_,_⟩:=hrep'
   have q0:=hc 0 _ rfl
   have p0:=hc' 0 _ rfl
   simp only[show ZsX.size=1 from rfl,Nat.mul_one,Nat.add_zero] at q0 p0
   clear hc hc'
   have k0:(0:Int)≤k:=by omega
   have k1:(k:Int)<n:=by omega
   go_wp2_with fail
   go_quiet (fail)
   go_wp2_with fail
   go_roundw
   case rel=>exact ⟨k+1,by omega,by go_num,by first | exact ZPQ _ _ _ | exact ZPr _ _⟩
   case measure=>simp [intOf];omega
  ·go_wp2
   go_ret
   exact ⟨rfl,ZNn _ _ _⟩
set_option maxHeartbeats 1600000 in
theorem ZOi (A B:Option Addr) (n c d:Nat) (ds:List Int) (L M:List Nat) (w:World) (hn:n=ds.length) (hm:n≤9223372036854775807) (h1:Sli Zj7 w A ds L) (h2:Sli Zj7 w B ds M):
  Calls prog 30 #[.slice A n c,.slice B n d] w (ZLx w):=by
 have H1:=Lib.hid h1
 have H2:=Lib.hid h2
 have HN:=Lib.hid hn
 clear h1 h2 hn
 have hne:((n:Int) != n)=false:=by simp
 go_enter func30,ntmps30
 go_wp2
 go_loopw [5] (fun i wr=>∃(k:Nat),k≤n∧i=.int .i64 k∧Hid (∃q,wr=w.drewN q)) (fun i _=>n - (intOf i).toNat)
 case atStart=>exact ⟨0,AA _,rfl,0,rfl⟩
 case round=>
  obtain ⟨k,hk,rfl,hq⟩:=hrel
  obtain ⟨q,rfl⟩:=hq.out
  by_cases hlt:k<n
  ·have hkl:k<ds.length:=by have:=HN.out;omega
   obtain ⟨b,off,cs,Lk,rfl,_,_,hrep,hc⟩:=H1.out.at_ hkl
   obtain ⟨b',off',cs',Mk,rfl,_,_,hrep',hc'⟩:=H2.out.at_ hkl
   generalize ds[k]=x at *
   obtain ⟨rfl,_⟩:=hrep
   obtain ⟨rfl,_⟩:=hrep'
   have q0:=hc 0 _ rfl
   have p0:=hc' 0 _ rfl
   simp only[show Zj7.size=1 from rfl,Nat.mul_one,Nat.add_zero] at q0 p0
   clear hc hc'
   have k0:(0:Int)≤k:=by omega
   have k1:(k:Int)<n:=by omega
   go_wp2_with fail
   go_quiet (fail)
   go_wp2_with fail
   go_roundw
   case rel=>exact ⟨k+1,by omega,by go_num,by first | exact ZPQ _ _ _ | exact ZPr _ _⟩
   case measure=>simp [intOf];omega
  ·go_wp2
   go_ret
   exact ⟨rfl,ZNn _ _ _⟩
set_option maxHeartbeats 1600000 in
theorem ZNy (cs ds:List Value) (x:Za) (L M:List Nat) (w:World) (h1:Yf.rep w cs x L) (h2:Yf.rep w ds x M):
  Calls prog 70 #[.agg cs.toArray,.agg ds.toArray] w (ZLx w):=by
 obtain ⟨aA1,ac1,aL1,rfl,_ahL,at0,an1,am1,as1⟩:=h1
 obtain ⟨bA1,bc1,bL1,rfl,_bhL,bt0,bn1,bm1,bs1⟩:=h2
 unfold maxLen at am1 bm1
 have SA1:=Lib.hid as1
 have SB1:=Lib.hid bs1
 clear as1 bs1
 go_enter func70,ntmps70
 go_wp2_with fail
 refine (ZNv aA1 bA1 _ ac1 bc1 x.args aL1 bL1 _ rfl (by omega) (SA1.out.below (by repeat (first | refine Below.setCell ?_ (by dsimp only;omega) _ | refine Below.alloc ?_ (by first | (simp;done) | (simp;omega) | omega) _ | exact Below.refl _ _))) (SB1.out.below (by repeat (first | refine Below.setCell ?_ (by dsimp only;omega) _ | refine Below.alloc ?_ (by first | (simp;done) | (simp;omega) | omega) _ | exact Below.refl _ _)))).mono ?_
 rintro e w1 ⟨rfl,hb1⟩
 have B1:Hid (Below w.heap.size w w1):=Below.trans (by repeat (first | refine Below.setCell ?_ (by dsimp only;omega) _ | refine Below.alloc ?_ (by first | (simp;done) | (simp;omega) | omega) _ | exact Below.refl _ _)) (hb1.mono (by first | (simp;done) | (simp;omega) | omega))
 have K0:Hid (Blk w1 w.heap.size 98 #[.string x.rel,.slice aA1 x.args.length ac1]):=Blk.later (Blk.alloc (Blk.new _ _ _) _) hb1
 have K1:Hid (Blk w1 (w.heap.size+1) 98 #[.string x.rel,.slice bA1 x.args.length bc1]):=Blk.later (Blk.new_at (by simp)) hb1
 have f0:=K0.out.at (i:=0) rfl
 have r0:=K1.out.at (i:=0) rfl
 have f1:=K0.out.at (i:=1) rfl
 have r1:=K1.out.at (i:=1) rfl
 clear hb1
 have hz1:=B1.out.size
 go_wp2_with fail
 go_ret
 exact ⟨rfl,(by repeat (first | refine Below.setCell ?_ (by dsimp only;omega) _ | refine Below.alloc ?_ (by first | (simp;done) | (simp;omega) | omega) _ | exact B1.out))⟩
set_option maxRecDepth 100000 in
set_option maxHeartbeats 1600000 in
theorem ZNl (A B:Option Addr) (n c d:Nat) (ds:List Za) (L M:List Nat) (w:World) (hn:n=ds.length) (hm:n≤9223372036854775807) (h1:Sli Yf w A ds L) (h2:Sli Yf w B ds M):
  Calls prog 33 #[.slice A n c,.slice B n d] w (ZLx w):=by
 have H1:=Lib.hid h1
 have H2:=Lib.hid h2
 have HN:=Lib.hid hn
 clear h1 h2 hn
 have hne:((n:Int) != n)=false:=by simp
 go_enter func33,ntmps33
 go_wp2
 go_loopw [5] (fun i wr=>∃(k:Nat),k≤n∧i=.int .i64 k∧Hid (Below w.heap.size w wr)) (fun i _=>n - (intOf i).toNat)
 case atStart=>exact ⟨0,AA _,rfl,Below.refl _ _⟩
 case round=>
  obtain ⟨k,hk,rfl,HB⟩:=hrel
  by_cases hlt:k<n
  ·have hkl:k<ds.length:=by have:=HN.out;omega
   obtain ⟨b,off,cs,Lk,rfl,hbL,hLk,hrep,hc⟩:=H1.out.at_ hkl
   obtain ⟨b',off',cs',Mk,rfl,hbM,hMk,hrep',hc'⟩:=H2.out.at_ hkl
   have hbl:b<w.heap.size:=H1.out.lt b hbL
   have hbl':b'<w.heap.size:=H2.out.lt b' hbM
   have HR:=Lib.hid (Yf.keep hrep (Qu HB.out (fun y m=>H1.out.lt y (hLk y m))))
   have HR':=Lib.hid (Yf.keep hrep' (Qu HB.out (fun y m=>H2.out.lt y (hMk y m))))
   generalize ds[k]=x at *
   obtain ⟨aA1,ac1,rfl⟩:=ZN2 hrep
   obtain ⟨bA1,bc1,rfl⟩:=ZN2 hrep'
   have q0:wr.cell? ⟨b,off+k * 2,none⟩=_:=(HB.out.cell (p:=⟨b,off+(k * 2+0),none⟩) hbl).trans (hc 0 _ rfl)
   have p0:wr.cell? ⟨b',off'+k * 2,none⟩=_:=(HB.out.cell (p:=⟨b',off'+(k * 2+0),none⟩) hbl').trans (hc' 0 _ rfl)
   have q1:wr.cell? ⟨b,off+k * 2+1,none⟩=_:=(HB.out.cell (p:=⟨b,off+(k * 2+1),none⟩) hbl).trans (hc 1 _ rfl)
   have p1:wr.cell? ⟨b',off'+k * 2+1,none⟩=_:=(HB.out.cell (p:=⟨b',off'+(k * 2+1),none⟩) hbl').trans (hc' 1 _ rfl)
   clear hc hc' hrep hrep'
   have k0:(0:Int)≤k:=by omega
   have k1:(k:Int)<n:=by omega
   go_wp2_with fail
   go_still_tail 8,(by kernel_rfl)
   change wpList _ _ _ _ _ wr.drew
   go_wp2_with (go_at_call 70;(refine (ZNy _ _ x Lk Mk wr.drew (Yf.keep HR.out (fun _ _=>rfl)) (Yf.keep HR'.out (fun _ _=>rfl))).mono ?_;rintro e w1 ⟨rfl,hb1⟩;have HB1:=Lib.hid (HB.out.drew.trans (hb1.mono HB.out.size));clear hb1))
   go_roundw
   case rel=>exact ⟨k+1,by omega,by go_num,HB1.out⟩
   case measure=>simp [intOf];omega
  ·go_wp2
   go_ret
   exact ⟨rfl,HB.out⟩
set_option maxHeartbeats 1600000 in
theorem ZMN (cs ds:List Value) (x:Zo) (L M:List Nat) (w:World) (h1:ZPl.rep w cs x L) (h2:ZPl.rep w ds x M):
  Calls prog 114 #[.agg cs.toArray,.agg ds.toArray] w (ZLx w):=by
 obtain ⟨aA1,ac1,aL1,rfl,_ahL,at0,an1,am1,as1⟩:=h1
 obtain ⟨bA1,bc1,bL1,rfl,_bhL,bt0,bn1,bm1,bs1⟩:=h2
 unfold maxLen at am1 bm1
 have SA1:=Lib.hid as1
 have SB1:=Lib.hid bs1
 clear as1 bs1
 go_enter func114,ntmps114
 go_wp2_with fail
 refine (ZNv aA1 bA1 _ ac1 bc1 x.args aL1 bL1 _ rfl (by omega) (SA1.out.below (by repeat (first | refine Below.setCell ?_ (by dsimp only;omega) _ | refine Below.alloc ?_ (by first | (simp;done) | (simp;omega) | omega) _ | exact Below.refl _ _))) (SB1.out.below (by repeat (first | refine Below.setCell ?_ (by dsimp only;omega) _ | refine Below.alloc ?_ (by first | (simp;done) | (simp;omega) | omega) _ | exact Below.refl _ _)))).mono ?_
 rintro e w1 ⟨rfl,hb1⟩
 have B1:Hid (Below w.heap.size w w1):=Below.trans (by repeat (first | refine Below.setCell ?_ (by dsimp only;omega) _ | refine Below.alloc ?_ (by first | (simp;done) | (simp;omega) | omega) _ | exact Below.refl _ _)) (hb1.mono (by first | (simp;done) | (simp;omega) | omega))
 have K0:Hid (Blk w1 w.heap.size 56 #[.string x.rel,.slice aA1 x.args.length ac1]):=Blk.later (Blk.alloc (Blk.new _ _ _) _) hb1
 have K1:Hid (Blk w1 (w.heap.size+1) 56 #[.string x.rel,.slice bA1 x.args.length bc1]):=Blk.later (Blk.new_at (by simp)) hb1
 have f0:=K0.out.at (i:=0) rfl
 have r0:=K1.out.at (i:=0) rfl
 have f1:=K0.out.at (i:=1) rfl
 have r1:=K1.out.at (i:=1) rfl
 clear hb1
 have hz1:=B1.out.size
 go_wp2_with fail
 go_ret
 exact ⟨rfl,(by repeat (first | refine Below.setCell ?_ (by dsimp only;omega) _ | refine Below.alloc ?_ (by first | (simp;done) | (simp;omega) | omega) _ | exact B1.out))⟩
set_option maxHeartbeats 1600000 in
theorem ZPL (cs ds:List Value) (x:Zx) (L M:List Nat) (w:World) (h1:ZDh.rep w cs x L) (h2:ZDh.rep w ds x M):
  Calls prog 166 #[.agg cs.toArray,.agg ds.toArray] w (ZLx w):=by
 obtain ⟨rfl,_ahL,at0,at1⟩:=h1
 obtain ⟨rfl,_bhL,bt0,bt1⟩:=h2
 go_enter func166,ntmps166
 go_wp2_with fail
 go_ret
 exact ⟨rfl,(by repeat (first | refine Below.setCell ?_ (by dsimp only;omega) _ | refine Below.alloc ?_ (by first | (simp;done) | (simp;omega) | omega) _ | exact Below.refl _ _))⟩
set_option maxRecDepth 100000 in
set_option maxHeartbeats 1600000 in
theorem ZPv (A B:Option Addr) (n c d:Nat) (ds:List Zx) (L M:List Nat) (w:World) (hn:n=ds.length) (hm:n≤9223372036854775807) (h1:Sli ZDh w A ds L) (h2:Sli ZDh w B ds M):
  Calls prog 158 #[.slice A n c,.slice B n d] w (ZLx w):=by
 have H1:=Lib.hid h1
 have H2:=Lib.hid h2
 have HN:=Lib.hid hn
 clear h1 h2 hn
 have hne:((n:Int) != n)=false:=by simp
 go_enter func158,ntmps158
 go_wp2
 go_loopw [5] (fun i wr=>∃(k:Nat),k≤n∧i=.int .i64 k∧Hid (Below w.heap.size w wr)) (fun i _=>n - (intOf i).toNat)
 case atStart=>exact ⟨0,AA _,rfl,Below.refl _ _⟩
 case round=>
  obtain ⟨k,hk,rfl,HB⟩:=hrel
  by_cases hlt:k<n
  ·have hkl:k<ds.length:=by have:=HN.out;omega
   obtain ⟨b,off,cs,Lk,rfl,hbL,hLk,hrep,hc⟩:=H1.out.at_ hkl
   obtain ⟨b',off',cs',Mk,rfl,hbM,hMk,hrep',hc'⟩:=H2.out.at_ hkl
   have hbl:b<w.heap.size:=H1.out.lt b hbL
   have hbl':b'<w.heap.size:=H2.out.lt b' hbM
   have HR:=Lib.hid (ZDh.keep hrep (Qu HB.out (fun y m=>H1.out.lt y (hLk y m))))
   have HR':=Lib.hid (ZDh.keep hrep' (Qu HB.out (fun y m=>H2.out.lt y (hMk y m))))
   generalize ds[k]=x at *
   obtain rfl:=ZNY hrep
   obtain rfl:=ZNY hrep'
   have q0:wr.cell? ⟨b,off+k * 2,none⟩=_:=(HB.out.cell (p:=⟨b,off+(k * 2+0),none⟩) hbl).trans (hc 0 _ rfl)
   have p0:wr.cell? ⟨b',off'+k * 2,none⟩=_:=(HB.out.cell (p:=⟨b',off'+(k * 2+0),none⟩) hbl').trans (hc' 0 _ rfl)
   have q1:wr.cell? ⟨b,off+k * 2+1,none⟩=_:=(HB.out.cell (p:=⟨b,off+(k * 2+1),none⟩) hbl).trans (hc 1 _ rfl)
   have p1:wr.cell? ⟨b',off'+k * 2+1,none⟩=_:=(HB.out.cell (p:=⟨b',off'+(k * 2+1),none⟩) hbl').trans (hc' 1 _ rfl)
   clear hc hc' hrep hrep'
   have k0:(0:Int)≤k:=by omega
   have k1:(k:Int)<n:=by omega
   go_wp2_with fail
   go_still_tail 8,(by kernel_rfl)
   change wpList _ _ _ _ _ wr.drew
   go_wp2_with (go_at_call 166;(refine (ZPL _ _ x Lk Mk wr.drew (ZDh.keep HR.out (fun _ _=>rfl)) (ZDh.keep HR'.out (fun _ _=>rfl))).mono ?_;rintro e w1 ⟨rfl,hb1⟩;have HB1:=Lib.hid (HB.out.drew.trans (hb1.mono HB.out.size));clear hb1))
   go_roundw
   case rel=>exact ⟨k+1,by omega,by go_num,HB1.out⟩
   case measure=>simp [intOf];omega
  ·go_wp2
   go_ret
   exact ⟨rfl,HB.out⟩
set_option maxHeartbeats 1600000 in
theorem ZOp (cs ds:List Value) (x:Zu) (L M:List Nat) (w:World) (h1:ZC9.rep w cs x L) (h2:ZC9.rep w ds x M):
  Calls prog 115 #[.agg cs.toArray,.agg ds.toArray] w (ZLx w):=by
 obtain ⟨aA1,ac1,aL1,rfl,_ahL,at0,at1,at2,an1,am1,as1⟩:=h1
 obtain ⟨bA1,bc1,bL1,rfl,_bhL,bt0,bt1,bt2,bn1,bm1,bs1⟩:=h2
 unfold maxLen at am1 bm1
 have SA1:=Lib.hid as1
 have SB1:=Lib.hid bs1
 clear as1 bs1
 go_enter func115,ntmps115
 go_wp2_with fail
 refine (ZMN [.string x.pattern.rel,.slice aA1 x.pattern.args.length ac1] [.string x.pattern.rel,.slice bA1 x.pattern.args.length bc1] x.pattern _ _ _ ⟨aA1,ac1,aL1,rfl,rfl,at0,an1,(by unfold maxLen;omega),SA1.out.below (by repeat (first | refine Below.setCell ?_ (by dsimp only;omega) _ | refine Below.alloc ?_ (by first | (simp;done) | (simp;omega) | omega) _ | exact Below.refl _ _))⟩ ⟨bA1,bc1,bL1,rfl,rfl,bt0,bn1,(by unfold maxLen;omega),SB1.out.below (by repeat (first | refine Below.setCell ?_ (by dsimp only;omega) _ | refine Below.alloc ?_ (by first | (simp;done) | (simp;omega) | omega) _ | exact Below.refl _ _))⟩).mono ?_
 rintro e w1 ⟨rfl,hb1⟩
 have B1:Hid (Below w.heap.size w w1):=Below.trans (by repeat (first | refine Below.setCell ?_ (by dsimp only;omega) _ | refine Below.alloc ?_ (by first | (simp;done) | (simp;omega) | omega) _ | exact Below.refl _ _)) (hb1.mono (by first | (simp;done) | (simp;omega) | omega))
 have K0:Hid (Blk w1 w.heap.size 58 #[.int .i64 x.kind,.string x.pattern.rel,.slice aA1 x.pattern.args.length ac1,.string x.left,.string x.right]):=Blk.later (Blk.alloc (Blk.new _ _ _) _) hb1
 have K1:Hid (Blk w1 (w.heap.size+1) 58 #[.int .i64 x.kind,.string x.pattern.rel,.slice bA1 x.pattern.args.length bc1,.string x.left,.string x.right]):=Blk.later (Blk.new_at (by simp)) hb1
 have f0:=K0.out.at (i:=0) rfl
 have r0:=K1.out.at (i:=0) rfl
 have f1:=K0.out.at (i:=1) rfl
 have r1:=K1.out.at (i:=1) rfl
 have f2:=K0.out.at (i:=2) rfl
 have r2:=K1.out.at (i:=2) rfl
 have f3:=K0.out.at (i:=3) rfl
 have r3:=K1.out.at (i:=3) rfl
 have f4:=K0.out.at (i:=4) rfl
 have r4:=K1.out.at (i:=4) rfl
 clear hb1
 have hz1:=B1.out.size
 go_wp2_with fail
 go_ret
 exact ⟨rfl,(by repeat (first | refine Below.setCell ?_ (by dsimp only;omega) _ | refine Below.alloc ?_ (by first | (simp;done) | (simp;omega) | omega) _ | exact B1.out))⟩
set_option maxRecDepth 100000 in
set_option maxHeartbeats 1600000 in
theorem ZPu (A B:Option Addr) (n c d:Nat) (ds:List Zu) (L M:List Nat) (w:World) (hn:n=ds.length) (hm:n≤9223372036854775807) (h1:Sli ZC9 w A ds L) (h2:Sli ZC9 w B ds M):
  Calls prog 112 #[.slice A n c,.slice B n d] w (ZLx w):=by
 have H1:=Lib.hid h1
 have H2:=Lib.hid h2
 have HN:=Lib.hid hn
 clear h1 h2 hn
 have hne:((n:Int) != n)=false:=by simp
 go_enter func112,ntmps112
 go_wp2
 go_loopw [5] (fun i wr=>∃(k:Nat),k≤n∧i=.int .i64 k∧Hid (Below w.heap.size w wr)) (fun i _=>n - (intOf i).toNat)
 case atStart=>exact ⟨0,AA _,rfl,Below.refl _ _⟩
 case round=>
  obtain ⟨k,hk,rfl,HB⟩:=hrel
  by_cases hlt:k<n
  ·have hkl:k<ds.length:=by have:=HN.out;omega
   obtain ⟨b,off,cs,Lk,rfl,hbL,hLk,hrep,hc⟩:=H1.out.at_ hkl
   obtain ⟨b',off',cs',Mk,rfl,hbM,hMk,hrep',hc'⟩:=H2.out.at_ hkl
   have hbl:b<w.heap.size:=H1.out.lt b hbL
   have hbl':b'<w.heap.size:=H2.out.lt b' hbM
   have HR:=Lib.hid (ZC9.keep hrep (Qu HB.out (fun y m=>H1.out.lt y (hLk y m))))
   have HR':=Lib.hid (ZC9.keep hrep' (Qu HB.out (fun y m=>H2.out.lt y (hMk y m))))
   generalize ds[k]=x at *
   obtain ⟨aA1,ac1,rfl⟩:=ZNZ hrep
   obtain ⟨bA1,bc1,rfl⟩:=ZNZ hrep'
   have q0:wr.cell? ⟨b,off+k * 5,none⟩=_:=(HB.out.cell (p:=⟨b,off+(k * 5+0),none⟩) hbl).trans (hc 0 _ rfl)
   have p0:wr.cell? ⟨b',off'+k * 5,none⟩=_:=(HB.out.cell (p:=⟨b',off'+(k * 5+0),none⟩) hbl').trans (hc' 0 _ rfl)
   have q1:wr.cell? ⟨b,off+k * 5+1,none⟩=_:=(HB.out.cell (p:=⟨b,off+(k * 5+1),none⟩) hbl).trans (hc 1 _ rfl)
   have p1:wr.cell? ⟨b',off'+k * 5+1,none⟩=_:=(HB.out.cell (p:=⟨b',off'+(k * 5+1),none⟩) hbl').trans (hc' 1 _ rfl)
   have q2:wr.cell? ⟨b,off+k * 5+2,none⟩=_:=(HB.out.cell (p:=⟨b,off+(k * 5+2),none⟩) hbl).trans (hc 2 _ rfl)
   have p2:wr.cell? ⟨b',off'+k * 5+2,none⟩=_:=(HB.out.cell (p:=⟨b',off'+(k * 5+2),none⟩) hbl').trans (hc' 2 _ rfl)
   have q3:wr.cell? ⟨b,off+k * 5+3,none⟩=_:=(HB.out.cell (p:=⟨b,off+(k * 5+3),none⟩) hbl).trans (hc 3 _ rfl)
   have p3:wr.cell? ⟨b',off'+k * 5+3,none⟩=_:=(HB.out.cell (p:=⟨b',off'+(k * 5+3),none⟩) hbl').trans (hc' 3 _ rfl)
   have q4:wr.cell? ⟨b,off+k * 5+4,none⟩=_:=(HB.out.cell (p:=⟨b,off+(k * 5+4),none⟩) hbl).trans (hc 4 _ rfl)
   have p4:wr.cell? ⟨b',off'+k * 5+4,none⟩=_:=(HB.out.cell (p:=⟨b',off'+(k * 5+4),none⟩) hbl').trans (hc' 4 _ rfl)
   clear hc hc' hrep hrep'
   have k0:(0:Int)≤k:=by omega
   have k1:(k:Int)<n:=by omega
   go_wp2_with fail
   go_still_tail 8,(by kernel_rfl)
   change wpList _ _ _ _ _ wr.drew
   go_wp2_with (go_at_call 115;(refine (ZOp _ _ x Lk Mk wr.drew (ZC9.keep HR.out (fun _ _=>rfl)) (ZC9.keep HR'.out (fun _ _=>rfl))).mono ?_;rintro e w1 ⟨rfl,hb1⟩;have HB1:=Lib.hid (HB.out.drew.trans (hb1.mono HB.out.size));clear hb1))
   go_roundw
   case rel=>exact ⟨k+1,by omega,by go_num,HB1.out⟩
   case measure=>simp [intOf];omega
  ·go_wp2
   go_ret
   exact ⟨rfl,HB.out⟩
set_option maxHeartbeats 1600000 in
theorem ZPd (cs ds:List Value) (x:Zy) (L M:List Nat) (w:World) (h1:ZxH.rep w cs x L) (h2:ZxH.rep w ds x M):
  Calls prog 146 #[.agg cs.toArray,.agg ds.toArray] w (ZLx w):=by
 obtain ⟨aA1,ac1,aL1,rfl,_ahL,at0,an1,am1,as1⟩:=h1
 obtain ⟨bA1,bc1,bL1,rfl,_bhL,bt0,bn1,bm1,bs1⟩:=h2
 unfold maxLen at am1 bm1
 have SA1:=Lib.hid as1
 have SB1:=Lib.hid bs1
 clear as1 bs1
 go_enter func146,ntmps146
 go_wp2_with fail
 refine (ZMN [.string x.pattern.rel,.slice aA1 x.pattern.args.length ac1] [.string x.pattern.rel,.slice bA1 x.pattern.args.length bc1] x.pattern _ _ _ ⟨aA1,ac1,aL1,rfl,rfl,at0,an1,(by unfold maxLen;omega),SA1.out.below (by repeat (first | refine Below.setCell ?_ (by dsimp only;omega) _ | refine Below.alloc ?_ (by first | (simp;done) | (simp;omega) | omega) _ | exact Below.refl _ _))⟩ ⟨bA1,bc1,bL1,rfl,rfl,bt0,bn1,(by unfold maxLen;omega),SB1.out.below (by repeat (first | refine Below.setCell ?_ (by dsimp only;omega) _ | refine Below.alloc ?_ (by first | (simp;done) | (simp;omega) | omega) _ | exact Below.refl _ _))⟩).mono ?_
 rintro e w1 ⟨rfl,hb1⟩
 have B1:Hid (Below w.heap.size w w1):=Below.trans (by repeat (first | refine Below.setCell ?_ (by dsimp only;omega) _ | refine Below.alloc ?_ (by first | (simp;done) | (simp;omega) | omega) _ | exact Below.refl _ _)) (hb1.mono (by first | (simp;done) | (simp;omega) | omega))
 have K0:Hid (Blk w1 w.heap.size 126 #[.int .i64 x.kind,.string x.pattern.rel,.slice aA1 x.pattern.args.length ac1]):=Blk.later (Blk.alloc (Blk.new _ _ _) _) hb1
 have K1:Hid (Blk w1 (w.heap.size+1) 126 #[.int .i64 x.kind,.string x.pattern.rel,.slice bA1 x.pattern.args.length bc1]):=Blk.later (Blk.new_at (by simp)) hb1
 have f0:=K0.out.at (i:=0) rfl
 have r0:=K1.out.at (i:=0) rfl
 have f1:=K0.out.at (i:=1) rfl
 have r1:=K1.out.at (i:=1) rfl
 have f2:=K0.out.at (i:=2) rfl
 have r2:=K1.out.at (i:=2) rfl
 clear hb1
 have hz1:=B1.out.size
 go_wp2_with fail
 go_ret
 exact ⟨rfl,(by repeat (first | refine Below.setCell ?_ (by dsimp only;omega) _ | refine Below.alloc ?_ (by first | (simp;done) | (simp;omega) | omega) _ | exact B1.out))⟩
set_option maxRecDepth 100000 in
set_option maxHeartbeats 1600000 in
theorem ZOU (A B:Option Addr) (n c d:Nat) (ds:List Zy) (L M:List Nat) (w:World) (hn:n=ds.length) (hm:n≤9223372036854775807) (h1:Sli ZxH w A ds L) (h2:Sli ZxH w B ds M):
  Calls prog 113 #[.slice A n c,.slice B n d] w (ZLx w):=by
 have H1:=Lib.hid h1
 have H2:=Lib.hid h2
 have HN:=Lib.hid hn
 clear h1 h2 hn
 have hne:((n:Int) != n)=false:=by simp
 go_enter func113,ntmps113
 go_wp2
 go_loopw [5] (fun i wr=>∃(k:Nat),k≤n∧i=.int .i64 k∧Hid (Below w.heap.size w wr)) (fun i _=>n - (intOf i).toNat)
 case atStart=>exact ⟨0,AA _,rfl,Below.refl _ _⟩
 case round=>
  obtain ⟨k,hk,rfl,HB⟩:=hrel
  by_cases hlt:k<n
  ·have hkl:k<ds.length:=by have:=HN.out;omega
   obtain ⟨b,off,cs,Lk,rfl,hbL,hLk,hrep,hc⟩:=H1.out.at_ hkl
   obtain ⟨b',off',cs',Mk,rfl,hbM,hMk,hrep',hc'⟩:=H2.out.at_ hkl
   have hbl:b<w.heap.size:=H1.out.lt b hbL
   have hbl':b'<w.heap.size:=H2.out.lt b' hbM
   have HR:=Lib.hid (ZxH.keep hrep (Qu HB.out (fun y m=>H1.out.lt y (hLk y m))))
   have HR':=Lib.hid (ZxH.keep hrep' (Qu HB.out (fun y m=>H2.out.lt y (hMk y m))))
   generalize ds[k]=x at *
   obtain ⟨aA1,ac1,rfl⟩:=ZNs hrep
   obtain ⟨bA1,bc1,rfl⟩:=ZNs hrep'
   have q0:wr.cell? ⟨b,off+k * 3,none⟩=_:=(HB.out.cell (p:=⟨b,off+(k * 3+0),none⟩) hbl).trans (hc 0 _ rfl)
   have p0:wr.cell? ⟨b',off'+k * 3,none⟩=_:=(HB.out.cell (p:=⟨b',off'+(k * 3+0),none⟩) hbl').trans (hc' 0 _ rfl)
   have q1:wr.cell? ⟨b,off+k * 3+1,none⟩=_:=(HB.out.cell (p:=⟨b,off+(k * 3+1),none⟩) hbl).trans (hc 1 _ rfl)
   have p1:wr.cell? ⟨b',off'+k * 3+1,none⟩=_:=(HB.out.cell (p:=⟨b',off'+(k * 3+1),none⟩) hbl').trans (hc' 1 _ rfl)
   have q2:wr.cell? ⟨b,off+k * 3+2,none⟩=_:=(HB.out.cell (p:=⟨b,off+(k * 3+2),none⟩) hbl).trans (hc 2 _ rfl)
   have p2:wr.cell? ⟨b',off'+k * 3+2,none⟩=_:=(HB.out.cell (p:=⟨b',off'+(k * 3+2),none⟩) hbl').trans (hc' 2 _ rfl)
   clear hc hc' hrep hrep'
   have k0:(0:Int)≤k:=by omega
   have k1:(k:Int)<n:=by omega
   go_wp2_with fail
   go_still_tail 8,(by kernel_rfl)
   change wpList _ _ _ _ _ wr.drew
   go_wp2_with (go_at_call 146;(refine (ZPd _ _ x Lk Mk wr.drew (ZxH.keep HR.out (fun _ _=>rfl)) (ZxH.keep HR'.out (fun _ _=>rfl))).mono ?_;rintro e w1 ⟨rfl,hb1⟩;have HB1:=Lib.hid (HB.out.drew.trans (hb1.mono HB.out.size));clear hb1))
   go_roundw
   case rel=>exact ⟨k+1,by omega,by go_num,HB1.out⟩
   case measure=>simp [intOf];omega
  ·go_wp2
   go_ret
   exact ⟨rfl,HB.out⟩
set_option maxHeartbeats 1600000 in
theorem ZPM (cs ds:List Value) (x:Zf) (L M:List Nat) (w:World) (h1:Zby.rep w cs x L) (h2:Zby.rep w ds x M):
  Calls prog 64 #[.agg cs.toArray,.agg ds.toArray] w (ZLx w):=by
 obtain ⟨aA1,ac1,aL1,aA2,ac2,aL2,rfl,_ahL,at0,an1,am1,as1,an2,am2,as2⟩:=h1
 obtain ⟨bA1,bc1,bL1,bA2,bc2,bL2,rfl,_bhL,bt0,bn1,bm1,bs1,bn2,bm2,bs2⟩:=h2
 unfold maxLen at am1 bm1 am2 bm2
 have SA1:=Lib.hid as1
 have SB1:=Lib.hid bs1
 clear as1 bs1
 have SA2:=Lib.hid as2
 have SB2:=Lib.hid bs2
 clear as2 bs2
 go_enter func64,ntmps64
 go_wp2_with fail
 refine (ZPu aA1 bA1 _ ac1 bc1 x.cond aL1 bL1 _ rfl (by omega) (SA1.out.below (by repeat (first | refine Below.setCell ?_ (by dsimp only;omega) _ | refine Below.alloc ?_ (by first | (simp;done) | (simp;omega) | omega) _ | exact Below.refl _ _))) (SB1.out.below (by repeat (first | refine Below.setCell ?_ (by dsimp only;omega) _ | refine Below.alloc ?_ (by first | (simp;done) | (simp;omega) | omega) _ | exact Below.refl _ _)))).mono ?_
 rintro e w1 ⟨rfl,hb1⟩
 have B1:Hid (Below w.heap.size w w1):=Below.trans (by repeat (first | refine Below.setCell ?_ (by dsimp only;omega) _ | refine Below.alloc ?_ (by first | (simp;done) | (simp;omega) | omega) _ | exact Below.refl _ _)) (hb1.mono (by first | (simp;done) | (simp;omega) | omega))
 have K0:Hid (Blk w1 w.heap.size 65 #[.string x.name,.int .i64 x.priority,.slice aA1 x.cond.length ac1,.slice aA2 x.thn.length ac2]):=Blk.later (Blk.alloc (Blk.new _ _ _) _) hb1
 have K1:Hid (Blk w1 (w.heap.size+1) 65 #[.string x.name,.int .i64 x.priority,.slice bA1 x.cond.length bc1,.slice bA2 x.thn.length bc2]):=Blk.later (Blk.new_at (by simp)) hb1
 have f0:=K0.out.at (i:=0) rfl
 have r0:=K1.out.at (i:=0) rfl
 have f1:=K0.out.at (i:=1) rfl
 have r1:=K1.out.at (i:=1) rfl
 have f2:=K0.out.at (i:=2) rfl
 have r2:=K1.out.at (i:=2) rfl
 have f3:=K0.out.at (i:=3) rfl
 have r3:=K1.out.at (i:=3) rfl
 clear hb1
 have hz1:=B1.out.size
 go_wp2_with fail
 refine (ZOU aA2 bA2 _ ac2 bc2 x.thn aL2 bL2 _ rfl (by omega) (SA2.out.below (by repeat (first | refine Below.setCell ?_ (by dsimp only;omega) _ | refine Below.alloc ?_ (by first | (simp;done) | (simp;omega) | omega) _ | exact B1.out))) (SB2.out.below (by repeat (first | refine Below.setCell ?_ (by dsimp only;omega) _ | refine Below.alloc ?_ (by first | (simp;done) | (simp;omega) | omega) _ | exact B1.out)))).mono ?_
 rintro e w2 ⟨rfl,hb2⟩
 have B2:Hid (Below w.heap.size w w2):=Below.trans (by repeat (first | refine Below.setCell ?_ (by dsimp only;omega) _ | refine Below.alloc ?_ (by first | (simp;done) | (simp;omega) | omega) _ | exact B1.out)) (hb2.mono (by first | (simp;done) | (simp;omega) | omega))
 have K0:=Lib.hid (K0.out.later hb2)
 have K1:=Lib.hid (K1.out.later hb2)
 clear f0 r0 f1 r1 f2 r2 f3 r3
 have f0:=K0.out.at (i:=0) rfl
 have r0:=K1.out.at (i:=0) rfl
 have f1:=K0.out.at (i:=1) rfl
 have r1:=K1.out.at (i:=1) rfl
 have f2:=K0.out.at (i:=2) rfl
 have r2:=K1.out.at (i:=2) rfl
 have f3:=K0.out.at (i:=3) rfl
 have r3:=K1.out.at (i:=3) rfl
 clear hb2
 have hz2:=B2.out.size
 go_wp2_with fail
 go_ret
 exact ⟨rfl,(by repeat (first | refine Below.setCell ?_ (by dsimp only;omega) _ | refine Below.alloc ?_ (by first | (simp;done) | (simp;omega) | omega) _ | exact B2.out))⟩
set_option maxRecDepth 100000 in
set_option maxHeartbeats 1600000 in
theorem ZN4 (A B:Option Addr) (n c d:Nat) (ds:List Zf) (L M:List Nat) (w:World) (hn:n=ds.length) (hm:n≤9223372036854775807) (h1:Sli Zby w A ds L) (h2:Sli Zby w B ds M):
  Calls prog 26 #[.slice A n c,.slice B n d] w (ZLx w):=by
 have H1:=Lib.hid h1
 have H2:=Lib.hid h2
 have HN:=Lib.hid hn
 clear h1 h2 hn
 have hne:((n:Int) != n)=false:=by simp
 go_enter func26,ntmps26
 go_wp2
 go_loopw [5] (fun i wr=>∃(k:Nat),k≤n∧i=.int .i64 k∧Hid (Below w.heap.size w wr)) (fun i _=>n - (intOf i).toNat)
 case atStart=>exact ⟨0,AA _,rfl,Below.refl _ _⟩
 case round=>
  obtain ⟨k,hk,rfl,HB⟩:=hrel
  by_cases hlt:k<n
  ·have hkl:k<ds.length:=by have:=HN.out;omega
   obtain ⟨b,off,cs,Lk,rfl,hbL,hLk,hrep,hc⟩:=H1.out.at_ hkl
   obtain ⟨b',off',cs',Mk,rfl,hbM,hMk,hrep',hc'⟩:=H2.out.at_ hkl
   have hbl:b<w.heap.size:=H1.out.lt b hbL
   have hbl':b'<w.heap.size:=H2.out.lt b' hbM
   have HR:=Lib.hid (Zby.keep hrep (Qu HB.out (fun y m=>H1.out.lt y (hLk y m))))
   have HR':=Lib.hid (Zby.keep hrep' (Qu HB.out (fun y m=>H2.out.lt y (hMk y m))))
   generalize ds[k]=x at *
   obtain ⟨aA1,ac1,aA2,ac2,rfl⟩:=ZN0 hrep
   obtain ⟨bA1,bc1,bA2,bc2,rfl⟩:=ZN0 hrep'
   have q0:wr.cell? ⟨b,off+k * 4,none⟩=_:=(HB.out.cell (p:=⟨b,off+(k * 4+0),none⟩) hbl).trans (hc 0 _ rfl)
   have p0:wr.cell? ⟨b',off'+k * 4,none⟩=_:=(HB.out.cell (p:=⟨b',off'+(k * 4+0),none⟩) hbl').trans (hc' 0 _ rfl)
   have q1:wr.cell? ⟨b,off+k * 4+1,none⟩=_:=(HB.out.cell (p:=⟨b,off+(k * 4+1),none⟩) hbl).trans (hc 1 _ rfl)
   have p1:wr.cell? ⟨b',off'+k * 4+1,none⟩=_:=(HB.out.cell (p:=⟨b',off'+(k * 4+1),none⟩) hbl').trans (hc' 1 _ rfl)
   have q2:wr.cell? ⟨b,off+k * 4+2,none⟩=_:=(HB.out.cell (p:=⟨b,off+(k * 4+2),none⟩) hbl).trans (hc 2 _ rfl)
   have p2:wr.cell? ⟨b',off'+k * 4+2,none⟩=_:=(HB.out.cell (p:=⟨b',off'+(k * 4+2),none⟩) hbl').trans (hc' 2 _ rfl)
   have q3:wr.cell? ⟨b,off+k * 4+3,none⟩=_:=(HB.out.cell (p:=⟨b,off+(k * 4+3),none⟩) hbl).trans (hc 3 _ rfl)
   have p3:wr.cell? ⟨b',off'+k * 4+3,none⟩=_:=(HB.out.cell (p:=⟨b',off'+(k * 4+3),none⟩) hbl').trans (hc' 3 _ rfl)
   clear hc hc' hrep hrep'
   have k0:(0:Int)≤k:=by omega
   have k1:(k:Int)<n:=by omega
   go_wp2_with fail
   go_still_tail 8,(by kernel_rfl)
   change wpList _ _ _ _ _ wr.drew
   go_wp2_with (go_at_call 64;(refine (ZPM _ _ x Lk Mk wr.drew (Zby.keep HR.out (fun _ _=>rfl)) (Zby.keep HR'.out (fun _ _=>rfl))).mono ?_;rintro e w1 ⟨rfl,hb1⟩;have HB1:=Lib.hid (HB.out.drew.trans (hb1.mono HB.out.size));clear hb1))
   go_roundw
   case rel=>exact ⟨k+1,by omega,by go_num,HB1.out⟩
   case measure=>simp [intOf];omega
  ·go_wp2
   go_ret
   exact ⟨rfl,HB.out⟩
set_option maxHeartbeats 1600000 in
theorem ZPm (cs ds:List Value) (x:Zw) (L M:List Nat) (w:World) (h1:ZlR.rep w cs x L) (h2:ZlR.rep w ds x M):
  Calls prog 147 #[.agg cs.toArray,.agg ds.toArray] w (ZLx w):=by
 obtain ⟨aA1,ac1,aL1,aA2,ac2,aL2,rfl,_ahL,an1,am1,as1,an2,am2,as2⟩:=h1
 obtain ⟨bA1,bc1,bL1,bA2,bc2,bL2,rfl,_bhL,bn1,bm1,bs1,bn2,bm2,bs2⟩:=h2
 unfold maxLen at am1 bm1 am2 bm2
 have SA1:=Lib.hid as1
 have SB1:=Lib.hid bs1
 clear as1 bs1
 have SA2:=Lib.hid as2
 have SB2:=Lib.hid bs2
 clear as2 bs2
 go_enter func147,ntmps147
 go_wp2_with fail
 refine (ZNl aA1 bA1 _ ac1 bc1 x.facts aL1 bL1 _ rfl (by omega) (SA1.out.below (by repeat (first | refine Below.setCell ?_ (by dsimp only;omega) _ | refine Below.alloc ?_ (by first | (simp;done) | (simp;omega) | omega) _ | exact Below.refl _ _))) (SB1.out.below (by repeat (first | refine Below.setCell ?_ (by dsimp only;omega) _ | refine Below.alloc ?_ (by first | (simp;done) | (simp;omega) | omega) _ | exact Below.refl _ _)))).mono ?_
 rintro e w1 ⟨rfl,hb1⟩
 have B1:Hid (Below w.heap.size w w1):=Below.trans (by repeat (first | refine Below.setCell ?_ (by dsimp only;omega) _ | refine Below.alloc ?_ (by first | (simp;done) | (simp;omega) | omega) _ | exact Below.refl _ _)) (hb1.mono (by first | (simp;done) | (simp;omega) | omega))
 have K0:Hid (Blk w1 w.heap.size 52 #[.slice aA1 x.facts.length ac1,.slice aA2 x.binding.length ac2]):=Blk.later (Blk.alloc (Blk.new _ _ _) _) hb1
 have K1:Hid (Blk w1 (w.heap.size+1) 52 #[.slice bA1 x.facts.length bc1,.slice bA2 x.binding.length bc2]):=Blk.later (Blk.new_at (by simp)) hb1
 have f0:=K0.out.at (i:=0) rfl
 have r0:=K1.out.at (i:=0) rfl
 have f1:=K0.out.at (i:=1) rfl
 have r1:=K1.out.at (i:=1) rfl
 clear hb1
 have hz1:=B1.out.size
 go_wp2_with fail
 refine (ZPv aA2 bA2 _ ac2 bc2 x.binding aL2 bL2 _ rfl (by omega) (SA2.out.below (by repeat (first | refine Below.setCell ?_ (by dsimp only;omega) _ | refine Below.alloc ?_ (by first | (simp;done) | (simp;omega) | omega) _ | exact B1.out))) (SB2.out.below (by repeat (first | refine Below.setCell ?_ (by dsimp only;omega) _ | refine Below.alloc ?_ (by first | (simp;done) | (simp;omega) | omega) _ | exact B1.out)))).mono ?_
 rintro e w2 ⟨rfl,hb2⟩
 have B2:Hid (Below w.heap.size w w2):=Below.trans (by repeat (first | refine Below.setCell ?_ (by dsimp only;omega) _ | refine Below.alloc ?_ (by first | (simp;done) | (simp;omega) | omega) _ | exact B1.out)) (hb2.mono (by first | (simp;done) | (simp;omega) | omega))
 have K0:=Lib.hid (K0.out.later hb2)
 have K1:=Lib.hid (K1.out.later hb2)
 clear f0 r0 f1 r1
 have f0:=K0.out.at (i:=0) rfl
 have r0:=K1.out.at (i:=0) rfl
 have f1:=K0.out.at (i:=1) rfl
 have r1:=K1.out.at (i:=1) rfl
 clear hb2
 have hz2:=B2.out.size
 go_wp2_with fail
 go_ret
 exact ⟨rfl,(by repeat (first | refine Below.setCell ?_ (by dsimp only;omega) _ | refine Below.alloc ?_ (by first | (simp;done) | (simp;omega) | omega) _ | exact B2.out))⟩
set_option maxRecDepth 100000 in
set_option maxHeartbeats 1600000 in
theorem ZO3 (A B:Option Addr) (n c d:Nat) (ds:List Zw) (L M:List Nat) (w:World) (hn:n=ds.length) (hm:n≤9223372036854775807) (h1:Sli ZlR w A ds L) (h2:Sli ZlR w B ds M):
  Calls prog 116 #[.slice A n c,.slice B n d] w (ZLx w):=by
 have H1:=Lib.hid h1
 have H2:=Lib.hid h2
 have HN:=Lib.hid hn
 clear h1 h2 hn
 have hne:((n:Int) != n)=false:=by simp
 go_enter func116,ntmps116
 go_wp2
 go_loopw [5] (fun i wr=>∃(k:Nat),k≤n∧i=.int .i64 k∧Hid (Below w.heap.size w wr)) (fun i _=>n - (intOf i).toNat)
 case atStart=>exact ⟨0,AA _,rfl,Below.refl _ _⟩
 case round=>
  obtain ⟨k,hk,rfl,HB⟩:=hrel
  by_cases hlt:k<n
  ·have hkl:k<ds.length:=by have:=HN.out;omega
   obtain ⟨b,off,cs,Lk,rfl,hbL,hLk,hrep,hc⟩:=H1.out.at_ hkl
   obtain ⟨b',off',cs',Mk,rfl,hbM,hMk,hrep',hc'⟩:=H2.out.at_ hkl
   have hbl:b<w.heap.size:=H1.out.lt b hbL
   have hbl':b'<w.heap.size:=H2.out.lt b' hbM
   have HR:=Lib.hid (ZlR.keep hrep (Qu HB.out (fun y m=>H1.out.lt y (hLk y m))))
   have HR':=Lib.hid (ZlR.keep hrep' (Qu HB.out (fun y m=>H2.out.lt y (hMk y m))))
   generalize ds[k]=x at *
   obtain ⟨aA1,ac1,aA2,ac2,rfl⟩:=ZNP hrep
   obtain ⟨bA1,bc1,bA2,bc2,rfl⟩:=ZNP hrep'
   have q0:wr.cell? ⟨b,off+k * 2,none⟩=_:=(HB.out.cell (p:=⟨b,off+(k * 2+0),none⟩) hbl).trans (hc 0 _ rfl)
   have p0:wr.cell? ⟨b',off'+k * 2,none⟩=_:=(HB.out.cell (p:=⟨b',off'+(k * 2+0),none⟩) hbl').trans (hc' 0 _ rfl)
   have q1:wr.cell? ⟨b,off+k * 2+1,none⟩=_:=(HB.out.cell (p:=⟨b,off+(k * 2+1),none⟩) hbl).trans (hc 1 _ rfl)
   have p1:wr.cell? ⟨b',off'+k * 2+1,none⟩=_:=(HB.out.cell (p:=⟨b',off'+(k * 2+1),none⟩) hbl').trans (hc' 1 _ rfl)
   clear hc hc' hrep hrep'
   have k0:(0:Int)≤k:=by omega
   have k1:(k:Int)<n:=by omega
   go_wp2_with fail
   go_still_tail 8,(by kernel_rfl)
   change wpList _ _ _ _ _ wr.drew
   go_wp2_with (go_at_call 147;(refine (ZPm _ _ x Lk Mk wr.drew (ZlR.keep HR.out (fun _ _=>rfl)) (ZlR.keep HR'.out (fun _ _=>rfl))).mono ?_;rintro e w1 ⟨rfl,hb1⟩;have HB1:=Lib.hid (HB.out.drew.trans (hb1.mono HB.out.size));clear hb1))
   go_roundw
   case rel=>exact ⟨k+1,by omega,by go_num,HB1.out⟩
   case measure=>simp [intOf];omega
  ·go_wp2
   go_ret
   exact ⟨rfl,HB.out⟩
set_option maxHeartbeats 1600000 in
theorem ZPB (cs ds:List Value) (x:ZL4) (L M:List Nat) (w:World) (h1:ZL7.rep w cs x L) (h2:ZL7.rep w ds x M):
  Calls prog 68 #[.agg cs.toArray,.agg ds.toArray] w (ZLx w):=by
 obtain ⟨aA1,ac1,aL1,aA2,ac2,aL2,rfl,_ahL,at0,an1,am1,as1,an2,am2,as2⟩:=h1
 obtain ⟨bA1,bc1,bL1,bA2,bc2,bL2,rfl,_bhL,bt0,bn1,bm1,bs1,bn2,bm2,bs2⟩:=h2
 unfold maxLen at am1 bm1 am2 bm2
 have SA1:=Lib.hid as1
 have SB1:=Lib.hid bs1
 clear as1 bs1
 have SA2:=Lib.hid as2
 have SB2:=Lib.hid bs2
 clear as2 bs2
 go_enter func68,ntmps68
 go_wp2_with fail
 refine (ZMN [.string x.shape.rel,.slice aA1 x.shape.args.length ac1] [.string x.shape.rel,.slice bA1 x.shape.args.length bc1] x.shape _ _ _ ⟨aA1,ac1,aL1,rfl,rfl,at0,an1,(by unfold maxLen;omega),SA1.out.below (by repeat (first | refine Below.setCell ?_ (by dsimp only;omega) _ | refine Below.alloc ?_ (by first | (simp;done) | (simp;omega) | omega) _ | exact Below.refl _ _))⟩ ⟨bA1,bc1,bL1,rfl,rfl,bt0,bn1,(by unfold maxLen;omega),SB1.out.below (by repeat (first | refine Below.setCell ?_ (by dsimp only;omega) _ | refine Below.alloc ?_ (by first | (simp;done) | (simp;omega) | omega) _ | exact Below.refl _ _))⟩).mono ?_
 rintro e w1 ⟨rfl,hb1⟩
 have B1:Hid (Below w.heap.size w w1):=Below.trans (by repeat (first | refine Below.setCell ?_ (by dsimp only;omega) _ | refine Below.alloc ?_ (by first | (simp;done) | (simp;omega) | omega) _ | exact Below.refl _ _)) (hb1.mono (by first | (simp;done) | (simp;omega) | omega))
 have K0:Hid (Blk w1 w.heap.size 109 #[.string x.shape.rel,.slice aA1 x.shape.args.length ac1,.slice aA2 x.facts.length ac2]):=Blk.later (Blk.alloc (Blk.new _ _ _) _) hb1
 have K1:Hid (Blk w1 (w.heap.size+1) 109 #[.string x.shape.rel,.slice bA1 x.shape.args.length bc1,.slice bA2 x.facts.length bc2]):=Blk.later (Blk.new_at (by simp)) hb1
 have f0:=K0.out.at (i:=0) rfl
 have r0:=K1.out.at (i:=0) rfl
 have f1:=K0.out.at (i:=1) rfl
 have r1:=K1.out.at (i:=1) rfl
 have f2:=K0.out.at (i:=2) rfl
 have r2:=K1.out.at (i:=2) rfl
 clear hb1
 have hz1:=B1.out.size
 go_wp2_with fail
 refine (ZNl aA2 bA2 _ ac2 bc2 x.facts aL2 bL2 _ rfl (by omega) (SA2.out.below (by repeat (first | refine Below.setCell ?_ (by dsimp only;omega) _ | refine Below.alloc ?_ (by first | (simp;done) | (simp;omega) | omega) _ | exact B1.out))) (SB2.out.below (by repeat (first | refine Below.setCell ?_ (by dsimp only;omega) _ | refine Below.alloc ?_ (by first | (simp;done) | (simp;omega) | omega) _ | exact B1.out)))).mono ?_
 rintro e w2 ⟨rfl,hb2⟩
 have B2:Hid (Below w.heap.size w w2):=Below.trans (by repeat (first | refine Below.setCell ?_ (by dsimp only;omega) _ | refine Below.alloc ?_ (by first | (simp;done) | (simp;omega) | omega) _ | exact B1.out)) (hb2.mono (by first | (simp;done) | (simp;omega) | omega))
 have K0:=Lib.hid (K0.out.later hb2)
 have K1:=Lib.hid (K1.out.later hb2)
 clear f0 r0 f1 r1 f2 r2
 have f0:=K0.out.at (i:=0) rfl
 have r0:=K1.out.at (i:=0) rfl
 have f1:=K0.out.at (i:=1) rfl
 have r1:=K1.out.at (i:=1) rfl
 have f2:=K0.out.at (i:=2) rfl
 have r2:=K1.out.at (i:=2) rfl
 clear hb2
 have hz2:=B2.out.size
 go_wp2_with fail
 go_ret
 exact ⟨rfl,(by repeat (first | refine Below.setCell ?_ (by dsimp only;omega) _ | refine Below.alloc ?_ (by first | (simp;done) | (simp;omega) | omega) _ | exact B2.out))⟩
set_option maxRecDepth 100000 in
set_option maxHeartbeats 1600000 in
theorem ZPe (A B:Option Addr) (n c d:Nat) (ds:List ZL4) (L M:List Nat) (w:World) (hn:n=ds.length) (hm:n≤9223372036854775807) (h1:Sli ZL7 w A ds L) (h2:Sli ZL7 w B ds M):
  Calls prog 31 #[.slice A n c,.slice B n d] w (ZLx w):=by
 have H1:=Lib.hid h1
 have H2:=Lib.hid h2
 have HN:=Lib.hid hn
 clear h1 h2 hn
 have hne:((n:Int) != n)=false:=by simp
 go_enter func31,ntmps31
 go_wp2
 go_loopw [5] (fun i wr=>∃(k:Nat),k≤n∧i=.int .i64 k∧Hid (Below w.heap.size w wr)) (fun i _=>n - (intOf i).toNat)
 case atStart=>exact ⟨0,AA _,rfl,Below.refl _ _⟩
 case round=>
  obtain ⟨k,hk,rfl,HB⟩:=hrel
  by_cases hlt:k<n
  ·have hkl:k<ds.length:=by have:=HN.out;omega
   obtain ⟨b,off,cs,Lk,rfl,hbL,hLk,hrep,hc⟩:=H1.out.at_ hkl
   obtain ⟨b',off',cs',Mk,rfl,hbM,hMk,hrep',hc'⟩:=H2.out.at_ hkl
   have hbl:b<w.heap.size:=H1.out.lt b hbL
   have hbl':b'<w.heap.size:=H2.out.lt b' hbM
   have HR:=Lib.hid (ZL7.keep hrep (Qu HB.out (fun y m=>H1.out.lt y (hLk y m))))
   have HR':=Lib.hid (ZL7.keep hrep' (Qu HB.out (fun y m=>H2.out.lt y (hMk y m))))
   generalize ds[k]=x at *
   obtain ⟨aA1,ac1,aA2,ac2,rfl⟩:=ZNL hrep
   obtain ⟨bA1,bc1,bA2,bc2,rfl⟩:=ZNL hrep'
   have q0:wr.cell? ⟨b,off+k * 3,none⟩=_:=(HB.out.cell (p:=⟨b,off+(k * 3+0),none⟩) hbl).trans (hc 0 _ rfl)
   have p0:wr.cell? ⟨b',off'+k * 3,none⟩=_:=(HB.out.cell (p:=⟨b',off'+(k * 3+0),none⟩) hbl').trans (hc' 0 _ rfl)
   have q1:wr.cell? ⟨b,off+k * 3+1,none⟩=_:=(HB.out.cell (p:=⟨b,off+(k * 3+1),none⟩) hbl).trans (hc 1 _ rfl)
   have p1:wr.cell? ⟨b',off'+k * 3+1,none⟩=_:=(HB.out.cell (p:=⟨b',off'+(k * 3+1),none⟩) hbl').trans (hc' 1 _ rfl)
   have q2:wr.cell? ⟨b,off+k * 3+2,none⟩=_:=(HB.out.cell (p:=⟨b,off+(k * 3+2),none⟩) hbl).trans (hc 2 _ rfl)
   have p2:wr.cell? ⟨b',off'+k * 3+2,none⟩=_:=(HB.out.cell (p:=⟨b',off'+(k * 3+2),none⟩) hbl').trans (hc' 2 _ rfl)
   clear hc hc' hrep hrep'
   have k0:(0:Int)≤k:=by omega
   have k1:(k:Int)<n:=by omega
   go_wp2_with fail
   go_still_tail 8,(by kernel_rfl)
   change wpList _ _ _ _ _ wr.drew
   go_wp2_with (go_at_call 68;(refine (ZPB _ _ x Lk Mk wr.drew (ZL7.keep HR.out (fun _ _=>rfl)) (ZL7.keep HR'.out (fun _ _=>rfl))).mono ?_;rintro e w1 ⟨rfl,hb1⟩;have HB1:=Lib.hid (HB.out.drew.trans (hb1.mono HB.out.size));clear hb1))
   go_roundw
   case rel=>exact ⟨k+1,by omega,by go_num,HB1.out⟩
   case measure=>simp [intOf];omega
  ·go_wp2
   go_ret
   exact ⟨rfl,HB.out⟩
set_option maxHeartbeats 1600000 in
theorem ZPH (cs ds:List Value) (x:ZMe) (L M:List Nat) (w:World) (h1:ZMg.rep w cs x L) (h2:ZMg.rep w ds x M):
  Calls prog 69 #[.agg cs.toArray,.agg ds.toArray] w (ZLx w):=by
 obtain ⟨aA1,ac1,aL1,aA2,ac2,aL2,rfl,_ahL,at0,at1,at2,an1,am1,as1,an2,am2,as2⟩:=h1
 obtain ⟨bA1,bc1,bL1,bA2,bc2,bL2,rfl,_bhL,bt0,bt1,bt2,bn1,bm1,bs1,bn2,bm2,bs2⟩:=h2
 unfold maxLen at am1 bm1 am2 bm2
 have SA1:=Lib.hid as1
 have SB1:=Lib.hid bs1
 clear as1 bs1
 have SA2:=Lib.hid as2
 have SB2:=Lib.hid bs2
 clear as2 bs2
 go_enter func69,ntmps69
 go_wp2_with fail
 refine (ZOp [.int .i64 x.cond.kind,.string x.cond.pattern.rel,.slice aA1 x.cond.pattern.args.length ac1,.string x.cond.left,.string x.cond.right] [.int .i64 x.cond.kind,.string x.cond.pattern.rel,.slice bA1 x.cond.pattern.args.length bc1,.string x.cond.left,.string x.cond.right] x.cond _ _ _ ⟨aA1,ac1,aL1,rfl,rfl,at0,at1,at2,an1,(by unfold maxLen;omega),SA1.out.below (by repeat (first | refine Below.setCell ?_ (by dsimp only;omega) _ | refine Below.alloc ?_ (by first | (simp;done) | (simp;omega) | omega) _ | exact Below.refl _ _))⟩ ⟨bA1,bc1,bL1,rfl,rfl,bt0,bt1,bt2,bn1,(by unfold maxLen;omega),SB1.out.below (by repeat (first | refine Below.setCell ?_ (by dsimp only;omega) _ | refine Below.alloc ?_ (by first | (simp;done) | (simp;omega) | omega) _ | exact Below.refl _ _))⟩).mono ?_
 rintro e w1 ⟨rfl,hb1⟩
 have B1:Hid (Below w.heap.size w w1):=Below.trans (by repeat (first | refine Below.setCell ?_ (by dsimp only;omega) _ | refine Below.alloc ?_ (by first | (simp;done) | (simp;omega) | omega) _ | exact Below.refl _ _)) (hb1.mono (by first | (simp;done) | (simp;omega) | omega))
 have K0:Hid (Blk w1 w.heap.size 60 #[.int .i64 x.parent,.int .i64 x.cond.kind,.string x.cond.pattern.rel,.slice aA1 x.cond.pattern.args.length ac1,.string x.cond.left,.string x.cond.right,.int .i64 x.alpha,.slice aA2 x.tokens.length ac2]):=Blk.later (Blk.alloc (Blk.new _ _ _) _) hb1
 have K1:Hid (Blk w1 (w.heap.size+1) 60 #[.int .i64 x.parent,.int .i64 x.cond.kind,.string x.cond.pattern.rel,.slice bA1 x.cond.pattern.args.length bc1,.string x.cond.left,.string x.cond.right,.int .i64 x.alpha,.slice bA2 x.tokens.length bc2]):=Blk.later (Blk.new_at (by simp)) hb1
 have f0:=K0.out.at (i:=0) rfl
 have r0:=K1.out.at (i:=0) rfl
 have f1:=K0.out.at (i:=1) rfl
 have r1:=K1.out.at (i:=1) rfl
 have f2:=K0.out.at (i:=2) rfl
 have r2:=K1.out.at (i:=2) rfl
 have f3:=K0.out.at (i:=3) rfl
 have r3:=K1.out.at (i:=3) rfl
 have f4:=K0.out.at (i:=4) rfl
 have r4:=K1.out.at (i:=4) rfl
 have f5:=K0.out.at (i:=5) rfl
 have r5:=K1.out.at (i:=5) rfl
 have f6:=K0.out.at (i:=6) rfl
 have r6:=K1.out.at (i:=6) rfl
 have f7:=K0.out.at (i:=7) rfl
 have r7:=K1.out.at (i:=7) rfl
 clear hb1
 have hz1:=B1.out.size
 go_wp2_with fail
 refine (ZO3 aA2 bA2 _ ac2 bc2 x.tokens aL2 bL2 _ rfl (by omega) (SA2.out.below (by repeat (first | refine Below.setCell ?_ (by dsimp only;omega) _ | refine Below.alloc ?_ (by first | (simp;done) | (simp;omega) | omega) _ | exact B1.out))) (SB2.out.below (by repeat (first | refine Below.setCell ?_ (by dsimp only;omega) _ | refine Below.alloc ?_ (by first | (simp;done) | (simp;omega) | omega) _ | exact B1.out)))).mono ?_
 rintro e w2 ⟨rfl,hb2⟩
 have B2:Hid (Below w.heap.size w w2):=Below.trans (by repeat (first | refine Below.setCell ?_ (by dsimp only;omega) _ | refine Below.alloc ?_ (by first | (simp;done) | (simp;omega) | omega) _ | exact B1.out)) (hb2.mono (by first | (simp;done) | (simp;omega) | omega))
 have K0:=Lib.hid (K0.out.later hb2)
 have K1:=Lib.hid (K1.out.later hb2)
 clear f0 r0 f1 r1 f2 r2 f3 r3 f4 r4 f5 r5 f6 r6 f7 r7
 have f0:=K0.out.at (i:=0) rfl
 have r0:=K1.out.at (i:=0) rfl
 have f1:=K0.out.at (i:=1) rfl
 have r1:=K1.out.at (i:=1) rfl
 have f2:=K0.out.at (i:=2) rfl
 have r2:=K1.out.at (i:=2) rfl
 have f3:=K0.out.at (i:=3) rfl
 have r3:=K1.out.at (i:=3) rfl
 have f4:=K0.out.at (i:=4) rfl
 have r4:=K1.out.at (i:=4) rfl
 have f5:=K0.out.at (i:=5) rfl
 have r5:=K1.out.at (i:=5) rfl
 have f6:=K0.out.at (i:=6) rfl
 have r6:=K1.out.at (i:=6) rfl
 have f7:=K0.out.at (i:=7) rfl
 have r7:=K1.out.at (i:=7) rfl
 clear hb2
 have hz2:=B2.out.size
 go_wp2_with fail
 go_ret
 exact ⟨rfl,(by repeat (first | refine Below.setCell ?_ (by dsimp only;omega) _ | refine Below.alloc ?_ (by first | (simp;done) | (simp;omega) | omega) _ | exact B2.out))⟩
set_option maxRecDepth 100000 in
set_option maxHeartbeats 1600000 in
theorem ZPA (A B:Option Addr) (n c d:Nat) (ds:List ZMe) (L M:List Nat) (w:World) (hn:n=ds.length) (hm:n≤9223372036854775807) (h1:Sli ZMg w A ds L) (h2:Sli ZMg w B ds M):
  Calls prog 32 #[.slice A n c,.slice B n d] w (ZLx w):=by
 have H1:=Lib.hid h1
 have H2:=Lib.hid h2
 have HN:=Lib.hid hn
 clear h1 h2 hn
 have hne:((n:Int) != n)=false:=by simp
 go_enter func32,ntmps32
 go_wp2
 go_loopw [5] (fun i wr=>∃(k:Nat),k≤n∧i=.int .i64 k∧Hid (Below w.heap.size w wr)) (fun i _=>n - (intOf i).toNat)
 case atStart=>exact ⟨0,AA _,rfl,Below.refl _ _⟩
 case round=>
  obtain ⟨k,hk,rfl,HB⟩:=hrel
  by_cases hlt:k<n
  ·have hkl:k<ds.length:=by have:=HN.out;omega
   obtain ⟨b,off,cs,Lk,rfl,hbL,hLk,hrep,hc⟩:=H1.out.at_ hkl
   obtain ⟨b',off',cs',Mk,rfl,hbM,hMk,hrep',hc'⟩:=H2.out.at_ hkl
   have hbl:b<w.heap.size:=H1.out.lt b hbL
   have hbl':b'<w.heap.size:=H2.out.lt b' hbM
   have HR:=Lib.hid (ZMg.keep hrep (Qu HB.out (fun y m=>H1.out.lt y (hLk y m))))
   have HR':=Lib.hid (ZMg.keep hrep' (Qu HB.out (fun y m=>H2.out.lt y (hMk y m))))
   generalize ds[k]=x at *
   obtain ⟨aA1,ac1,aA2,ac2,rfl⟩:=ZN3 hrep
   obtain ⟨bA1,bc1,bA2,bc2,rfl⟩:=ZN3 hrep'
   have q0:wr.cell? ⟨b,off+k * 8,none⟩=_:=(HB.out.cell (p:=⟨b,off+(k * 8+0),none⟩) hbl).trans (hc 0 _ rfl)
   have p0:wr.cell? ⟨b',off'+k * 8,none⟩=_:=(HB.out.cell (p:=⟨b',off'+(k * 8+0),none⟩) hbl').trans (hc' 0 _ rfl)
   have q1:wr.cell? ⟨b,off+k * 8+1,none⟩=_:=(HB.out.cell (p:=⟨b,off+(k * 8+1),none⟩) hbl).trans (hc 1 _ rfl)
   have p1:wr.cell? ⟨b',off'+k * 8+1,none⟩=_:=(HB.out.cell (p:=⟨b',off'+(k * 8+1),none⟩) hbl').trans (hc' 1 _ rfl)
   have q2:wr.cell? ⟨b,off+k * 8+2,none⟩=_:=(HB.out.cell (p:=⟨b,off+(k * 8+2),none⟩) hbl).trans (hc 2 _ rfl)
   have p2:wr.cell? ⟨b',off'+k * 8+2,none⟩=_:=(HB.out.cell (p:=⟨b',off'+(k * 8+2),none⟩) hbl').trans (hc' 2 _ rfl)
   have q3:wr.cell? ⟨b,off+k * 8+3,none⟩=_:=(HB.out.cell (p:=⟨b,off+(k * 8+3),none⟩) hbl).trans (hc 3 _ rfl)
   have p3:wr.cell? ⟨b',off'+k * 8+3,none⟩=_:=(HB.out.cell (p:=⟨b',off'+(k * 8+3),none⟩) hbl').trans (hc' 3 _ rfl)
   have q4:wr.cell? ⟨b,off+k * 8+4,none⟩=_:=(HB.out.cell (p:=⟨b,off+(k * 8+4),none⟩) hbl).trans (hc 4 _ rfl)
   have p4:wr.cell? ⟨b',off'+k * 8+4,none⟩=_:=(HB.out.cell (p:=⟨b',off'+(k * 8+4),none⟩) hbl').trans (hc' 4 _ rfl)
   have q5:wr.cell? ⟨b,off+k * 8+5,none⟩=_:=(HB.out.cell (p:=⟨b,off+(k * 8+5),none⟩) hbl).trans (hc 5 _ rfl)
   have p5:wr.cell? ⟨b',off'+k * 8+5,none⟩=_:=(HB.out.cell (p:=⟨b',off'+(k * 8+5),none⟩) hbl').trans (hc' 5 _ rfl)
   have q6:wr.cell? ⟨b,off+k * 8+6,none⟩=_:=(HB.out.cell (p:=⟨b,off+(k * 8+6),none⟩) hbl).trans (hc 6 _ rfl)
   have p6:wr.cell? ⟨b',off'+k * 8+6,none⟩=_:=(HB.out.cell (p:=⟨b',off'+(k * 8+6),none⟩) hbl').trans (hc' 6 _ rfl)
   have q7:wr.cell? ⟨b,off+k * 8+7,none⟩=_:=(HB.out.cell (p:=⟨b,off+(k * 8+7),none⟩) hbl).trans (hc 7 _ rfl)
   have p7:wr.cell? ⟨b',off'+k * 8+7,none⟩=_:=(HB.out.cell (p:=⟨b',off'+(k * 8+7),none⟩) hbl').trans (hc' 7 _ rfl)
   clear hc hc' hrep hrep'
   have k0:(0:Int)≤k:=by omega
   have k1:(k:Int)<n:=by omega
   go_wp2_with fail
   go_still_tail 8,(by kernel_rfl)
   change wpList _ _ _ _ _ wr.drew
   go_wp2_with (go_at_call 69;(refine (ZPH _ _ x Lk Mk wr.drew (ZMg.keep HR.out (fun _ _=>rfl)) (ZMg.keep HR'.out (fun _ _=>rfl))).mono ?_;rintro e w1 ⟨rfl,hb1⟩;have HB1:=Lib.hid (HB.out.drew.trans (hb1.mono HB.out.size));clear hb1))
   go_roundw
   case rel=>exact ⟨k+1,by omega,by go_num,HB1.out⟩
   case measure=>simp [intOf];omega
  ·go_wp2
   go_ret
   exact ⟨rfl,HB.out⟩
set_option maxHeartbeats 1600000 in
theorem ZOX (cs ds:List Value) (x:ZMb) (L M:List Nat) (w:World) (h1:ZPp.rep w cs x L) (h2:ZPp.rep w ds x M):
  Calls prog 14 #[.agg cs.toArray,.agg ds.toArray] w (ZLx w):=by
 obtain ⟨aA1,ac1,aL1,aA2,ac2,aL2,aA3,ac3,aL3,aA4,ac4,aL4,aA5,ac5,aL5,rfl,_ahL,an1,am1,as1,an2,am2,as2,an3,am3,as3,an4,am4,as4,an5,am5,as5⟩:=h1
 obtain ⟨bA1,bc1,bL1,bA2,bc2,bL2,bA3,bc3,bL3,bA4,bc4,bL4,bA5,bc5,bL5,rfl,_bhL,bn1,bm1,bs1,bn2,bm2,bs2,bn3,bm3,bs3,bn4,bm4,bs4,bn5,bm5,bs5⟩:=h2
 unfold maxLen at am1 bm1 am2 bm2 am3 bm3 am4 bm4 am5 bm5
 have SA1:=Lib.hid as1
 have SB1:=Lib.hid bs1
 clear as1 bs1
 have SA2:=Lib.hid as2
 have SB2:=Lib.hid bs2
 clear as2 bs2
 have SA3:=Lib.hid as3
 have SB3:=Lib.hid bs3
 clear as3 bs3
 have SA4:=Lib.hid as4
 have SB4:=Lib.hid bs4
 clear as4 bs4
 have SA5:=Lib.hid as5
 have SB5:=Lib.hid bs5
 clear as5 bs5
 go_enter func14,ntmps14
 go_wp2_with fail
 refine (ZN4 aA1 bA1 _ ac1 bc1 x.rules aL1 bL1 _ rfl (by omega) (SA1.out.below (by repeat (first | refine Below.setCell ?_ (by dsimp only;omega) _ | refine Below.alloc ?_ (by first | (simp;done) | (simp;omega) | omega) _ | exact Below.refl _ _))) (SB1.out.below (by repeat (first | refine Below.setCell ?_ (by dsimp only;omega) _ | refine Below.alloc ?_ (by first | (simp;done) | (simp;omega) | omega) _ | exact Below.refl _ _)))).mono ?_
 rintro e w1 ⟨rfl,hb1⟩
 have B1:Hid (Below w.heap.size w w1):=Below.trans (by repeat (first | refine Below.setCell ?_ (by dsimp only;omega) _ | refine Below.alloc ?_ (by first | (simp;done) | (simp;omega) | omega) _ | exact Below.refl _ _)) (hb1.mono (by first | (simp;done) | (simp;omega) | omega))
 have K0:Hid (Blk w1 w.heap.size 33 #[.slice aA1 x.rules.length ac1,.slice aA2 x.ends.length ac2,.slice aA3 x.alphas.length ac3,.slice aA4 x.nodes.length ac4,.slice aA5 x.facts.length ac5,.int .i64 x.tries]):=Blk.later (Blk.alloc (Blk.new _ _ _) _) hb1
 have K1:Hid (Blk w1 (w.heap.size+1) 33 #[.slice bA1 x.rules.length bc1,.slice bA2 x.ends.length bc2,.slice bA3 x.alphas.length bc3,.slice bA4 x.nodes.length bc4,.slice bA5 x.facts.length bc5,.int .i64 x.tries]):=Blk.later (Blk.new_at (by simp)) hb1
 have f0:=K0.out.at (i:=0) rfl
 have r0:=K1.out.at (i:=0) rfl
 have f1:=K0.out.at (i:=1) rfl
 have r1:=K1.out.at (i:=1) rfl
 have f2:=K0.out.at (i:=2) rfl
 have r2:=K1.out.at (i:=2) rfl
 have f3:=K0.out.at (i:=3) rfl
 have r3:=K1.out.at (i:=3) rfl
 have f4:=K0.out.at (i:=4) rfl
 have r4:=K1.out.at (i:=4) rfl
 have f5:=K0.out.at (i:=5) rfl
 have r5:=K1.out.at (i:=5) rfl
 clear hb1
 have hz1:=B1.out.size
 go_wp2_with fail
 refine (ZOi aA2 bA2 _ ac2 bc2 x.ends aL2 bL2 _ rfl (by omega) (SA2.out.below (by repeat (first | refine Below.setCell ?_ (by dsimp only;omega) _ | refine Below.alloc ?_ (by first | (simp;done) | (simp;omega) | omega) _ | exact B1.out))) (SB2.out.below (by repeat (first | refine Below.setCell ?_ (by dsimp only;omega) _ | refine Below.alloc ?_ (by first | (simp;done) | (simp;omega) | omega) _ | exact B1.out)))).mono ?_
 rintro e w2 ⟨rfl,hb2⟩
 have B2:Hid (Below w.heap.size w w2):=Below.trans (by repeat (first | refine Below.setCell ?_ (by dsimp only;omega) _ | refine Below.alloc ?_ (by first | (simp;done) | (simp;omega) | omega) _ | exact B1.out)) (hb2.mono (by first | (simp;done) | (simp;omega) | omega))
 have K0:=Lib.hid (K0.out.later hb2)
 have K1:=Lib.hid (K1.out.later hb2)
 clear f0 r0 f1 r1 f2 r2 f3 r3 f4 r4 f5 r5
 have f0:=K0.out.at (i:=0) rfl
 have r0:=K1.out.at (i:=0) rfl
 have f1:=K0.out.at (i:=1) rfl
 have r1:=K1.out.at (i:=1) rfl
 have f2:=K0.out.at (i:=2) rfl
 have r2:=K1.out.at (i:=2) rfl
 have f3:=K0.out.at (i:=3) rfl
 have r3:=K1.out.at (i:=3) rfl
 have f4:=K0.out.at (i:=4) rfl
 have r4:=K1.out.at (i:=4) rfl
 have f5:=K0.out.at (i:=5) rfl
 have r5:=K1.out.at (i:=5) rfl
 clear hb2
 have hz2:=B2.out.size
 go_wp2_with fail
 refine (ZPe aA3 bA3 _ ac3 bc3 x.alphas aL3 bL3 _ rfl (by omega) (SA3.out.below (by repeat (first | refine Below.setCell ?_ (by dsimp only;omega) _ | refine Below.alloc ?_ (by first | (simp;done) | (simp;omega) | omega) _ | exact B2.out))) (SB3.out.below (by repeat (first | refine Below.setCell ?_ (by dsimp only;omega) _ | refine Below.alloc ?_ (by first | (simp;done) | (simp;omega) | omega) _ | exact B2.out)))).mono ?_
 rintro e w3 ⟨rfl,hb3⟩
 have B3:Hid (Below w.heap.size w w3):=Below.trans (by repeat (first | refine Below.setCell ?_ (by dsimp only;omega) _ | refine Below.alloc ?_ (by first | (simp;done) | (simp;omega) | omega) _ | exact B2.out)) (hb3.mono (by first | (simp;done) | (simp;omega) | omega))
 have K0:=Lib.hid (K0.out.later hb3)
 have K1:=Lib.hid (K1.out.later hb3)
 clear f0 r0 f1 r1 f2 r2 f3 r3 f4 r4 f5 r5
 have f0:=K0.out.at (i:=0) rfl
 have r0:=K1.out.at (i:=0) rfl
 have f1:=K0.out.at (i:=1) rfl
 have r1:=K1.out.at (i:=1) rfl
 have f2:=K0.out.at (i:=2) rfl
 have r2:=K1.out.at (i:=2) rfl
 have f3:=K0.out.at (i:=3) rfl
 have r3:=K1.out.at (i:=3) rfl
 have f4:=K0.out.at (i:=4) rfl
 have r4:=K1.out.at (i:=4) rfl
 have f5:=K0.out.at (i:=5) rfl
 have r5:=K1.out.at (i:=5) rfl
 clear hb3
 have hz3:=B3.out.size
 go_wp2_with fail
 refine (ZPA aA4 bA4 _ ac4 bc4 x.nodes aL4 bL4 _ rfl (by omega) (SA4.out.below (by repeat (first | refine Below.setCell ?_ (by dsimp only;omega) _ | refine Below.alloc ?_ (by first | (simp;done) | (simp;omega) | omega) _ | exact B3.out))) (SB4.out.below (by repeat (first | refine Below.setCell ?_ (by dsimp only;omega) _ | refine Below.alloc ?_ (by first | (simp;done) | (simp;omega) | omega) _ | exact B3.out)))).mono ?_
 rintro e w4 ⟨rfl,hb4⟩
 have B4:Hid (Below w.heap.size w w4):=Below.trans (by repeat (first | refine Below.setCell ?_ (by dsimp only;omega) _ | refine Below.alloc ?_ (by first | (simp;done) | (simp;omega) | omega) _ | exact B3.out)) (hb4.mono (by first | (simp;done) | (simp;omega) | omega))
 have K0:=Lib.hid (K0.out.later hb4)
 have K1:=Lib.hid (K1.out.later hb4)
 clear f0 r0 f1 r1 f2 r2 f3 r3 f4 r4 f5 r5
 have f0:=K0.out.at (i:=0) rfl
 have r0:=K1.out.at (i:=0) rfl
 have f1:=K0.out.at (i:=1) rfl
 have r1:=K1.out.at (i:=1) rfl
 have f2:=K0.out.at (i:=2) rfl
 have r2:=K1.out.at (i:=2) rfl
 have f3:=K0.out.at (i:=3) rfl
 have r3:=K1.out.at (i:=3) rfl
 have f4:=K0.out.at (i:=4) rfl
 have r4:=K1.out.at (i:=4) rfl
 have f5:=K0.out.at (i:=5) rfl
 have r5:=K1.out.at (i:=5) rfl
 clear hb4
 have hz4:=B4.out.size
 go_wp2_with fail
 refine (ZNl aA5 bA5 _ ac5 bc5 x.facts aL5 bL5 _ rfl (by omega) (SA5.out.below (by repeat (first | refine Below.setCell ?_ (by dsimp only;omega) _ | refine Below.alloc ?_ (by first | (simp;done) | (simp;omega) | omega) _ | exact B4.out))) (SB5.out.below (by repeat (first | refine Below.setCell ?_ (by dsimp only;omega) _ | refine Below.alloc ?_ (by first | (simp;done) | (simp;omega) | omega) _ | exact B4.out)))).mono ?_
 rintro e w5 ⟨rfl,hb5⟩
 have B5:Hid (Below w.heap.size w w5):=Below.trans (by repeat (first | refine Below.setCell ?_ (by dsimp only;omega) _ | refine Below.alloc ?_ (by first | (simp;done) | (simp;omega) | omega) _ | exact B4.out)) (hb5.mono (by first | (simp;done) | (simp;omega) | omega))
 have K0:=Lib.hid (K0.out.later hb5)
 have K1:=Lib.hid (K1.out.later hb5)
 clear f0 r0 f1 r1 f2 r2 f3 r3 f4 r4 f5 r5
 have f0:=K0.out.at (i:=0) rfl
 have r0:=K1.out.at (i:=0) rfl
 have f1:=K0.out.at (i:=1) rfl
 have r1:=K1.out.at (i:=1) rfl
 have f2:=K0.out.at (i:=2) rfl
 have r2:=K1.out.at (i:=2) rfl
 have f3:=K0.out.at (i:=3) rfl
 have r3:=K1.out.at (i:=3) rfl
 have f4:=K0.out.at (i:=4) rfl
 have r4:=K1.out.at (i:=4) rfl
 have f5:=K0.out.at (i:=5) rfl
 have r5:=K1.out.at (i:=5) rfl
 clear hb5
 have hz5:=B5.out.size
 go_wp2_with fail
 go_ret
 exact ⟨rfl,(by repeat (first | refine Below.setCell ?_ (by dsimp only;omega) _ | refine Below.alloc ?_ (by first | (simp;done) | (simp;omega) | omega) _ | exact B5.out))⟩
set_option maxHeartbeats 1600000 in
theorem ZPy (cs ds:List Value) (x:ZL5) (L M:List Nat) (w:World) (h1:ZL8.rep w cs x L) (h2:ZL8.rep w ds x M):
  Calls prog 65 #[.agg cs.toArray,.agg ds.toArray] w (ZLx w):=by
 obtain ⟨aA1,ac1,aL1,rfl,_ahL,at0,an1,am1,as1⟩:=h1
 obtain ⟨bA1,bc1,bL1,rfl,_bhL,bt0,bn1,bm1,bs1⟩:=h2
 unfold maxLen at am1 bm1
 have SA1:=Lib.hid as1
 have SB1:=Lib.hid bs1
 clear as1 bs1
 go_enter func65,ntmps65
 go_wp2_with fail
 refine (ZNy [.string x.fact.rel,.slice aA1 x.fact.args.length ac1] [.string x.fact.rel,.slice bA1 x.fact.args.length bc1] x.fact _ _ _ ⟨aA1,ac1,aL1,rfl,rfl,at0,an1,(by unfold maxLen;omega),SA1.out.below (by repeat (first | refine Below.setCell ?_ (by dsimp only;omega) _ | refine Below.alloc ?_ (by first | (simp;done) | (simp;omega) | omega) _ | exact Below.refl _ _))⟩ ⟨bA1,bc1,bL1,rfl,rfl,bt0,bn1,(by unfold maxLen;omega),SB1.out.below (by repeat (first | refine Below.setCell ?_ (by dsimp only;omega) _ | refine Below.alloc ?_ (by first | (simp;done) | (simp;omega) | omega) _ | exact Below.refl _ _))⟩).mono ?_
 rintro e w1 ⟨rfl,hb1⟩
 have B1:Hid (Below w.heap.size w w1):=Below.trans (by repeat (first | refine Below.setCell ?_ (by dsimp only;omega) _ | refine Below.alloc ?_ (by first | (simp;done) | (simp;omega) | omega) _ | exact Below.refl _ _)) (hb1.mono (by first | (simp;done) | (simp;omega) | omega))
 have K0:Hid (Blk w1 w.heap.size 100 #[.string x.fact.rel,.slice aA1 x.fact.args.length ac1,.int .i64 x.time]):=Blk.later (Blk.alloc (Blk.new _ _ _) _) hb1
 have K1:Hid (Blk w1 (w.heap.size+1) 100 #[.string x.fact.rel,.slice bA1 x.fact.args.length bc1,.int .i64 x.time]):=Blk.later (Blk.new_at (by simp)) hb1
 have f0:=K0.out.at (i:=0) rfl
 have r0:=K1.out.at (i:=0) rfl
 have f1:=K0.out.at (i:=1) rfl
 have r1:=K1.out.at (i:=1) rfl
 have f2:=K0.out.at (i:=2) rfl
 have r2:=K1.out.at (i:=2) rfl
 clear hb1
 have hz1:=B1.out.size
 go_wp2_with fail
 go_ret
 exact ⟨rfl,(by repeat (first | refine Below.setCell ?_ (by dsimp only;omega) _ | refine Below.alloc ?_ (by first | (simp;done) | (simp;omega) | omega) _ | exact B1.out))⟩
set_option maxRecDepth 100000 in
set_option maxHeartbeats 1600000 in
theorem ZPb (A B:Option Addr) (n c d:Nat) (ds:List ZL5) (L M:List Nat) (w:World) (hn:n=ds.length) (hm:n≤9223372036854775807) (h1:Sli ZL8 w A ds L) (h2:Sli ZL8 w B ds M):
  Calls prog 27 #[.slice A n c,.slice B n d] w (ZLx w):=by
 have H1:=Lib.hid h1
 have H2:=Lib.hid h2
 have HN:=Lib.hid hn
 clear h1 h2 hn
 have hne:((n:Int) != n)=false:=by simp
 go_enter func27,ntmps27
 go_wp2
 go_loopw [5] (fun i wr=>∃(k:Nat),k≤n∧i=.int .i64 k∧Hid (Below w.heap.size w wr)) (fun i _=>n - (intOf i).toNat)
 case atStart=>exact ⟨0,AA _,rfl,Below.refl _ _⟩
 case round=>
  obtain ⟨k,hk,rfl,HB⟩:=hrel
  by_cases hlt:k<n
  ·have hkl:k<ds.length:=by have:=HN.out;omega
   obtain ⟨b,off,cs,Lk,rfl,hbL,hLk,hrep,hc⟩:=H1.out.at_ hkl
   obtain ⟨b',off',cs',Mk,rfl,hbM,hMk,hrep',hc'⟩:=H2.out.at_ hkl
   have hbl:b<w.heap.size:=H1.out.lt b hbL
   have hbl':b'<w.heap.size:=H2.out.lt b' hbM
   have HR:=Lib.hid (ZL8.keep hrep (Qu HB.out (fun y m=>H1.out.lt y (hLk y m))))
   have HR':=Lib.hid (ZL8.keep hrep' (Qu HB.out (fun y m=>H2.out.lt y (hMk y m))))
   generalize ds[k]=x at *
   obtain ⟨aA1,ac1,rfl⟩:=ZNK hrep
   obtain ⟨bA1,bc1,rfl⟩:=ZNK hrep'
   have q0:wr.cell? ⟨b,off+k * 3,none⟩=_:=(HB.out.cell (p:=⟨b,off+(k * 3+0),none⟩) hbl).trans (hc 0 _ rfl)
   have p0:wr.cell? ⟨b',off'+k * 3,none⟩=_:=(HB.out.cell (p:=⟨b',off'+(k * 3+0),none⟩) hbl').trans (hc' 0 _ rfl)
   have q1:wr.cell? ⟨b,off+k * 3+1,none⟩=_:=(HB.out.cell (p:=⟨b,off+(k * 3+1),none⟩) hbl).trans (hc 1 _ rfl)
   have p1:wr.cell? ⟨b',off'+k * 3+1,none⟩=_:=(HB.out.cell (p:=⟨b',off'+(k * 3+1),none⟩) hbl').trans (hc' 1 _ rfl)
   have q2:wr.cell? ⟨b,off+k * 3+2,none⟩=_:=(HB.out.cell (p:=⟨b,off+(k * 3+2),none⟩) hbl).trans (hc 2 _ rfl)
   have p2:wr.cell? ⟨b',off'+k * 3+2,none⟩=_:=(HB.out.cell (p:=⟨b',off'+(k * 3+2),none⟩) hbl').trans (hc' 2 _ rfl)
   clear hc hc' hrep hrep'
   have k0:(0:Int)≤k:=by omega
   have k1:(k:Int)<n:=by omega
   go_wp2_with fail
   go_still_tail 8,(by kernel_rfl)
   change wpList _ _ _ _ _ wr.drew
   go_wp2_with (go_at_call 65;(refine (ZPy _ _ x Lk Mk wr.drew (ZL8.keep HR.out (fun _ _=>rfl)) (ZL8.keep HR'.out (fun _ _=>rfl))).mono ?_;rintro e w1 ⟨rfl,hb1⟩;have HB1:=Lib.hid (HB.out.drew.trans (hb1.mono HB.out.size));clear hb1))
   go_roundw
   case rel=>exact ⟨k+1,by omega,by go_num,HB1.out⟩
   case measure=>simp [intOf];omega
  ·go_wp2
   go_ret
   exact ⟨rfl,HB.out⟩
set_option maxHeartbeats 1600000 in
theorem ZPg (cs ds:List Value) (x:ZLS) (L M:List Nat) (w:World) (h1:ZLV.rep w cs x L) (h2:ZLV.rep w ds x M):
  Calls prog 66 #[.agg cs.toArray,.agg ds.toArray] w (ZLx w):=by
 obtain ⟨aA1,ac1,aL1,rfl,_ahL,at0,an1,am1,as1⟩:=h1
 obtain ⟨bA1,bc1,bL1,rfl,_bhL,bt0,bn1,bm1,bs1⟩:=h2
 unfold maxLen at am1 bm1
 have SA1:=Lib.hid as1
 have SB1:=Lib.hid bs1
 clear as1 bs1
 go_enter func66,ntmps66
 go_wp2_with fail
 refine (ZOi aA1 bA1 _ ac1 bc1 x.times aL1 bL1 _ rfl (by omega) (SA1.out.below (by repeat (first | refine Below.setCell ?_ (by dsimp only;omega) _ | refine Below.alloc ?_ (by first | (simp;done) | (simp;omega) | omega) _ | exact Below.refl _ _))) (SB1.out.below (by repeat (first | refine Below.setCell ?_ (by dsimp only;omega) _ | refine Below.alloc ?_ (by first | (simp;done) | (simp;omega) | omega) _ | exact Below.refl _ _)))).mono ?_
 rintro e w1 ⟨rfl,hb1⟩
 have B1:Hid (Below w.heap.size w w1):=Below.trans (by repeat (first | refine Below.setCell ?_ (by dsimp only;omega) _ | refine Below.alloc ?_ (by first | (simp;done) | (simp;omega) | omega) _ | exact Below.refl _ _)) (hb1.mono (by first | (simp;done) | (simp;omega) | omega))
 have K0:Hid (Blk w1 w.heap.size 103 #[.string x.rule,.slice aA1 x.times.length ac1]):=Blk.later (Blk.alloc (Blk.new _ _ _) _) hb1
 have K1:Hid (Blk w1 (w.heap.size+1) 103 #[.string x.rule,.slice bA1 x.times.length bc1]):=Blk.later (Blk.new_at (by simp)) hb1
 have f0:=K0.out.at (i:=0) rfl
 have r0:=K1.out.at (i:=0) rfl
 have f1:=K0.out.at (i:=1) rfl
 have r1:=K1.out.at (i:=1) rfl
 clear hb1
 have hz1:=B1.out.size
 go_wp2_with fail
 go_ret
 exact ⟨rfl,(by repeat (first | refine Below.setCell ?_ (by dsimp only;omega) _ | refine Below.alloc ?_ (by first | (simp;done) | (simp;omega) | omega) _ | exact B1.out))⟩
set_option maxRecDepth 100000 in
set_option maxHeartbeats 1600000 in
theorem ZON (A B:Option Addr) (n c d:Nat) (ds:List ZLS) (L M:List Nat) (w:World) (hn:n=ds.length) (hm:n≤9223372036854775807) (h1:Sli ZLV w A ds L) (h2:Sli ZLV w B ds M):
  Calls prog 28 #[.slice A n c,.slice B n d] w (ZLx w):=by
 have H1:=Lib.hid h1
 have H2:=Lib.hid h2
 have HN:=Lib.hid hn
 clear h1 h2 hn
 have hne:((n:Int) != n)=false:=by simp
 go_enter func28,ntmps28
 go_wp2
 go_loopw [5] (fun i wr=>∃(k:Nat),k≤n∧i=.int .i64 k∧Hid (Below w.heap.size w wr)) (fun i _=>n - (intOf i).toNat)
 case atStart=>exact ⟨0,AA _,rfl,Below.refl _ _⟩
 case round=>
  obtain ⟨k,hk,rfl,HB⟩:=hrel
  by_cases hlt:k<n
  ·have hkl:k<ds.length:=by have:=HN.out;omega
   obtain ⟨b,off,cs,Lk,rfl,hbL,hLk,hrep,hc⟩:=H1.out.at_ hkl
   obtain ⟨b',off',cs',Mk,rfl,hbM,hMk,hrep',hc'⟩:=H2.out.at_ hkl
   have hbl:b<w.heap.size:=H1.out.lt b hbL
   have hbl':b'<w.heap.size:=H2.out.lt b' hbM
   have HR:=Lib.hid (ZLV.keep hrep (Qu HB.out (fun y m=>H1.out.lt y (hLk y m))))
   have HR':=Lib.hid (ZLV.keep hrep' (Qu HB.out (fun y m=>H2.out.lt y (hMk y m))))
   generalize ds[k]=x at *
   obtain ⟨aA1,ac1,rfl⟩:=ZNu hrep
   obtain ⟨bA1,bc1,rfl⟩:=ZNu hrep'
   have q0:wr.cell? ⟨b,off+k * 2,none⟩=_:=(HB.out.cell (p:=⟨b,off+(k * 2+0),none⟩) hbl).trans (hc 0 _ rfl)
   have p0:wr.cell? ⟨b',off'+k * 2,none⟩=_:=(HB.out.cell (p:=⟨b',off'+(k * 2+0),none⟩) hbl').trans (hc' 0 _ rfl)
   have q1:wr.cell? ⟨b,off+k * 2+1,none⟩=_:=(HB.out.cell (p:=⟨b,off+(k * 2+1),none⟩) hbl).trans (hc 1 _ rfl)
   have p1:wr.cell? ⟨b',off'+k * 2+1,none⟩=_:=(HB.out.cell (p:=⟨b',off'+(k * 2+1),none⟩) hbl').trans (hc' 1 _ rfl)
   clear hc hc' hrep hrep'
   have k0:(0:Int)≤k:=by omega
   have k1:(k:Int)<n:=by omega
   go_wp2_with fail
   go_still_tail 8,(by kernel_rfl)
   change wpList _ _ _ _ _ wr.drew
   go_wp2_with (go_at_call 66;(refine (ZPg _ _ x Lk Mk wr.drew (ZLV.keep HR.out (fun _ _=>rfl)) (ZLV.keep HR'.out (fun _ _=>rfl))).mono ?_;rintro e w1 ⟨rfl,hb1⟩;have HB1:=Lib.hid (HB.out.drew.trans (hb1.mono HB.out.size));clear hb1))
   go_roundw
   case rel=>exact ⟨k+1,by omega,by go_num,HB1.out⟩
   case measure=>simp [intOf];omega
  ·go_wp2
   go_ret
   exact ⟨rfl,HB.out⟩
set_option maxHeartbeats 1600000 in
theorem ZPC (cs ds:List Value) (x:ZL6) (L M:List Nat) (w:World) (h1:ZL9.rep w cs x L) (h2:ZL9.rep w ds x M):
  Calls prog 67 #[.agg cs.toArray,.agg ds.toArray] w (ZLx w):=by
 obtain ⟨aA1,ac1,aL1,rfl,_ahL,at0,at1,an1,am1,as1⟩:=h1
 obtain ⟨bA1,bc1,bL1,rfl,_bhL,bt0,bt1,bn1,bm1,bs1⟩:=h2
 unfold maxLen at am1 bm1
 have SA1:=Lib.hid as1
 have SB1:=Lib.hid bs1
 clear as1 bs1
 go_enter func67,ntmps67
 go_wp2_with fail
 refine (ZNy [.string x.fact.rel,.slice aA1 x.fact.args.length ac1] [.string x.fact.rel,.slice bA1 x.fact.args.length bc1] x.fact _ _ _ ⟨aA1,ac1,aL1,rfl,rfl,at1,an1,(by unfold maxLen;omega),SA1.out.below (by repeat (first | refine Below.setCell ?_ (by dsimp only;omega) _ | refine Below.alloc ?_ (by first | (simp;done) | (simp;omega) | omega) _ | exact Below.refl _ _))⟩ ⟨bA1,bc1,bL1,rfl,rfl,bt1,bn1,(by unfold maxLen;omega),SB1.out.below (by repeat (first | refine Below.setCell ?_ (by dsimp only;omega) _ | refine Below.alloc ?_ (by first | (simp;done) | (simp;omega) | omega) _ | exact Below.refl _ _))⟩).mono ?_
 rintro e w1 ⟨rfl,hb1⟩
 have B1:Hid (Below w.heap.size w w1):=Below.trans (by repeat (first | refine Below.setCell ?_ (by dsimp only;omega) _ | refine Below.alloc ?_ (by first | (simp;done) | (simp;omega) | omega) _ | exact Below.refl _ _)) (hb1.mono (by first | (simp;done) | (simp;omega) | omega))
 have K0:Hid (Blk w1 w.heap.size 106 #[.int .i64 x.kind,.string x.rule,.string x.fact.rel,.slice aA1 x.fact.args.length ac1]):=Blk.later (Blk.alloc (Blk.new _ _ _) _) hb1
 have K1:Hid (Blk w1 (w.heap.size+1) 106 #[.int .i64 x.kind,.string x.rule,.string x.fact.rel,.slice bA1 x.fact.args.length bc1]):=Blk.later (Blk.new_at (by simp)) hb1
 have f0:=K0.out.at (i:=0) rfl
 have r0:=K1.out.at (i:=0) rfl
 have f1:=K0.out.at (i:=1) rfl
 have r1:=K1.out.at (i:=1) rfl
 have f2:=K0.out.at (i:=2) rfl
 have r2:=K1.out.at (i:=2) rfl
 have f3:=K0.out.at (i:=3) rfl
 have r3:=K1.out.at (i:=3) rfl
 clear hb1
 have hz1:=B1.out.size
 go_wp2_with fail
 go_ret
 exact ⟨rfl,(by repeat (first | refine Below.setCell ?_ (by dsimp only;omega) _ | refine Below.alloc ?_ (by first | (simp;done) | (simp;omega) | omega) _ | exact B1.out))⟩
set_option maxRecDepth 100000 in
set_option maxHeartbeats 1600000 in
theorem ZO7 (A B:Option Addr) (n c d:Nat) (ds:List ZL6) (L M:List Nat) (w:World) (hn:n=ds.length) (hm:n≤9223372036854775807) (h1:Sli ZL9 w A ds L) (h2:Sli ZL9 w B ds M):
  Calls prog 29 #[.slice A n c,.slice B n d] w (ZLx w):=by
 have H1:=Lib.hid h1
 have H2:=Lib.hid h2
 have HN:=Lib.hid hn
 clear h1 h2 hn
 have hne:((n:Int) != n)=false:=by simp
 go_enter func29,ntmps29
 go_wp2
 go_loopw [5] (fun i wr=>∃(k:Nat),k≤n∧i=.int .i64 k∧Hid (Below w.heap.size w wr)) (fun i _=>n - (intOf i).toNat)
 case atStart=>exact ⟨0,AA _,rfl,Below.refl _ _⟩
 case round=>
  obtain ⟨k,hk,rfl,HB⟩:=hrel
  by_cases hlt:k<n
  ·have hkl:k<ds.length:=by have:=HN.out;omega
   obtain ⟨b,off,cs,Lk,rfl,hbL,hLk,hrep,hc⟩:=H1.out.at_ hkl
   obtain ⟨b',off',cs',Mk,rfl,hbM,hMk,hrep',hc'⟩:=H2.out.at_ hkl
   have hbl:b<w.heap.size:=H1.out.lt b hbL
   have hbl':b'<w.heap.size:=H2.out.lt b' hbM
   have HR:=Lib.hid (ZL9.keep hrep (Qu HB.out (fun y m=>H1.out.lt y (hLk y m))))
   have HR':=Lib.hid (ZL9.keep hrep' (Qu HB.out (fun y m=>H2.out.lt y (hMk y m))))
   generalize ds[k]=x at *
   obtain ⟨aA1,ac1,rfl⟩:=ZNG hrep
   obtain ⟨bA1,bc1,rfl⟩:=ZNG hrep'
   have q0:wr.cell? ⟨b,off+k * 4,none⟩=_:=(HB.out.cell (p:=⟨b,off+(k * 4+0),none⟩) hbl).trans (hc 0 _ rfl)
   have p0:wr.cell? ⟨b',off'+k * 4,none⟩=_:=(HB.out.cell (p:=⟨b',off'+(k * 4+0),none⟩) hbl').trans (hc' 0 _ rfl)
   have q1:wr.cell? ⟨b,off+k * 4+1,none⟩=_:=(HB.out.cell (p:=⟨b,off+(k * 4+1),none⟩) hbl).trans (hc 1 _ rfl)
   have p1:wr.cell? ⟨b',off'+k * 4+1,none⟩=_:=(HB.out.cell (p:=⟨b',off'+(k * 4+1),none⟩) hbl').trans (hc' 1 _ rfl)
   have q2:wr.cell? ⟨b,off+k * 4+2,none⟩=_:=(HB.out.cell (p:=⟨b,off+(k * 4+2),none⟩) hbl).trans (hc 2 _ rfl)
   have p2:wr.cell? ⟨b',off'+k * 4+2,none⟩=_:=(HB.out.cell (p:=⟨b',off'+(k * 4+2),none⟩) hbl').trans (hc' 2 _ rfl)
   have q3:wr.cell? ⟨b,off+k * 4+3,none⟩=_:=(HB.out.cell (p:=⟨b,off+(k * 4+3),none⟩) hbl).trans (hc 3 _ rfl)
   have p3:wr.cell? ⟨b',off'+k * 4+3,none⟩=_:=(HB.out.cell (p:=⟨b',off'+(k * 4+3),none⟩) hbl').trans (hc' 3 _ rfl)
   clear hc hc' hrep hrep'
   have k0:(0:Int)≤k:=by omega
   have k1:(k:Int)<n:=by omega
   go_wp2_with fail
   go_still_tail 8,(by kernel_rfl)
   change wpList _ _ _ _ _ wr.drew
   go_wp2_with (go_at_call 67;(refine (ZPC _ _ x Lk Mk wr.drew (ZL9.keep HR.out (fun _ _=>rfl)) (ZL9.keep HR'.out (fun _ _=>rfl))).mono ?_;rintro e w1 ⟨rfl,hb1⟩;have HB1:=Lib.hid (HB.out.drew.trans (hb1.mono HB.out.size));clear hb1))
   go_roundw
   case rel=>exact ⟨k+1,by omega,by go_num,HB1.out⟩
   case measure=>simp [intOf];omega
  ·go_wp2
   go_ret
   exact ⟨rfl,HB.out⟩
set_option maxHeartbeats 1600000 in
theorem ZO6 (cs ds:List Value) (x:ZMj) (L M:List Nat) (w:World) (h1:ZPP.rep w cs x L) (h2:ZPP.rep w ds x M):
  Calls prog 13 #[.agg cs.toArray,.agg ds.toArray] w (ZLx w):=by
 obtain ⟨aA1,ac1,aL1,aA2,ac2,aL2,aA3,ac3,aL3,aA4,ac4,aL4,rfl,_ahL,an1,am1,as1,an2,am2,as2,an3,am3,as3,an4,am4,as4⟩:=h1
 obtain ⟨bA1,bc1,bL1,bA2,bc2,bL2,bA3,bc3,bL3,bA4,bc4,bL4,rfl,_bhL,bn1,bm1,bs1,bn2,bm2,bs2,bn3,bm3,bs3,bn4,bm4,bs4⟩:=h2
 unfold maxLen at am1 bm1 am2 bm2 am3 bm3 am4 bm4
 have SA1:=Lib.hid as1
 have SB1:=Lib.hid bs1
 clear as1 bs1
 have SA2:=Lib.hid as2
 have SB2:=Lib.hid bs2
 clear as2 bs2
 have SA3:=Lib.hid as3
 have SB3:=Lib.hid bs3
 clear as3 bs3
 have SA4:=Lib.hid as4
 have SB4:=Lib.hid bs4
 clear as4 bs4
 go_enter func13,ntmps13
 go_wp2_with fail
 refine (ZN4 aA1 bA1 _ ac1 bc1 x.rules aL1 bL1 _ rfl (by omega) (SA1.out.below (by repeat (first | refine Below.setCell ?_ (by dsimp only;omega) _ | refine Below.alloc ?_ (by first | (simp;done) | (simp;omega) | omega) _ | exact Below.refl _ _))) (SB1.out.below (by repeat (first | refine Below.setCell ?_ (by dsimp only;omega) _ | refine Below.alloc ?_ (by first | (simp;done) | (simp;omega) | omega) _ | exact Below.refl _ _)))).mono ?_
 rintro e w1 ⟨rfl,hb1⟩
 have B1:Hid (Below w.heap.size w w1):=Below.trans (by repeat (first | refine Below.setCell ?_ (by dsimp only;omega) _ | refine Below.alloc ?_ (by first | (simp;done) | (simp;omega) | omega) _ | exact Below.refl _ _)) (hb1.mono (by first | (simp;done) | (simp;omega) | omega))
 have K0:Hid (Blk w1 w.heap.size 27 #[.slice aA1 x.rules.length ac1,.slice aA2 x.memory.length ac2,.int .i64 x.clock,.slice aA3 x.fired.length ac3,.bool x.halted,.slice aA4 x.log.length ac4]):=Blk.later (Blk.alloc (Blk.new _ _ _) _) hb1
 have K1:Hid (Blk w1 (w.heap.size+1) 27 #[.slice bA1 x.rules.length bc1,.slice bA2 x.memory.length bc2,.int .i64 x.clock,.slice bA3 x.fired.length bc3,.bool x.halted,.slice bA4 x.log.length bc4]):=Blk.later (Blk.new_at (by simp)) hb1
 have f0:=K0.out.at (i:=0) rfl
 have r0:=K1.out.at (i:=0) rfl
 have f1:=K0.out.at (i:=1) rfl
 have r1:=K1.out.at (i:=1) rfl
 have f2:=K0.out.at (i:=2) rfl
 have r2:=K1.out.at (i:=2) rfl
 have f3:=K0.out.at (i:=3) rfl
 have r3:=K1.out.at (i:=3) rfl
 have f4:=K0.out.at (i:=4) rfl
 have r4:=K1.out.at (i:=4) rfl
 have f5:=K0.out.at (i:=5) rfl
 have r5:=K1.out.at (i:=5) rfl
 clear hb1
 have hz1:=B1.out.size
 go_wp2_with fail
 refine (ZPb aA2 bA2 _ ac2 bc2 x.memory aL2 bL2 _ rfl (by omega) (SA2.out.below (by repeat (first | refine Below.setCell ?_ (by dsimp only;omega) _ | refine Below.alloc ?_ (by first | (simp;done) | (simp;omega) | omega) _ | exact B1.out))) (SB2.out.below (by repeat (first | refine Below.setCell ?_ (by dsimp only;omega) _ | refine Below.alloc ?_ (by first | (simp;done) | (simp;omega) | omega) _ | exact B1.out)))).mono ?_
 rintro e w2 ⟨rfl,hb2⟩
 have B2:Hid (Below w.heap.size w w2):=Below.trans (by repeat (first | refine Below.setCell ?_ (by dsimp only;omega) _ | refine Below.alloc ?_ (by first | (simp;done) | (simp;omega) | omega) _ | exact B1.out)) (hb2.mono (by first | (simp;done) | (simp;omega) | omega))
 have K0:=Lib.hid (K0.out.later hb2)
 have K1:=Lib.hid (K1.out.later hb2)
 clear f0 r0 f1 r1 f2 r2 f3 r3 f4 r4 f5 r5
 have f0:=K0.out.at (i:=0) rfl
 have r0:=K1.out.at (i:=0) rfl
 have f1:=K0.out.at (i:=1) rfl
 have r1:=K1.out.at (i:=1) rfl
 have f2:=K0.out.at (i:=2) rfl
 have r2:=K1.out.at (i:=2) rfl
 have f3:=K0.out.at (i:=3) rfl
 have r3:=K1.out.at (i:=3) rfl
 have f4:=K0.out.at (i:=4) rfl
 have r4:=K1.out.at (i:=4) rfl
 have f5:=K0.out.at (i:=5) rfl
 have r5:=K1.out.at (i:=5) rfl
 clear hb2
 have hz2:=B2.out.size
 go_wp2_with fail
 refine (ZON aA3 bA3 _ ac3 bc3 x.fired aL3 bL3 _ rfl (by omega) (SA3.out.below (by repeat (first | refine Below.setCell ?_ (by dsimp only;omega) _ | refine Below.alloc ?_ (by first | (simp;done) | (simp;omega) | omega) _ | exact B2.out))) (SB3.out.below (by repeat (first | refine Below.setCell ?_ (by dsimp only;omega) _ | refine Below.alloc ?_ (by first | (simp;done) | (simp;omega) | omega) _ | exact B2.out)))).mono ?_
 rintro e w3 ⟨rfl,hb3⟩
 have B3:Hid (Below w.heap.size w w3):=Below.trans (by repeat (first | refine Below.setCell ?_ (by dsimp only;omega) _ | refine Below.alloc ?_ (by first | (simp;done) | (simp;omega) | omega) _ | exact B2.out)) (hb3.mono (by first | (simp;done) | (simp;omega) | omega))
 have K0:=Lib.hid (K0.out.later hb3)
 have K1:=Lib.hid (K1.out.later hb3)
 clear f0 r0 f1 r1 f2 r2 f3 r3 f4 r4 f5 r5
 have f0:=K0.out.at (i:=0) rfl
 have r0:=K1.out.at (i:=0) rfl
 have f1:=K0.out.at (i:=1) rfl
 have r1:=K1.out.at (i:=1) rfl
 have f2:=K0.out.at (i:=2) rfl
 have r2:=K1.out.at (i:=2) rfl
 have f3:=K0.out.at (i:=3) rfl
 have r3:=K1.out.at (i:=3) rfl
 have f4:=K0.out.at (i:=4) rfl
 have r4:=K1.out.at (i:=4) rfl
 have f5:=K0.out.at (i:=5) rfl
 have r5:=K1.out.at (i:=5) rfl
 clear hb3
 have hz3:=B3.out.size
 go_wp2_with fail
 refine (ZO7 aA4 bA4 _ ac4 bc4 x.log aL4 bL4 _ rfl (by omega) (SA4.out.below (by repeat (first | refine Below.setCell ?_ (by dsimp only;omega) _ | refine Below.alloc ?_ (by first | (simp;done) | (simp;omega) | omega) _ | exact B3.out))) (SB4.out.below (by repeat (first | refine Below.setCell ?_ (by dsimp only;omega) _ | refine Below.alloc ?_ (by first | (simp;done) | (simp;omega) | omega) _ | exact B3.out)))).mono ?_
 rintro e w4 ⟨rfl,hb4⟩
 have B4:Hid (Below w.heap.size w w4):=Below.trans (by repeat (first | refine Below.setCell ?_ (by dsimp only;omega) _ | refine Below.alloc ?_ (by first | (simp;done) | (simp;omega) | omega) _ | exact B3.out)) (hb4.mono (by first | (simp;done) | (simp;omega) | omega))
 have K0:=Lib.hid (K0.out.later hb4)
 have K1:=Lib.hid (K1.out.later hb4)
 clear f0 r0 f1 r1 f2 r2 f3 r3 f4 r4 f5 r5
 have f0:=K0.out.at (i:=0) rfl
 have r0:=K1.out.at (i:=0) rfl
 have f1:=K0.out.at (i:=1) rfl
 have r1:=K1.out.at (i:=1) rfl
 have f2:=K0.out.at (i:=2) rfl
 have r2:=K1.out.at (i:=2) rfl
 have f3:=K0.out.at (i:=3) rfl
 have r3:=K1.out.at (i:=3) rfl
 have f4:=K0.out.at (i:=4) rfl
 have r4:=K1.out.at (i:=4) rfl
 have f5:=K0.out.at (i:=5) rfl
 have r5:=K1.out.at (i:=5) rfl
 clear hb4
 have hz4:=B4.out.size
 go_wp2_with fail
 go_ret
 exact ⟨rfl,(by repeat (first | refine Below.setCell ?_ (by dsimp only;omega) _ | refine Below.alloc ?_ (by first | (simp;done) | (simp;omega) | omega) _ | exact B4.out))⟩
set_option maxHeartbeats 1600000 in
theorem ZOy (cs ds:List Value) (x:ZMq) (L M:List Nat) (w:World) (h1:ZNR.rep w cs x L) (h2:ZNR.rep w ds x M):
  Calls prog 6 #[.agg cs.toArray,.agg ds.toArray] w (ZLx w):=by
 obtain ⟨aA1,ac1,aL1,aA2,ac2,aL2,aA3,ac3,aL3,aA4,ac4,aL4,aA5,ac5,aL5,aA6,ac6,aL6,aA7,ac7,aL7,aA8,ac8,aL8,aA9,ac9,aL9,rfl,_ahL,an1,am1,as1,an2,am2,as2,an3,am3,as3,an4,am4,as4,an5,am5,as5,an6,am6,as6,an7,am7,as7,an8,am8,as8,an9,am9,as9⟩:=h1
 obtain ⟨bA1,bc1,bL1,bA2,bc2,bL2,bA3,bc3,bL3,bA4,bc4,bL4,bA5,bc5,bL5,bA6,bc6,bL6,bA7,bc7,bL7,bA8,bc8,bL8,bA9,bc9,bL9,rfl,_bhL,bn1,bm1,bs1,bn2,bm2,bs2,bn3,bm3,bs3,bn4,bm4,bs4,bn5,bm5,bs5,bn6,bm6,bs6,bn7,bm7,bs7,bn8,bm8,bs8,bn9,bm9,bs9⟩:=h2
 unfold maxLen at am1 bm1 am2 bm2 am3 bm3 am4 bm4 am5 bm5 am6 bm6 am7 bm7 am8 bm8 am9 bm9
 have SA1:=Lib.hid as1
 have SB1:=Lib.hid bs1
 clear as1 bs1
 have SA2:=Lib.hid as2
 have SB2:=Lib.hid bs2
 clear as2 bs2
 have SA3:=Lib.hid as3
 have SB3:=Lib.hid bs3
 clear as3 bs3
 have SA4:=Lib.hid as4
 have SB4:=Lib.hid bs4
 clear as4 bs4
 have SA5:=Lib.hid as5
 have SB5:=Lib.hid bs5
 clear as5 bs5
 have SA6:=Lib.hid as6
 have SB6:=Lib.hid bs6
 clear as6 bs6
 have SA7:=Lib.hid as7
 have SB7:=Lib.hid bs7
 clear as7 bs7
 have SA8:=Lib.hid as8
 have SB8:=Lib.hid bs8
 clear as8 bs8
 have SA9:=Lib.hid as9
 have SB9:=Lib.hid bs9
 clear as9 bs9
 go_enter func6,ntmps6
 go_wp2_with fail
 refine (ZO6 [.slice aA1 x.engine.rules.length ac1,.slice aA2 x.engine.memory.length ac2,.int .i64 x.engine.clock,.slice aA3 x.engine.fired.length ac3,.bool x.engine.halted,.slice aA4 x.engine.log.length ac4] [.slice bA1 x.engine.rules.length bc1,.slice bA2 x.engine.memory.length bc2,.int .i64 x.engine.clock,.slice bA3 x.engine.fired.length bc3,.bool x.engine.halted,.slice bA4 x.engine.log.length bc4] x.engine _ _ _ ⟨aA1,ac1,aL1,aA2,ac2,aL2,aA3,ac3,aL3,aA4,ac4,aL4,rfl,rfl,an1,(by unfold maxLen;omega),SA1.out.below (by repeat (first | refine Below.setCell ?_ (by dsimp only;omega) _ | refine Below.alloc ?_ (by first | (simp;done) | (simp;omega) | omega) _ | exact Below.refl _ _)),an2,(by unfold maxLen;omega),SA2.out.below (by repeat (first | refine Below.setCell ?_ (by dsimp only;omega) _ | refine Below.alloc ?_ (by first | (simp;done) | (simp;omega) | omega) _ | exact Below.refl _ _)),an3,(by unfold maxLen;omega),SA3.out.below (by repeat (first | refine Below.setCell ?_ (by dsimp only;omega) _ | refine Below.alloc ?_ (by first | (simp;done) | (simp;omega) | omega) _ | exact Below.refl _ _)),an4,(by unfold maxLen;omega),SA4.out.below (by repeat (first | refine Below.setCell ?_ (by dsimp only;omega) _ | refine Below.alloc ?_ (by first | (simp;done) | (simp;omega) | omega) _ | exact Below.refl _ _))⟩ ⟨bA1,bc1,bL1,bA2,bc2,bL2,bA3,bc3,bL3,bA4,bc4,bL4,rfl,rfl,bn1,(by unfold maxLen;omega),SB1.out.below (by repeat (first | refine Below.setCell ?_ (by dsimp only;omega) _ | refine Below.alloc ?_ (by first | (simp;done) | (simp;omega) | omega) _ | exact Below.refl _ _)),bn2,(by unfold maxLen;omega),SB2.out.below (by repeat (first | refine Below.setCell ?_ (by dsimp only;omega) _ | refine Below.alloc ?_ (by first | (simp;done) | (simp;omega) | omega) _ | exact Below.refl _ _)),bn3,(by unfold maxLen;omega),SB3.out.below (by repeat (first | refine Below.setCell ?_ (by dsimp only;omega) _ | refine Below.alloc ?_ (by first | (simp;done) | (simp;omega) | omega) _ | exact Below.refl _ _)),bn4,(by unfold maxLen;omega),SB4.out.below (by repeat (first | refine Below.setCell ?_ (by dsimp only;omega) _ | refine Below.alloc ?_ (by first | (simp;done) | (simp;omega) | omega) _ | exact Below.refl _ _))⟩).mono ?_
 rintro e w1 ⟨rfl,hb1⟩
 have B1:Hid (Below w.heap.size w w1):=Below.trans (by repeat (first | refine Below.setCell ?_ (by dsimp only;omega) _ | refine Below.alloc ?_ (by first | (simp;done) | (simp;omega) | omega) _ | exact Below.refl _ _)) (hb1.mono (by first | (simp;done) | (simp;omega) | omega))
 have K0:Hid (Blk w1 w.heap.size 35 #[.slice aA1 x.engine.rules.length ac1,.slice aA2 x.engine.memory.length ac2,.int .i64 x.engine.clock,.slice aA3 x.engine.fired.length ac3,.bool x.engine.halted,.slice aA4 x.engine.log.length ac4,.slice aA5 x.network.rules.length ac5,.slice aA6 x.network.ends.length ac6,.slice aA7 x.network.alphas.length ac7,.slice aA8 x.network.nodes.length ac8,.slice aA9 x.network.facts.length ac9,.int .i64 x.network.tries]):=Blk.later (Blk.alloc (Blk.new _ _ _) _) hb1
 have K1:Hid (Blk w1 (w.heap.size+1) 35 #[.slice bA1 x.engine.rules.length bc1,.slice bA2 x.engine.memory.length bc2,.int .i64 x.engine.clock,.slice bA3 x.engine.fired.length bc3,.bool x.engine.halted,.slice bA4 x.engine.log.length bc4,.slice bA5 x.network.rules.length bc5,.slice bA6 x.network.ends.length bc6,.slice bA7 x.network.alphas.length bc7,.slice bA8 x.network.nodes.length bc8,.slice bA9 x.network.facts.length bc9,.int .i64 x.network.tries]):=Blk.later (Blk.new_at (by simp)) hb1
 have f0:=K0.out.at (i:=0) rfl
 have r0:=K1.out.at (i:=0) rfl
 have f1:=K0.out.at (i:=1) rfl
 have r1:=K1.out.at (i:=1) rfl
 have f2:=K0.out.at (i:=2) rfl
 have r2:=K1.out.at (i:=2) rfl
 have f3:=K0.out.at (i:=3) rfl
 have r3:=K1.out.at (i:=3) rfl
 have f4:=K0.out.at (i:=4) rfl
 have r4:=K1.out.at (i:=4) rfl
 have f5:=K0.out.at (i:=5) rfl
 have r5:=K1.out.at (i:=5) rfl
 have f6:=K0.out.at (i:=6) rfl
 have r6:=K1.out.at (i:=6) rfl
 have f7:=K0.out.at (i:=7) rfl
 have r7:=K1.out.at (i:=7) rfl
 have f8:=K0.out.at (i:=8) rfl
 have r8:=K1.out.at (i:=8) rfl
 have f9:=K0.out.at (i:=9) rfl
 have r9:=K1.out.at (i:=9) rfl
 have f10:=K0.out.at (i:=10) rfl
 have r10:=K1.out.at (i:=10) rfl
 have f11:=K0.out.at (i:=11) rfl
 have r11:=K1.out.at (i:=11) rfl
 clear hb1
 have hz1:=B1.out.size
 go_wp2_with fail
 refine (ZOX [.slice aA5 x.network.rules.length ac5,.slice aA6 x.network.ends.length ac6,.slice aA7 x.network.alphas.length ac7,.slice aA8 x.network.nodes.length ac8,.slice aA9 x.network.facts.length ac9,.int .i64 x.network.tries] [.slice bA5 x.network.rules.length bc5,.slice bA6 x.network.ends.length bc6,.slice bA7 x.network.alphas.length bc7,.slice bA8 x.network.nodes.length bc8,.slice bA9 x.network.facts.length bc9,.int .i64 x.network.tries] x.network _ _ _ ⟨aA5,ac5,aL5,aA6,ac6,aL6,aA7,ac7,aL7,aA8,ac8,aL8,aA9,ac9,aL9,rfl,rfl,an5,(by unfold maxLen;omega),SA5.out.below (by repeat (first | refine Below.setCell ?_ (by dsimp only;omega) _ | refine Below.alloc ?_ (by first | (simp;done) | (simp;omega) | omega) _ | exact B1.out)),an6,(by unfold maxLen;omega),SA6.out.below (by repeat (first | refine Below.setCell ?_ (by dsimp only;omega) _ | refine Below.alloc ?_ (by first | (simp;done) | (simp;omega) | omega) _ | exact B1.out)),an7,(by unfold maxLen;omega),SA7.out.below (by repeat (first | refine Below.setCell ?_ (by dsimp only;omega) _ | refine Below.alloc ?_ (by first | (simp;done) | (simp;omega) | omega) _ | exact B1.out)),an8,(by unfold maxLen;omega),SA8.out.below (by repeat (first | refine Below.setCell ?_ (by dsimp only;omega) _ | refine Below.alloc ?_ (by first | (simp;done) | (simp;omega) | omega) _ | exact B1.out)),an9,(by unfold maxLen;omega),SA9.out.below (by repeat (first | refine Below.setCell ?_ (by dsimp only;omega) _ | refine Below.alloc ?_ (by first | (simp;done) | (simp;omega) | omega) _ | exact B1.out))⟩ ⟨bA5,bc5,bL5,bA6,bc6,bL6,bA7,bc7,bL7,bA8,bc8,bL8,bA9,bc9,bL9,rfl,rfl,bn5,(by unfold maxLen;omega),SB5.out.below (by repeat (first | refine Below.setCell ?_ (by dsimp only;omega) _ | refine Below.alloc ?_ (by first | (simp;done) | (simp;omega) | omega) _ | exact B1.out)),bn6,(by unfold maxLen;omega),SB6.out.below (by repeat (first | refine Below.setCell ?_ (by dsimp only;omega) _ | refine Below.alloc ?_ (by first | (simp;done) | (simp;omega) | omega) _ | exact B1.out)),bn7,(by unfold maxLen;omega),SB7.out.below (by repeat (first | refine Below.setCell ?_ (by dsimp only;omega) _ | refine Below.alloc ?_ (by first | (simp;done) | (simp;omega) | omega) _ | exact B1.out)),bn8,(by unfold maxLen;omega),SB8.out.below (by repeat (first | refine Below.setCell ?_ (by dsimp only;omega) _ | refine Below.alloc ?_ (by first | (simp;done) | (simp;omega) | omega) _ | exact B1.out)),bn9,(by unfold maxLen;omega),SB9.out.below (by repeat (first | refine Below.setCell ?_ (by dsimp only;omega) _ | refine Below.alloc ?_ (by first | (simp;done) | (simp;omega) | omega) _ | exact B1.out))⟩).mono ?_
 rintro e w2 ⟨rfl,hb2⟩
 have B2:Hid (Below w.heap.size w w2):=Below.trans (by repeat (first | refine Below.setCell ?_ (by dsimp only;omega) _ | refine Below.alloc ?_ (by first | (simp;done) | (simp;omega) | omega) _ | exact B1.out)) (hb2.mono (by first | (simp;done) | (simp;omega) | omega))
 have K0:=Lib.hid (K0.out.later hb2)
 have K1:=Lib.hid (K1.out.later hb2)
 clear f0 r0 f1 r1 f2 r2 f3 r3 f4 r4 f5 r5 f6 r6 f7 r7 f8 r8 f9 r9 f10 r10 f11 r11
 have f0:=K0.out.at (i:=0) rfl
 have r0:=K1.out.at (i:=0) rfl
 have f1:=K0.out.at (i:=1) rfl
 have r1:=K1.out.at (i:=1) rfl
 have f2:=K0.out.at (i:=2) rfl
 have r2:=K1.out.at (i:=2) rfl
 have f3:=K0.out.at (i:=3) rfl
 have r3:=K1.out.at (i:=3) rfl
 have f4:=K0.out.at (i:=4) rfl
 have r4:=K1.out.at (i:=4) rfl
 have f5:=K0.out.at (i:=5) rfl
 have r5:=K1.out.at (i:=5) rfl
 have f6:=K0.out.at (i:=6) rfl
 have r6:=K1.out.at (i:=6) rfl
 have f7:=K0.out.at (i:=7) rfl
 have r7:=K1.out.at (i:=7) rfl
 have f8:=K0.out.at (i:=8) rfl
 have r8:=K1.out.at (i:=8) rfl
 have f9:=K0.out.at (i:=9) rfl
 have r9:=K1.out.at (i:=9) rfl
 have f10:=K0.out.at (i:=10) rfl
 have r10:=K1.out.at (i:=10) rfl
 have f11:=K0.out.at (i:=11) rfl
 have r11:=K1.out.at (i:=11) rfl
 clear hb2
 have hz2:=B2.out.size
 go_wp2_with fail
 go_ret
 exact ⟨rfl,(by repeat (first | refine Below.setCell ?_ (by dsimp only;omega) _ | refine Below.alloc ?_ (by first | (simp;done) | (simp;omega) | omega) _ | exact B2.out))⟩
end
section
open Go.RowKit
def ZN9:Nat→Nat→List UInt8→List UInt8
 | 0,_,acc=>acc
 | f+1,k,acc=>if k=0 then acc else ZN9 f (k / 10) ((48+AL (k % 10))::acc)
def ZPD (k:Nat):ByteArray:=⟨(109::ZN9 (k+1) k []).toArray⟩
theorem ZN6 (W:World) (z:Int):(convert 145 9 (.slice (some ⟨W.heap.size,0,none⟩) 1 1)).run prog (W.alloc (.cells #[.int .u8 z] 5))=.ok (.string ⟨#[AL z.toNat]⟩) (W.alloc (.cells #[.int .u8 z] 5)):=by
 rw [run_convert_bytes_string _ _ _ _ _ _ _ underlying145 underlying5 underlying9,run_bytesToString _ _ _ _ [z] (by simp [loadCells,go_sem])]
 rfl
set_option maxHeartbeats 800000 in
set_option maxRecDepth 100000 in
theorem ZPa (k:Nat) (w:World) (h0:1≤k) (h1:k≤4611686018427387904):
  Calls prog 71 #[.int .i64 k] w fun e w'=>e=.returned (.string (ZPD k))∧Below w.heap.size w w':=by
 have hle:¬((k:Int)≤0):=by omega
 have kc:=ZN6
 go_enter func71,ntmps71
 go_wp2
 go_loopw [0,3] (fun i s wr=>∃(f q:Nat) (acc:List UInt8),i=.int .i64 q∧s=.string ⟨acc.toArray⟩∧q≤k∧q<f∧acc.length+q≤k∧Hid (ZN9 f q acc=ZN9 (k+1) k [])∧Hid (Below w.heap.size w wr)) (fun i _ _=>(intOf i).toNat)
 case atStart=>exact ⟨k+1,k,[],rfl,rfl,A0 _,by omega,by simp,Lib.hid rfl,Below.refl _ _⟩
 case round=>
  obtain ⟨f,q,acc,rfl,rfl,hqk,hqf,hal,HE,HB⟩:=hrel
  by_cases hq:0<q
  ·have hq':(0:Int)<q:=by omega
   have HEn:Hid (ZN9 (f - 1) (q / 10) ((48+AL (q % 10))::acc)=ZN9 (k+1) k []):=by
    rw [Hid,←HE.out]
    obtain ⟨f,rfl⟩:∃g,f=g+1:=⟨f - 1,by omega⟩
    rw [ZN9,if_neg (by omega)];rfl
   go_wp2
   go_roundw
   case rel=>exact ⟨f - 1,q / 10,_,by go_num,congrArg Value.string (by rw [Aa];simp),by omega,by omega,by simp only[AC];omega,HEn,HB.out.alloc HB.out.size _⟩
   case measure=>simp [intOf];omega
  ·obtain rfl:q=0:=by omega
   have e:Hid (ZN9 (k+1) k []=acc):=by
    rw [Hid,←HE.out]
    obtain ⟨f,rfl⟩:∃g,f=g+1:=⟨f - 1,by omega⟩
    simp [ZN9]
   have hq':¬(0:Int)<(0:Nat):=by omega
   go_wp2
   go_ret
   exact ⟨congrArg (fun s=>Ending.returned (.string s)) (by rw [ZPD,e.out,Aa];simp),HB.out⟩
theorem ZPo:∀(f k:Nat) (acc:List UInt8),(ZN9 f k acc).length≤acc.length+f
 | 0,_,acc=>by simp [ZN9]
 | f+1,k,acc=>by
  rw [ZN9]
  split
  ·omega
  ·have:=ZPo f (k / 10) ((48+AL (k % 10))::acc)
   simp at this;omega
theorem ZPN (k:Nat) (h:k≤4611686018427387904):(ZPD k).size≤9223372036854775807:=by
 have:=ZPo (k+1) k []
 simp [ZPD,AR] at this ⊢
 omega
end
section
open Go.RowKit
def mTx (k:Int):ByteArray:=ZPD k.toNat
theorem ZLf (k:Int) (w:World) (h0:1≤k) (h1:k≤4611686018427387904):
  Calls prog 71 #[.int .i64 k] w fun e w'=>e=.returned (.string (mTx k))∧Below w.heap.size w w':=by
 obtain ⟨n,rfl⟩:=Int.eq_ofNat_of_zero_le (show 0≤k by omega)
 exact ZPa n w (by omega) (by omega)
theorem ZLW (k:Int) (h:k≤4611686018427387904):(mTx k).size≤9223372036854775807:=ZPN _ (by omega)
def ZLp:Int→List ByteArray→List ByteArray
 | _,[]=>[]
 | k,_::r=>mTx k::ZLp (k+1) r
def ZLY:Int→List Int→List Int
 | _,[]=>[]
 | k,_::r=>k::ZLY (k+1) r
def Qs (k:Int) (l:List ByteArray):Int:=k+l.length
def ZLg (k:Int) (l:List Int):Int:=k+l.length
theorem ZLt (k:Int) (l:List ByteArray):(ZLp k l).length=l.length:=by induction l generalizing k with | nil=>rfl | cons x r ih=>simp [ZLp,ih]
theorem ZMu (k:Int) (l:List Int):(ZLY k l).length=l.length:=by induction l generalizing k with | nil=>rfl | cons x r ih=>simp [ZLY,ih]
theorem ZLj (k:Int) (l:List ByteArray):k≤Qs k l:=by unfold Qs;omega
theorem ZMp (k:Int) (l:List Int):k≤ZLg k l:=by unfold ZLg;omega
theorem ZL3 (k:Int) (l:List ByteArray):Qs k l≤k+16 * Zkn l:=by unfold Qs Zkn;omega
theorem ZN1 (k:Int) (l:List Int):ZLg k l≤k+16 * l.length:=by unfold ZLg;omega
def ZM8 (k:Int) (x:Za):Za:=⟨mTx (k),ZLp (k+1) x.args⟩
def ZLL (k:Int) (x:Za):Int:=Qs (k+1) x.args
def ZLK:Int→List Za→List Za
 | _,[]=>[]
 | k,x::r=>ZM8 k x::ZLK (ZLL k x) r
def ZLl:Int→List Za→Int
 | k,[]=>k
 | k,x::r=>ZLl (ZLL k x) r
theorem ZMd (k:Int) (l:List Za):(ZLK k l).length=l.length:=by induction l generalizing k with | nil=>rfl | cons x r ih=>simp [ZLK,ih]
theorem ZM7 (k:Int) (x:Za):k≤ZLL k x:=by
 unfold ZLL
 have:=ZLj (k+1) x.args
 omega
theorem ZLT (k:Int) (l:List Za):k≤ZLl k l:=by
 induction l generalizing k with
 | nil=>exact AD _
 | cons x r ih=>exact AE (ZM7 k x) (ih _)
theorem ZPs (k:Int) (x:Za):ZLL k x≤k+1+16 * ZaK x:=by
 unfold ZLL
 have:=ZL3 (k+1) x.args
 simp only[ZaK]
 omega
theorem ZMV (k:Int) (l:List Za):ZLl k l≤k+16 * ZcO l:=by
 induction l generalizing k with
 | nil=>simp [ZLl,ZcO]
 | cons x r ih=>
  have h1:=ZPs k x
  have h2:=ih (ZLL k x)
  simp only[ZLl,ZcO,AC,AF,AG] at h2 ⊢
  omega
def ZNx (k:Int) (x:Zx):Zx:=⟨mTx (k),mTx (k+1)⟩
def ZLN (k:Int) (x:Zx):Int:=k+1+1
def ZL1:Int→List Zx→List Zx
 | _,[]=>[]
 | k,x::r=>ZNx k x::ZL1 (ZLN k x) r
def ZLE:Int→List Zx→Int
 | k,[]=>k
 | k,x::r=>ZLE (ZLN k x) r
theorem ZM9 (k:Int) (l:List Zx):(ZL1 k l).length=l.length:=by induction l generalizing k with | nil=>rfl | cons x r ih=>simp [ZL1,ih]
theorem ZNd (k:Int) (x:Zx):k≤ZLN k x:=by
 unfold ZLN
 omega
theorem ZMr (k:Int) (l:List Zx):k≤ZLE k l:=by
 induction l generalizing k with
 | nil=>exact AD _
 | cons x r ih=>exact AE (ZNd k x) (ih _)
theorem ZPn (k:Int) (x:Zx):ZLN k x≤k+2+16 * ZOl x:=by
 unfold ZLN
 simp only[ZOl]
 omega
theorem ZO1 (k:Int) (l:List Zx):ZLE k l≤k+16 * ZNp l:=by
 induction l generalizing k with
 | nil=>simp [ZLE,ZNp]
 | cons x r ih=>
  have h1:=ZPn k x
  have h2:=ih (ZLN k x)
  simp only[ZLE,ZNp,AC,AF,AG] at h2 ⊢
  omega
def ZNh (k:Int) (x:Zu):Zu:=⟨(k),⟨mTx (k+1),ZLp (k+1+1) x.pattern.args⟩,mTx (Qs (k+1+1) x.pattern.args),mTx (Qs (k+1+1) x.pattern.args+1)⟩
def ZLO (k:Int) (x:Zu):Int:=Qs (k+1+1) x.pattern.args+1+1
def ZL0:Int→List Zu→List Zu
 | _,[]=>[]
 | k,x::r=>ZNh k x::ZL0 (ZLO k x) r
def ZLo:Int→List Zu→Int
 | k,[]=>k
 | k,x::r=>ZLo (ZLO k x) r
theorem ZNm (k:Int) (l:List Zu):(ZL0 k l).length=l.length:=by induction l generalizing k with | nil=>rfl | cons x r ih=>simp [ZL0,ih]
theorem ZNf (k:Int) (x:Zu):k≤ZLO k x:=by
 unfold ZLO
 have:=ZLj (k+1+1) x.pattern.args
 omega
theorem ZMt (k:Int) (l:List Zu):k≤ZLo k l:=by
 induction l generalizing k with
 | nil=>exact AD _
 | cons x r ih=>exact AE (ZNf k x) (ih _)
theorem ZPG (k:Int) (x:Zu):ZLO k x≤k+4+16 * ZNg x:=by
 unfold ZLO
 have:=ZL3 (k+1+1) x.pattern.args
 simp only[ZNg,ZMh]
 omega
theorem ZO2 (k:Int) (l:List Zu):ZLo k l≤k+16 * ZNq l:=by
 induction l generalizing k with
 | nil=>simp [ZLo,ZNq]
 | cons x r ih=>
  have h1:=ZPG k x
  have h2:=ih (ZLO k x)
  simp only[ZLo,ZNq,AC,AF,AG] at h2 ⊢
  omega
def ZMy (k:Int) (x:Zy):Zy:=⟨(k),⟨mTx (k+1),ZLp (k+1+1) x.pattern.args⟩⟩
def ZLu (k:Int) (x:Zy):Int:=Qs (k+1+1) x.pattern.args
def ZLJ:Int→List Zy→List Zy
 | _,[]=>[]
 | k,x::r=>ZMy k x::ZLJ (ZLu k x) r
def ZLn:Int→List Zy→Int
 | k,[]=>k
 | k,x::r=>ZLn (ZLu k x) r
theorem ZMM (k:Int) (l:List Zy):(ZLJ k l).length=l.length:=by induction l generalizing k with | nil=>rfl | cons x r ih=>simp [ZLJ,ih]
theorem ZMP (k:Int) (x:Zy):k≤ZLu k x:=by
 unfold ZLu
 have:=ZLj (k+1+1) x.pattern.args
 omega
theorem ZMf (k:Int) (l:List Zy):k≤ZLn k l:=by
 induction l generalizing k with
 | nil=>exact AD _
 | cons x r ih=>exact AE (ZMP k x) (ih _)
theorem ZOG (k:Int) (x:Zy):ZLu k x≤k+2+16 * ZNF x:=by
 unfold ZLu
 have:=ZL3 (k+1+1) x.pattern.args
 simp only[ZNF,ZMh]
 omega
theorem ZOs (k:Int) (l:List Zy):ZLn k l≤k+16 * ZMK l:=by
 induction l generalizing k with
 | nil=>simp [ZLn,ZMK]
 | cons x r ih=>
  have h1:=ZOG k x
  have h2:=ih (ZLu k x)
  simp only[ZLn,ZMK,AC,AF,AG] at h2 ⊢
  omega
def ZM5 (k:Int) (x:Zf):Zf:=⟨mTx (k),(k+1),ZL0 (k+1+1) x.cond,ZLJ (ZLo (k+1+1) x.cond) x.thn⟩
def ZLP (k:Int) (x:Zf):Int:=ZLn (ZLo (k+1+1) x.cond) x.thn
def ZLy:Int→List Zf→List Zf
 | _,[]=>[]
 | k,x::r=>ZM5 k x::ZLy (ZLP k x) r
def ZLc:Int→List Zf→Int
 | k,[]=>k
 | k,x::r=>ZLc (ZLP k x) r
theorem ZMw (k:Int) (l:List Zf):(ZLy k l).length=l.length:=by induction l generalizing k with | nil=>rfl | cons x r ih=>simp [ZLy,ih]
theorem ZNe (k:Int) (x:Zf):k≤ZLP k x:=by
 unfold ZLP
 have:=ZMt (k+1+1) x.cond
 have:=ZMf (ZLo (k+1+1) x.cond) x.thn
 omega
theorem ZMa (k:Int) (l:List Zf):k≤ZLc k l:=by
 induction l generalizing k with
 | nil=>exact AD _
 | cons x r ih=>exact AE (ZNe k x) (ih _)
theorem ZPk (k:Int) (x:Zf):ZLP k x≤k+2+16 * ZOz x:=by
 unfold ZLP
 have:=ZO2 (k+1+1) x.cond
 have:=ZOs (ZLo (k+1+1) x.cond) x.thn
 simp only[ZOz]
 omega
theorem ZNN (k:Int) (l:List Zf):ZLc k l≤k+16 * ZMT l:=by
 induction l generalizing k with
 | nil=>simp [ZLc,ZMT]
 | cons x r ih=>
  have h1:=ZPk k x
  have h2:=ih (ZLP k x)
  simp only[ZLc,ZMT,AC,AF,AG] at h2 ⊢
  omega
def ZMD (k:Int) (x:Zw):Zw:=⟨ZLK (k) x.facts,ZL1 (ZLl (k) x.facts) x.binding⟩
def ZLA (k:Int) (x:Zw):Int:=ZLE (ZLl (k) x.facts) x.binding
def ZLU:Int→List Zw→List Zw
 | _,[]=>[]
 | k,x::r=>ZMD k x::ZLU (ZLA k x) r
def ZLr:Int→List Zw→Int
 | k,[]=>k
 | k,x::r=>ZLr (ZLA k x) r
theorem ZMW (k:Int) (l:List Zw):(ZLU k l).length=l.length:=by induction l generalizing k with | nil=>rfl | cons x r ih=>simp [ZLU,ih]
theorem ZM1 (k:Int) (x:Zw):k≤ZLA k x:=by
 unfold ZLA
 have:=ZLT (k) x.facts
 have:=ZMr (ZLl (k) x.facts) x.binding
 omega
theorem ZMo (k:Int) (l:List Zw):k≤ZLr k l:=by
 induction l generalizing k with
 | nil=>exact AD _
 | cons x r ih=>exact AE (ZM1 k x) (ih _)
theorem ZPf (k:Int) (x:Zw):ZLA k x≤k+0+16 * ZNS x:=by
 unfold ZLA
 have:=ZMV (k) x.facts
 have:=ZO1 (ZLl (k) x.facts) x.binding
 simp only[ZNS]
 omega
theorem ZOP (k:Int) (l:List Zw):ZLr k l≤k+16 * ZMU l:=by
 induction l generalizing k with
 | nil=>simp [ZLr,ZMU]
 | cons x r ih=>
  have h1:=ZPf k x
  have h2:=ih (ZLA k x)
  simp only[ZLr,ZMU,AC,AF,AG] at h2 ⊢
  omega
def ZMF (k:Int) (x:ZL4):ZL4:=⟨⟨mTx (k),ZLp (k+1) x.shape.args⟩,ZLK (Qs (k+1) x.shape.args) x.facts⟩
def ZLz (k:Int) (x:ZL4):Int:=ZLl (Qs (k+1) x.shape.args) x.facts
def ZLI:Int→List ZL4→List ZL4
 | _,[]=>[]
 | k,x::r=>ZMF k x::ZLI (ZLz k x) r
def ZLe:Int→List ZL4→Int
 | k,[]=>k
 | k,x::r=>ZLe (ZLz k x) r
theorem ZME (k:Int) (l:List ZL4):(ZLI k l).length=l.length:=by induction l generalizing k with | nil=>rfl | cons x r ih=>simp [ZLI,ih]
theorem ZM0 (k:Int) (x:ZL4):k≤ZLz k x:=by
 unfold ZLz
 have:=ZLj (k+1) x.shape.args
 have:=ZLT (Qs (k+1) x.shape.args) x.facts
 omega
theorem ZMm (k:Int) (l:List ZL4):k≤ZLe k l:=by
 induction l generalizing k with
 | nil=>exact AD _
 | cons x r ih=>exact AE (ZM0 k x) (ih _)
theorem ZO5 (k:Int) (x:ZL4):ZLz k x≤k+1+16 * ZNV x:=by
 unfold ZLz
 have:=ZL3 (k+1) x.shape.args
 have:=ZMV (Qs (k+1) x.shape.args) x.facts
 simp only[ZNV,ZMh]
 omega
theorem ZOH (k:Int) (l:List ZL4):ZLe k l≤k+16 * ZMY l:=by
 induction l generalizing k with
 | nil=>simp [ZLe,ZMY]
 | cons x r ih=>
  have h1:=ZO5 k x
  have h2:=ih (ZLz k x)
  simp only[ZLe,ZMY,AC,AF,AG] at h2 ⊢
  omega
def ZMZ (k:Int) (x:ZMe):ZMe:=⟨(k),⟨(k+1),⟨mTx (k+1+1),ZLp (k+1+1+1) x.cond.pattern.args⟩,mTx (Qs (k+1+1+1) x.cond.pattern.args),mTx (Qs (k+1+1+1) x.cond.pattern.args+1)⟩,(Qs (k+1+1+1) x.cond.pattern.args+1+1),ZLU (Qs (k+1+1+1) x.cond.pattern.args+1+1+1) x.tokens⟩
def ZLM (k:Int) (x:ZMe):Int:=ZLr (Qs (k+1+1+1) x.cond.pattern.args+1+1+1) x.tokens
def ZLR:Int→List ZMe→List ZMe
 | _,[]=>[]
 | k,x::r=>ZMZ k x::ZLR (ZLM k x) r
def ZLk:Int→List ZMe→Int
 | k,[]=>k
 | k,x::r=>ZLk (ZLM k x) r
theorem ZMH (k:Int) (l:List ZMe):(ZLR k l).length=l.length:=by induction l generalizing k with | nil=>rfl | cons x r ih=>simp [ZLR,ih]
theorem ZNi (k:Int) (x:ZMe):k≤ZLM k x:=by
 unfold ZLM
 have:=ZLj (k+1+1+1) x.cond.pattern.args
 have:=ZMo (Qs (k+1+1+1) x.cond.pattern.args+1+1+1) x.tokens
 omega
theorem ZMs (k:Int) (l:List ZMe):k≤ZLk k l:=by
 induction l generalizing k with
 | nil=>exact AD _
 | cons x r ih=>exact AE (ZNi k x) (ih _)
theorem ZPz (k:Int) (x:ZMe):ZLM k x≤k+6+16 * ZOE x:=by
 unfold ZLM
 have:=ZL3 (k+1+1+1) x.cond.pattern.args
 have:=ZOP (Qs (k+1+1+1) x.cond.pattern.args+1+1+1) x.tokens
 simp only[ZOE,ZNg,ZMh]
 omega
theorem ZPc (k:Int) (l:List ZMe):ZLk k l≤k+16 * ZNo l:=by
 induction l generalizing k with
 | nil=>simp [ZLk,ZNo]
 | cons x r ih=>
  have h1:=ZPz k x
  have h2:=ih (ZLM k x)
  simp only[ZLk,ZNo,AC,AF,AG] at h2 ⊢
  omega
def ZML (k:Int) (x:ZL5):ZL5:=⟨⟨mTx (k),ZLp (k+1) x.fact.args⟩,(Qs (k+1) x.fact.args)⟩
def ZLB (k:Int) (x:ZL5):Int:=Qs (k+1) x.fact.args+1
def ZLH:Int→List ZL5→List ZL5
 | _,[]=>[]
 | k,x::r=>ZML k x::ZLH (ZLB k x) r
def ZLd:Int→List ZL5→Int
 | k,[]=>k
 | k,x::r=>ZLd (ZLB k x) r
theorem ZMB (k:Int) (l:List ZL5):(ZLH k l).length=l.length:=by induction l generalizing k with | nil=>rfl | cons x r ih=>simp [ZLH,ih]
theorem ZM3 (k:Int) (x:ZL5):k≤ZLB k x:=by
 unfold ZLB
 have:=ZLj (k+1) x.fact.args
 omega
theorem ZMl (k:Int) (l:List ZL5):k≤ZLd k l:=by
 induction l generalizing k with
 | nil=>exact AD _
 | cons x r ih=>exact AE (ZM3 k x) (ih _)
theorem ZPj (k:Int) (x:ZL5):ZLB k x≤k+2+16 * ZNU x:=by
 unfold ZLB
 have:=ZL3 (k+1) x.fact.args
 simp only[ZNU,ZaK]
 omega
theorem ZOT (k:Int) (l:List ZL5):ZLd k l≤k+16 * ZMX l:=by
 induction l generalizing k with
 | nil=>simp [ZLd,ZMX]
 | cons x r ih=>
  have h1:=ZPj k x
  have h2:=ih (ZLB k x)
  simp only[ZLd,ZMX,AC,AF,AG] at h2 ⊢
  omega
def ZMx (k:Int) (x:ZLS):ZLS:=⟨mTx (k),ZLY (k+1) x.times⟩
def ZLs (k:Int) (x:ZLS):Int:=ZLg (k+1) x.times
def ZLw:Int→List ZLS→List ZLS
 | _,[]=>[]
 | k,x::r=>ZMx k x::ZLw (ZLs k x) r
def ZLi:Int→List ZLS→Int
 | k,[]=>k
 | k,x::r=>ZLi (ZLs k x) r
theorem ZMv (k:Int) (l:List ZLS):(ZLw k l).length=l.length:=by induction l generalizing k with | nil=>rfl | cons x r ih=>simp [ZLw,ih]
theorem ZMS (k:Int) (x:ZLS):k≤ZLs k x:=by
 unfold ZLs
 have:=ZMp (k+1) x.times
 omega
theorem ZMi (k:Int) (l:List ZLS):k≤ZLi k l:=by
 induction l generalizing k with
 | nil=>exact AD _
 | cons x r ih=>exact AE (ZMS k x) (ih _)
theorem ZOS (k:Int) (x:ZLS):ZLs k x≤k+1+16 * ZND x:=by
 unfold ZLs
 have:=ZN1 (k+1) x.times
 simp only[ZND]
 omega
theorem ZOn (k:Int) (l:List ZLS):ZLi k l≤k+16 * ZMI l:=by
 induction l generalizing k with
 | nil=>simp [ZLi,ZMI]
 | cons x r ih=>
  have h1:=ZOS k x
  have h2:=ih (ZLs k x)
  simp only[ZLi,ZMI,AC,AF,AG] at h2 ⊢
  omega
def ZMJ (k:Int) (x:ZL6):ZL6:=⟨(k),mTx (k+1),⟨mTx (k+1+1),ZLp (k+1+1+1) x.fact.args⟩⟩
def ZLF (k:Int) (x:ZL6):Int:=Qs (k+1+1+1) x.fact.args
def ZLG:Int→List ZL6→List ZL6
 | _,[]=>[]
 | k,x::r=>ZMJ k x::ZLG (ZLF k x) r
def ZLv:Int→List ZL6→Int
 | k,[]=>k
 | k,x::r=>ZLv (ZLF k x) r
theorem ZMC (k:Int) (l:List ZL6):(ZLG k l).length=l.length:=by induction l generalizing k with | nil=>rfl | cons x r ih=>simp [ZLG,ih]
theorem ZM2 (k:Int) (x:ZL6):k≤ZLF k x:=by
 unfold ZLF
 have:=ZLj (k+1+1+1) x.fact.args
 omega
theorem ZMn (k:Int) (l:List ZL6):k≤ZLv k l:=by
 induction l generalizing k with
 | nil=>exact AD _
 | cons x r ih=>exact AE (ZM2 k x) (ih _)
theorem ZO4 (k:Int) (x:ZL6):ZLF k x≤k+3+16 * ZNT x:=by
 unfold ZLF
 have:=ZL3 (k+1+1+1) x.fact.args
 simp only[ZNT,ZaK]
 omega
theorem ZOJ (k:Int) (l:List ZL6):ZLv k l≤k+16 * ZM4 l:=by
 induction l generalizing k with
 | nil=>simp [ZLv,ZM4]
 | cons x r ih=>
  have h1:=ZO4 k x
  have h2:=ih (ZLF k x)
  simp only[ZLv,ZM4,AC,AF,AG] at h2 ⊢
  omega
end
end Go.Proofs.YthikodhnkaofaaaGreatDoor
