/- Texts of this proof, joined: Base, Own, Codec, Types, BTree, BState, BSimp, BLoop, BDec, ExtD, ExtL, Df. What each holds is said at its theorems. -/
import Derived.WalkKit
import Derived.Lib.Hide
import Derived.Deep.Draws
import Derived.Maps.AppendAt
import Derived.Deep.QuietTactic
import Derived.BigQuiet
import Derived.IntWalk
import Derived.Lib.ItoaNum
import Derived.Lib.Bytealg
import Derived.Lib.Join
import Derived.Lib.Atoi
set_option linter.unusedSimpArgs false
set_option linter.unusedVariables false
namespace Go.Proofs.YtojnhepgnbhaaaaGreatDoor
open Go.RowKit
theorem ZcL (b off j:Nat):(⟨b,off,none⟩:Addr).add j=⟨b,off+j,none⟩:=by
 unfold Addr.add;split<;>simp_all
def XX (w:World) (b off:Nat) (xs:List Value):Prop:=∀j u,xs[j]?=some u→w.cell? ⟨b,off+j,none⟩=some u
def Sl (w:World) (size:Nat) (A:Option Addr) (n:Nat) (xs:List Value) (L:List Nat):Prop:=
 xs.length=n * size∧((n=0∧L=[])∨(0<n∧∃b off,A=some ⟨b,off,none⟩∧L=[b]∧XX w b off xs))
section
variable {w w':World} {size n:Nat} {A:Option Addr} {xs:List Value} {L:List Nat}
theorem Sl.zero:Sl w size A 0 [] []:=⟨by simp,.inl ⟨rfl,rfl⟩⟩
theorem Sl.at_ (h:Sl w size A n xs L) (hn:0<n):∃b off,A=some ⟨b,off,none⟩∧L=[b]∧XX w b off xs:=by
 rcases h.2 with ⟨h0,_⟩ | ⟨_,h⟩
 ·omega
 ·exact h
theorem Sl.keep (h:Sl w size A n xs L) (hk:∀b∈L,w'.heap[b]?=w.heap[b]?):Sl w' size A n xs L:=by
 refine ⟨h.1,?_⟩
 rcases h.2 with h0 | ⟨hn,b,off,hA,hL,hc⟩
 ·exact .inl h0
 ·refine .inr ⟨hn,b,off,hA,hL,fun j u hu=>?_⟩
  rw [←hc j u hu]
  exact World.cell?_of_block (hk b (by simp [hL]))
theorem Sl.lt (h:Sl w size A n xs L) (hs:0<size):∀b∈L,b<w.heap.size:=by
 rcases h.2 with h0 | ⟨hn,b,off,hA,hL,hc⟩
 ·simp [h0.2]
 ·intro x hx
  rw [hL] at hx
  simp at hx
  subst hx
  have hp:0<xs.length:=by rw [h.1];exact Nat.mul_pos hn hs
  exact World.block_lt_of_cell? w _ (hc 0 _ (List.getElem?_eq_getElem hp))
end
structure Own (w:World) (base:Nat) (L:List Nat):Prop where
 nodup:L.Nodup
 ge:∀b∈L,base≤b
 plain:∀b∈L,∃cur e,w.heap[b]?=some (.cells cur e (0,0))
theorem Own.nil (w:World) (base:Nat):Own w base []:=⟨List.nodup_nil,by simp,by simp⟩
theorem Own.lt {w:World} {base:Nat} {L:List Nat} (h:Own w base L):∀b∈L,b<w.heap.size:=by
 intro b hb
 obtain ⟨cur,e,hc⟩:=h.plain b hb
 exact (Array.getElem?_eq_some_iff.1 hc).1
theorem Own.keep {w w':World} {base:Nat} {L:List Nat} (h:Own w base L) (hk:∀b∈L,w'.heap[b]?=w.heap[b]?):Own w' base L:=
 ⟨h.nodup,h.ge,fun b hb=>by rw [hk b hb];exact h.plain b hb⟩
theorem Own.mono {w:World} {base base':Nat} {L:List Nat} (h:Own w base L) (hb:base'≤base):Own w base' L:=
 ⟨h.nodup,fun b m=>Nat.le_trans hb (h.ge b m),h.plain⟩
theorem ZN {B:Nat} {w w':World} {L:List Nat} (hb:Below B w w') (h:∀b∈L,b<B):∀b∈L,w'.heap[b]?=w.heap[b]?:=
 fun b m=>hb.block b (h b m)
theorem Zi6 {B:Nat} {a w:World} (h:Below B a w) (n:Nat):Below B a (w.drewN n):=⟨h.os,h.tape,h.output,h.size,h.block⟩
theorem ZfN (B:Nat) (w:World) (n:Nat):Below B w (w.drewN n):=Zi6 (Below.refl _ _) n
theorem ZqK (w:World) (q p:Nat):∃r,(w.drewN q).drewN p=w.drewN r:=⟨q+p,World.drewN_drewN w q p⟩
theorem Zpj (w:World) (q:Nat):∃r,w.drewN q=w.drewN r:=⟨q,rfl⟩
theorem Yo {k:IntKind} {a b:Int} (h:a=b):Ending.returned (.int k a)=.returned (.int k b):=by rw [h]
section
variable {w w':World} {n:Nat} {A:Option Addr} {zs:List Int} {L:List Nat}
end
section
variable {P:Program} {f:FuncId} {args:Array Value} {w:World} {a n:Nat} {v:Value}
end
end Go.Proofs.YtojnhepgnbhaaaaGreatDoor
namespace Go.Proofs.YtojnhepgnbhaaaaGreatDoor
open Go.RowKit
end Go.Proofs.YtojnhepgnbhaaaaGreatDoor
namespace Go
open Go.RowKit Go.Proofs.YtojnhepgnbhaaaaGreatDoor
def World.ownsV (w : World) (base : Nat) (e : TypeId) (size : Nat) (v : Value) (n : Nat) (xs : List Value) : Prop :=
  xs.length = n * size ∧ ((v = .slice none 0 0 ∧ n = 0) ∨
   ∃ g o cap cur, v = .slice (some ⟨g, o, none⟩) n cap ∧ base ≤ g ∧ w.heap[g]? = some (.cells cur e (0, 0)) ∧ n ≤ cap ∧ cap ≤ maxLen ∧ o + cap * size ≤ cur.size ∧ (cur.toList.drop o).take (n * size) = xs)
end Go
namespace Go.Proofs.YtojnhepgnbhaaaaGreatDoor
open Go.RowKit
section
variable {w w':World} {base:Nat} {e:TypeId} {size n:Nat} {v:Value} {xs:List Value}
theorem Zfj (h:w.ownsRow base e size v n xs):w.ownsV base e size v n xs:=by
 refine ⟨h.1,?_⟩
 rcases h.2 with h0 | ⟨g,cap,cur,h1,h2,h3,h4,h5,h6,h7⟩
 ·exact .inl h0
 ·exact .inr ⟨g,0,cap,cur,h1,h2,h3,h4,h5,by omega,by simpa using h7⟩
theorem ZiI (w:World) (base:Nat) (e:TypeId) (size:Nat):w.ownsV base e size (.slice none 0 0) 0 []:=Zfj (World.ownsRow_nil _ _ _ _)
theorem Zar (h:w.ownsV base e size v n xs):∃A c,v=.slice A n c∧n≤c∧c≤maxLen:=by
 rcases h.2 with ⟨rfl,rfl⟩ | ⟨g,o,cap,cur,rfl,hb,hg,hnc,hm,hs,ht⟩
 ·exact ⟨none,0,rfl,Nat.le_refl _,Nat.zero_le _⟩
 ·exact ⟨_,cap,rfl,hnc,hm⟩
theorem Zpz {base':Nat} (h:w.ownsV base e size v n xs) (hb:base'≤base):w.ownsV base' e size v n xs:=by
 refine ⟨h.1,?_⟩
 rcases h.2 with h0 | ⟨g,o,cap,cur,h1,h2,h3⟩
 ·exact .inl h0
 ·exact .inr ⟨g,o,cap,cur,h1,Nat.le_trans hb h2,h3⟩
theorem ZpA (h:w.ownsV base e size v n xs):∀b∈v.ownBlock.toList,b<w.heap.size:=by
 rcases h.2 with ⟨h0,_⟩ | ⟨g,o,cap,cur,hv,_,hc,_⟩
 ·simp [h0,Value.ownBlock]
 ·intro b mb
  simp [hv,Value.ownBlock] at mb
  subst mb
  exact (Array.getElem?_eq_some_iff.1 hc).1
theorem Zg5 (h:w.ownsV base e size v n xs) (hk:∀b∈v.ownBlock.toList,w'.heap[b]?=w.heap[b]?):w'.ownsV base e size v n xs:=by
 refine ⟨h.1,?_⟩
 rcases h.2 with h0 | ⟨g,o,cap,cur,hv,hg,hc,r⟩
 ·exact .inl h0
 ·refine .inr ⟨g,o,cap,cur,hv,hg,?_,r⟩
  rw [hk g (by simp [hv,Value.ownBlock])]
  exact hc
theorem ZhS {g o n' cap:Nat} (h:w.ownsV base e size v n xs) (hv0:v=.slice (some ⟨g,o,none⟩) n' cap):∀j u,xs[j]?=some u→w.cell? ⟨g,o+j,none⟩=some u:=by
 intro j u hj
 subst hv0
 rcases h.2 with ⟨h0,_⟩ | ⟨g',o',cap',cur,hv,hb,hg,hnc,hm,hs,ht⟩
 ·simp at h0
 ·simp only [Value.slice.injEq,Option.some.injEq,Addr.mk.injEq,and_true,true_and] at hv
  obtain ⟨⟨rfl,rfl⟩,rfl,rfl⟩:=hv
  rw [cell_of_row w g (o+j) cur e (0,0) hg]
  rw [←ht] at hj
  have hl:j<n' * size:=by
   have:=(List.getElem?_eq_some_iff.1 hj).1
   simp at this
   omega
  rw [List.getElem?_take_of_lt hl,List.getElem?_drop] at hj
  simpa using hj
theorem Sl.of_ownV {c:Nat} {A:Option Addr} (h:w.ownsV base e size (.slice A n c) n xs):∃L,Sl w size A n xs L∧Own w base L∧∀b∈L,∃o,A=some ⟨b,o,none⟩:=by
 rcases h.2 with ⟨hv,hn⟩ | ⟨g,o,cap,cur,hv,hb,hg,hnc,hm,hs,ht⟩
 ·subst hn
  exact ⟨[],⟨h.1,.inl ⟨rfl,rfl⟩⟩,Own.nil _ _,by simp⟩
 ·injection hv with hA _ hc
  subst hA
  subst hc
  rcases Nat.eq_zero_or_pos n with h0 | h0
  ·subst h0
   exact ⟨[],⟨h.1,.inl ⟨rfl,rfl⟩⟩,Own.nil _ _,by simp⟩
  ·refine ⟨[g],⟨h.1,.inr ⟨h0,g,o,rfl,rfl,fun j u hu=>ZhS h rfl j u hu⟩⟩,⟨by simp,by simpa using hb,fun b m=>?_⟩,by simp⟩
   simp at m
   subst m
   exact ⟨cur,e,hg⟩
end
section
variable {P:Program} (w:World)
theorem ZhM (t ty e:TypeId) (i:TypeInfo) (ht:P.underlying t=some (.slice e)) (hi:P.info? e=some i)
  (g o sLen sCap:Nat) (cur:Array Value) (hg:w.heap[g]?=some (.cells cur e (0,0)))
  (a:Addr) (m c:Nat) (news:List Value) (hl:news.length=m * i.size) (hnews:∀j u,news[j]?=some u→w.cell? (a.add j)=some u) (h1:∀u∈news,u.oneCell'=true)
  (hroom:sLen+m≤sCap) (hfit:o+sLen * i.size+news.length≤cur.size):
  (Builtin.append_ #[t,t] ty #[.slice (some ⟨g,o,none⟩) sLen sCap,.slice (some a) m c]).run P w=
   .ok (.slice (some ⟨g,o,none⟩) (sLen+m) sCap) (w.setRow g (cur.toList.take (o+sLen * i.size)++news++cur.toList.drop (o+sLen * i.size+news.length)).toArray):=by
 have hf:=run_firstCells_some (P:=P) w i.size m a m c news hl hnews
 have hst:=run_storeCells_at P g (o+sLen * i.size) e news 0 cur w hg (by simpa using hfit) h1
 simp only [Nat.add_zero] at hst
 simp [Builtin.append_,run_underlying ht,sizeOf,typeInfo,hi,Builtin.lenOf,hroom,hf,Addr.add_lit,hst]
theorem ZjH (base:Nat) (t ty e:TypeId) (i:TypeInfo) (z:Value) (size bytes:Nat) (ht:P.underlying t=some (.slice e)) (hi:P.info? e=some i) (hz:i.zero=some z)
  (hsize:i.size=size) (hby:i.bytes=bytes) (hzs:z.cells.size=size) (hsz:0<size)
  (v:Value) (n:Nat) (xs:List Value) (hown:w.ownsV base e size v n xs)
  (a:Addr) (m c:Nat) (news:List Value) (hl:news.length=m * size) (hnews:∀j u,news[j]?=some u→w.cell? (a.add j)=some u) (h1:∀u∈news,u.oneCell'=true)
  (h63:n+m≤maxLen) (hbytes:(n+m) * bytes≤140737488355328) (hbase:base≤w.heap.size):
  ∃v' w',(Builtin.append_ #[t,t] ty #[v,.slice (some a) m c]).run P w=.ok v' w'∧w'.ownsV base e size v' (n+m) (xs++news)∧w.grownBy w' v.ownBlock∧
   (v'.ownBlock=v.ownBlock∨v'.ownBlock=some w.heap.size):=by
 rcases hown.2 with ⟨rfl,rfl⟩ | ⟨g,o,cap,cur,rfl,hbg,hg,hnc,hcm,hcs,htake⟩
 ·have hx:xs=[]:=List.eq_nil_of_length_eq_zero (by simpa using hown.1)
  subst hx
  obtain ⟨v',w',r1,r2,r3,_,r5⟩:=run_append_own_at (P:=P) w base t ty e i z size bytes ht hi hz hsize hby hzs hsz _ 0 [] (World.ownsRow_nil w base e size) a m c news hl hnews h1 h63 hbytes hbase
  exact ⟨v',w',r1,Zfj r2,r3,r5⟩
 ·subst hsize
  subst hby
  have hsmall:n+m≤9223372036854775807:=by simp only [maxLen] at h63;omega
  have hlen:(xs++news).length=(n+m) * i.size:=by rw [List.length_append,hown.1,hl,Nat.add_mul]
  by_cases hroom:n+m≤cap
  ·have hfit:o+n * i.size+news.length≤cur.size:=by
    have:=Nat.mul_le_mul_right i.size hroom
    rw [Nat.add_mul] at this
    rw [hl];omega
   have hr:=ZhM (P:=P) w t ty e i ht hi g o n cap cur hg a m c news hl hnews h1 hroom hfit
   refine ⟨_,_,hr,⟨hlen,.inr ⟨g,o,cap,_,rfl,hbg,setRow_heap w g cur _ e _ hg,hroom,hcm,?_,?_⟩⟩,⟨rfl,rfl,rfl,by simp,fun k _ hk=>setRow_other w g k _ (fun e=>hk (by simp [Value.ownBlock,e]))⟩,.inl rfl⟩
   ·simp only [List.size_toArray,List.length_append,List.length_take,List.length_drop,Array.length_toList]
    omega
   ·show List.take _ (List.drop o (cur.toList.take (o+n * i.size)++news++_))=_
    have hx:(cur.toList.take (o+n * i.size)).drop o=xs:=by
     rw [List.drop_take,Nat.add_sub_cancel_left];exact htake
    have ho:o≤(cur.toList.take (o+n * i.size)).length:=by simp;omega
    rw [List.append_assoc,List.drop_append_of_le_length ho,hx,←List.append_assoc,←hlen]
    exact List.take_left
  ·have holds:∀j u,xs[j]?=some u→w.cell? ((⟨g,o,none⟩:Addr).add j)=some u:=fun j u hj=>by
    rw [Addr.add_lit];exact ZhS hown rfl j u hj
   have hr:=run_append_grow (P:=P) w t ty e i z ht hi hz ⟨g,o,none⟩ n cap xs hown.1 holds a m c news hl hnews (by omega) (by omega) (growslice_fits (by omega) hbytes)
   have hge:=grownCap_ge w (n+m) cap e
   have hcm':grownCap w (n+m) cap e≤maxLen:=grownCap_le_maxLen w (n+m) cap e h63
   refine ⟨_,_,hr,⟨hlen,.inr ⟨w.heap.size,0,_,_,rfl,hbase,heap_alloc_new w.drew _,hge,hcm',?_,?_⟩⟩,⟨rfl,rfl,rfl,by simp,fun k hk _=>heap_alloc_old w.drew _ hk⟩,.inr rfl⟩
   ·simp only [Array.size_append,List.size_toArray,size_zeroCells,hzs,hown.1,hl,←Nat.add_mul]
    rw [Nat.zero_add]
    exact Nat.mul_le_mul_right _ (by omega)
   ·rw [List.drop_zero]
    simp only [Array.toList_append,List.append_assoc]
    rw [←List.append_assoc,←hlen]
    exact List.take_left
theorem ZpM {w:World} {base:Nat} {e:TypeId} {size n l c:Nat} {A:Option Addr} {xs:List Value} (h:w.ownsV base e size (.slice A n c) n xs) (hl:l≤n):
  w.ownsV base e size (.slice (if c=l then A else A.map (·.add (l * size))) (n - l) (c - l)) (n - l) (xs.drop (l * size))∧(Value.slice (if c=l then A else A.map (·.add (l * size))) (n - l) (c - l)).ownBlock=(Value.slice A n c).ownBlock:=by
 have hln:(xs.drop (l * size)).length=(n - l) * size:=by rw [List.length_drop,h.1,Nat.sub_mul]
 rcases h.2 with ⟨h0,hn⟩ | ⟨g,o,cap,cur,hv,hb,hg,hnc,hm,hs,ht⟩
 ·simp only [Value.slice.injEq] at h0
  obtain ⟨rfl,_,rfl⟩:=h0
  subst hn
  obtain rfl:l=0:=by omega
  exact ⟨⟨hln,.inl ⟨by simp,by omega⟩⟩,by simp⟩
 ·simp only [Value.slice.injEq,true_and] at hv
  obtain ⟨rfl,rfl⟩:=hv
  by_cases hcl:c=l
  ·subst hcl
   rw [if_pos rfl]
   refine ⟨⟨hln,.inr ⟨g,o,c - c,cur,rfl,hb,hg,by omega,by omega,?_,?_⟩⟩,rfl⟩
   ·rw [Nat.sub_self,Nat.zero_mul];omega
   ·have e0:(n - c) * size=0:=by rw [show n - c=0 by omega,Nat.zero_mul]
    rw [e0] at hln ⊢
    rw [List.take_zero]
    exact (List.eq_nil_of_length_eq_zero hln).symm
  ·rw [if_neg hcl]
   refine ⟨⟨hln,.inr ⟨g,o+l * size,c - l,cur,by simp [Addr.add],hb,hg,by omega,by omega,?_,?_⟩⟩,by simp only [Option.map_some,Value.ownBlock,Addr.add_lit]⟩
   ·rw [Nat.sub_mul]
    have:=Nat.mul_le_mul_right size (show l≤c by omega)
    omega
   ·rw [←ht,List.drop_take,List.drop_drop,Nat.sub_mul]
end
end Go.Proofs.YtojnhepgnbhaaaaGreatDoor
namespace Go.Proofs.YtojnhepgnbhaaaaGreatDoor
open Go.RowKit
def Zjk (n:Int):Prop:=-9223372036854775808≤n∧n≤9223372036854775807
structure YL (α:Type) where
 size:Nat
 rep:World→List Value→α→List Nat→Prop
 len:∀{w cs x L},rep w cs x L→cs.length=size
 keep:∀{w w' cs x L},rep w cs x L→(∀b∈L,w'.heap[b]?=w.heap[b]?)→rep w' cs x L
 lt:∀{w cs x L},rep w cs x L→∀b∈L,b<w.heap.size
 one:∀{w cs x L},rep w cs x L→∀u∈cs,u.oneCell'=true
 pos:0<size
def Zgq:YL Int where
 size:=1
 rep:=fun _ cs x L=>cs=[.int .i64 x]∧L=[]
 len:=fun h=>by simp [h.1]
 keep:=fun h _=>h
 lt:=fun h=>by simp [h.2]
 one:=fun h=>by simp [h.1,Value.oneCell']
 pos:=by omega
def Zbm:YL ByteArray where
 size:=1
 rep:=fun _ cs x L=>cs=[.string x]∧L=[]∧x.size≤9223372036854775807
 len:=fun h=>by simp [h.1]
 keep:=fun h _=>h
 lt:=fun h=>by simp [h.2.1]
 one:=fun h=>by simp [h.1,Value.oneCell']
 pos:=by omega
section
variable {α:Type} (c:YL α)
def YL.reps (w:World):List Value→List α→List Nat→Prop
 | xs,[],L=>xs=[]∧L=[]
 | xs,d::ds,L=>∃c1 c2 L1 L2,xs=c1++c2∧L=L1++L2∧c.rep w c1 d L1∧YL.reps w c2 ds L2
variable {c}
theorem ZfZ {w:World}:∀{ds:List α} {xs:List Value} {L:List Nat},c.reps w xs ds L→xs.length=ds.length * c.size
 | [],_,_,h=>by simp [h.1]
 | d::ds,_,_,⟨c1,c2,L1,L2,rfl,rfl,h1,h2⟩=>by
  have:=ZfZ h2
  simp [c.len h1,this,Nat.add_mul];omega
theorem Zcx {w w':World}:∀{ds:List α} {xs:List Value} {L:List Nat},c.reps w xs ds L→(∀b∈L,w'.heap[b]?=w.heap[b]?)→c.reps w' xs ds L
 | [],_,_,h,_=>h
 | d::ds,_,_,⟨c1,c2,L1,L2,rfl,rfl,h1,h2⟩,hk=>
  ⟨c1,c2,L1,L2,rfl,rfl,c.keep h1 (fun b m=>hk b (by simp [m])),Zcx h2 (fun b m=>hk b (by simp [m]))⟩
theorem ZqO {w:World}:∀{ds:List α} {xs:List Value} {L:List Nat},c.reps w xs ds L→∀b∈L,b<w.heap.size
 | [],_,_,h=>by simp [h.2]
 | d::ds,_,_,⟨c1,c2,L1,L2,rfl,rfl,h1,h2⟩=>by
  intro b m
  rcases List.mem_append.1 m with m | m
  ·exact c.lt h1 b m
  ·exact ZqO h2 b m
theorem Zdz {w:World}:∀{ds es:List α} {xs ys:List Value} {L M:List Nat},c.reps w xs ds L→c.reps w ys es M→c.reps w (xs++ys) (ds++es) (L++M)
 | [],es,_,ys,_,M,h,h'=>by obtain ⟨rfl,rfl⟩:=h;simpa using h'
 | d::ds,es,_,ys,_,M,⟨c1,c2,L1,L2,rfl,rfl,h1,h2⟩,h'=>
  ⟨c1,c2++ys,L1,L2++M,by simp,by simp,h1,Zdz h2 h'⟩
theorem Zjn {w:World} {d:α} {cs:List Value} {L:List Nat} (h:c.rep w cs d L):c.reps w cs [d] L:=⟨cs,[],L,[],by simp,by simp,h,rfl,rfl⟩
theorem Zk8 {w:World}:∀{ds es:List α} {xs:List Value} {L:List Nat},c.reps w xs (ds++es) L→
  ∃x1 x2 L1 L2,xs=x1++x2∧L=L1++L2∧c.reps w x1 ds L1∧c.reps w x2 es L2
 | [],es,xs,L,h=>⟨[],xs,[],L,rfl,rfl,⟨rfl,rfl⟩,h⟩
 | d::ds,es,_,_,⟨c1,c2,L1,L2,rfl,rfl,h1,h2⟩=>by
  obtain ⟨x1,x2,M1,M2,rfl,rfl,h3,h4⟩:=Zk8 h2
  exact ⟨c1++x1,x2,L1++M1,M2,by simp,by simp,⟨c1,x1,L1,M1,rfl,rfl,h1,h3⟩,h4⟩
theorem ZqN {w:World} {ds:List α} {xs:List Value} {L:List Nat} (h:c.reps w xs ds L) {k:Nat} (hk:k<ds.length):
  ∃x1 cs x2 L1 Lk L2,xs=x1++(cs++x2)∧x1.length=k * c.size∧L=L1++(Lk++L2)∧c.reps w x1 (ds.take k) L1∧c.rep w cs ds[k] Lk∧c.reps w x2 (ds.drop (k+1)) L2:=by
 have e:ds=ds.take k++(ds[k]::ds.drop (k+1)):=by rw [←List.drop_eq_getElem_cons hk,List.take_append_drop]
 rw [e] at h
 obtain ⟨x1,x2,L1,L2,rfl,rfl,h1,c1,c2,M1,M2,rfl,rfl,h2,h3⟩:=Zk8 h
 refine ⟨x1,c1,c2,L1,M1,M2,rfl,?_,rfl,h1,h2,h3⟩
 have:=ZfZ h1
 rw [this,List.length_take,Nat.min_eq_left (by omega)]
def Sli (c:YL α) (w:World) (A:Option Addr) (ds:List α) (L:List Nat):Prop:=
 ∃xs L0 L1,L=L0++L1∧Sl w c.size A ds.length xs L0∧c.reps w xs ds L1
theorem Sli.nil (w:World) (A:Option Addr):Sli c w A [] []:=⟨[],[],[],rfl,Sl.zero,rfl,rfl⟩
theorem Sli.keep {w w':World} {A:Option Addr} {ds:List α} {L:List Nat} (h:Sli c w A ds L) (hk:∀b∈L,w'.heap[b]?=w.heap[b]?):Sli c w' A ds L:=by
 obtain ⟨xs,L0,L1,rfl,h1,h2⟩:=h
 exact ⟨xs,L0,L1,rfl,h1.keep (fun b m=>hk b (by simp [m])),Zcx h2 (fun b m=>hk b (by simp [m]))⟩
theorem Sli.lt {w:World} {A:Option Addr} {ds:List α} {L:List Nat} (h:Sli c w A ds L):∀b∈L,b<w.heap.size:=by
 obtain ⟨xs,L0,L1,rfl,h1,h2⟩:=h
 intro b m
 rcases List.mem_append.1 m with m | m
 ·exact h1.lt c.pos b m
 ·exact ZqO h2 b m
theorem Sli.below {w w':World} {A:Option Addr} {ds:List α} {L:List Nat} (h:Sli c w A ds L) (hb:Below w.heap.size w w'):Sli c w' A ds L:=h.keep (ZN hb h.lt)
theorem Sli.at_ {w:World} {A:Option Addr} {ds:List α} {L:List Nat} (h:Sli c w A ds L) {k:Nat} (hk:k<ds.length):
  ∃b off cs Lk,A=some ⟨b,off,none⟩∧b∈L∧(∀x∈Lk,x∈L)∧c.rep w cs ds[k] Lk∧∀j u,cs[j]?=some u→w.cell? ⟨b,off+(k * c.size+j),none⟩=some u:=by
 obtain ⟨xs,L0,L1,rfl,h1,h2⟩:=h
 obtain ⟨x1,cs,x2,M1,Mk,M2,rfl,hx,rfl,_,h3,_⟩:=ZqN h2 hk
 obtain ⟨b,off,hA,hL,hc⟩:=h1.at_ (by omega)
 subst hL
 refine ⟨b,off,cs,Mk,hA,by simp,fun x m=>by simp [m],h3,fun j u hu=>hc _ u ?_⟩
 rw [List.getElem?_append_right (by omega),hx,Nat.add_sub_cancel_left,List.getElem?_append_left (List.getElem?_eq_some_iff.1 hu).1]
 exact hu
def ZY (c:YL α):YL (List α) where
 size:=1
 rep:=fun w cs ds L=>∃A cap,cs=[.slice A ds.length cap]∧ds.length≤cap∧cap≤maxLen∧Sli c w A ds L
 len:=fun ⟨_,_,h,_⟩=>by simp [h]
 keep:=fun ⟨A,cap,h,h1,h2,h3⟩ hk=>⟨A,cap,h,h1,h2,h3.keep hk⟩
 lt:=fun ⟨_,_,_,_,_,h3⟩=>h3.lt
 one:=fun ⟨_,_,h,_⟩=>by simp [h,Value.oneCell']
 pos:=by omega
theorem Own.append {w:World} {base base':Nat} {L M:List Nat} (h:Own w base L) (k:Own w base' M) (hb:base≤base') (hl:∀b∈L,b<base'):Own w base (L++M):=by
 refine ⟨?_,?_,?_⟩
 ·rw [List.nodup_append]
  refine ⟨h.nodup,k.nodup,fun a ha b hb' e=>?_⟩
  subst e
  have:=hl a ha
  have:=k.ge a hb'
  omega
 ·intro b m
  rcases List.mem_append.1 m with m | m
  ·exact h.ge b m
  ·exact Nat.le_trans hb (k.ge b m)
 ·intro b m
  rcases List.mem_append.1 m with m | m
  ·exact h.plain b m
  ·exact k.plain b m
theorem Own.sub {w:World} {base:Nat} {L M:List Nat} (h:Own w base L) (hs:M.Sublist L):Own w base M:=
 ⟨h.nodup.sublist hs,fun b m=>h.ge b (hs.subset m),fun b m=>h.plain b (hs.subset m)⟩
structure Got (c:YL α) (base:Nat) (cs:List Value) (x:α) (L:List Nat) (w:World):Prop where
 rep:c.rep w cs x L
 own:Own w base L
section
variable {c:YL α} {base:Nat} {cs:List Value} {x:α} {L M:List Nat} {w w':World}
theorem Got.keep (h:Got c base cs x L w) (hk:∀b∈L,w'.heap[b]?=w.heap[b]?):Got c base cs x L w':=⟨c.keep h.rep hk,h.own.keep hk⟩
theorem Got.later (h:Got c base cs x L w) (hb:Below w.heap.size w w'):Got c base cs x L w':=h.keep (ZN hb h.own.lt)
theorem Got.setCell (h:Got c base cs x L w) {p:Addr} (hp:p.block<base) (u:Value):Got c base cs x L (w.setCell p u):=
 h.keep fun b m=>Below.heap_setCell w p u b (by have:=h.own.ge b m;omega)
theorem Got.lt (h:Got c base cs x L w):∀b∈L,b<w.heap.size:=h.own.lt
theorem Got.mono {base':Nat} (h:Got c base cs x L w) (hb:base'≤base):Got c base' cs x L w:=⟨h.rep,h.own.mono hb⟩
end
def Zmx (c:YL α) (w:World) (x:α) (e:Ending) (w':World):Prop:=∃cs L,e=.returned (.agg cs.toArray)∧Got c w.heap.size cs x L w'∧Below w.heap.size w w'
theorem ZU {c:YL α} {w:World} {A:Option Addr} {n cap:Nat} {ds:List α} {L:List Nat} (h:(ZY c).rep w [.slice A n cap] ds L):ds.length≤cap∧cap≤maxLen∧Sli c w A ds L:=by
 obtain ⟨A',cap',hv,h1,h2,h3⟩:=h
 cases hv
 exact ⟨h1,h2,h3⟩
structure ZrS (c:YL α) (E:TypeId) (W:World) (v:Value) (ds:List α) (w:World):Prop where
 ex:∃xs L1,w.ownsV W.heap.size E c.size v ds.length xs∧c.reps w xs ds L1∧Own w W.heap.size (v.ownBlock.toList++L1)
 below:Below W.heap.size W w
def Zkp (c:YL α) (E:TypeId) (w:World) (ds:List α) (e:Ending) (w':World):Prop:=∃v,e=.returned v∧ZrS c E w v ds w'
theorem ZrS.shape {c:YL α} {E:TypeId} {W w:World} {v:Value} {ds:List α} (h:ZrS c E W v ds w):∃A cap,v=.slice A ds.length cap:=by
 obtain ⟨xs,L1,h1,_⟩:=h.ex
 obtain ⟨A,cap,hv,_⟩:=Zar h1
 exact ⟨A,cap,hv⟩
theorem ZrS.got {c:YL α} {E:TypeId} {W w:World} {v:Value} {ds:List α} (h:ZrS c E W v ds w):∃L,Got (ZY c) W.heap.size [v] ds L w:=by
 obtain ⟨xs,L1,h1,h2,h3⟩:=h.ex
 obtain ⟨A,cap,rfl,hn,hm⟩:=Zar h1
 obtain ⟨L0,hs,ho,hb⟩:=Sl.of_ownV h1
 refine ⟨L0++L1,⟨A,cap,rfl,hn,hm,xs,L0,L1,rfl,hs,h2⟩,h3.sub ?_⟩
 refine List.Sublist.append ?_ (List.Sublist.refl _)
 rcases hs.2 with ⟨_,h0⟩ | ⟨_,b,off,rfl,h0,_⟩
 ·subst h0;exact List.nil_sublist _
 ·subst h0
  simp [Value.ownBlock]
end
def Zn2 (w:World) (g p:Nat):List Value→World
 | []=>w
 | u::r=>Zn2 (w.setCell ⟨g,p,none⟩ u) g (p+1) r
def Zh9 (xs:List Value) (p:Nat):List Value→List Value
 | []=>xs
 | u::r=>Zh9 (xs.set p u) (p+1) r
theorem ZfA (x1:List Value):∀(cs x2:List Value),cs.length≤x2.length→Zh9 (x1++x2) x1.length cs=x1++(cs++x2.drop cs.length)
 | [],x2,_=>by simp [Zh9]
 | u::r,[],h=>by simp at h
 | u::r,y::x2,h=>by
  rw [Zh9,List.set_append_right _ _ (Nat.le_refl _),Nat.sub_self,List.set_cons_zero]
  have e:x1++u::x2=(x1++[u])++x2:=by simp
  have l:x1.length+1=(x1++[u]).length:=by simp
  rw [e,l,ZfA (x1++[u]) r x2 (by simpa using h)]
  simp
theorem Zju {base:Nat} {e:TypeId} {size g n cap:Nat}:∀(cs:List Value) (w:World) (xs:List Value) (p:Nat),w.ownsRow base e size (.slice (some ⟨g,0,none⟩) n cap) n xs→
  (Zn2 w g p cs).ownsRow base e size (.slice (some ⟨g,0,none⟩) n cap) n (Zh9 xs p cs)∧w.grownBy (Zn2 w g p cs) (some g)
 | [],w,xs,p,h=>⟨h,World.grownBy.refl _ _⟩
 | u::r,w,xs,p,h=>by
  obtain ⟨h1,h2⟩:=h.stored p u
  obtain ⟨h3,h4⟩:=Zju r _ _ (p+1) h1
  exact ⟨h3,⟨h4.os.trans h2.os,h4.tape.trans h2.tape,h4.output.trans h2.output,Nat.le_trans h2.size h4.size,fun k hk hn=>(h4.block k (Nat.lt_of_lt_of_le hk h2.size) hn).trans (h2.block k hk hn)⟩⟩
structure Z9 {α:Type} (c:YL α) (E:TypeId) (W:World) (n:Nat) (ds:List α) (k:Nat) (w:World):Prop where
 ex:∃x1 x2 L1,w.ownsRow W.heap.size E c.size (.slice (some ⟨W.heap.size,0,none⟩) n n) n (x1++x2)∧c.reps w x1 (ds.take k) L1∧x2.length=(n - k) * c.size∧Own w W.heap.size (W.heap.size::L1)
 below:Below W.heap.size W w
section
variable {α:Type} {c:YL α} {E:TypeId} {W:World} {n:Nat} {ds:List α} {k:Nat} {w w':World}
theorem Z9.start {ys:List Value} (h:w.ownsRow W.heap.size E c.size (.slice (some ⟨W.heap.size,0,none⟩) n n) n ys) (hb:Below W.heap.size W w):Z9 c E W n ds 0 w:=by
 refine ⟨⟨[],ys,[],h,⟨rfl,rfl⟩,by simpa using h.1,by simp,by simp,?_⟩,hb⟩
 intro b m
 simp at m
 subst m
 rcases h.2 with ⟨h',_⟩ | ⟨g',cap',cur,h',_,hg,_⟩
 ·simp at h'
 ·simp at h';obtain ⟨h',_⟩:=h';subst h';exact ⟨cur,E,hg⟩
theorem Z9.later (h:Z9 c E W n ds k w) (hb:Below w.heap.size w w'):Z9 c E W n ds k w':=by
 obtain ⟨⟨x1,x2,L1,h1,h2,h3,h4⟩,hB⟩:=h
 have hk:=ZN hb h4.lt
 refine ⟨⟨x1,x2,L1,?_,Zcx h2 (fun b m=>hk b (by simp [m])),h3,h4.keep hk⟩,hB.trans (hb.mono hB.size)⟩
 exact h1.kept (row:=none) ⟨hb.os,hb.tape,hb.output,hb.size,fun k hk _=>hb.block k hk⟩ (by simp [Value.ownBlock])
theorem Z9.cell (h:Z9 c E W n ds k w) (hk:k<n) {j:Nat} (hj:j<c.size):∃d,w.cell? ⟨W.heap.size,k * c.size+j,none⟩=some d:=by
 obtain ⟨⟨x1,x2,L1,h1,h2,h3,h4⟩,hB⟩:=h
 have hlt:k * c.size+j<n * c.size:=by
  have:=Nat.mul_le_mul_right c.size (show k+1≤n from hk)
  rw [Nat.add_mul] at this
  omega
 rw [h1.cellAt _ hlt]
 exact ⟨_,List.getElem?_eq_getElem (by rw [h1.1];exact hlt)⟩
theorem Z9.frozen (h:Z9 c E W n ds k w) (j:Nat):w.frozen? ⟨W.heap.size,j,none⟩=false:=by
 obtain ⟨⟨x1,x2,L1,h1,h2,h3,h4⟩,hB⟩:=h
 exact h1.frozenAt j
theorem Z9.store {cs:List Value} {x:α} {M:List Nat} {w2:World} (h:Z9 c E W n ds k w) (hk:k<n) (hn:n=ds.length) (hx:∀hl:k<ds.length,x=ds[k]) (hb:Below w.heap.size w w2) (hg:Got c w.heap.size cs x M w2):
  Z9 c E W n ds (k+1) (Zn2 w2 W.heap.size (k * c.size) cs):=by
 have hold:=h
 obtain ⟨⟨x1,x2,L1,h1,h2,h3,h4⟩,hB⟩:=h
 have hkeep:=ZN hb h4.lt
 have h1':=(Z9.later hold hb).ex
 clear h1'
 have o1:w2.ownsRow W.heap.size E c.size (.slice (some ⟨W.heap.size,0,none⟩) n n) n (x1++x2):=h1.kept (row:=none) ⟨hb.os,hb.tape,hb.output,hb.size,fun k hk _=>hb.block k hk⟩ (by simp [Value.ownBlock])
 obtain ⟨o2,o3⟩:=Zju cs w2 (x1++x2) (k * c.size) o1
 have hx1:x1.length=k * c.size:=by rw [ZfZ h2,List.length_take,Nat.min_eq_left (by omega)]
 have hcs:cs.length=c.size:=c.len hg.rep
 have h3':c.size≤x2.length:=by
  rw [h3]
  have:=Nat.mul_le_mul_right c.size (show 1≤n - k by omega)
  omega
 rw [←hx1,ZfA x1 cs x2 (by omega)] at o2
 have hMge:∀b∈M,b≠W.heap.size:=fun b m e=>by have:=hg.own.ge b m;have:=hB.size;have:=h4.lt W.heap.size (by simp);omega
 have hL1:∀b∈L1,b≠W.heap.size:=fun b m e=>by
  have:=h4.nodup
  rw [List.nodup_cons] at this
  exact this.1 (e ▸ m)
 have hkp:∀b,b<w2.heap.size→b≠W.heap.size→(Zn2 w2 W.heap.size x1.length cs).heap[b]?=w2.heap[b]?:=fun b hl hne=>by
  rw [hx1];exact o3.block b hl (fun e=>hne (by injection e))
 rw [←hx1]
 refine ⟨⟨x1++cs,x2.drop cs.length,L1++M,by rw [List.append_assoc];exact o2,?_,?_,?_⟩,?_⟩
 ·rw [List.take_succ_eq_append_getElem (by omega)]
  refine Zdz (Zcx h2 (fun b m=>?_)) (Zjn ?_)
  ·rw [hkp b (Nat.lt_of_lt_of_le (h4.lt b (by simp [m])) hb.size) (hL1 b m)]
   exact hkeep b (by simp [m])
  ·rw [←hx (by omega)]
   exact c.keep hg.rep (fun b m=>hkp b (hg.own.lt b m) (hMge b m))
 ·rw [List.length_drop,h3,hcs,show n - k=(n - (k+1))+1 by omega,Nat.add_mul];omega
 ·have hO:Own w2 W.heap.size ((W.heap.size::L1)++M):=Own.append (h4.keep hkeep) hg.own hB.size h4.lt
  rw [List.cons_append] at hO
  refine ⟨hO.nodup,hO.ge,fun b m=>?_⟩
  by_cases e:b=W.heap.size
  ·subst e
   rcases o2.2 with ⟨h',_⟩ | ⟨g',cap',cur,h',_,hgg,_⟩
   ·simp at h'
   ·simp at h';obtain ⟨h',_⟩:=h';rw [←h'] at hgg;exact ⟨cur,E,hgg⟩
  ·rw [hkp b (hO.lt b m) e]
   exact hO.plain b m
 ·rw [hx1]
  refine (hB.trans (hb.mono hB.size)).trans ⟨o3.os,o3.tape,o3.output,o3.size,fun i hi=>o3.block i (Nat.lt_of_lt_of_le hi (Nat.le_trans hB.size hb.size)) (fun e=>by injection e with e;omega)⟩
theorem Z9.done (h:Z9 c E W n ds n w) (hn:n=ds.length):ZrS c E W (.slice (some ⟨W.heap.size,0,none⟩) n n) ds w:=by
 obtain ⟨⟨x1,x2,L1,h1,h2,h3,h4⟩,hB⟩:=h
 have e:x2=[]:=List.eq_nil_of_length_eq_zero (by simpa using h3)
 subst e
 rw [List.append_nil] at h1
 rw [List.take_of_length_le (by omega)] at h2
 subst hn
 exact ⟨⟨x1,L1,Zfj h1,h2,by simpa [Value.ownBlock] using h4⟩,hB⟩
end
theorem ZjX {α:Type} (f:α→Nat) (ds:List α) (k:Nat) (hk:k<ds.length) {B:Nat} (h:(ds.map f).sum≤B):f ds[k]≤B:=by
 refine Nat.le_trans ?_ h
 have e:ds=ds.take k++(ds[k]::ds.drop (k+1)):=by rw [←List.drop_eq_getElem_cons hk,List.take_append_drop]
 have:(ds.map f).sum=((ds.take k).map f).sum+(f ds[k]+((ds.drop (k+1)).map f).sum):=by
  have h1:=congrArg (fun l=>(List.map f l).sum) e
  simp only [List.map_append,List.map_cons,List.sum_append_nat,List.sum_cons] at h1
  exact h1
 omega
theorem Zfy {α:Type} {c:YL α} {w wr WF:World} {x:α} {cs:List Value} (L:List Nat) (hg:Got c (w.heap.size+3) cs x L wr) (hk:∀b,w.heap.size+3≤b→WF.heap[b]?=wr.heap[b]?) (hb:Below w.heap.size w WF):
  Zmx c w x (.returned (.agg cs.toArray)) WF:=⟨cs,L,rfl,(hg.keep (fun b m=>hk b (hg.own.ge b m))).mono (by omega),hb⟩
def szR (c:Nat) (l:Int):Int:=if (c:Int)≤l then l - c else -1
theorem Y8 {c:Nat} {l:Int} (h:(c:Int)≤l):szR c l=l - c:=if_pos h
theorem ZX {c:Nat} {l:Int} (h:¬(c:Int)≤l):szR c l=-1:=if_neg h
theorem Zag (a b c:Nat) (l:Int) (ha:(a:Int)≤l) (hc:c=a+b):szR b (l - a)=szR c l:=by
 subst hc
 by_cases h:(b:Int)≤l - a
 ·rw [Y8 h,Y8 (by omega)];omega
 ·rw [ZX h,ZX (by omega)]
def Xm (l:List ByteArray):Nat:=l.length+(l.map ByteArray.size).sum
theorem Zul {w:World} {cs:List Value} {x:ByteArray} {L:List Nat} (h:Zbm.rep w cs x L):cs=[.string x]∧L=[]∧x.size≤9223372036854775807:=h
def ZdY (c:Nat) (left:Int) (w:World) (e:Ending) (w':World):Prop:=e=.returned (.int .i64 (szR c left))∧Below w.heap.size w w'
def Blk (w:World) (g:Nat) (t:TypeId) (cs:Array Value):Prop:=w.heap[g]?=some (.cells cs t (0,0))
section
variable {w w':World} {g:Nat} {t:TypeId} {cs:Array Value}
theorem Blk.lt (h:Blk w g t cs):g<w.heap.size:=(Array.getElem?_eq_some_iff.1 h).1
theorem Blk.at {i:Nat} {v:Value} (h:Blk w g t cs) (hv:cs[i]?=some v):w.cell? ⟨g,i,none⟩=some v:=(cell_of_row w g i cs t (0,0) h).trans hv
theorem Blk.frozen (h:Blk w g t cs) (i:Nat):w.frozen? ⟨g,i,none⟩=false:=by
 unfold Blk at h
 simp [World.frozen?,h]
theorem Blk.new (w:World) (t:TypeId) (cs:Array Value):Blk (w.alloc (.cells cs t)) w.heap.size t cs:=heap_alloc_new w _
theorem Blk.new_at {w:World} {t:TypeId} {cs:Array Value} {g:Nat} (hg:g=w.heap.size):Blk (w.alloc (.cells cs t)) g t cs:=by subst hg;exact heap_alloc_new w _
theorem Blk.alloc (h:Blk w g t cs) (o:Obj):Blk (w.alloc o) g t cs:=(Below.heap_alloc w o g h.lt).trans h
theorem Blk.set_ (h:Blk w g t cs) (i:Nat) (u:Value):Blk (w.setCell ⟨g,i,none⟩ u) g t (cs.setIfInBounds i u):=by
 unfold Blk at h ⊢
 simp [World.setCell,Array.getElem?_modify,h]
theorem Blk.far (h:Blk w g t cs) {p:Addr} (hp:g≠p.block) (u:Value):Blk (w.setCell p u) g t cs:=(Below.heap_setCell w p u g hp).trans h
theorem Blk.later (h:Blk w g t cs) (hb:Below w.heap.size w w'):Blk w' g t cs:=(hb.block g h.lt).trans h
end
section
variable {w0:World} {base b lo m:Nat} {Lk M:List Nat} {cs:List Value} {w w':World}
end
end Go.Proofs.YtojnhepgnbhaaaaGreatDoor
namespace Go.Proofs.YtojnhepgnbhaaaaGreatDoor
open Go.RowKit
structure Zc where
 rel:ByteArray
 args:List ByteArray
def Y4:YL Zc where
 size:=2
 rep:=fun w cs x L=>∃A1 c1 L1,cs=[.string x.rel,.slice A1 x.args.length c1]∧L=L1∧x.rel.size≤9223372036854775807∧x.args.length≤c1∧c1≤maxLen∧Sli Zbm w A1 x.args L1
 len:=fun ⟨A1,c1,L1,h,hL,t0,n1,m1,s1⟩=>by simp [h]
 keep:=fun ⟨A1,c1,L1,h,hL,t0,n1,m1,s1⟩ hk=>⟨A1,c1,L1,h,hL,t0,n1,m1,s1.keep (fun b m=>hk b (by simp [hL,m]))⟩
 lt:=fun ⟨A1,c1,L1,h,hL,t0,n1,m1,s1⟩=>by intro b m;simp only [hL,List.mem_append] at m;exact s1.lt b m
 one:=fun ⟨A1,c1,L1,h,hL,t0,n1,m1,s1⟩=>by simp [h,Value.oneCell']
 pos:=by omega
theorem Zcc {w:World} {cs:List Value} {x:Zc} {L:List Nat} (h:Y4.rep w cs x L):∃A1 c1,cs=[.string x.rel,.slice A1 x.args.length c1]:=by
 obtain ⟨A1,c1,L1,h,hL,t0,n1,m1,s1⟩:=h
 exact ⟨A1,c1,h⟩
def YP (x:Zc):Nat:=x.rel.size+Xm x.args
def Yd (l:List Zc):Nat:=l.length+(l.map YP).sum
def ZpO (x:Zc):Prop:=(fun _=>True) x.rel∧(fun ds=>∀d∈ds,(fun _=>True) d) x.args
structure Zv where
 rel:ByteArray
 args:List ByteArray
def ZcY:YL Zv where
 size:=2
 rep:=fun w cs x L=>∃A1 c1 L1,cs=[.string x.rel,.slice A1 x.args.length c1]∧L=L1∧x.rel.size≤9223372036854775807∧x.args.length≤c1∧c1≤maxLen∧Sli Zbm w A1 x.args L1
 len:=fun ⟨A1,c1,L1,h,hL,t0,n1,m1,s1⟩=>by simp [h]
 keep:=fun ⟨A1,c1,L1,h,hL,t0,n1,m1,s1⟩ hk=>⟨A1,c1,L1,h,hL,t0,n1,m1,s1.keep (fun b m=>hk b (by simp [hL,m]))⟩
 lt:=fun ⟨A1,c1,L1,h,hL,t0,n1,m1,s1⟩=>by intro b m;simp only [hL,List.mem_append] at m;exact s1.lt b m
 one:=fun ⟨A1,c1,L1,h,hL,t0,n1,m1,s1⟩=>by simp [h,Value.oneCell']
 pos:=by omega
theorem ZfO {w:World} {cs:List Value} {x:Zv} {L:List Nat} (h:ZcY.rep w cs x L):∃A1 c1,cs=[.string x.rel,.slice A1 x.args.length c1]:=by
 obtain ⟨A1,c1,L1,h,hL,t0,n1,m1,s1⟩:=h
 exact ⟨A1,c1,h⟩
def Z5 (x:Zv):Nat:=x.rel.size+Xm x.args
def Ziu (x:Zv):Prop:=(fun _=>True) x.rel∧(fun ds=>∀d∈ds,(fun _=>True) d) x.args
structure Zl where
 var:ByteArray
 value:ByteArray
structure Zm where
 kind:Int
 pattern:Zv
 left:ByteArray
 right:ByteArray
def XV:YL Zm where
 size:=5
 rep:=fun w cs x L=>∃A1 c1 L1,cs=[.int .i64 x.kind,.string x.pattern.rel,.slice A1 x.pattern.args.length c1,.string x.left,.string x.right]∧L=L1∧x.pattern.rel.size≤9223372036854775807∧x.left.size≤9223372036854775807∧x.right.size≤9223372036854775807∧x.pattern.args.length≤c1∧c1≤maxLen∧Sli Zbm w A1 x.pattern.args L1
 len:=fun ⟨A1,c1,L1,h,hL,t0,t1,t2,n1,m1,s1⟩=>by simp [h]
 keep:=fun ⟨A1,c1,L1,h,hL,t0,t1,t2,n1,m1,s1⟩ hk=>⟨A1,c1,L1,h,hL,t0,t1,t2,n1,m1,s1.keep (fun b m=>hk b (by simp [hL,m]))⟩
 lt:=fun ⟨A1,c1,L1,h,hL,t0,t1,t2,n1,m1,s1⟩=>by intro b m;simp only [hL,List.mem_append] at m;exact s1.lt b m
 one:=fun ⟨A1,c1,L1,h,hL,t0,t1,t2,n1,m1,s1⟩=>by simp [h,Value.oneCell']
 pos:=by omega
theorem Zcb {w:World} {cs:List Value} {x:Zm} {L:List Nat} (h:XV.rep w cs x L):∃A1 c1,cs=[.int .i64 x.kind,.string x.pattern.rel,.slice A1 x.pattern.args.length c1,.string x.left,.string x.right]:=by
 obtain ⟨A1,c1,L1,h,hL,t0,t1,t2,n1,m1,s1⟩:=h
 exact ⟨A1,c1,h⟩
def YO (x:Zm):Nat:=Z5 x.pattern+x.left.size+x.right.size
def YA (l:List Zm):Nat:=l.length+(l.map YO).sum
def Ztj (x:Zm):Prop:=Zjk x.kind∧Ziu x.pattern∧(fun _=>True) x.left∧(fun _=>True) x.right
structure Zr where
 kind:Int
 pattern:Zv
def Yk:YL Zr where
 size:=3
 rep:=fun w cs x L=>∃A1 c1 L1,cs=[.int .i64 x.kind,.string x.pattern.rel,.slice A1 x.pattern.args.length c1]∧L=L1∧x.pattern.rel.size≤9223372036854775807∧x.pattern.args.length≤c1∧c1≤maxLen∧Sli Zbm w A1 x.pattern.args L1
 len:=fun ⟨A1,c1,L1,h,hL,t0,n1,m1,s1⟩=>by simp [h]
 keep:=fun ⟨A1,c1,L1,h,hL,t0,n1,m1,s1⟩ hk=>⟨A1,c1,L1,h,hL,t0,n1,m1,s1.keep (fun b m=>hk b (by simp [hL,m]))⟩
 lt:=fun ⟨A1,c1,L1,h,hL,t0,n1,m1,s1⟩=>by intro b m;simp only [hL,List.mem_append] at m;exact s1.lt b m
 one:=fun ⟨A1,c1,L1,h,hL,t0,n1,m1,s1⟩=>by simp [h,Value.oneCell']
 pos:=by omega
theorem Q9 {w:World} {cs:List Value} {x:Zr} {L:List Nat} (h:Yk.rep w cs x L):∃A1 c1,cs=[.int .i64 x.kind,.string x.pattern.rel,.slice A1 x.pattern.args.length c1]:=by
 obtain ⟨A1,c1,L1,h,hL,t0,n1,m1,s1⟩:=h
 exact ⟨A1,c1,h⟩
def Yl (x:Zr):Nat:=Z5 x.pattern
def Yg (l:List Zr):Nat:=l.length+(l.map Yl).sum
def Zn7 (x:Zr):Prop:=Zjk x.kind∧Ziu x.pattern
structure Zf where
 name:ByteArray
 priority:Int
 cond:List Zm
 thn:List Zr
def XU:YL Zf where
 size:=4
 rep:=fun w cs x L=>∃A1 c1 L1 A2 c2 L2,cs=[.string x.name,.int .i64 x.priority,.slice A1 x.cond.length c1,.slice A2 x.thn.length c2]∧L=L1++L2∧x.name.size≤9223372036854775807∧x.cond.length≤c1∧c1≤maxLen∧Sli XV w A1 x.cond L1∧x.thn.length≤c2∧c2≤maxLen∧Sli Yk w A2 x.thn L2
 len:=fun ⟨A1,c1,L1,A2,c2,L2,h,hL,t0,n1,m1,s1,n2,m2,s2⟩=>by simp [h]
 keep:=fun ⟨A1,c1,L1,A2,c2,L2,h,hL,t0,n1,m1,s1,n2,m2,s2⟩ hk=>⟨A1,c1,L1,A2,c2,L2,h,hL,t0,n1,m1,s1.keep (fun b m=>hk b (by simp [hL,m])),n2,m2,s2.keep (fun b m=>hk b (by simp [hL,m]))⟩
 lt:=fun ⟨A1,c1,L1,A2,c2,L2,h,hL,t0,n1,m1,s1,n2,m2,s2⟩=>by intro b m;simp only [hL,List.mem_append] at m;rcases m with m | m<;>first | exact s1.lt b m | exact s2.lt b m
 one:=fun ⟨A1,c1,L1,A2,c2,L2,h,hL,t0,n1,m1,s1,n2,m2,s2⟩=>by simp [h,Value.oneCell']
 pos:=by omega
theorem Zb5 {w:World} {cs:List Value} {x:Zf} {L:List Nat} (h:XU.rep w cs x L):∃A1 c1 A2 c2,cs=[.string x.name,.int .i64 x.priority,.slice A1 x.cond.length c1,.slice A2 x.thn.length c2]:=by
 obtain ⟨A1,c1,L1,A2,c2,L2,h,hL,t0,n1,m1,s1,n2,m2,s2⟩:=h
 exact ⟨A1,c1,A2,c2,h⟩
def Yq (x:Zf):Nat:=x.name.size+YA x.cond+Yg x.thn
def Yj (l:List Zf):Nat:=l.length+(l.map Yq).sum
def ZpL (x:Zf):Prop:=(fun _=>True) x.name∧Zjk x.priority∧(fun ds=>∀d∈ds,Ztj d) x.cond∧(fun ds=>∀d∈ds,Zn7 d) x.thn
structure Zt where
 facts:List Zc
 binding:List Zl
structure Zh where
 for_:Int
 inn:List Int
 outs:List Int
structure ZK where
 nodes:Int
 reasons:List Zh
structure Zuw where
 fact:Zc
 rule:ByteArray
 uses:List Int
def ZDz:YL Zuw where
 size:=4
 rep:=fun w cs x L=>∃A1 c1 L1 A2 c2 L2,cs=[.string x.fact.rel,.slice A1 x.fact.args.length c1,.string x.rule,.slice A2 x.uses.length c2]∧L=L1++L2∧x.fact.rel.size≤9223372036854775807∧x.rule.size≤9223372036854775807∧x.fact.args.length≤c1∧c1≤maxLen∧Sli Zbm w A1 x.fact.args L1∧x.uses.length≤c2∧c2≤maxLen∧Sli Zgq w A2 x.uses L2
 len:=fun ⟨A1,c1,L1,A2,c2,L2,h,hL,t0,t1,n1,m1,s1,n2,m2,s2⟩=>by simp [h]
 keep:=fun ⟨A1,c1,L1,A2,c2,L2,h,hL,t0,t1,n1,m1,s1,n2,m2,s2⟩ hk=>⟨A1,c1,L1,A2,c2,L2,h,hL,t0,t1,n1,m1,s1.keep (fun b m=>hk b (by simp [hL,m])),n2,m2,s2.keep (fun b m=>hk b (by simp [hL,m]))⟩
 lt:=fun ⟨A1,c1,L1,A2,c2,L2,h,hL,t0,t1,n1,m1,s1,n2,m2,s2⟩=>by intro b m;simp only [hL,List.mem_append] at m;rcases m with m | m<;>first | exact s1.lt b m | exact s2.lt b m
 one:=fun ⟨A1,c1,L1,A2,c2,L2,h,hL,t0,t1,n1,m1,s1,n2,m2,s2⟩=>by simp [h,Value.oneCell']
 pos:=by omega
theorem ZDC {w:World} {cs:List Value} {x:Zuw} {L:List Nat} (h:ZDz.rep w cs x L):∃A1 c1 A2 c2,cs=[.string x.fact.rel,.slice A1 x.fact.args.length c1,.string x.rule,.slice A2 x.uses.length c2]:=by
 obtain ⟨A1,c1,L1,A2,c2,L2,h,hL,t0,t1,n1,m1,s1,n2,m2,s2⟩:=h
 exact ⟨A1,c1,A2,c2,h⟩
def Q0 (x:Zuw):Nat:=YP x.fact+x.rule.size+x.uses.length
def Q1 (l:List Zuw):Nat:=l.length+(l.map Q0).sum
def ZEi (x:Zuw):Prop:=ZpO x.fact∧(fun _=>True) x.rule∧(fun ds=>∀d∈ds,Zjk d) x.uses
end Go.Proofs.YtojnhepgnbhaaaaGreatDoor
namespace Go.Proofs.YtojnhepgnbhaaaaGreatDoor
open Go.RowKit
inductive PK where
 | int (k:IntKind)
 | bool
 | str
def Zgs:PK→Value→Prop
 | .int k,.int k' _=>k=k'
 | .bool,.bool _=>True
 | .str,.string s=>s.size≤9223372036854775807
 | _,_=>False
def Zie (kk vk:PK) (kv:List (Value × Value)):Prop:=∀p∈kv,Zgs kk p.1∧Zgs vk p.2
inductive CT where
 | int (k:IntKind) (n:Int)
 | bool (b:Bool)
 | str (s:ByteArray)
 | sl (e m:Nat) (xs:List (List CT))
 /-- a pointer to cells that are only read -/
 | pt (es:List CT)
 /-- a function value with what it has captured -/
 | fn (f:Nat) (cs:List CT)
 /-- a map of plain keys and plain values that is only read -/
 | mp (kk vk:PK) (kv:List (Value × Value))
 /-- an interface value: nil or not -/
 | ifc (isNil:Bool)
 /-- a cell of which nothing is known -/
 | any
def Zc3 (es:Array MapEntry):List (Value × Value):=es.toList.map fun e=>(e.key,e.val)
mutual
def RC (w:World):CT→Value→List Nat→Prop
 | .int k n,v,L=>v=.int k n∧L=[]
 | .bool b,v,L=>v=.bool b∧L=[]
 | .str s,v,L=>v=.string s∧L=[]∧s.size≤9223372036854775807
 | .sl _ m xs,v,L=>∃A cap cs L0 L1,v=.slice A xs.length cap∧xs.length≤cap∧cap≤maxLen∧L=L0++L1∧0<m∧Sl w m A xs.length cs L0∧REs w m xs cs L1
 | .pt es,v,L=>∃b cs L1,v=.pointer (some ⟨b,0,none⟩)∧b<w.heap.size∧L=b::L1∧XX w b 0 cs∧RCs w es cs L1
 | .fn f es,v,L=>∃vs:List Value,v=.func (.func f) #[] vs.toArray∧RCs w es vs L
 | .mp kk vk kv,v,L=>∃b es c,v=.map (some b)∧w.heap[b]?=some (.map es c)∧Zc3 es=kv∧Zie kk vk kv∧L=[b]
 | .ifc b,v,L=>L=[]∧v.oneCell'=true∧(match b with | true=>v=.nilIface | false=>∃t x,v=.iface t x)
 | .any,v,L=>L=[]∧v.oneCell'=true
def RCs (w:World):List CT→List Value→List Nat→Prop
 | [],cs,L=>cs=[]∧L=[]
 | x::r,cs,L=>∃v cs' L1 L2,cs=v::cs'∧L=L1++L2∧RC w x v L1∧RCs w r cs' L2
def REs (w:World) (m:Nat):List (List CT)→List Value→List Nat→Prop
 | [],cs,L=>cs=[]∧L=[]
 | e::r,cs,L=>∃c1 c2 L1 L2,cs=c1++c2∧L=L1++L2∧(RCs w e c1 L1∧c1.length=m)∧REs w m r c2 L2
end
mutual
theorem RC.keep {w w':World}:∀{x:CT} {v:Value} {L:List Nat},RC w x v L→(∀b∈L,w'.heap[b]?=w.heap[b]?)→RC w' x v L
 | .int _ _,_,_,h,_=>h
 | .bool _,_,_,h,_=>h
 | .str _,_,_,h,_=>h
 | .sl _ _ _,_,_,⟨A,cap,cs,L0,L1,h1,h2,h3,h4,h5,h6,h7⟩,hk=>⟨A,cap,cs,L0,L1,h1,h2,h3,h4,h5,h6.keep fun b m=>hk b (by simp [h4,m]),h7.keep fun b m=>hk b (by simp [h4,m])⟩
 | .pt _,_,_,⟨b,cs,L1,h1,h2,h3,h4,h5⟩,hk=>⟨b,cs,L1,h1,by
   have e:=hk b (by simp [h3])
   rcases Nat.lt_or_ge b w'.heap.size with h | h
   ·exact h
   ·rw [Array.getElem?_eq_none h] at e
    have:=Array.getElem?_eq_none_iff.1 e.symm
    omega,h3,fun j u hu=>by rw [←h4 j u hu];exact World.cell?_of_block (hk b (by simp [h3])),h5.keep fun b m=>hk b (by simp [h3,m])⟩
 | .fn _ _,_,_,⟨vs,h1,h2⟩,hk=>⟨vs,h1,h2.keep hk⟩
 | .mp _ _ _,_,_,⟨b,es,c,h1,h2,h3,h3',h4⟩,hk=>⟨b,es,c,h1,by rw [hk b (by simp [h4])];exact h2,h3,h3',h4⟩
 | .ifc _,_,_,h,_=>h
 | .any,_,_,h,_=>h
theorem RCs.keep {w w':World}:∀{x:List CT} {v:List Value} {L:List Nat},RCs w x v L→(∀b∈L,w'.heap[b]?=w.heap[b]?)→RCs w' x v L
 | [],_,_,h,_=>h
 | _::_,_,_,⟨v,cs,L1,L2,h1,h2,h3,h4⟩,hk=>⟨v,cs,L1,L2,h1,h2,h3.keep fun b m=>hk b (by simp [h2,m]),h4.keep fun b m=>hk b (by simp [h2,m])⟩
theorem REs.keep {w w':World} {m:Nat}:∀{x:List (List CT)} {v:List Value} {L:List Nat},REs w m x v L→(∀b∈L,w'.heap[b]?=w.heap[b]?)→REs w' m x v L
 | [],_,_,h,_=>h
 | _::_,_,_,⟨c1,c2,L1,L2,h1,h2,h3,h4⟩,hk=>⟨c1,c2,L1,L2,h1,h2,⟨h3.1.keep fun b m=>hk b (by simp [h2,m]),h3.2⟩,h4.keep fun b m=>hk b (by simp [h2,m])⟩
end
mutual
theorem RC.lt {w:World}:∀{x:CT} {v:Value} {L:List Nat},RC w x v L→∀b∈L,b<w.heap.size
 | .int _ _,_,_,h=>by simp [h.2]
 | .bool _,_,_,h=>by simp [h.2]
 | .str _,_,_,h=>by simp [h.2.1]
 | .sl _ _ _,_,_,⟨A,cap,cs,L0,L1,h1,h2,h3,h4,h5,h6,h7⟩=>fun b m=>by
  rw [h4] at m
  rcases List.mem_append.1 m with m | m
  ·exact h6.lt h5 b m
  ·exact h7.lt b m
 | .pt _,_,_,⟨b,cs,L1,h1,h2,h3,h4,h5⟩=>fun x m=>by
  rw [h3] at m
  rcases List.mem_cons.1 m with rfl | m
  ·exact h2
  ·exact h5.lt x m
 | .fn _ _,_,_,⟨vs,h1,h2⟩=>h2.lt
 | .mp _ _ _,_,_,⟨b,es,c,h1,h2,h3,h3',h4⟩=>fun x m=>by
  rw [h4] at m
  simp at m;subst m
  exact (Array.getElem?_eq_some_iff.1 h2).1
 | .ifc _,_,_,h=>by simp [h.1]
 | .any,_,_,h=>by simp [h.1]
theorem RCs.lt {w:World}:∀{x:List CT} {v:List Value} {L:List Nat},RCs w x v L→∀b∈L,b<w.heap.size
 | [],_,_,h=>by simp [h.2]
 | _::_,_,_,⟨v,cs,L1,L2,h1,h2,h3,h4⟩=>fun b m=>by
  rw [h2] at m
  rcases List.mem_append.1 m with m | m
  ·exact h3.lt b m
  ·exact h4.lt b m
theorem REs.lt {w:World} {m:Nat}:∀{x:List (List CT)} {v:List Value} {L:List Nat},REs w m x v L→∀b∈L,b<w.heap.size
 | [],_,_,h=>by simp [h.2]
 | _::_,_,_,⟨c1,c2,L1,L2,h1,h2,h3,h4⟩=>fun b m=>by
  rw [h2] at m
  rcases List.mem_append.1 m with m | m
  ·exact h3.1.lt b m
  ·exact h4.lt b m
end
theorem RC.one {w:World}:∀{x:CT} {v:Value} {L:List Nat},RC w x v L→v.oneCell'=true
 | .int _ _,_,_,h=>by simp [h.1,Value.oneCell']
 | .bool _,_,_,h=>by simp [h.1,Value.oneCell']
 | .str _,_,_,h=>by simp [h.1,Value.oneCell']
 | .sl _ _ _,_,_,⟨A,cap,cs,L0,L1,h1,_⟩=>by simp [h1,Value.oneCell']
 | .pt _,_,_,⟨b,cs,L1,h1,_⟩=>by simp [h1,Value.oneCell']
 | .fn _ _,_,_,⟨vs,h1,_⟩=>by simp [h1,Value.oneCell']
 | .mp _ _ _,_,_,⟨b,es,c,h1,_⟩=>by simp [h1,Value.oneCell']
 | .ifc _,_,_,h=>h.2.1
 | .any,_,_,h=>h.2
theorem RCs.one {w:World}:∀{x:List CT} {v:List Value} {L:List Nat},RCs w x v L→∀u∈v,u.oneCell'=true
 | [],_,_,h=>by simp [h.1]
 | _::_,_,_,⟨v,cs,L1,L2,h1,h2,h3,h4⟩=>fun u m=>by
  rw [h1] at m
  rcases List.mem_cons.1 m with rfl | m
  ·exact h3.one
  ·exact h4.one u m
theorem RCs.len {w:World}:∀{x:List CT} {v:List Value} {L:List Nat},RCs w x v L→v.length=x.length
 | [],_,_,h=>by simp [h.1]
 | _::_,_,_,⟨v,cs,L1,L2,h1,h2,h3,h4⟩=>by simp [h1,h4.len]
theorem RCs.append {w:World}:∀{xs ys:List CT} {us vs:List Value} {L M:List Nat},RCs w xs us L→RCs w ys vs M→RCs w (xs++ys) (us++vs) (L++M)
 | [],_,_,_,_,_,h,h'=>by obtain ⟨rfl,rfl⟩:=h;simpa using h'
 | _::_,_,_,_,_,_,⟨v,cs,L1,L2,h1,h2,h3,h4⟩,h'=>⟨v,cs++_,L1,L2++_,by simp [h1],by simp [h2],h3,h4.append h'⟩
end Go.Proofs.YtojnhepgnbhaaaaGreatDoor
namespace Go.Proofs.YtojnhepgnbhaaaaGreatDoor
open Go.RowKit
inductive AV where
 | c (x:CT)
 /-- a row that the call has made with all that it leads to,from now on only read,maybe through others too -/
 | n (x:CT)
 | row (k:Nat)
 | nil (e m:Nat)
 | dead
inductive SV where
 | any
 | und
 | p (agg:Bool) (cs:List AV)
 | tup (xs:List (Bool × List AV))
 | bp (k off:Nat)
 | rp (k m i off:Nat)
 | ep (e:List CT) (off:Nat)
 | fn (f:FuncId)
inductive Ob where
 | gone
 | box (t:TypeId) (cs:List AV)
 | row (e m:Nat) (xs:List (List CT)) (deep:Nat)
 | map (kk vk:PK) (kv:List (Value × Value))
def upd {α:Type} (f:Nat→α) (k:Nat) (v:α):Nat→α:=fun j=>if j=k then v else f j
def ZeK (a b:Nat):Nat:=if a≤b then a else b
structure St where
 sl:Nat→SV
 ob:Nat→Ob
 n:Nat
def St.put (st:St) (d:Option Nat) (v:SV):St:=match d with | none=>st | some t=>{ st with sl:=upd st.sl t v }
def Zk (ob:Nat→Ob):List (Nat × Ob)→Nat→Ob
 | []=>ob
 | p::r=>Zk (upd ob p.1 p.2) r
def St.app (st:St) (u:List (Nat × Ob)):St:={ st with ob:=Zk st.ob u }
structure FI where
 off:Nat
 size:Nat
 agg:Bool
inductive TI where
 | atom (z:AV)
 | strct (fs:List FI) (n:Nat) (z:List AV)
 | slice (e m bytes:Nat) (z:List AV)
 | map (kk vk:PK)
 | eqs (ks:List PK)
 | ifc
def Zs5:Option TI→Bool
 | some .ifc=>true
 | _=>false
def Zlo:Option TI→Option (List AV)
 | some (.atom z)=>some [z]
 | some (.strct _ _ z)=>some z
 | some (.slice e m _ _)=>some [.nil e m]
 | _=>none
def Zcf (s:ByteArray):Bool:=Nat.ble s.data.toList.length 9223372036854775807
def cvT (ti:Option TI):Value→SV
 | .int k n=>.p false [.c (.int k n)]
 | .bool b=>.p false [.c (.bool b)]
 | .string s=>if Zcf s then .p false [.c (.str s)] else .any
 | .slice none 0 0=>match ti with | some (.slice e m _ _)=>.p false [.nil e m] | _=>.any
 | _=>.any
section
variable (tt:Nat→Option TI)
def St.ev (st:St) (t:Nat):Operand→SV
 | .tmp s=>st.sl s
 | .const v=>cvT (tt t) v
 | .func f=>.fn f
 | .global _=>.any
def Zze (k:IntKind) (x y:Int):Int:=k.wrap (BitVec.ofInt k.bits x &&& BitVec.ofInt k.bits y).toNat
def orI (k:IntKind) (x y:Int):Int:=k.wrap (BitVec.ofInt k.bits x ||| BitVec.ofInt k.bits y).toNat
def Zyi (k:IntKind) (x y:Int):Int:=k.wrap (BitVec.ofInt k.bits x ^^^ BitVec.ofInt k.bits y).toNat
def ZqU (k:IntKind) (x y:Int):Int:=k.wrap (BitVec.ofInt k.bits x &&& ~~~ BitVec.ofInt k.bits y).toNat
def Zx0 (k:IntKind) (x y:Int):Int:=k.wrap (x * 2 ^ (min y.toNat k.bits))
def Zy2 (k:IntKind) (x y:Int):Int:=x.fdiv (2 ^ (min y.toNat k.bits))
def ZwI (op:BinOp) (k:IntKind) (x y:Int):Option Int:=
 match op with
 | .and=>some (Zze k x y)
 | .or=>some (orI k x y)
 | .xor=>some (Zyi k x y)
 | .andNot=>some (ZqU k x y)
 | _=>none
def Zto (op:BinOp) (k:IntKind) (x y:Int):Option CT:=
 match op with
 | .add=>some (.int k (k.wrap (x+y)))
 | .sub=>some (.int k (k.wrap (x - y)))
 | .mul=>some (.int k (k.wrap (x * y)))
 | .quo=>if y=0 then none else some (.int k (k.wrap (x.tdiv y)))
 | .rem=>if y=0 then none else some (.int k (x.tmod y))
 | .eql=>some (.bool (x==y))
 | .neq=>some (.bool (x != y))
 | .lss=>some (.bool (decide (x<y)))
 | .leq=>some (.bool (decide (x≤y)))
 | .gtr=>some (.bool (decide (y<x)))
 | .geq=>some (.bool (decide (y≤x)))
 | .shl=>if y<0 then none else some (.int k (Zx0 k x y))
 | .shr=>if y<0 then none else some (.int k (Zy2 k x y))
 | op=>(ZwI op k x y).map (.int k)
def sLt (x y:ByteArray):Bool:=Op.bytesLess x.toList y.toList
def sEq (x y:ByteArray):Bool:=decide (x=y)
def Zud (op:BinOp) (x y:ByteArray):Option CT:=
 match op with
 | .add=>if x.size+y.size≤9223372036854775807 then some (.str (x++y)) else none
 | .eql=>some (.bool (sEq x y))
 | .neq=>some (.bool (!sEq x y))
 | .lss=>some (.bool (sLt x y))
 | .leq=>some (.bool (sLt x y||sEq x y))
 | .gtr=>some (.bool (!(sLt x y||sEq x y)))
 | .geq=>some (.bool (!sLt x y))
 | _=>none
def eqC:PK→AV→AV→Option Bool
 | .int _,.c (.int k x),.c (.int k' y)=>if k=k' then some (x==y) else none
 | .str,.c (.str x),.c (.str y)=>some (sEq x y)
 | .bool,.c (.bool x),.c (.bool y)=>some (x==y)
 | _,_,_=>none
def Zl6:List PK→List AV→List AV→Option Bool
 | [],[],[]=>some true
 | k::ks,x::r,y::q=>(eqC k x y).bind fun a=>(Zl6 ks r q).map fun b=>a&&b
 | _,_,_=>none
def Zs9:Option TI→Option (List PK)
 | some (.eqs ks)=>some ks
 | _=>none
def ZoW (op:BinOp) (b:Bool):Option SV:=
 match op with
 | .eql=>some (.p false [.c (.bool b)])
 | .neq=>some (.p false [.c (.bool (!b))])
 | _=>none
def ZtM (t:Option TI) (op:BinOp):SV→SV→Option SV
 | .p true xs,.p true ys=>(Zs9 t).bind fun ks=>(Zl6 ks xs ys).bind (ZoW op)
 | _,_=>none
def Zqm:Value→Bool
 | .nilIface=>true
 | .int _ _=>false
 | .string _=>false
 | .bool _=>false
 | .slice _ _ _=>false
 | _=>false
def ZiA:Operand→Bool
 | .const v=>Zqm v
 | .tmp _=>false
 | .func _=>false
 | .global _=>false
def ZvH (op:BinOp):SV→Option SV
 | .p false [.c (.ifc b)]=>ZoW op b
 | _=>none
def Zr8:SV→Bool
 | .p ag _=>ag
 | _=>false
def ZtB (t:Option TI) (op:BinOp):SV→SV→Option SV
 | .p false [.c (.int k x)],.p false [.c (.int k' y)]=>if k=k'∨op=.shl∨op=.shr then (Zto op k x y).map fun z=>.p false [.c z] else none
 | .p false [.c (.str x)],.p false [.c (.str y)]=>(Zud op x y).map fun z=>.p false [.c z]
 | .p false [.c (.bool x)],.p false [.c (.bool y)]=>
  match t,op with
  | some (.atom (.c (.bool _))),.eql=>some (.p false [.c (.bool (x==y))])
  | some (.atom (.c (.bool _))),.neq=>some (.p false [.c (.bool (!(x==y)))])
  | _,_=>none
 | _,_=>none
def unV (op:UnOp):SV→Option SV
 | .p false [.c (.bool b)]=>match op with | .not=>some (.p false [.c (.bool (!b))]) | _=>none
 | .p false [.c (.int k n)]=>match op with | .neg=>some (.p false [.c (.int k (k.wrap (0 - n)))]) | _=>none
 | _=>none
def Zr6 (tt:Nat→Option TI) (t:Nat) (n:Bool) (op:BinOp) (x y:SV):Option SV:=
 if n=true then (if Zs5 (tt t)=true then ZvH op x else none) else if Zr8 x=true then ZtM (tt (t+4000)) op x y else ZtB (tt t) op x y
def ZdX:List (List CT)→Option (List Int)
 | []=>some []
 | [.int .u8 n]::r=>(ZdX r).map fun l=>n::l
 | _::_=>none
def Y9 (l:List Int):ByteArray:=⟨(l.map fun n=>UInt8.ofNat n.toNat).toArray⟩
def ZkW:Option TI→Bool
 | some (.atom (.c (.int .u8 _)))=>true
 | _=>false
def ZoT (s t:Option TI):SV→Option SV
 | .p false [.c (.int _ n)]=>match s,t with | some (.atom _),some (.atom (.c (.int k _)))=>some (.p false [.c (.int k (k.wrap n))]) | _,_=>none
 | _=>none
def ZaZ:Option TI→Bool
 | some (.slice _ _ _ _)=>true
 | _=>false
def ZcI:Option TI→Bool
 | some (.atom (.c (.str _)))=>true
 | _=>false
def Zqd (st:St) (t:Option TI):SV→Option SV
 | .p false [.c (.sl _ _ xs)]=>if ZaZ t=true then some (.p false [.c (.int .i64 xs.length)]) else none
 | .p false [.n (.sl _ _ xs)]=>if ZaZ t=true then some (.p false [.c (.int .i64 xs.length)]) else none
 | .p false [.c (.str s)]=>if ZcI t=true then some (.p false [.c (.int .i64 s.size)]) else none
 | .p false [.nil _ _]=>if ZaZ t=true then some (.p false [.c (.int .i64 0)]) else none
 | .p false [.row k]=>match st.ob k with | .row _ _ xs _=>if ZaZ t=true then some (.p false [.c (.int .i64 xs.length)]) else none | _=>none
 | _=>none
def ZdJ (st:St) (m:Nat):SV→SV→Option SV
 | .p false [.c (.sl _ m' xs)],.p false [.c (.int _ i)]=>if 0≤i∧m=m' then (xs[i.toNat]?).map fun e=>.ep e 0 else none
 | .p false [.row k],.p false [.c (.int _ i)]=>match st.ob k with
  | .row _ m' xs _=>if 0≤i∧i<xs.length∧m=m' then some (.rp k m i.toNat 0) else none
  | _=>none
 | _,_=>none
def ZkU (t:Option TI):SV→SV→Option SV
 | .p false [.c (.str s)],.p false [.c (.int _ i)]=>if 0≤i∧ZcI t=true then (s[i.toNat]?).map fun b=>.p false [.c (.int .u8 b.toNat)] else none
 | _,_=>none
def cut (t:Option TI) (cs:List AV) (off:Nat):Option SV:=
 match t with
 | some (.strct _ n _)=>if off+n≤cs.length then some (.p true ((cs.drop off).take n)) else none
 | some (.eqs _)=>none
 | some _=>(cs[off]?).map fun x=>.p false [x]
 | none=>none
def ZbW (st:St) (t:Option TI):SV→Option SV
 | .bp k off=>match st.ob k with | .box _ cs=>cut t cs off | _=>none
 | .rp k m i off=>match st.ob k with | .row _ m' xs _=>(xs[i]?).bind fun e=>if m=m' then cut t (e.map .c) off else none | _=>none
 | .ep e off=>cut t (e.map .c) off
 | .p false [.c (.pt e)]=>cut t (e.map .c) 0
 | _=>none
def splice {α:Type} (cs:List α) (off:Nat) (vs:List α):List α:=cs.take off++(vs++cs.drop (off+vs.length))
def Zqx:AV→Option CT
 | .c (.int k n)=>some (.int k n)
 | .c (.bool b)=>some (.bool b)
 | .c (.str s)=>some (.str s)
 | _=>none
def Zg7:List AV→Option (List CT)
 | []=>some []
 | x::r=>(Zqx x).bind fun a=>(Zg7 r).map fun b=>a::b
def Zhf:Option TI→Nat
 | some (.strct _ n _)=>n
 | some (.atom _)=>1
 | some (.slice _ _ _ _)=>1
 | _=>0
def ZkJ (st:St) (t:Option TI):SV→SV→Option (List (Nat × Ob))
 | .bp k off,.p _ vs=>match st.ob k with
  | .box tb cs=>if vs.length=Zhf t∧0<vs.length∧off+vs.length≤cs.length then some [(k,.box tb (splice cs off vs))] else none
  | _=>none
 | .rp k m i off,.p _ vs=>match st.ob k with
  | .row e m' xs d=>(xs[i]?).bind fun x=>(Zg7 vs).bind fun ys=>if m=m'∧vs.length=Zhf t∧0<vs.length∧off+vs.length≤m∧0<d then some [(k,.row e m (xs.set i (splice x off ys)) d)] else none
  | _=>none
 | _,_=>none
def Zit (d:Nat):SV→Option SV
 | .bp k off=>some (.bp k (off+d))
 | .rp k m i off=>some (.rp k m i (off+d))
 | .ep e off=>some (.ep e (off+d))
 | .p false [.c (.pt e)]=>some (.ep e d)
 | _=>none
def Zkq (fs:List FI) (f:Nat):SV→Option SV
 | .p true cs=>(fs[f]?).bind fun i=>if i.agg then (if i.off+i.size≤cs.length then some (.p true ((cs.drop i.off).take i.size)) else none) else (cs[i.off]?).map fun x=>.p false [x]
 | _=>none
def Zif (fs:List FI) (cs:List AV):List (Nat × SV)→Option (List AV)
 | []=>some cs
 | (i,.p _ vs)::r=>(fs[i]?).bind fun f=>if vs.length=f.size∧f.off+vs.length≤cs.length then Zif fs (splice cs f.off vs) r else none
 | _::_=>none
def Zfa (st:St) (fs:List FI) (z:List AV) (p:Nat × Operand):Nat × SV:=
 match p.2 with
 | .const (.slice none 0 0)=>(p.1,match (fs[p.1]?).bind fun f=>z[f.off]? with | some (.nil e m)=>.p false [.nil e m] | _=>.any)
 | x=>(p.1,st.ev tt 0 x)
def avT (st:St):AV→Option (CT × List Nat × Nat)
 | .c (.int k n)=>some (.int k n,[],2)
 | .c (.bool b)=>some (.bool b,[],2)
 | .c (.str s)=>some (.str s,[],2)
 | .c x=>some (x,[],1)
 | .nil e m=>if 0<m then some (.sl e m [],[],2) else none
 | .row k=>match st.ob k with | .row e m xs d=>(if d=0 then some (.sl e m xs,[],1) else some (.sl e m xs,[k],d)) | _=>none
 | .n _=>none
 | .dead=>none
def Zfb (st:St):List AV→Option (List CT × List Nat × Nat)
 | []=>some ([],[],2)
 | x::r=>(avT st x).bind fun a=>(Zfb st r).map fun b=>(a.1::b.1,a.2.1++b.2.1,ZeK a.2.2 b.2.2)
def Y1 (st:St) (m:Nat):List SV→Option (List (List CT) × List Nat × Nat)
 | []=>some ([],[],2)
 | .p _ cs::r=>if cs.length=m then (Zfb st cs).bind fun a=>(Y1 st m r).map fun b=>(a.1::b.1,a.2.1++b.2.1,ZeK a.2.2 b.2.2) else none
 | _::_=>none
def ZiB:AV→Bool
 | .c _=>true
 | _=>false
def Ym:Ob→Ob
 | .row e m xs _=>.row e m xs 0
 | o=>o
def ZP (st:St):List Nat→List (Nat × Ob)
 | []=>[]
 | k::r=>(k,Ym (st.ob k))::ZP st r
def Zam (ks:List Nat):List (Nat × Ob):=ks.map fun k=>(k,Ob.gone)
def CT.flat:CT→Bool
 | .int _ _=>true
 | .bool _=>true
 | .str _=>true
 | _=>false
def Zaz (xs:List (List CT)):Bool:=xs.all fun e=>e.all CT.flat
def ZhV (fl:Bool) (xs:List (List CT)):Nat:=if (fl&&Zaz xs)=true then 2 else 1
def ZnG (st:St) (fl:Bool):SV→Option (List (List CT) × List Nat × Nat)
 | .p false [.c (.sl _ _ ys)]=>some (ys,[],ZhV fl ys)
 | .p false [.nil _ _]=>some ([],[],2)
 | .p false [.row j]=>match st.ob j with | .row _ _ ys d=>(if d=0 then some (ys,[],ZhV fl ys) else some (ys,[j],d)) | _=>none
 | _=>none
def Zne (st:St):SV→Option (List (List CT) × List Nat × Nat)
 | .p false [.nil _ _]=>some ([],[],2)
 | .p false [.row k]=>match st.ob k with | .row _ _ xs d=>(if d=0 then none else some (xs,[k],d)) | _=>none
 | _=>none
def ZqQ (st:St) (e m:Nat):SV→Bool
 | .p false [.row k]=>match st.ob k with | .row e' m' _ _=>e==e'&&m==m' | _=>false
 | .p false [.nil _ _]=>true
 | _=>false
def Zpm (st:St) (m:Nat):SV→Bool
 | .p false [.row k]=>match st.ob k with | .row _ m' _ _=>m==m' | _=>false
 | .p false [.c (.sl _ m' _)]=>m==m'
 | .p false [.nil _ _]=>true
 | _=>false
def ZtI (st:St) (key:Nat) (t:Option TI) (s x:SV):Option (SV × List (Nat × Ob)):=
 match t with
 | some (.slice e m _ z)=>
  (Zne st s).bind fun a=>(ZnG st (z.all ZiB) x).bind fun b=>
   if ZqQ st e m s=true∧Zpm st m x=true∧(a.2.1++b.2.1).Nodup∧a.1.length+b.1.length≤1073741824 then
    some (.p false [.row key],Zam (a.2.1++b.2.1)++[(key,.row e m (a.1++b.1) (ZeK a.2.2 b.2.2))]) else none
 | _=>none
def Zsq (lo:Bool):SV→SV→Option SV
 | .p false [.c (.int k x)],.p false [.c (.int _ y)]=>some (.p false [.c (.int k (if lo then (if y<x then y else x) else (if x<y then y else x)))])
 | _,_=>none
def Zix:Option TI→Nat
 | some (.slice _ m _ _)=>m
 | _=>0
def hiB (n:Nat):Option SV→Option Nat
 | none=>some n
 | some (.p false [.c (.int _ h)])=>if 0≤h∧h≤n then some h.toNat else none
 | _=>none
def loB (n:Nat):Option SV→Option Nat
 | none=>some 0
 | some (.p false [.c (.int _ l)])=>if 0≤l∧l≤n then some l.toNat else none
 | _=>none
def Zlm (t:Option TI) (lo hi:Option SV):SV→Option SV
 | .p false [.c (.str s)]=>if ZcI t=true then (hiB s.size hi).bind fun h=>(loB h lo).map fun l=>.p false [.c (.str (s.extract l h))] else none
 | .p false [.c (.sl e m xs)]=>if Zix t=m then (hiB xs.length hi).bind fun h=>(loB h lo).map fun l=>.p false [.c (.sl e m ((xs.take h).drop l))] else none
 | _=>none
def mvS (d:Nat):Option SV→Option SV→Bool
 | some _,none=>if d=0 then false else true
 | _,_=>false
def Zbu (st:St) (key:Nat) (t:Option TI) (lo hi:Option SV):SV→Option (SV × List (Nat × Ob))
 | .p false [.row k]=>if ZaZ t=true then (match st.ob k with
  | .row e m xs d=>if Zix t=m then if mvS d lo hi=true then (loB xs.length lo).map fun l=>(.p false [.row key],[(k,.gone),(key,.row e m (xs.drop l) d)]) else (hiB xs.length hi).bind fun h=>(loB h lo).map fun l=>(.p false [.c (.sl e m ((xs.take h).drop l))],[(k,.row e m xs 0)]) else none
  | _=>none) else none
 | .p false [.c x]=>(Zlm t lo hi (.p false [.c x])).map fun v=>(v,[])
 | _=>none
def vEq:Value→Value→Bool
 | .int k a,.int k' b=>k==k'&&a==b
 | .string a,.string b=>sEq a b
 | .bool a,.bool b=>a==b
 | _,_=>false
def Zjz:List (Value × Value)→Value→Option Value
 | [],_=>none
 | p::r,k=>if vEq k p.1=true then some p.2 else Zjz r k
def Zew:List (Value × Value)→Value→Value→List (Value × Value)
 | [],k,v=>[(k,v)]
 | p::r,k,v=>if vEq k p.1=true then (k,v)::r else p::Zew r k v
def avV:Value→AV
 | .int k n=>.c (.int k n)
 | .bool b=>.c (.bool b)
 | .string s=>.c (.str s)
 | _=>.dead
def Zbi (kv:List (Value × Value)) (k:Value) (z:AV):AV:=match Zjz kv k with | some v=>avV v | none=>z
def ZdR (kv:List (Value × Value)) (k:Value):Bool:=(Zjz kv k).isSome
def ZdT:PK→AV
 | .int k=>.c (.int k 0)
 | .bool=>.c (.bool false)
 | .str=>.c (.str ⟨#[]⟩)
def Zrr:PK→SV→Option Value
 | .int k,.p false [.c (.int k' n)]=>if k=k' then some (.int k' n) else none
 | .str,.p false [.c (.str s)]=>some (.string s)
 | .bool,.p false [.c (.bool b)]=>some (.bool b)
 | _,_=>none
def Zn5 (kk vk:PK) (kv:List (Value × Value)) (i:SV) (ok:Bool):Option SV:=
 (Zrr kk i).map fun k=>match ok with
  | true=>.tup [(false,[Zbi kv k (ZdT vk)]),(false,[.c (.bool (ZdR kv k))])]
  | false=>.p false [Zbi kv k (ZdT vk)]
instance pkDec:DecidableEq PK:=fun a b=>match a,b with
 | .int k,.int k'=>if h:k=k' then isTrue (h ▸ rfl) else isFalse (fun e=>h (PK.int.inj e))
 | .bool,.bool=>isTrue rfl
 | .str,.str=>isTrue rfl
 | .int _,.bool=>isFalse (fun e=>by cases e)
 | .int _,.str=>isFalse (fun e=>by cases e)
 | .bool,.int _=>isFalse (fun e=>by cases e)
 | .bool,.str=>isFalse (fun e=>by cases e)
 | .str,.int _=>isFalse (fun e=>by cases e)
 | .str,.bool=>isFalse (fun e=>by cases e)
def ZdD (kk vk:PK):Option TI→Bool
 | some (.map a b)=>decide (a=kk)&&decide (b=vk)
 | _=>false
def Zjf (st:St) (t:Option TI) (x i:SV) (ok:Bool):Option SV:=
 match x with
 | .p false [.row k]=>match st.ob k with | .map kk vk kv=>if ZdD kk vk t=true then Zn5 kk vk kv i ok else none | _=>none
 | .p false [.c (.mp kk vk kv)]=>if ZdD kk vk t=true then Zn5 kk vk kv i ok else none
 | _=>none
def Zrp (st:St) (t:Option TI) (x i v:SV):Option (List (Nat × Ob)):=
 match x with
 | .p false [.row k]=>match st.ob k with | .map kk vk kv=>if ZdD kk vk t=true then (Zrr kk i).bind fun a=>(Zrr vk v).map fun b=>[(k,.map kk vk (Zew kv a b))] else none | _=>none
 | _=>none
def ZmB (key:Nat):Option TI→Option (SV × List (Nat × Ob))
 | some (.map kk vk)=>some (.p false [.row key],[(key,.map kk vk [])])
 | _=>none
def Zh2 (st:St):SV→Option (CT × List (Nat × Ob))
 | .bp k 0=>match st.ob k with | .box _ cs=>(zBox cs).map fun l=>(.pt l,[(k,.gone)]) | _=>none
 | .p false [.c (.pt e)]=>some (.pt e,[])
 | _=>none
where zBox:List AV→Option (List CT)
 | []=>some []
 | .c x::r=>(zBox r).map fun b=>x::b
 | _::_=>none
def ZdM (st:St):List SV→Option (List CT × List (Nat × Ob))
 | []=>some ([],[])
 | x::r=>(Zh2 st x).bind fun a=>(ZdM st r).map fun b=>(a.1::b.1,a.2++b.2)
def ZjO:List AV→Option (List CT)
 | []=>some []
 | .c x::r=>(ZjO r).map fun b=>x::b
 | .nil e m::r=>if 0<m then (ZjO r).map fun b=>.sl e m []::b else none
 | _::_=>none
def ZoS (key:Nat) (t:Option TI):SV→SV→Option (SV × List (Nat × Ob))
 | .p false [.c (.int .i64 n)],.p false [.c (.int .i64 c)]=>
  match t with
  | some (.slice e m _ z)=>(ZjO z).bind fun ze=>if 0≤n∧n=c∧n≤1073741824 then some (.p false [.row key],[(key,.row e m (List.replicate n.toNat ze) 2)]) else none
  | _=>none
 | _,_=>none
def ZrV (i:Nat):SV→Option SV
 | .tup xs=>(xs[i]?).map fun x=>.p x.1 x.2
 | _=>none
def Zbn (v:Option SV):Option (SV × List (Nat × Ob)):=v.map fun v=>(v,[])
def ZkR (st:St):SV→Option SV
 | .p false [.row k]=>match st.ob k with | .row _ _ xs _=>(ZdX xs).map fun l=>.p false [.c (.str (Y9 l))] | _=>none
 | .p false [.c (.sl _ _ xs)]=>(ZdX xs).map fun l=>.p false [.c (.str (Y9 l))]
 | _=>none
def ZnH (tt:Nat→Option TI):Option TI→Option TI
 | some (.slice e _ _ _)=>tt e
 | _=>none
def Zgv (tt:Nat→Option TI) (st:St) (s t:Nat) (x:SV):Option SV:=
 if (ZcI (tt t)&&ZkW (ZnH tt (tt s)))=true then ZkR st x else ZoT (tt s) (tt t) x
def ZhK:List TypeId→List Operand→List (TypeId × Operand)
 | t::ts,x::xs=>(t,x)::ZhK ts xs
 | [],x::xs=>(0,x)::ZhK [] xs
 | _,[]=>[]
def evs (st:St) (ts:List TypeId) (xs:List Operand):List SV:=(ZhK ts xs).map fun p=>st.ev tt p.1 p.2
def Zqb (st:St) (key:Nat) (b:Builtin) (ts:List TypeId) (vs:List SV):Option (SV × List (Nat × Ob)):=
 match b,ts,vs with
 | .len,t::_,[x]=>Zbn (Zqd st (tt t) x)
 | .append,[t,u],[s,x]=>if t=u then ZtI st key (tt t) s x else none
 | .max,_,[x,y]=>Zbn (Zsq false x y)
 | .min,_,[x,y]=>Zbn (Zsq true x y)
 | _,_,_=>none
def opE (key:Nat) (o:Oper) (st:St):Option (SV × List (Nat × Ob)):=
 match o.op with
 | .move x=>some (st.ev tt o.type x,[])
 | .assign x=>some (st.ev tt o.type x,[])
 | .pick c a b=>match st.ev tt 0 c with | .p false [.c (.bool t)]=>some (if t=true then st.ev tt o.type a else st.ev tt o.type b,[]) | _=>none
 | .alloc t=>(Zlo (tt t)).map fun z=>(.bp key 0,[(key,.box t z)])
 | .box t x=>match st.ev tt t x with | .p _ cs=>some (.bp key 0,[(key,.box t cs)]) | _=>none
 | .build t parts=>match tt t with | some (.strct fs _ z)=>(Zif fs z (parts.toList.map (Zfa tt st fs z))).map fun cs=>(.p true cs,[]) | _=>none
 | .buildSlice t len parts=>match tt t with
  | some (.slice e m _ z)=>(Y1 st m (parts.toList.map fun p=>st.ev tt e p.2)).bind fun a=>
   if parts.toList.map (·.1)=List.range len∧len * m≤16777216∧a.2.1.Nodup∧(!z.all ZiB||a.2.1.isEmpty)=true then some (.p false [.row key],ZP st a.2.1++[(key,.row e m a.1 a.2.2)]) else none
  | _=>none
 | .load t x=>Zbn (ZbW st (tt t) (st.ev tt 0 x))
 | .store t x v=>(ZkJ st (tt t) (st.ev tt 0 x) (st.ev tt t v)).map fun u=>(.und,u)
 | .nilCheck x=>match st.ev tt 0 x with | .bp k i=>some (.bp k i,[]) | .rp k m i j=>some (.rp k m i j,[]) | .ep e i=>some (.ep e i,[]) | .p false [.c (.pt e)]=>some (.p false [.c (.pt e)],[]) | _=>none
 | .makeFunc (.func f) first caps=>if first.size=0 then (ZdM st (caps.toList.map (st.ev tt 0))).bind fun r=>if (r.2.map (·.1)).Nodup then some (.p false [.c (.fn f r.1)],r.2) else none else none
 | .makeMap t none=>ZmB key (tt t)
 | .lookup t x i ok=>Zbn (Zjf st (tt t) (st.ev tt 0 x) (st.ev tt 0 i) ok)
 | .mapUpdate t x i v=>(Zrp st (tt t) (st.ev tt 0 x) (st.ev tt 0 i) (st.ev tt 0 v)).map fun u=>(.und,u)
 | .binOp op t x y _=>Zbn (Zr6 tt t (ZiA y) op (st.ev tt t x) (st.ev tt t y))
 | .unOp op _ x=>Zbn (unV op (st.ev tt 0 x))
 | .convert s t x=>Zbn (Zgv tt st s t (st.ev tt 0 x))
 | .makeSlice t n c=>ZoS key (tt t) (st.ev tt 0 n) (st.ev tt 0 c)
 | .slice t x lo hi none=>Zbu st key (tt t) (lo.map (st.ev tt 0)) (hi.map (st.ev tt 0)) (st.ev tt 0 x)
 | .fieldAddr t x f=>match tt t with | some (.strct fs _ _)=>Zbn ((fs[f]?).bind fun i=>Zit i.off (st.ev tt 0 x)) | _=>none
 | .field t x f=>match tt t with | some (.strct fs _ _)=>Zbn (Zkq fs f (st.ev tt 0 x)) | _=>none
 | .indexAddr t x i=>match tt t with | some (.slice _ m _ _)=>Zbn (ZdJ st m (st.ev tt 0 x) (st.ev tt 0 i)) | _=>none
 | .index t x i=>Zbn (ZkU (tt t) (st.ev tt 0 x) (st.ev tt 0 i))
 | .extract x i=>Zbn (ZrV i (st.ev tt 0 x))
 | .call c=>match c.callee with
  | .builtin b=>Zqb tt st key b c.argTypes.toList (evs tt st c.argTypes.toList c.args.toList)
  | _=>none
 | _=>none
end
def Zch (st:St):AV→Option CT
 | .c x=>some x
 | .nil e m=>if 0<m then some (.sl e m []) else none
 | .row k=>match st.ob k with | .row e m xs _=>some (.sl e m xs) | _=>none
 | .n x=>some x
 | .dead=>none
def Y2 (st:St):List AV→Option (List CT)
 | []=>some []
 | x::r=>(Zch st x).bind fun a=>(Y2 st r).map fun b=>a::b
def ZdH (st:St):SV→Option (Bool × List CT)
 | .p a cs=>(Y2 st cs).map fun l=>(a,l)
 | _=>none
def Yc (st:St):List SV→Option (List (Bool × List CT))
 | []=>some []
 | x::r=>(ZdH st x).bind fun a=>(Yc st r).map fun b=>a::b
abbrev RT:=Bool × List (Bool × CT)
def Zzy (l:List CT):List (Bool × CT):=l.map fun x=>(false,x)
def Zyf (l:List CT):List (Bool × CT):=l.map fun x=>(true,x)
def Z8 (key:Nat):List (Bool × CT)→List AV × List (Nat × Ob) × Nat
 | []=>([],[],key)
 | (false,.sl e m xs)::r=>let b:=Z8 (key+1) r;(.row key::b.1,(key,.row e m xs 2)::b.2.1,b.2.2)
 | (false,.int k n)::r=>let b:=Z8 key r;(.c (.int k n)::b.1,b.2.1,b.2.2)
 | (false,.bool k)::r=>let b:=Z8 key r;(.c (.bool k)::b.1,b.2.1,b.2.2)
 | (false,.str s)::r=>let b:=Z8 key r;(.c (.str s)::b.1,b.2.1,b.2.2)
 | (false,.ifc x)::r=>let b:=Z8 key r;(.c (.ifc x)::b.1,b.2.1,b.2.2)
 | (false,.any)::r=>let b:=Z8 key r;(.c .any::b.1,b.2.1,b.2.2)
 | (false,.pt x)::r=>let b:=Z8 key r;(.c (.pt x)::b.1,b.2.1,b.2.2)
 | (false,.fn f x)::r=>let b:=Z8 key r;(.c (.fn f x)::b.1,b.2.1,b.2.2)
 | (false,.mp k v x)::r=>let b:=Z8 key r;(.c (.mp k v x)::b.1,b.2.1,b.2.2)
 | (true,x)::r=>let b:=Z8 key r;(.c x::b.1,b.2.1,b.2.2)
def ZD (key:Nat):List RT→List (Bool × List AV) × List (Nat × Ob) × Nat
 | []=>([],[],key)
 | x::r=>let a:=Z8 key x.2;let b:=ZD a.2.2 r;((x.1,a.1)::b.1,a.2.1++b.2.1,b.2.2)
def Zdo:List (Bool × List AV)→SV
 | [x]=>.p x.1 x.2
 | xs=>.tup xs
inductive Zli where
 | row (e m:Nat) (xs:List (List CT))
 | box (t:Nat) (cs:List CT)
inductive NB where
 | box (t:Nat) (cs:List CT)
 | map (kk vk:PK) (kv:List (Value × Value))
def Zx1 (key:Nat):NB→SV
 | .box _ _=>.bp key 0
 | .map _ _ _=>.p false [.row key]
def Zsb:NB→Ob
 | .box t cs=>.box t (cs.map .c)
 | .map kk vk kv=>.map kk vk kv
structure Ctx where
 r:FuncId→List (Bool × List CT)→List RT→Prop
 h:FuncId→Zli→List (Bool × List CT)→List RT→Zli→Prop
 hd:FuncId→Nat
 b:FuncId→List (Bool × List CT)→NB→Prop
def ZaX:AV→Bool
 | .row _=>false
 | .dead=>false
 | _=>true
def Zik:SV→Bool
 | .p _ cs=>cs.all ZaX
 | _=>true
def Zbs:List (Bool × CT)→Bool
 | []=>false
 | p::r=>p.1||Zbs r
def Zc6:List RT→Bool
 | []=>false
 | x::r=>Zbs x.2||Zc6 r
def Zg1:List AV→List Nat
 | []=>[]
 | .row k::r=>k::Zg1 r
 | _::r=>Zg1 r
def Z4:List SV→List Nat
 | []=>[]
 | .p _ cs::r=>Zg1 cs++Z4 r
 | _::r=>Z4 r
def ZfR (st:St):SV→Option (Nat × Zli)
 | .bp k 0=>match st.ob k with | .box t cs=>(if cs.all ZaX=true then (Y2 st cs).map fun l=>(k,.box t l) else none) | _=>none
 | .p false [.row k]=>match st.ob k with | .row e m xs d=>(if d=2∧Zaz xs=true then some (k,.row e m xs) else none) | _=>none
 | _=>none
def Zdn:Zli→Ob
 | .row e m xs=>.row e m xs 2
 | .box t cs=>.box t (cs.map .c)
inductive Ex where
 | normal
 | exit (id:Nat)
 | ret
section
variable (tt:Nat→Option TI) (S:Ctx)
def YS {α:Type} (r:Option α) (K:α→Prop):Prop:=match r with | some v=>K v | none=>False
def Zgp (dst:Option Nat) (K:St→Prop) (st:St) (v:SV):Prop:=K (st.put dst v)
def ZjP (dst:Option Nat) (K:St→Prop) (st:St) (r:SV × List (Nat × Ob)):Prop:=K ((st.put dst r.1).app r.2)
def Zr7 (f:FuncId) (key:Nat) (dst:Option Nat) (K:St→Prop) (st:St) (vs:List SV) (l:List (Bool × List CT)):Prop:=
 ∃res,S.r f l res∧(!Zc6 res||vs.all Zik)=true∧(ZD key res).2.2≤key+16∧K ((st.put dst (Zdo (ZD key res).1)).app (ZD key res).2.1)
def Zuq (f:FuncId) (key:Nat) (dst:Option Nat) (K:St→Prop) (st:St) (vs:List SV) (l:List (Bool × List CT)):Prop:=
 ∃res,S.r f l res∧(ZD key res).2.2≤key+16∧K ((st.put dst (Zdo (ZD key res).1)).app (ZP st (Z4 vs)++(ZD key res).2.1))
def ZsB (f:FuncId) (key:Nat) (dst:Option Nat) (K:St→Prop) (st:St) (vs:List SV) (kh:Nat × Zli) (l:List (Bool × List CT)):Prop:=
 ∃res h',S.h f kh.2 l res h'∧(Z4 vs).all (fun j=>j != kh.1)=true∧(ZD key res).2.2≤key+16∧K ((st.put dst (Zdo (ZD key res).1)).app (ZP st (Z4 vs)++((kh.1,Zdn h')::(ZD key res).2.1)))
def Zwf (f:FuncId) (key:Nat) (dst:Option Nat) (K:St→Prop) (st:St) (vs:List SV) (l:List (Bool × List CT)):Prop:=
 ∃nb,S.b f l nb∧K ((st.put dst (Zx1 key nb)).app (ZP st (Z4 vs)++[(key,Zsb nb)]))
def Zqz (f:FuncId) (key:Nat) (dst:Option Nat) (K:St→Prop) (st:St):List SV→Prop
 | []=>False
 | v::r=>YS (ZfR st v) fun kh=>YS (Yc st r) (ZsB S f key dst K st r kh)
def spK (f:FuncId) (n key:Nat) (dst:Option Nat) (K:St→Prop) (st:St) (vs:List SV):Prop:=
 match n with
 | 0=>YS (Yc st vs) (Zr7 S f key dst K st vs)
 | 1=>Zqz S f key dst K st vs
 | 3=>YS (Yc st vs) (Zwf S f key dst K st vs)
 | _=>YS (Yc st vs) (Zuq S f key dst K st vs)
def Qw:Op→Option (FuncId × List TypeId × List Operand)
 | .call ⟨.value (.func f),args,ts⟩=>some (f,ts.toList,args.toList)
 | _=>none
def Xr:Op→Option (Nat × List TypeId × List Operand)
 | .call ⟨.value (.tmp s),args,ts⟩=>some (s,ts.toList,args.toList)
 | _=>none
def Zmz:SV→Option (FuncId × List CT)
 | .p false [.c (.fn f es)]=>some (f,es)
 | .fn f=>some (f,[])
 | _=>none
def Zjq (c:CT):SV:=.p false [.c c]
def ZwE (key:Nat) (dst:Option Nat) (K:St→Prop) (st:St) (vs:List SV) (fc:FuncId × List CT):Prop:=S.hd fc.1=0∧spK S fc.1 0 key dst K st (vs++fc.2.map Zjq)
def opS (key:Nat) (o:Oper) (K:St→Prop) (st:St):Prop:=
 match Qw o.op with
 | some c=>spK S c.1 (S.hd c.1) key o.dst K st (evs tt st c.2.1 c.2.2)
 | none=>match Xr o.op with
  | some c=>YS (Zmz (st.sl c.1)) (ZwE S key o.dst K st (evs tt st c.2.1 c.2.2))
  | none=>YS (opE tt key o st) (ZjP o.dst K st)
def Zbk (all:List Oper) (o:Oper):Option (Option Nat × Bool):=
 match o.guard with
 | none=>none
 | some g=>some ((all[g.1]?).bind (·.dst),g.2)
def QO:SV→Bool
 | .p false [.c (.bool _)]=>true
 | _=>false
def X0:SV→Bool
 | .p false [.c (.bool b)]=>b
 | _=>false
def ZoV:SV→Bool
 | .und=>true
 | _=>false
def gK (v:SV) (want:Bool) (A B:Prop):Prop:=if QO v=true then (if (X0 v==want)=true then A else B) else (if ZoV v=true then B else False)
def opG (all:List Oper) (key:Nat) (o:Oper) (K:St→Prop) (st:St):Prop:=
 match Zbk all o with
 | none=>opS tt S key o K st
 | some (none,_)=>K (st.put o.dst .und)
 | some (some t,want)=>gK (st.sl t) want (opS tt S key o K st) (K (st.put o.dst .und))
def Z3 (all:List Oper) (key:Nat):List Oper→(St→Prop)→St→Prop
 | [],K,st=>K st
 | o::r,K,st=>opG tt S all key o (Z3 all (key+16) r K) st
def Zrw (n:Nat) (K:St→Prop) (st:St):Prop:=K { st with n:=n }
def Zw2 (ops:List Oper) (K:St→Prop) (st:St):Prop:=Z3 tt S ops st.n ops (Zrw (st.n+16 * ops.length) K) st
def Zfq (k:St→Prop) (Q:Ex→St→Prop):Ex→St→Prop
 | .normal,st=>k st
 | e,st=>Q e st
def ZfP (id:Nat) (Q:Ex→St→Prop):Ex→St→Prop
 | .exit j,st=>if j=id then Q .normal st else Q (.exit j) st
 | e,st=>Q e st
def Zmj (v:SV) (a b:Prop):Prop:=if QO v=true then (if X0 v=true then a else b) else False
def ZnN:List Nat→Nat→Nat→Option Nat
 | [],_,_=>none
 | x::r,k,i=>if x=k then some i else ZnN r k (i+1)
def rAV (ρ:List Nat):AV→AV
 | .row k=>match ZnN ρ k 0 with | some j=>.row j | none=>.dead
 | x=>x
def rSV (ρ:List Nat):SV→SV
 | .p a cs=>.p a (cs.map (rAV ρ))
 | .tup xs=>.tup (xs.map fun x=>(x.1,x.2.map (rAV ρ)))
 | .bp k off=>match ZnN ρ k 0 with | some j=>.bp j off | none=>.any
 | .rp k m i off=>match ZnN ρ k 0 with | some j=>.rp j m i off | none=>.any
 | x=>x
def rOb (ρ:List Nat):Ob→Ob
 | .box t cs=>.box t (cs.map (rAV ρ))
 | x=>x
def St.ren (st:St) (ρ:List Nat):St:=⟨fun t=>rSV ρ (st.sl t),fun j=>match ρ[j]? with | some k=>rOb ρ (st.ob k) | none=>.gone,ρ.length⟩
def St.mat (st:St) (m:Bool × Nat × Nat):St:=
 match m.1 with
 | false=>match st.sl m.2.1 with
  | .p ag cs=>match cs[m.2.2]? with
   | some (.nil e q)=>if 0<q then ⟨upd st.sl m.2.1 (.p ag (cs.set m.2.2 (.row st.n))),upd st.ob st.n (.row e q [] 2),st.n+1⟩ else st
   | some (.row k)=>match st.ob k with
    | .row e q xs _=>⟨upd st.sl m.2.1 (.p ag (cs.set m.2.2 (.c (.sl e q xs)))),upd st.ob k (.row e q xs 0),st.n⟩
    | _=>st
   | _=>st
  | _=>st
 | true=>match st.ob m.2.1 with
  | .box ty cs=>match cs[m.2.2]? with
   | some (.nil e q)=>if 0<q then ⟨st.sl,upd (upd st.ob m.2.1 (.box ty (cs.set m.2.2 (.row st.n)))) st.n (.row e q [] 2),st.n+1⟩ else st
   | some (.row k)=>match st.ob k with
    | .row e q xs _=>⟨st.sl,upd (upd st.ob k (.row e q xs 0)) m.2.1 (.box ty (cs.set m.2.2 (.c (.sl e q xs)))),st.n⟩
    | _=>st
   | _=>st
  | .row e q xs d=>if m.2.2<d then ⟨st.sl,upd st.ob m.2.1 (.row e q xs m.2.2),st.n⟩ else st
  | _=>st
def St.matN (st:St) (m:Bool × Nat × Nat):St:=
 match st.sl m.2.1 with
 | .p ag cs=>match cs[m.2.2 - 4096]? with
  | some (.row k)=>match st.ob k with
   | .row e q xs d=>if d=2 then ⟨upd st.sl m.2.1 (.p ag (cs.set (m.2.2 - 4096) (.n (.sl e q xs)))),upd st.ob k (.row e q xs 0),st.n⟩ else st
   | _=>st
  | _=>st
 | _=>st
def St.mats (st:St):List (Bool × Nat × Nat)→St
 | []=>st
 | m::r=>(if m.1=false∧4096≤m.2.2 then st.matN m else st.mat m).mats r
/- no slice and no text is longer than Go allows, at any depth -/
mutual
def ctD:CT→Prop
 | .sl _ _ xs=>xs.length≤9223372036854775807∧essD xs
 | .pt es=>ctsD es
 | .fn _ es=>ctsD es
 | .str s=>s.size≤9223372036854775807
 | _=>True
def ctsD:List CT→Prop
 | []=>True
 | x::r=>ctD x∧ctsD r
def essD:List (List CT)→Prop
 | []=>True
 | e::r=>ctsD e∧essD r
end
def avD:AV→Prop
 | .c x=>ctD x
 | .n x=>ctD x
 | _=>True
def Zsw:List AV→Prop
 | []=>True
 | x::r=>avD x∧Zsw r
structure WF (st:St):Prop where
 sl:∀t a cs,st.sl t=.p a cs→Zsw cs
 box:∀k t cs,st.ob k=.box t cs→Zsw cs
 row:∀k e m xs d,st.ob k=.row e m xs d→xs.length≤9223372036854775807∧essD xs
theorem Zqr {α:Type} {g:α→List CT}:∀{l:List α} {i:Nat} {x:α},essD (l.map g)→l[i]?=some x→ctsD (g x)
 | [],_,_,_,h=>by simp at h
 | _::_,0,_,h,e=>by simp at e;subst e;exact h.1
 | _::_,i+1,_,h,e=>Zqr h.2 (by simpa using e)
def ZiX (F:(Ex→St→Prop)→St→Prop) (Q:Ex→St→Prop):Nat→St→Prop
 | 0,_=>False
 | n+1,st=>∃(ms:List (Bool × Nat × Nat)) (ρ:List Nat),ρ.Nodup∧(WF ((st.mats ms).ren ρ)→F (Zfq (ZiX F Q n) Q) ((st.mats ms).ren ρ))
def swp:Code→(Ex→St→Prop)→St→Prop
 | .skip,Q,st=>Q .normal st
 | .region _ ops _,Q,st=>Zw2 tt S ops.toList (Q .normal) st
 | .seq a b,Q,st=>swp a (Zfq (swp b Q) Q) st
 | .cond c a b,Q,st=>Zmj (st.ev tt 0 c) (swp a Q st) (swp b Q st)
 | .block id b,Q,st=>swp b (ZfP id Q) st
 | .loop b,Q,st=>∃n,ZiX (swp b) Q n st
 | .exit id,Q,st=>Q (.exit id) st
 | .ret,Q,st=>Q .ret st
 | _,_,_=>False
end
def ZeA (st:St):AV→Option ((Bool × CT) × List Nat)
 | .c (.sl e m xs)=>some ((true,.sl e m xs),[])
 | .c (.int k n)=>some ((false,.int k n),[])
 | .c (.bool b)=>some ((false,.bool b),[])
 | .c (.str s)=>some ((false,.str s),[])
 | .nil e m=>if 0<m then some ((false,.sl e m []),[]) else none
 | .c (.ifc x)=>some ((false,.ifc x),[])
 | .c x=>some ((true,x),[])
 | .row k=>match st.ob k with | .row e m xs d=>(if d=2 then some ((false,.sl e m xs),[k]) else some ((true,.sl e m xs),[])) | .map kk vk kv=>some ((true,.mp kk vk kv),[]) | _=>none
 | .n x=>some ((true,x),[])
 | .dead=>some ((true,.any),[])
def Zce (st:St):List AV→Option (List (Bool × CT) × List Nat)
 | []=>some ([],[])
 | x::r=>(ZeA st x).bind fun a=>(Zce st r).map fun b=>(a.1::b.1,a.2++b.2)
def Zb9 (tt:Nat→Option TI) (st:St):List ResultVar→Option (List RT × List Nat)
 | []=>some ([],[])
 | .tmp t::r=>match st.sl t with
  | .p a cs=>(Zce st cs).bind fun x=>(Zb9 tt st r).map fun b=>((a,x.1)::b.1,x.2++b.2)
  | _=>none
 | .cell t ty::r=>match ZbW st (tt ty) (st.sl t) with
  | some (.p a cs)=>(Zce st cs).bind fun x=>(Zb9 tt st r).map fun b=>((a,x.1)::b.1,x.2++b.2)
  | _=>none
def ZqC:CT→Bool
 | .any=>true
 | .int _ _=>false
 | .bool _=>false
 | .str _=>false
 | .sl _ _ _=>false
 | .pt _=>false
 | .fn _ _=>false
 | .mp _ _ _=>false
 | .ifc _=>false
def wk1 (x y:Bool × CT) (R:Prop):Prop:=if ZqC y.2=true then R else x.2=y.2∧(x.1=y.1∨y.1=true)∧R
def wkC:List (Bool × CT)→List (Bool × CT)→Prop
 | [],[]=>True
 | x::r,y::q=>wk1 x y (wkC r q)
 | _,_=>False
def wkR:List RT→List RT→Prop
 | [],[]=>True
 | x::r,y::q=>x.1=y.1∧wkC x.2 y.2∧wkR r q
 | _,_=>False
def Zo (args:List (Bool × List CT)):St:=⟨fun t=>match args[t]? with | some x=>.p x.1 (x.2.map .c) | none=>.und,fun _=>.gone,0⟩
def Zq4 (tt:Nat→Option TI) (rs:List ResultVar) (R:St→List RT→List Nat→Prop):Ex→St→Prop
 | .exit _,_=>False
 | _,st=>match Zb9 tt st rs with | some x=>x.2.Nodup∧R st x.1 x.2 | none=>False
def fnS (tt:Nat→Option TI) (S:Ctx) (rs:List ResultVar) (body:Code) (args:List (Bool × List CT)) (res:List RT):Prop:=swp tt S body (Zq4 tt rs fun _ r _=>wkR r res) (Zo args)
def ZsR (st:St) (ks:List Nat) (h':Zli):Prop:=
 match h' with
 | .row e m xs=>∃k,st.sl 0=.p false [.row k]∧st.ob k=.row e m xs 2∧Zaz xs=true∧k∉ks
 | .box t cs=>∃k ds,st.sl 0=.bp k 0∧st.ob k=.box t ds∧ds.all ZaX=true∧Y2 st ds=some cs
def Ze2 (st:St) (rs:List ResultVar) (nb:NB):Prop:=
 match rs with
 | [.tmp s]=>(match nb with
  | .box t cs=>∃k ds,st.sl s=.bp k 0∧st.ob k=.box t ds∧ds.all ZaX=true∧Y2 st ds=some cs
  | .map kk vk kv=>∃k,st.sl s=.p false [.row k]∧st.ob k=.map kk vk kv)
 | _=>False
def Zt3 (rs:List ResultVar) (nb:NB):Ex→St→Prop
 | .exit _,_=>False
 | _,st=>Ze2 st rs nb
def hbO (st:St) (t:Nat) (cs:List CT):Ob→Prop
 | .box t' ds=>t'=t∧ds.all ZaX=true∧Y2 st ds=some cs
 | _=>False
def hbS (st:St) (t:Nat) (cs:List CT):SV→Prop
 | .bp k 0=>hbO st t cs (st.ob k)
 | _=>False
theorem Zqs {st:St} {t:Nat} {cs:List CT} {v:SV}:hbS st t cs v↔∃k ds,v=.bp k 0∧st.ob k=.box t ds∧ds.all ZaX=true∧Y2 st ds=some cs:=by
 constructor
 ·intro h
  unfold hbS at h
  split at h
  ·rename_i k
   unfold hbO at h
   split at h
   ·rename_i t' ds hk
    obtain ⟨rfl,h2,h3⟩:=h
    exact ⟨k,ds,rfl,hk,h2,h3⟩
   ·exact h.elim
  ·exact h.elim
 ·rintro ⟨k,ds,rfl,h1,h2,h3⟩
  show hbO st t cs (st.ob k)
  rw [h1]
  exact ⟨rfl,h2,h3⟩
theorem Znx {st:St} {ks:List Nat} {t:Nat} {cs:List CT}:ZsR st ks (.box t cs)=hbS st t cs (st.sl 0):=propext Zqs.symm
theorem Zn0 {st:St} {s t:Nat} {cs:List CT}:Ze2 st [.tmp s] (.box t cs)=hbS st t cs (st.sl s):=propext Zqs.symm
def mbO (kk vk:PK) (kv:List (Value × Value)):Ob→Prop
 | .map kk' vk' kv'=>kk'=kk∧vk'=vk∧kv'=kv
 | _=>False
def mbS (st:St) (kk vk:PK) (kv:List (Value × Value)):SV→Prop
 | .p false [.row k]=>mbO kk vk kv (st.ob k)
 | _=>False
theorem Zt6 {st:St} {kk vk:PK} {kv:List (Value × Value)} {v:SV}:mbS st kk vk kv v↔∃k,v=.p false [.row k]∧st.ob k=.map kk vk kv:=by
 constructor
 ·intro h
  unfold mbS at h
  split at h
  ·rename_i k
   unfold mbO at h
   split at h
   ·rename_i a b c hk
    obtain ⟨rfl,rfl,rfl⟩:=h
    exact ⟨k,rfl,hk⟩
   ·exact h.elim
  ·exact h.elim
 ·rintro ⟨k,rfl,h1⟩
  show mbO kk vk kv (st.ob k)
  rw [h1]
  exact ⟨rfl,rfl,rfl⟩
theorem ZoE {st:St} {s:Nat} {kk vk:PK} {kv:List (Value × Value)}:Ze2 st [.tmp s] (.map kk vk kv)=mbS st kk vk kv (st.sl s):=propext Zt6.symm
theorem Zt0 {st:St} {k:Nat} {kk vk:PK} {kv:List (Value × Value)}:mbS st kk vk kv (.p false [.row k])=mbO kk vk kv (st.ob k):=_root_.id rfl
theorem ZtW {kk vk kk' vk':PK} {kv kv':List (Value × Value)}:mbO kk vk kv (.map kk' vk' kv')=(kk'=kk∧vk'=vk∧kv'=kv):=_root_.id rfl
theorem ZvA {st:St} {t k:Nat} {cs:List CT}:hbS st t cs (.bp k 0)=hbO st t cs (st.ob k):=_root_.id rfl
theorem ZtP {st:St} {t t':Nat} {cs:List CT} {ds:List AV}:hbO st t cs (.box t' ds)=(t'=t∧ds.all ZaX=true∧Y2 st ds=some cs):=_root_.id rfl
theorem Zsd {rs:List ResultVar} {nb:NB} {st:St}:Zt3 rs nb .ret st=Ze2 st rs nb:=_root_.id rfl
theorem ZrR {rs:List ResultVar} {nb:NB} {st:St}:Zt3 rs nb .normal st=Ze2 st rs nb:=_root_.id rfl
def fnB (tt:Nat→Option TI) (S:Ctx) (rs:List ResultVar) (body:Code) (args:List (Bool × List CT)) (nb:NB):Prop:=swp tt S body (Zt3 rs nb) (Zo args)
def ZqR (k:Nat):Ob→AV
 | .row _ _ _ d=>if d=2 then .row k else .dead
 | .gone=>.dead
 | .box _ _=>.dead
 | .map _ _ _=>.dead
def ZhB (st:St):AV→AV
 | .c (.int k n)=>.c (.int k n)
 | .c (.bool b)=>.c (.bool b)
 | .c (.str s)=>.c (.str s)
 | .row k=>ZqR k (st.ob k)
 | _=>.dead
def ZmN (st:St):SV→SV
 | .p ag cs=>.p ag (cs.map (ZhB st))
 | .bp k off=>.bp k off
 | _=>.any
def Zaa (st:St):Ob→Ob
 | .row e m xs d=>if d=2 then .row e m xs d else .gone
 | .gone=>.gone
 | .box t cs=>.box t (cs.map (ZhB st))
 | .map _ _ _=>.gone
def Zo9 (st:St) (t:Nat):SV→St
 | .p false [.n (.sl e m xs)]=>⟨fun s=>if s=t then .p false [.row st.n] else ZmN st (st.sl s),fun k=>if k=st.n then .row e m xs 2 else Zaa st (st.ob k),st.n+1⟩
 | _=>st
def St.thaw (st:St) (t:Nat):St:=Zo9 st t (st.sl t)
def ZtC (t:Nat) (Q:Ex→St→Prop):Ex→St→Prop
 | e,st=>Q e (st.thaw t)
def fnN (tt:Nat→Option TI) (S:Ctx) (rs:List ResultVar) (t:Nat) (body:Code) (args:List (Bool × List CT)) (res:List RT):Prop:=swp tt S body (ZtC t (Zq4 tt rs fun _ r _=>wkR r res)) (Zo args)
theorem Zt5 (sl:Nat→SV) (ob:Nat→Ob) (n t:Nat):St.thaw ⟨sl,ob,n⟩ t=Zo9 ⟨sl,ob,n⟩ t (sl t):=_root_.id rfl
theorem Zui (t:Nat) (Q:Ex→St→Prop) (e:Ex) (st:St):ZtC t Q e st=Q e (st.thaw t):=_root_.id rfl
end Go.Proofs.YtojnhepgnbhaaaaGreatDoor
namespace Go.Proofs.YtojnhepgnbhaaaaGreatDoor
section
variable {tt:Nat→Option TI} {S:Ctx} {all:List Oper} {key:Nat} {d:Option Nat} {ty:TypeId} {pos:String} {af:Array Edge} {r:List Oper} {K:St→Prop} {st:St}
theorem ZwJ:Z3 tt S all key [] K st=K st:=_root_.id rfl
theorem Ztu (x:Operand):Z3 tt S all key (⟨d,.move x,ty,pos,af,none⟩::r) K st=Z3 tt S all (key+16) r K (st.put d (st.ev tt ty x)):=_root_.id rfl
theorem Zri (x:Operand):Z3 tt S all key (⟨d,.assign x,ty,pos,af,none⟩::r) K st=Z3 tt S all (key+16) r K (st.put d (st.ev tt ty x)):=_root_.id rfl
def Zmd (v a b:SV) (K:SV→Prop):Prop:=if QO v=true then (if X0 v=true then K a else K b) else False
theorem Zzu (a b:SV) (K:SV→Prop):Zmd (.p false [.c (.bool true)]) a b K=K a:=by simp [Zmd,QO,X0]
theorem ZzP (a b:SV) (K:SV→Prop):Zmd (.p false [.c (.bool false)]) a b K=K b:=by simp [Zmd,QO,X0]
theorem ZtZ (c a b:Operand):Z3 tt S all key (⟨d,.pick c a b,ty,pos,af,none⟩::r) K st=Zmd (st.ev tt 0 c) (st.ev tt ty a) (st.ev tt ty b) (Zgp d (Z3 tt S all (key+16) r K) st):=by
 simp only [Z3,opG,Zbk,opS,Qw,Xr,opE,Zmd]
 generalize st.ev tt 0 c=v
 unfold QO
 split
 ·simp only [X0,YS,if_true]
  split<;>simp [ZjP,Zgp,St.app,Zk, *]
 ·simp [YS]
theorem Ztk (t:TypeId):Z3 tt S all key (⟨d,.alloc t,ty,pos,af,none⟩::r) K st=YS ((Zlo (tt t)).map fun z=>(SV.bp key 0,[(key,Ob.box t z)])) (ZjP d (Z3 tt S all (key+16) r K) st):=_root_.id rfl
def Zzn (key:Nat) (t:TypeId):SV→Option (SV × List (Nat × Ob))
 | .p _ cs=>some (.bp key 0,[(key,.box t cs)])
 | _=>none
theorem Zvr (t:TypeId) (x:Operand):Z3 tt S all key (⟨d,.box t x,ty,pos,af,none⟩::r) K st=YS (Zzn key t (st.ev tt t x)) (ZjP d (Z3 tt S all (key+16) r K) st):=_root_.id rfl
def ZpT (tt:Nat→Option TI) (st:St) (parts:List (Nat × Operand)):Option TI→Option SV
 | some (.strct fs _ z)=>(Zif fs z (parts.map (Zfa tt st fs z))).map (.p true)
 | _=>none
theorem Zaq (v:Option SV):YS (Zbn v) (ZjP d K st)=YS v (Zgp d K st):=by cases v<;>rfl
theorem ZsN (t:TypeId) (parts:Array (Nat × Operand)):Z3 tt S all key (⟨d,.build t parts,ty,pos,af,none⟩::r) K st=YS (ZpT tt st parts.toList (tt t)) (Zgp d (Z3 tt S all (key+16) r K) st):=by
 rw [←Zaq]
 simp only [Z3,opG,Zbk,opS,Qw,Xr,opE,ZpT]
 cases tt t with
 | none=>rfl
 | some ti=>cases ti<;>first | rfl | (simp [Zbn,Option.map_map];rfl)
def ZwY (st:St) (key len:Nat) (is:List Nat) (xs:List SV) (e:Nat):Option TI→Option (SV × List (Nat × Ob))
 | some (.slice _ m _ z)=>(Y1 st m xs).bind fun a=>if is=List.range len∧len * m≤16777216∧a.2.1.Nodup∧(!z.all ZiB||a.2.1.isEmpty)=true then some (.p false [.row key],ZP st a.2.1++[(key,.row e m a.1 a.2.2)]) else none
 | _=>none
def Zm9:Option TI→Nat
 | some (.slice e _ _ _)=>e
 | _=>0
theorem Zwx (t:TypeId) (len:Nat) (parts:Array (Nat × Operand)):Z3 tt S all key (⟨d,.buildSlice t len parts,ty,pos,af,none⟩::r) K st=YS (ZwY st key len (parts.toList.map (·.1)) (parts.toList.map fun p=>st.ev tt (Zm9 (tt t)) p.2) (Zm9 (tt t)) (tt t)) (ZjP d (Z3 tt S all (key+16) r K) st):=by
 simp only [Z3,opG,Zbk,opS,Qw,Xr,opE,ZwY,Zm9]
 cases tt t with
 | none=>rfl
 | some ti=>cases ti<;>rfl
theorem Zua (t:TypeId) (x:Operand):Z3 tt S all key (⟨d,.load t x,ty,pos,af,none⟩::r) K st=YS (ZbW st (tt t) (st.ev tt 0 x)) (Zgp d (Z3 tt S all (key+16) r K) st):=Zaq _
def Zxo (d:Option Nat) (K:St→Prop) (st:St) (u:List (Nat × Ob)):Prop:=K ((st.put d .und).app u)
theorem ZsF (t:TypeId) (x v:Operand):Z3 tt S all key (⟨d,.store t x v,ty,pos,af,none⟩::r) K st=YS (ZkJ st (tt t) (st.ev tt 0 x) (st.ev tt t v)) (Zxo d (Z3 tt S all (key+16) r K) st):=by
 simp only [Z3,opG,Zbk,opS,Qw,Xr,opE]
 cases ZkJ st (tt t) (st.ev tt 0 x) (st.ev tt t v)<;>rfl
def ZvJ:SV→Option SV
 | .bp k i=>some (.bp k i)
 | .rp k m i j=>some (.rp k m i j)
 | .ep e i=>some (.ep e i)
 | .p false [.c (.pt e)]=>some (.p false [.c (.pt e)])
 | _=>none
theorem Zv5 (x:Operand):Z3 tt S all key (⟨d,.nilCheck x,ty,pos,af,none⟩::r) K st=YS (ZvJ (st.ev tt 0 x)) (Zgp d (Z3 tt S all (key+16) r K) st):=by
 simp only [Z3,opG,Zbk,opS,Qw,Xr,opE,←Zaq,ZvJ]
 generalize st.ev tt 0 x=v
 cases v with
 | p ag cs=>cases ag with
  | true=>rfl
  | false=>cases cs with
   | nil=>rfl
   | cons y r=>cases r<;>cases y<;>first | rfl | (rename_i z;cases z<;>rfl) | (rename_i z _ _;cases z<;>rfl)
 | _=>rfl
theorem Zv4 (op:BinOp) (t u:TypeId) (x y:Operand):Z3 tt S all key (⟨d,.binOp op t x y u,ty,pos,af,none⟩::r) K st=YS (Zr6 tt t (ZiA y) op (st.ev tt t x) (st.ev tt t y)) (Zgp d (Z3 tt S all (key+16) r K) st):=Zaq _
theorem Zzf (op:UnOp) (t:TypeId) (x:Operand):Z3 tt S all key (⟨d,.unOp op t x,ty,pos,af,none⟩::r) K st=YS (unV op (st.ev tt 0 x)) (Zgp d (Z3 tt S all (key+16) r K) st):=Zaq _
theorem ZtT (s t:TypeId) (x:Operand):Z3 tt S all key (⟨d,.convert s t x,ty,pos,af,none⟩::r) K st=YS (Zgv tt st s t (st.ev tt 0 x)) (Zgp d (Z3 tt S all (key+16) r K) st):=Zaq _
theorem Ztm (t:TypeId) (n c:Operand):Z3 tt S all key (⟨d,.makeSlice t n c,ty,pos,af,none⟩::r) K st=YS (ZoS key (tt t) (st.ev tt 0 n) (st.ev tt 0 c)) (ZjP d (Z3 tt S all (key+16) r K) st):=_root_.id rfl
theorem Zr9 (t:TypeId) (x:Operand) (lo hi:Option Operand):Z3 tt S all key (⟨d,.slice t x lo hi none,ty,pos,af,none⟩::r) K st=YS (Zbu st key (tt t) (lo.map (st.ev tt 0)) (hi.map (st.ev tt 0)) (st.ev tt 0 x)) (ZjP d (Z3 tt S all (key+16) r K) st):=_root_.id rfl
def Zwg (fs:Option TI) (f:Nat):Option Nat:=match fs with | some (.strct fs _ _)=>(fs[f]?).map FI.off | _=>none
def Zwr (fs:Option TI) (f:Nat) (v:SV):Option SV:=(Zwg fs f).bind fun o=>Zit o v
theorem Zu1 (t:TypeId) (x:Operand) (f:Nat):Z3 tt S all key (⟨d,.fieldAddr t x f,ty,pos,af,none⟩::r) K st=YS (Zwr (tt t) f (st.ev tt 0 x)) (Zgp d (Z3 tt S all (key+16) r K) st):=by
 rw [←Zaq]
 simp only [Z3,opG,Zbk,opS,Qw,Xr,opE,Zwr,Zwg]
 cases tt t with
 | none=>rfl
 | some ti=>cases ti<;>first | rfl | (simp only [Option.bind_map];rfl)
def ZuU (fs:Option TI) (f:Nat) (v:SV):Option SV:=match fs with | some (.strct fs _ _)=>Zkq fs f v | _=>none
theorem Zvl (t:TypeId) (x:Operand) (f:Nat):Z3 tt S all key (⟨d,.field t x f,ty,pos,af,none⟩::r) K st=YS (ZuU (tt t) f (st.ev tt 0 x)) (Zgp d (Z3 tt S all (key+16) r K) st):=by
 rw [←Zaq]
 simp only [Z3,opG,Zbk,opS,Qw,Xr,opE,ZuU]
 cases tt t with
 | none=>rfl
 | some ti=>cases ti<;>rfl
def Zwl (st:St) (t:Option TI) (x i:SV):Option SV:=match t with | some (.slice _ m _ _)=>ZdJ st m x i | _=>none
theorem Zvv (t:TypeId) (x i:Operand):Z3 tt S all key (⟨d,.indexAddr t x i,ty,pos,af,none⟩::r) K st=YS (Zwl st (tt t) (st.ev tt 0 x) (st.ev tt 0 i)) (Zgp d (Z3 tt S all (key+16) r K) st):=by
 rw [←Zaq]
 simp only [Z3,opG,Zbk,opS,Qw,Xr,opE,Zwl]
 cases tt t with
 | none=>rfl
 | some ti=>cases ti<;>rfl
theorem Zxl (t:TypeId) (x i:Operand):Z3 tt S all key (⟨d,.index t x i,ty,pos,af,none⟩::r) K st=YS (ZkU (tt t) (st.ev tt 0 x) (st.ev tt 0 i)) (Zgp d (Z3 tt S all (key+16) r K) st):=Zaq _
theorem Zwy (x:Operand) (i:Nat):Z3 tt S all key (⟨d,.extract x i,ty,pos,af,none⟩::r) K st=YS (ZrV i (st.ev tt 0 x)) (Zgp d (Z3 tt S all (key+16) r K) st):=Zaq _
theorem Zwj (b:Builtin) (args:Array Operand) (ts:Array TypeId):Z3 tt S all key (⟨d,.call ⟨.builtin b,args,ts⟩,ty,pos,af,none⟩::r) K st=YS (Zqb tt st key b ts.toList (evs tt st ts.toList args.toList)) (ZjP d (Z3 tt S all (key+16) r K) st):=_root_.id rfl
def Zzd (f:FuncId) (n:Nat) (st:St) (vs:List SV):Option (SV × List (Nat × Ob)):=if n=0 then (ZdM st vs).bind fun r=>if (r.2.map (·.1)).Nodup then some (.p false [.c (.fn f r.1)],r.2) else none else none
theorem Zwc (f:FuncId) (first caps:Array Operand):Z3 tt S all key (⟨d,.makeFunc (.func f) first caps,ty,pos,af,none⟩::r) K st=YS (Zzd f first.size st (caps.toList.map (st.ev tt 0))) (ZjP d (Z3 tt S all (key+16) r K) st):=_root_.id rfl
theorem Zu7 (t:TypeId):Z3 tt S all key (⟨d,.makeMap t none,ty,pos,af,none⟩::r) K st=YS (ZmB key (tt t)) (ZjP d (Z3 tt S all (key+16) r K) st):=_root_.id rfl
theorem ZtD (t:TypeId) (x i:Operand) (ok:Bool):Z3 tt S all key (⟨d,.lookup t x i ok,ty,pos,af,none⟩::r) K st=YS (Zjf st (tt t) (st.ev tt 0 x) (st.ev tt 0 i) ok) (Zgp d (Z3 tt S all (key+16) r K) st):=Zaq _
theorem ZxS (t:TypeId) (x i v:Operand):Z3 tt S all key (⟨d,.mapUpdate t x i v,ty,pos,af,none⟩::r) K st=YS (Zrp st (tt t) (st.ev tt 0 x) (st.ev tt 0 i) (st.ev tt 0 v)) (Zxo d (Z3 tt S all (key+16) r K) st):=by
 simp only [Z3,opG,Zbk,opS,Qw,Xr,opE]
 cases Zrp st (tt t) (st.ev tt 0 x) (st.ev tt 0 i) (st.ev tt 0 v)<;>rfl
theorem ZvW (s:Nat) (args:Array Operand) (ts:Array TypeId):Z3 tt S all key (⟨d,.call ⟨.value (.tmp s),args,ts⟩,ty,pos,af,none⟩::r) K st=YS (Zmz (st.sl s)) (ZwE S key d (Z3 tt S all (key+16) r K) st (evs tt st ts.toList args.toList)):=_root_.id rfl
theorem Zt8 (vs:List SV) (f:FuncId) (es:List CT):ZwE S key d K st vs (f,es)=(S.hd f=0∧spK S f 0 key d K st (vs++es.map Zjq)):=_root_.id rfl
theorem Ztt (f:FuncId) (args:Array Operand) (ts:Array TypeId):Z3 tt S all key (⟨d,.call ⟨.value (.func f),args,ts⟩,ty,pos,af,none⟩::r) K st=spK S f (S.hd f) key d (Z3 tt S all (key+16) r K) st (evs tt st ts.toList args.toList):=_root_.id rfl
theorem ZzC (f:FuncId) (vs:List SV):spK S f 0 key d K st vs=YS (Yc st vs) (Zr7 S f key d K st vs):=_root_.id rfl
theorem ZzO (f:FuncId) (v:SV) (vs:List SV):spK S f 1 key d K st (v::vs)=YS (ZfR st v) fun kh=>YS (Yc st vs) (ZsB S f key d K st vs kh):=_root_.id rfl
theorem ZzA (f:FuncId) (vs:List SV):spK S f 3 key d K st vs=YS (Yc st vs) (Zwf S f key d K st vs):=_root_.id rfl
theorem ZzG (f:FuncId) (vs:List SV):spK S f 2 key d K st vs=YS (Yc st vs) (Zuq S f key d K st vs):=_root_.id rfl
def gOf (all:List Oper) (j:Nat):Option Nat:=(all[j]?).bind (·.dst)
def gL (tt:Nat→Option TI) (S:Ctx) (all:List Oper) (key:Nat) (v:SV) (w:Bool) (o:Oper) (r:List Oper) (K:St→Prop) (st:St):Prop:=gK v w (Z3 tt S all key (o::r) K st) (Z3 tt S all (key+16) r K (st.put o.dst .und))
def Zpo (st:St):Option Nat→SV
 | some t=>st.sl t
 | none=>.und
theorem Zp1 (sl:Nat→SV) (ob:Nat→Ob) (n t:Nat):Zpo ⟨sl,ob,n⟩ (some t)=sl t:=_root_.id rfl
theorem ZpX:Zpo st none=.und:=_root_.id rfl
theorem Zsp (op:Op) (j:Nat) (w:Bool):Z3 tt S all key (⟨d,op,ty,pos,af,some (j,w)⟩::r) K st=gL tt S all key (Zpo st (gOf all j)) w ⟨d,op,ty,pos,af,none⟩ r K st:=by
 cases hg:gOf all j with
 | none=>
  have h:Zbk all ⟨d,op,ty,pos,af,some (j,w)⟩=some (none,w):=by simp only [Zbk];rw [show (all[j]?).bind (·.dst)=none from hg]
  simp only [Z3,opG,h,gL,Zpo]
  simp [gK,QO,ZoV]
 | some t=>
  have h:Zbk all ⟨d,op,ty,pos,af,some (j,w)⟩=some (some t,w):=by simp only [Zbk];rw [show (all[j]?).bind (·.dst)=some t from hg]
  simp only [Z3,opG,h,gL,Zpo]
  rfl
theorem Zzr (o:Oper):gL tt S all key (.p false [.c (.bool true)]) true o r K st=Z3 tt S all key (o::r) K st:=by simp [gL,gK,QO,X0]
theorem Zzi (o:Oper):gL tt S all key (.p false [.c (.bool false)]) false o r K st=Z3 tt S all key (o::r) K st:=by simp [gL,gK,QO,X0]
theorem Zx2 (o:Oper):gL tt S all key (.p false [.c (.bool true)]) false o r K st=Z3 tt S all (key+16) r K (st.put o.dst .und):=by simp [gL,gK,QO,X0]
theorem ZyX (o:Oper):gL tt S all key (.p false [.c (.bool false)]) true o r K st=Z3 tt S all (key+16) r K (st.put o.dst .und):=by simp [gL,gK,QO,X0]
theorem ZuM (o:Oper) (w:Bool):gL tt S all key .und w o r K st=Z3 tt S all (key+16) r K (st.put o.dst .und):=by simp [gL,gK,QO,ZoV]
theorem Ztl (v:SV):Zgp d K st v=K (st.put d v):=_root_.id rfl
theorem Zuo (v:SV) (u:List (Nat × Ob)):ZjP d K st (v,u)=K ((st.put d v).app u):=_root_.id rfl
theorem Zty (u:List (Nat × Ob)):Zxo d K st u=K ((st.put d .und).app u):=_root_.id rfl
theorem Zra {α:Type} (v:α) (K:α→Prop):YS (some v) K=K v:=_root_.id rfl
theorem Zrm {α:Type} (K:α→Prop):YS none K=False:=_root_.id rfl
theorem Zup (n m:Nat) (sl:Nat→SV) (ob:Nat→Ob):Zrw n K ⟨sl,ob,m⟩=K ⟨sl,ob,n⟩:=_root_.id rfl
theorem Zt9 (ops:List Oper) (sl:Nat→SV) (ob:Nat→Ob) (n:Nat):Zw2 tt S ops K ⟨sl,ob,n⟩=Z3 tt S ops n ops (Zrw (n+16 * ops.length) K) ⟨sl,ob,n⟩:=_root_.id rfl
theorem Zsu (sl:Nat→SV) (ob:Nat→Ob) (n t:Nat) (v:SV):St.put ⟨sl,ob,n⟩ (some t) v=⟨upd sl t v,ob,n⟩:=_root_.id rfl
theorem ZrW (v:SV):St.put st none v=st:=_root_.id rfl
theorem Ztr (sl:Nat→SV) (ob:Nat→Ob) (n:Nat):St.app ⟨sl,ob,n⟩ []=⟨sl,ob,n⟩:=_root_.id rfl
theorem ZrZ (sl:Nat→SV) (ob:Nat→Ob) (n:Nat) (p:Nat × Ob) (u:List (Nat × Ob)):St.app ⟨sl,ob,n⟩ (p::u)=St.app ⟨sl,upd ob p.1 p.2,n⟩ u:=_root_.id rfl
theorem ZuO {α:Type} (f:Nat→α) (k j:Nat) (v:α):upd f k v j=if j=k then v else f j:=_root_.id rfl
end
section
variable {tt:Nat→Option TI} {S:Ctx} {Q:Ex→St→Prop} {st:St}
theorem ZtA:swp tt S .skip Q st=Q .normal st:=_root_.id rfl
theorem ZqX (id:Nat) (ops:Array Oper) (dr:Bool):swp tt S (.region id ops dr) Q st=Zw2 tt S ops.toList (Q .normal) st:=_root_.id rfl
theorem ZxA (a b:Code):swp tt S (.seq a b) Q st=swp tt S a (Zfq (swp tt S b Q) Q) st:=_root_.id rfl
def Zpl (tt:Nat→Option TI) (S:Ctx) (v:SV) (a b:Code) (Q:Ex→St→Prop) (st:St):Prop:=Zmj v (swp tt S a Q st) (swp tt S b Q st)
theorem ZtF (c:Operand) (a b:Code):swp tt S (.cond c a b) Q st=Zpl tt S (st.ev tt 0 c) a b Q st:=_root_.id rfl
theorem Zzz (a b:Code):Zpl tt S (.p false [.c (.bool true)]) a b Q st=swp tt S a Q st:=by simp [Zpl,Zmj,QO,X0]
theorem Zzv (a b:Code):Zpl tt S (.p false [.c (.bool false)]) a b Q st=swp tt S b Q st:=by simp [Zpl,Zmj,QO,X0]
theorem Ztf (id:Nat) (b:Code):swp tt S (.block id b) Q st=swp tt S b (ZfP id Q) st:=_root_.id rfl
theorem Ztn (id:Nat):swp tt S (.exit id) Q st=Q (.exit id) st:=_root_.id rfl
theorem ZwQ:swp tt S .ret Q st=Q .ret st:=_root_.id rfl
theorem ZzQ (k:St→Prop):Zfq k Q .normal st=k st:=_root_.id rfl
theorem ZzZ (k:St→Prop) (i:Nat):Zfq k Q (.exit i) st=Q (.exit i) st:=_root_.id rfl
theorem Zzt (k:St→Prop):Zfq k Q .ret st=Q .ret st:=_root_.id rfl
theorem ZzR (i:Nat):ZfP i Q .normal st=Q .normal st:=_root_.id rfl
theorem ZzW (i:Nat):ZfP i Q .ret st=Q .ret st:=_root_.id rfl
theorem Zz4 (i j:Nat):ZfP i Q (.exit j) st=if j=i then Q .normal st else Q (.exit j) st:=_root_.id rfl
theorem Zwn (sl:Nat→SV) (ob:Nat→Ob) (n t s:Nat):St.ev tt ⟨sl,ob,n⟩ t (.tmp s)=sl s:=_root_.id rfl
theorem Zs2 (t:Nat) (v:Value):St.ev tt st t (.const v)=cvT (tt t) v:=_root_.id rfl
theorem Ztz (t f:Nat):St.ev tt st t (.func f)=.fn f:=_root_.id rfl
theorem Zz2 (rs:List ResultVar) (R:St→List RT→List Nat→Prop):Zq4 tt rs R .ret st=match Zb9 tt st rs with | some x=>x.2.Nodup∧R st x.1 x.2 | none=>False:=_root_.id rfl
theorem ZzJ (rs:List ResultVar) (R:St→List RT→List Nat→Prop):Zq4 tt rs R .normal st=match Zb9 tt st rs with | some x=>x.2.Nodup∧R st x.1 x.2 | none=>False:=_root_.id rfl
end
attribute [go_sem] ZwJ Ztu Zri ZtZ Ztk Zvr ZsN Zwx Zua ZsF Zv5 Zv4 Zzf ZtT Ztm Zr9 Zu1 Zvl Zvv Zxl Zwy Zwj Ztt Zwc Zu7 ZtD ZxS ZvW Zt8 Zzd ZmB Zjf Zn5 Zrp Zrr ZdD ZdT ZdM Zh2 Zh2.zBox Zmz Zjq eqC Zl6 ZtM Zs9 ZoW Zqm ZiA ZvH Zr8 Zs5 Zr6 ZdX ZkW ZkR ZnH Zgv Zsp Ztl Zuo Zty Zra Zrm Zup Zt9 Zsu ZrW Ztr ZrZ ZuO ZtA ZqX ZxA ZtF Ztf Ztn ZwQ ZzQ ZzZ Zzt ZzR ZzW Zz4 Zwn Zs2 Ztz Zz2 ZzJ Zzu ZzP Zzz Zzv Zzr Zzi Zx2 ZyX ZuM Zp1 ZpX Zzn ZpT ZwY Zm9 ZiB List.all_cons List.all_nil List.isEmpty_nil Bool.true_or Bool.false_or Bool.or_true Bool.or_false Bool.false_and ZvJ Zwg Zwr ZuU Zwl gOf cvT Zlo ZtB Zto Zud unV ZoT Zqd ZdJ ZkU cut ZbW splice Zhf ZkJ Zit Zkq Zif Zfa avT ZeK ZhV Zfb Y1 Zam ZnG Zne ZqQ Zpm ZtI Zsq Zlm Zbu mvS hiB loB Zix ZaZ ZcI ZoS ZrV Zbn Zqb evs Zch Y2 ZdH Yc ZhK ZzC ZzO ZzG ZfR Zdn ZaX Zik Zc6 Zbs Zg1 Z4 Ym ZP Zzy Zyf wkC wkR Znx Zn0 ZoE Zt0 ZtW ZvA ZtP Zsd ZrR ZzA Zui Zt5 Zo9 ZmN ZhB ZqR Zaa ZqC wk1 ZeA Zce Zb9 ZD Z8 Zdo List.length_cons List.length_nil List.length_map List.length_replicate List.getElem?_cons_zero List.getElem?_cons_succ List.getElem?_nil List.map_cons List.map_nil Option.bind_some Option.bind_none Option.map_some Option.map_none List.cons_append List.nil_append List.append_nil List.nodup_nil List.drop_zero List.drop_succ_cons List.drop_nil List.take_succ_cons List.take_zero List.take_nil List.set_cons_zero List.set_cons_succ List.range_zero Bool.and_true Bool.true_and Bool.and_self and_true true_and and_self Nat.zero_le Nat.le_refl beq_self_eq_true Option.getD_some ite_true ite_false Nat.zero_add Nat.lt_add_one Nat.zero_lt_succ eq_self or_false false_or and_false false_and or_self Nat.lt_irrefl true_or or_true List.not_mem_nil List.nodup_cons List.mem_cons Bool.false_eq_true if_true if_false decide_true decide_false Bool.not_true Bool.not_false Int.toNat_natCast ne_eq not_true_eq_false not_false_eq_true
end Go.Proofs.YtojnhepgnbhaaaaGreatDoor
namespace Go.Proofs.YtojnhepgnbhaaaaGreatDoor
open Go.RowKit
section
variable {tt:Nat→Option TI} {S:Ctx}
theorem ZaA {α:Type} {r:Option α} {K K':α→Prop} (h:∀x,K x→K' x) (hh:YS r K):YS r K':=by
 cases r with
 | none=>exact hh
 | some v=>exact h v hh
theorem Zop {key:Nat} {o:Oper} {K K':St→Prop} {st:St} (h:∀st,K st→K' st) (hh:opS tt S key o K st):opS tt S key o K' st:=by
 unfold opS at hh ⊢
 split
 ·rename_i c hc
  rw [hc] at hh
  simp only [spK] at hh ⊢
  split
  ·rename_i e
   rw [e] at hh
   exact ZaA (fun l ⟨res,h1,h2,h3,h4⟩=>⟨res,h1,h2,h3,h _ h4⟩) hh
  ·rename_i e
   rw [e] at hh
   simp only [Zqz] at hh ⊢
   split
   ·rename_i e2;rw [e2] at hh;exact hh
   ·rename_i e2
    rw [e2] at hh
    exact ZaA (fun kh=>ZaA fun l ⟨res,h',h1,h2,h3,h4⟩=>⟨res,h',h1,h2,h3,h _ h4⟩) hh
  ·rename_i e
   rw [e] at hh
   exact ZaA (fun l ⟨nb,h1,h4⟩=>⟨nb,h1,h _ h4⟩) hh
  ·rename_i n0 n1 n3
   have hh':YS (Yc st (evs tt st c.2.1 c.2.2)) (Zuq S c.1 key o.dst K st (evs tt st c.2.1 c.2.2)):=by
    revert hh
    split
    ·rename_i e;exact absurd e n0
    ·rename_i e;exact absurd e n1
    ·rename_i e;exact absurd e n3
    ·exact id
   exact ZaA (fun l ⟨res,h1,h2,h3⟩=>⟨res,h1,h2,h _ h3⟩) hh'
 ·rename_i hc
  rw [hc] at hh
  simp only at hh
  split
  ·rename_i c hd
   rw [hd] at hh
   simp only at hh
   exact ZaA (fun fc ⟨h0,h1⟩=>⟨h0,ZaA (fun l ⟨res,a,b,c,d⟩=>⟨res,a,b,c,h _ d⟩) h1⟩) hh
  ·rename_i hd
   rw [hd] at hh
   simp only at hh
   exact ZaA (fun r hr=>h _ hr) hh
theorem Ztd {all:List Oper} {key:Nat} {o:Oper} {K K':St→Prop} {st:St} (h:∀st,K st→K' st) (hh:opG tt S all key o K st):opG tt S all key o K' st:=by
 unfold opG at hh ⊢
 split
 ·rename_i hg;rw [hg] at hh;exact Zop h hh
 ·rename_i hg;rw [hg] at hh;exact h _ hh
 ·rename_i hg
  rw [hg] at hh
  simp only [gK] at hh ⊢
  split
  ·rename_i h1
   rw [if_pos h1] at hh
   split
   ·rename_i h2;rw [if_pos h2] at hh;exact Zop h hh
   ·rename_i h2;rw [if_neg h2] at hh;exact h _ hh
  ·rename_i h1
   rw [if_neg h1] at hh
   split
   ·rename_i h2;rw [if_pos h2] at hh;exact h _ hh
   ·rename_i h2;rw [if_neg h2] at hh;exact hh
theorem Zmw {all:List Oper} {K K':St→Prop} (h:∀st,K st→K' st):∀(r:List Oper) (key:Nat) (st:St),Z3 tt S all key r K st→Z3 tt S all key r K' st
 | [],_,st,hh=>h st hh
 | o::r,key,st,hh=>Ztd (fun st' h'=>Zmw h r (key+16) st' h') hh
theorem Zkh {F:(Ex→St→Prop)→St→Prop} (hF:∀Q Q' st,(∀e st,Q e st→Q' e st)→F Q st→F Q' st) {Q Q':Ex→St→Prop} (h:∀e st,Q e st→Q' e st):∀(n:Nat) (st:St),ZiX F Q n st→ZiX F Q' n st
 | 0,_,hh=>hh
 | n+1,st,⟨ms,ρ,h1,h2⟩=>⟨ms,ρ,h1,fun hw=>hF _ _ _ (fun e st' h'=>by cases e<;>first | exact Zkh hF h n st' h' | exact h _ _ h') (h2 hw)⟩
theorem QV:∀(c:Code) (Q Q':Ex→St→Prop) (st:St),(∀e st,Q e st→Q' e st)→swp tt S c Q st→swp tt S c Q' st
 | .skip,Q,Q',st,h,hh=>h _ _ hh
 | .exit _,Q,Q',st,h,hh=>h _ _ hh
 | .ret,Q,Q',st,h,hh=>h _ _ hh
 | .region _ ops _,Q,Q',st,h,hh=>Zmw (fun st' h'=>h _ _ h') ops.toList st.n st hh
 | .seq a b,Q,Q',st,h,hh=>QV a _ _ st (fun e st' h'=>by cases e<;>first | exact QV b Q Q' st' h h' | exact h _ _ h') hh
 | .cond c a b,Q,Q',st,h,hh=>by
  simp only [swp,Zmj] at hh ⊢
  split
  ·rename_i h1
   rw [if_pos h1] at hh
   split
   ·rename_i h2;rw [if_pos h2] at hh;exact QV a Q Q' st h hh
   ·rename_i h2;rw [if_neg h2] at hh;exact QV b Q Q' st h hh
  ·rename_i h1;rw [if_neg h1] at hh;exact hh
 | .block id b,Q,Q',st,h,hh=>QV b _ _ st (fun e st' h'=>by
   cases e with
   | normal=>exact h _ _ h'
   | ret=>exact h _ _ h'
   | exit j=>
    simp only [ZfP] at h' ⊢
    split
    ·rename_i e;rw [if_pos e] at h';exact h _ _ h'
    ·rename_i e;rw [if_neg e] at h';exact h _ _ h') hh
 | .loop b,Q,Q',st,h,⟨n,hh⟩=>⟨n,Zkh (fun Q Q' st hq hs=>QV b Q Q' st hq hs) h n st hh⟩
 | .rangeFunc _ _ _ _,_,_,_,_,hh=>hh.elim
 | .scope _,_,_,_,_,hh=>hh.elim
 | .label _,_,_,_,_,hh=>hh.elim
 | .goto _,_,_,_,_,hh=>hh.elim
 | .refuse _,_,_,_,_,hh=>hh.elim
end
theorem ZjU {x:Int} (h0:-9223372036854775808≤x) (h1:x≤9223372036854775807):IntKind.i64.wrap x=x:=IntWalk.i64_in _ ⟨h0,h1⟩
theorem Zvk (sl:Nat→SV) (ob:Nat→Ob) (n:Nat) (ρ:List Nat) (t:Nat):(St.ren ⟨sl,ob,n⟩ ρ).sl t=rSV ρ (sl t):=_root_.id rfl
theorem ZvV (sl:Nat→SV) (ob:Nat→Ob) (n:Nat) (ρ:List Nat) (j:Nat):(St.ren ⟨sl,ob,n⟩ ρ).ob j=match ρ[j]? with | some k=>rOb ρ (ob k) | none=>.gone:=_root_.id rfl
theorem ZyN (st:St) (ρ:List Nat):(st.ren ρ).n=ρ.length:=_root_.id rfl
theorem ZsG (st:St):st.mats []=st:=_root_.id rfl
theorem Zq6 (sl:Nat→SV) (ob:Nat→Ob) (n t j:Nat) (r:List (Bool × Nat × Nat)):St.mats ⟨sl,ob,n⟩ ((false,t,j)::r)=if 4096≤j then St.mats (match sl t with
  | .p ag cs=>(match cs[j - 4096]? with
   | some (.row k)=>(match ob k with
    | .row e q xs d=>if d=2 then ⟨upd sl t (.p ag (cs.set (j - 4096) (.n (.sl e q xs)))),upd ob k (.row e q xs 0),n⟩ else ⟨sl,ob,n⟩
    | _=>⟨sl,ob,n⟩)
   | _=>⟨sl,ob,n⟩)
  | _=>⟨sl,ob,n⟩) r else St.mats (match sl t with
  | .p ag cs=>(match cs[j]? with
   | some (.nil e q)=>if 0<q then ⟨upd sl t (.p ag (cs.set j (.row n))),upd ob n (.row e q [] 2),n+1⟩ else ⟨sl,ob,n⟩
   | some (.row k)=>(match ob k with
    | .row e q xs _=>⟨upd sl t (.p ag (cs.set j (.c (.sl e q xs)))),upd ob k (.row e q xs 0),n⟩
    | _=>⟨sl,ob,n⟩)
   | _=>⟨sl,ob,n⟩)
  | _=>⟨sl,ob,n⟩) r:=by
 by_cases h:4096≤j
 ·rw [if_pos h,St.mats,if_pos ⟨rfl,h⟩];rfl
 ·rw [if_neg h,St.mats,if_neg (fun e=>h e.2)];rfl
theorem ZsM (sl:Nat→SV) (ob:Nat→Ob) (n k i:Nat) (r:List (Bool × Nat × Nat)):St.mats ⟨sl,ob,n⟩ ((true,k,i)::r)=St.mats (match ob k with
  | .box ty cs=>(match cs[i]? with
   | some (.nil e q)=>if 0<q then ⟨sl,upd (upd ob k (.box ty (cs.set i (.row n)))) n (.row e q [] 2),n+1⟩ else ⟨sl,ob,n⟩
   | some (.row j)=>(match ob j with
    | .row e q xs _=>⟨sl,upd (upd ob j (.row e q xs 0)) k (.box ty (cs.set i (.c (.sl e q xs)))),n⟩
    | _=>⟨sl,ob,n⟩)
   | _=>⟨sl,ob,n⟩)
  | .row e q xs d=>(if i<d then ⟨sl,upd ob k (.row e q xs i),n⟩ else ⟨sl,ob,n⟩)
  | _=>⟨sl,ob,n⟩) r:=_root_.id rfl
theorem nn (k:Nat):(0≤(k:Int))=True:=by simp
theorem Zy7:(true==true)=true:=_root_.id rfl
theorem Zy6:(false==true)=false:=_root_.id rfl
theorem Zyt:(true==false)=false:=_root_.id rfl
theorem Zyp:(false==false)=true:=_root_.id rfl
attribute [go_sem] Zqx Zg7 ZjO ZsG Zq6 ZsM nn Zy7 Zy6 Zyt Zyp Zvk ZvV ZyN rSV rAV rOb ZnN
end Go.Proofs.YtojnhepgnbhaaaaGreatDoor
namespace Go.Proofs.YtojnhepgnbhaaaaGreatDoor
open Go.RowKit
def chk {α:Type} (c:Prop) [Decidable c] (x:Option α):Option α:=if c then x else none
def atI {α:Type} (l:List α) (i:Int):Option α:=if 0≤i then l[i.toNat]? else none
def Zp {α σ ρ:Type} (body:Nat→α→σ→Option (σ ⊕ ρ)) (fin:σ→Option ρ):List α→Nat→σ→Option ρ
 | [],_,s=>fin s
 | x::l,i,s=>match body i x s with
  | none=>none
  | some (.inl s')=>Zp body fin l (i+1) s'
  | some (.inr r)=>some r
def Zcg {σ ρ:Type} (body:σ→Option (σ ⊕ ρ)):Nat→σ→Option ρ
 | 0,_=>none
 | n+1,s=>match body s with
  | none=>none
  | some (.inl s')=>Zcg body n s'
  | some (.inr r)=>some r
open Classical in
noncomputable def Zdu {σ ρ:Type} (body:σ→Option (σ ⊕ ρ)) (s:σ):Option ρ:=if h:∃n,(Zcg body n s).isSome=true then Zcg body (Classical.choose h) s else none
section
variable {α β σ ρ:Type} {r:ρ}
theorem Zhn {body:σ→Option (σ ⊕ ρ)}:∀{n:Nat} (m:Nat) {s:σ} {r:ρ},Zcg body n s=some r→Zcg body (n+m) s=some r
 | 0,_,_,_,h=>by simp [Zcg] at h
 | n+1,m,s,r,h=>by
  rw [show n+1+m=n+m+1 by omega]
  simp only [Zcg] at h ⊢
  cases e:body s with
  | none=>rw [e] at h;simp at h
  | some y=>
   rw [e] at h
   cases y with
   | inl s'=>exact Zhn m h
   | inr r'=>exact h
theorem ZhC {body:σ→Option (σ ⊕ ρ)} {s:σ} {r:ρ}:Zdu body s=some r↔∃n,Zcg body n s=some r:=by
 constructor
 ·intro h
  unfold Zdu at h
  split at h
  ·exact ⟨_,h⟩
  ·simp at h
 ·rintro ⟨n,hn⟩
  have hex:∃n,(Zcg body n s).isSome=true:=⟨n,by simp [hn]⟩
  unfold Zdu
  rw [dif_pos hex]
  have h2:=Classical.choose_spec hex
  obtain ⟨r',hr'⟩:=Option.isSome_iff_exists.1 h2
  rw [hr']
  have a1:=Zhn n hr'
  have a2:=Zhn (Classical.choose hex) hn
  rw [Nat.add_comm] at a2
  rw [a1] at a2
  exact a2
theorem Zic (body:σ→Option (σ ⊕ ρ)) (s:σ):Zdu body s=match body s with
  | none=>none
  | some (.inl s')=>Zdu body s'
  | some (.inr r)=>some r:=by
 apply Option.ext
 intro r
 rw [ZhC]
 constructor
 ·rintro ⟨n,hn⟩
  cases n with
  | zero=>simp [Zcg] at hn
  | succ n=>
   simp only [Zcg] at hn
   cases e:body s with
   | none=>rw [e] at hn;simp at hn
   | some y=>
    rw [e] at hn
    cases y with
    | inl s'=>exact ZhC.2 ⟨n,hn⟩
    | inr r'=>exact hn
 ·intro h
  cases e:body s with
  | none=>rw [e] at h;simp at h
  | some y=>
   rw [e] at h
   cases y with
   | inl s'=>
    obtain ⟨n,hn⟩:=ZhC.1 h
    exact ⟨n+1,by simp only [Zcg,e];exact hn⟩
   | inr r'=>exact ⟨1,by simp only [Zcg,e];exact h⟩
theorem Zx {c:Prop} [Decidable c] {x:Option α} {r:α} (h:chk c x=some r):c∧x=some r:=by
 unfold chk at h
 split at h
 ·rename_i hc;exact ⟨hc,h⟩
 ·simp at h
theorem Zj {c:Prop} [Decidable c] (x:Option α) (h:c):chk c x=x:=if_pos h
theorem Za {o:Option α} {f:α→Option β} {r:β} (h:o.bind f=some r):∃x,o=some x∧f x=some r:=by
 cases o with
 | none=>simp at h
 | some x=>exact ⟨x,rfl,h⟩
theorem Zgn {l:List α} {i:Int} {f:α→Option β} {r:β} (h:(atI l i).bind f=some r):∃x,0≤i∧i<(l.length:Int)∧l[i.toNat]?=some x∧f x=some r:=by
 unfold atI at h
 split at h
 ·rename_i hi
  obtain ⟨x,h1,h2⟩:=Za h
  obtain ⟨h3,_⟩:=List.getElem?_eq_some_iff.1 h1
  exact ⟨x,hi,by omega,h1,h2⟩
 ·simp at h
theorem Ze {G:Prop} {b:Bool} {x y:Option α} {r:α} (h:(if b=true then x else y)=some r) (h1:b=true→x=some r→G) (h2:b=false→y=some r→G):G:=by
 cases b with
 | true=>exact h1 rfl (by simpa using h)
 | false=>exact h2 rfl (by simpa using h)
theorem Zs {y:σ ⊕ ρ} {v r:ρ} (h:some (.inr v)=some y) (hy:y=.inr r∨∃s,y=.inl s):some v=some r:=by
 obtain rfl:=Option.some.inj h
 rcases hy with h | ⟨_,h⟩
 ·rw [Sum.inr.inj h]
 ·cases h
end
section
variable {tt:Nat→Option TI} {S:Ctx}
def Zus {σ ρ:Type} (I:σ→St→Prop) (y:σ ⊕ ρ) (st:St):Prop:=∃s' ms ρk,y=.inl s'∧ρk.Nodup∧I s' ((st.mats ms).ren ρk)
theorem Zeh {σ ρ:Type} {b:Code} {Q:Ex→St→Prop} {st:St} {body:σ→Option (σ ⊕ ρ)} {s0:σ} {r:ρ} (h:Zdu body s0=some r) (I:σ→St→Prop) (ms:List (Bool × Nat × Nat)) (ρk:List Nat) (hρ:ρk.Nodup) (h0:I s0 ((st.mats ms).ren ρk))
  (step:∀s st y,I s st→WF st→body s=some y→(y=.inr r∨∃s',y=.inl s')→swp tt S b (Zfq (Zus I y) Q) st):swp tt S (.loop b) Q st:=by
 obtain ⟨n,hn⟩:=ZhC.1 h
 have key:∀n s st,Zcg body n s=some r→(∃ms ρk,ρk.Nodup∧I s ((st.mats ms).ren ρk))→ZiX (swp tt S b) Q n st:=by
  intro n
  induction n with
  | zero=>intro s st h;simp [Zcg] at h
  | succ n ih=>
   rintro s st hn ⟨ms,ρk,h1,h2⟩
   refine ⟨ms,ρk,h1,fun hw=>?_⟩
   simp only [Zcg] at hn
   split at hn
   ·simp at hn
   ·rename_i s' e
    refine QV b _ _ _ (fun ex st' h'=>?_) (step s _ _ h2 hw e (.inr ⟨_,rfl⟩))
    cases ex with
    | normal=>
     obtain ⟨s2,ms',ρ',h3,h4,h5⟩:=h'
     obtain rfl:=Sum.inl.inj h3
     exact ih _ st' hn ⟨ms',ρ',h4,h5⟩
    | exit _=>exact h'
    | ret=>exact h'
   ·rename_i r' e
    obtain rfl:=Option.some.inj hn
    refine QV b _ _ _ (fun ex st' h'=>?_) (step s _ _ h2 hw e (.inl rfl))
    cases ex with
    | normal=>
     obtain ⟨s2,ms',ρ',h3,h4,h5⟩:=h'
     cases h3
    | exit _=>exact h'
    | ret=>exact h'
 exact ⟨n,key n s0 st hn ⟨ms,ρk,hρ,h0⟩⟩
theorem Zg {α σ ρ:Type} {b:Code} {Q:Ex→St→Prop} {st:St} {body:Nat→α→σ→Option (σ ⊕ ρ)} {fin:σ→Option ρ} {l:List α} {s0:σ} {r:ρ} (h:Zp body fin l 0 s0=some r) (I:Nat→σ→St→Prop) (ms:List (Bool × Nat × Nat)) (ρk:List Nat) (hρ:ρk.Nodup) (h0:I 0 s0 ((st.mats ms).ren ρk))
  (step:∀i x s st y,l[i]?=some x→I i s st→WF st→body i x s=some y→(y=.inr r∨∃s',y=.inl s')→swp tt S b (Zfq (Zus (I (i+1)) y) Q) st)
  (last:∀s st,I l.length s st→WF st→fin s=some r→swp tt S b (Zfq (fun _=>False) Q) st):swp tt S (.loop b) Q st:=by
 have key:∀n i s st,l.length - i<n→i≤l.length→Zp body fin (l.drop i) i s=some r→(∃ms ρk,ρk.Nodup∧I i s ((st.mats ms).ren ρk))→ZiX (swp tt S b) Q n st:=by
  intro n
  induction n with
  | zero=>intro i s st h;omega
  | succ n ih=>
   rintro i s st hn hi hf ⟨ms,ρk,h1,h2⟩
   refine ⟨ms,ρk,h1,fun hw=>?_⟩
   by_cases hil:i<l.length
   ·have hx:l[i]?=some l[i]:=List.getElem?_eq_getElem hil
    rw [List.drop_eq_getElem_cons hil] at hf
    simp only [Zp] at hf
    split at hf
    ·simp at hf
    ·rename_i s' e
     refine QV b _ _ _ (fun ex st' h'=>?_) (step i _ s _ _ hx h2 hw e (.inr ⟨_,rfl⟩))
     cases ex with
     | normal=>
      obtain ⟨s2,ms',ρ',h3,h4,h5⟩:=h'
      obtain rfl:=Sum.inl.inj h3
      exact ih (i+1) _ st' (by omega) (by omega) hf ⟨ms',ρ',h4,h5⟩
     | exit _=>exact h'
     | ret=>exact h'
    ·rename_i r' e
     obtain rfl:=Option.some.inj hf
     refine QV b _ _ _ (fun ex st' h'=>?_) (step i _ s _ _ hx h2 hw e (.inl rfl))
     cases ex with
     | normal=>
      obtain ⟨s2,ms',ρ',h3,h4,h5⟩:=h'
      cases h3
     | exit _=>exact h'
     | ret=>exact h'
   ·obtain rfl:i=l.length:=by omega
    rw [List.drop_length] at hf
    refine QV b _ _ _ (fun ex st' h'=>?_) (last s _ h2 hw hf)
    cases ex with
    | normal=>exact h'.elim
    | exit _=>exact h'
    | ret=>exact h'
 exact ⟨l.length+1,key _ 0 s0 st (by omega) (by omega) (by simpa using h) ⟨ms,ρk,hρ,h0⟩⟩
theorem Zb {f:FuncId} {key:Nat} {d:Option Nat} {K:St→Prop} {st:St} {vs:List SV} {l:List (Bool × List CT)} {res:List RT} (hs:S.r f l res) (hk:(!Zc6 res||vs.all Zik)=true∧(ZD key res).2.2≤key+16∧K ((st.put d (Zdo (ZD key res).1)).app (ZD key res).2.1)):Zr7 S f key d K st vs l:=⟨res,hs,hk.1,hk.2.1,hk.2.2⟩
theorem Zmo {f:FuncId} {key:Nat} {d:Option Nat} {K:St→Prop} {st:St} {vs:List SV} {l:List (Bool × List CT)} {res:List RT} (hs:S.r f l res) (hk:(ZD key res).2.2≤key+16∧K ((st.put d (Zdo (ZD key res).1)).app (ZP st (Z4 vs)++(ZD key res).2.1))):Zuq S f key d K st vs l:=⟨res,hs,hk.1,hk.2⟩
theorem Zve {f:FuncId} {key:Nat} {d:Option Nat} {K:St→Prop} {st:St} {vs:List SV} {l:List (Bool × List CT)} {kk vk:PK} {kv:List (Value × Value)} (hs:S.b f l (.map kk vk kv)) (hk:K ((st.put d (.p false [.row key])).app (ZP st (Z4 vs)++[(key,.map kk vk kv)]))):Zwf S f key d K st vs l:=⟨_,hs,hk⟩
theorem ZsX {f:FuncId} {key:Nat} {d:Option Nat} {K:St→Prop} {st:St} {vs:List SV} {kh:Nat × Zli} {l:List (Bool × List CT)} {res:List RT} {h':Zli} (hs:S.h f kh.2 l res h') (hk:(Z4 vs).all (fun j=>j != kh.1)=true∧(ZD key res).2.2≤key+16∧K ((st.put d (Zdo (ZD key res).1)).app (ZP st (Z4 vs)++((kh.1,Zdn h')::(ZD key res).2.1)))):ZsB S f key d K st vs kh l:=⟨res,h',hs,hk.1,hk.2.1,hk.2.2⟩
end
def sts:List (Nat × SV)→St→Prop
 | [],_=>True
 | p::r,st=>st.sl p.1=p.2∧sts r st
def obs:List Ob→Nat→St→Prop
 | [],k,st=>st.n=k
 | o::r,k,st=>st.ob k=o∧obs r (k+1) st
def IV (s:List (Nat × SV)) (o:List Ob) (st:St):Prop:=sts s st∧obs o 0 st
theorem ZtX (st:St):sts [] st=True:=_root_.id rfl
theorem Zst (st:St) (t:Nat) (v:SV) (r:List (Nat × SV)):sts ((t,v)::r) st=(st.sl t=v∧sts r st):=_root_.id rfl
theorem ZtK (st:St) (k:Nat):obs [] k st=(st.n=k):=_root_.id rfl
theorem Zr1 (st:St) (o:Ob) (k:Nat) (r:List Ob):obs (o::r) k st=(st.ob k=o∧obs r (k+1) st):=_root_.id rfl
attribute [go_sem] IV Zst ZtX Zr1 ZtK
theorem ZbB {α:Type} {g:α→List CT} (h:∀x,(g x).all CT.flat=true) (l:List α):Zaz (l.map g)=true:=by
 simp only [Zaz,List.all_map,List.all_eq_true]
 exact fun x _=>h x
def Zu (s:ByteArray):List CT:=[.str s]
def Qv (n:Int):List CT:=[.int .i64 n]
def Zuz (b:Bool):List CT:=[.bool b]
def ZsA (n:Int):List CT:=[.int .u8 n]
theorem ZtO (s:ByteArray):Zu s=[.str s]:=_root_.id rfl
theorem Zuk (n:Int):Qv n=[.int .i64 n]:=_root_.id rfl
theorem ZsT (b:Bool):Zuz b=[.bool b]:=_root_.id rfl
theorem ZoX (n:Int):ZsA n=[.int .u8 n]:=_root_.id rfl
theorem ZrG (l:List ByteArray):Zaz (l.map Zu)=true:=ZbB (fun _=>rfl) l
theorem ZmS (l:List Int):Zaz (l.map Qv)=true:=ZbB (fun _=>rfl) l
theorem Zqh (l:List Bool):Zaz (l.map Zuz)=true:=ZbB (fun _=>rfl) l
theorem Zp9 (l:List Int):Zaz (l.map ZsA)=true:=ZbB (fun _=>rfl) l
theorem ZnD {s:ByteArray} {i:Nat} {x:UInt8} (h:s.data.toList[i]?=some x):s[i]?=some x:=by
 obtain ⟨h1,h2⟩:=List.getElem?_eq_some_iff.1 h
 have hs:i<s.size:=by rw [ByteArray.size];simpa using h1
 rw [getElem?_pos s i hs,←h2]
 rfl
theorem Zd (s:ByteArray):s.data.toList.length=s.size:=by rw [ByteArray.size,Array.length_toList]
theorem Zi {i n:Nat} (h:i<n) (hn:n≤9223372036854775807):IntKind.i64.wrap ((i:Int)+1)=((i+1:Nat):Int):=by
 rw [ZjU (by omega) (by omega)];omega
theorem ZF {α:Type} {l:List α} {i:Nat} {x:α} (h:l[i]?=some x):decide ((i:Int)<(l.length:Int))=true:=by
 obtain ⟨h1,_⟩:=List.getElem?_eq_some_iff.1 h
 exact decide_eq_true (by omega)
theorem ZJ {α:Type} {l:List α} {i:Nat} {x:α} (h:l[i]?=some x):(i:Int)<(l.length:Int):=of_decide_eq_true (ZF h)
theorem ZE {α:Type} {l:List α} {i:Nat} {x:α} (h:l[i]?=some x):i<l.length:=(List.getElem?_eq_some_iff.1 h).1
theorem ZC (n:Nat):decide ((n:Int)<(n:Int))=false:=decide_eq_false (by omega)
def sAt (s:ByteArray) (i:Int):Option UInt8:=if 0≤i then s[i.toNat]? else none
theorem Zqp {β:Type} {s:ByteArray} {i:Int} {f:UInt8→Option β} {r:β} (h:(sAt s i).bind f=some r):∃x,0≤i∧s[i.toNat]?=some x∧f x=some r:=by
 unfold sAt at h
 split at h
 ·rename_i hi
  obtain ⟨x,h1,h2⟩:=Za h
  exact ⟨x,hi,h1,h2⟩
 ·simp at h
theorem ZqE {s:ByteArray} {i:Nat} {x:UInt8} (h:s.data.toList[i]?=some x):i<s.size:=by
 have:=ZE h
 rwa [Zd] at this
theorem ZsC {s:ByteArray} {i:Nat} {x:UInt8} (h:s.data.toList[i]?=some x):decide ((i:Int)<(s.size:Int))=true:=by
 have:=ZqE h
 exact decide_eq_true (by omega)
theorem ZhO:∀{cs:List AV} {j:Nat} {x:AV},Zsw cs→cs[j]?=some x→avD x
 | [],_,_,_,h=>by simp at h
 | _::_,0,_,h,e=>by simp at e;subst e;exact h.1
 | _::_,j+1,_,h,e=>ZhO h.2 (by simpa using e)
theorem Zqu:∀{cs:List CT} {j:Nat} {x:CT},ctsD cs→cs[j]?=some x→ctD x
 | [],_,_,_,h=>by simp at h
 | _::_,0,_,h,e=>by simp at e;subst e;exact h.1
 | _::_,j+1,_,h,e=>Zqu h.2 (by simpa using e)
section
variable {α:Type} {st:St} {t k j e m:Nat} {a:Bool} {d:Nat} {cs:List AV} {g:α→List CT} {l:List α} {s:ByteArray}
theorem WF.slotL (hW:WF st) (h:st.sl t=.p a cs) (hc:cs[j]?=some (.c (.sl e m (List.map g l)))):l.length≤9223372036854775807:=by
 have:=(ZhO (hW.sl _ _ _ h) hc).1
 simpa only [List.length_map] using this
theorem WF.slotD (hW:WF st) (h:st.sl t=.p a cs) (hc:cs[j]?=some (.c (.sl e m (List.map g l)))):essD (List.map g l):=(ZhO (hW.sl _ _ _ h) hc).2
theorem WF.slotS (hW:WF st) (h:st.sl t=.p a cs) (hc:cs[j]?=some (.c (.str s))):s.size≤9223372036854775807:=ZhO (hW.sl _ _ _ h) hc
theorem WF.boxL (hW:WF st) (h:st.ob k=.box t cs) (hc:cs[j]?=some (.c (.sl e m (List.map g l)))):l.length≤9223372036854775807:=by
 have:=(ZhO (hW.box _ _ _ h) hc).1
 simpa only [List.length_map] using this
theorem WF.boxD (hW:WF st) (h:st.ob k=.box t cs) (hc:cs[j]?=some (.c (.sl e m (List.map g l)))):essD (List.map g l):=(ZhO (hW.box _ _ _ h) hc).2
theorem WF.rowL (hW:WF st) (h:st.ob k=.row e m (List.map g l) d):l.length≤9223372036854775807:=by
 have:=(hW.row _ _ _ _ _ h).1
 simpa only [List.length_map] using this
theorem WF.elL {β:Type} {g':β→List CT} {l':List β} {i:Nat} {x:α} (h:essD (List.map g l)) (hx:l[i]?=some x) (hc:(g x)[j]?=some (.sl e m (List.map g' l'))):l'.length≤9223372036854775807:=by
 have:=(Zqu (Zqr h hx) hc).1
 simpa only [List.length_map] using this
end
/- maps of plain keys, as lists of pairs -/
def eSB (p:ByteArray × Bool):Value × Value:=(.string p.1,.bool p.2)
def eSS (p:ByteArray × ByteArray):Value × Value:=(.string p.1,.string p.2)
def eIB (p:Int × Bool):Value × Value:=(.int .i64 p.1,.bool p.2)
def Zfc {α β:Type} [DecidableEq α]:List (α × β)→α→Option β
 | [],_=>none
 | p::r,k=>if k=p.1 then some p.2 else Zfc r k
def Ze1 {α β:Type} [DecidableEq α]:List (α × β)→α→β→List (α × β)
 | [],k,v=>[(k,v)]
 | p::r,k,v=>if k=p.1 then (k,v)::r else p::Ze1 r k v
def Q6 {α β:Type} [DecidableEq α] (l:List (α × β)) (k:α) (z:β):β:=(Zfc l k).getD z
def Zru {α β:Type} [DecidableEq α] (l:List (α × β)) (k:α):Bool:=(Zfc l k).isSome
section
variable {α β:Type} [DecidableEq α] {e:α × β→Value × Value} {fk:α→Value} {fv:β→Value}
theorem Zda (he:∀p,e p=(fk p.1,fv p.2)) (hk:∀a b,vEq (fk a) (fk b)=decide (a=b)):∀(l:List (α × β)) (k:α),Zjz (l.map e) (fk k)=(Zfc l k).map fv
 | [],_=>rfl
 | p::r,k=>by
  simp only [List.map_cons,Zjz,Zfc,he,hk,decide_eq_true_eq]
  split
  ·rfl
  ·exact Zda he hk r k
theorem Zh3 (he:∀p,e p=(fk p.1,fv p.2)) (hk:∀a b,vEq (fk a) (fk b)=decide (a=b)) (v:β):∀(l:List (α × β)) (k:α),Zew (l.map e) (fk k) (fv v)=(Ze1 l k v).map e
 | [],k=>by simp [Zew,Ze1,he]
 | p::r,k=>by
  simp only [List.map_cons,Zew,Ze1,he,hk,decide_eq_true_eq]
  split
  ·simp [he]
  ·rw [Zh3 he hk v r k];simp [he]
end
theorem ZmU (a b:ByteArray):vEq (.string a) (.string b)=decide (a=b):=rfl
theorem Zsc (a b:Int):vEq (.int .i64 a) (.int .i64 b)=decide (a=b):=by simp [vEq,BEq.beq]
theorem ZtU (l:List (ByteArray × Bool)) (k:ByteArray):Zbi (l.map eSB) (.string k) (.c (.bool false))=.c (.bool (Q6 l k false)):=by
 simp only [Zbi,Zda (e:=eSB) (fk:=.string) (fv:=.bool) (fun _=>rfl) ZmU,Q6]
 cases Zfc l k<;>rfl
theorem ZtL (l:List (ByteArray × ByteArray)) (k:ByteArray):Zbi (l.map eSS) (.string k) (.c (.str ⟨#[]⟩))=.c (.str (Q6 l k ⟨#[]⟩)):=by
 simp only [Zbi,Zda (e:=eSS) (fk:=.string) (fv:=.string) (fun _=>rfl) ZmU,Q6]
 cases Zfc l k<;>rfl
theorem Zuj (l:List (Int × Bool)) (k:Int):Zbi (l.map eIB) (.int .i64 k) (.c (.bool false))=.c (.bool (Q6 l k false)):=by
 simp only [Zbi,Zda (e:=eIB) (fk:=.int .i64) (fv:=.bool) (fun _=>rfl) Zsc,Q6]
 cases Zfc l k<;>rfl
theorem ZxO (l:List (ByteArray × Bool)) (k:ByteArray):ZdR (l.map eSB) (.string k)=Zru l k:=by
 simp only [ZdR,Zda (e:=eSB) (fk:=.string) (fv:=.bool) (fun _=>rfl) ZmU,Zru]
 cases Zfc l k<;>rfl
theorem Zwh (l:List (ByteArray × ByteArray)) (k:ByteArray):ZdR (l.map eSS) (.string k)=Zru l k:=by
 simp only [ZdR,Zda (e:=eSS) (fk:=.string) (fv:=.string) (fun _=>rfl) ZmU,Zru]
 cases Zfc l k<;>rfl
theorem Zvh (l:List (Int × Bool)) (k:Int):ZdR (l.map eIB) (.int .i64 k)=Zru l k:=by
 simp only [ZdR,Zda (e:=eIB) (fk:=.int .i64) (fv:=.bool) (fun _=>rfl) Zsc,Zru]
 cases Zfc l k<;>rfl
theorem ZwA (l:List (ByteArray × Bool)) (k:ByteArray) (v:Bool):Zew (l.map eSB) (.string k) (.bool v)=(Ze1 l k v).map eSB:=Zh3 (fk:=.string) (fv:=.bool) (fun _=>rfl) ZmU v l k
theorem ZuZ (l:List (ByteArray × ByteArray)) (k v:ByteArray):Zew (l.map eSS) (.string k) (.string v)=(Ze1 l k v).map eSS:=Zh3 (fk:=.string) (fv:=.string) (fun _=>rfl) ZmU v l k
theorem ZuC (l:List (Int × Bool)) (k:Int) (v:Bool):Zew (l.map eIB) (.int .i64 k) (.bool v)=(Ze1 l k v).map eIB:=Zh3 (fk:=.int .i64) (fv:=.bool) (fun _=>rfl) Zsc v l k
theorem Zkv:∀l:List Int,ZdX (l.map ZsA)=some l
 | []=>rfl
 | n::r=>by simp only [List.map_cons,ZoX,ZdX,Zkv r,Option.map_some]
theorem Zi3 (st:St):∀l:List CT,Yc st (l.map Zjq)=some (l.map fun c=>(false,[c]))
 | []=>rfl
 | c::r=>by
  have h:=Zi3 st r
  simp only [List.map_cons,Yc,h,Zjq,ZdH,Y2,Zch,Option.bind_some,Option.map_some]
theorem Zyx:((0:Nat):Int)=0:=_root_.id rfl
attribute [go_sem] Zi3 ZtU ZtL Zuj ZxO Zwh Zvh ZwA ZuZ ZuC Zkv Zyx ZwI List.map_replicate ZtO Zuk ZsT ZoX ZrG ZmS Zqh Zp9 List.map_append List.getElem?_map List.map_set List.map_take List.map_drop List.length_append List.length_set Int.toNat_natCast
end Go.Proofs.YtojnhepgnbhaaaaGreatDoor
namespace Go.Proofs.YtojnhepgnbhaaaaGreatDoor
def toL (s:ByteArray):List UInt8:=s.data.toList
def ofL (l:List UInt8):ByteArray:=⟨l.toArray⟩
theorem Zid (s:ByteArray):ofL (toL s)=s:=by cases s;simp [ofL,toL]
theorem ZbN (l:List UInt8):toL (ofL l)=l:=by simp [ofL,toL]
def Zes (l:List ByteArray):List ByteArray:=((l.map toL).mergeSort fun x y=>decide (x≤y)).map ofL
def Zi5 (l:List Int):List Int:=l.mergeSort fun x y=>decide (x≤y)
def ZbI (l:List ByteArray):Option (List ByteArray):=chk (l.length≤4611686018427387903) (some (Zes l))
def ZeM (l:List Int):Option (List Int):=chk (l.length≤4611686018427387903) (some (Zi5 l))
end Go.Proofs.YtojnhepgnbhaaaaGreatDoor
namespace Go.Proofs.YtojnhepgnbhaaaaGreatDoor
noncomputable def Zm7 (n:Int):Option ByteArray:=chk (-9223372036854775808≤n∧n≤9223372036854775807) (some (ofL (Lib.itoa n)))
def Zeg (a b:ByteArray):Option Int:=some (Lib.compareBytes (toL a) (toL b))
def ZkL (s:ByteArray):Option (Int × Bool):=chk (s.size≤18) (some (match Lib.atoi (toL s) with | some n=>(n,true) | none=>(0,false)))
end Go.Proofs.YtojnhepgnbhaaaaGreatDoor
namespace Go.Proofs.YtojnhepgnbhaaaaGreatDoor
set_option linter.unusedVariables false
structure Xx where
 rule:ByteArray
 token:Zt
structure Zaj where
 rule:ByteArray
 facts:(List Zc)
noncomputable def ZdU (a_0:(List ByteArray)) (a:(List ByteArray)):Option Bool:=
 if (((a_0.length:Nat):Int) != ((a.length:Nat):Int))=true then
  some false
 else
  Zp (σ:=Unit)
   (fun (b:Nat) (c:ByteArray) _=>
    (atI a ((b:Nat):Int)).bind fun d=>
    if (sEq c d)=true then
     some (.inl ())
    else
     some (.inr false))
   (fun _=>
    some true)
   a_0 0 ()
noncomputable def Zk4 (a_0:Zc) (b_1:Zc):Option Bool:=
 if (sEq a_0.rel b_1.rel)=true then
  (ZdU a_0.args b_1.args).bind fun a=>
  some a
 else
  some false
noncomputable def Zau (l_0:(List Zc)) (f_1:Zc):Option Int:=
 Zp (σ:=Unit)
  (fun (i6:Nat) (a:Zc) _=>
   (Zk4 a f_1).bind fun b=>
   if b=true then
    some (.inr ((i6:Nat):Int))
   else
    some (.inl ()))
  (fun _=>
   some (-1))
  l_0 0 ()
noncomputable def Zee (l_0:(List ByteArray)):Option (List ByteArray):=
 chk (l_0.length≤1073741824) <|
 some l_0
noncomputable def X1 (f_0:Zc):Option Zc:=
 (Zee f_0.args).bind fun a=>
 some ({ rel:=f_0.rel,args:=a }:Zc)
noncomputable def ZaU (x_0:Int) (least_1:Int) (most_2:Int):Option Bool:=
 if (decide (least_1≤x_0))=true then
  some (decide (x_0≤most_2))
 else
  some false
noncomputable def Qq (s_0:ByteArray):Option Bool:=
 Zp (σ:=Unit)
  (fun (i9:Nat) (a:UInt8) _=>
   (ZaU (IntKind.i64.wrap ((a.toNat:Nat):Int)) 97 122).bind fun b=>
   if b=true then
    some (.inl ())
   else
    (ZaU (IntKind.i64.wrap ((a.toNat:Nat):Int)) 48 57).bind fun c=>
    if c=true then
     some (.inl ())
    else
     some (.inr false))
  (fun _=>
   (ZaU ((s_0.size:Nat):Int) 1 8).bind fun d=>
   some d)
  s_0.data.toList 0 ()
noncomputable def Zap (a:ByteArray):Option Bool:=
 if (decide (1<((a.size:Nat):Int)))=true then
  (sAt a 0).bind fun b=>
  if (((b.toNat:Nat):Int)==63)=true then
   chk (0≤1∧1≤((a.size:Nat):Int)) <|
   (Qq (a.extract (Int.toNat 1) a.size)).bind fun c=>
   some c
  else
   some false
 else
  some false
noncomputable def QL (s_0:ByteArray):Option Bool:=
 (Qq s_0).bind fun a=>
 if a=true then
  some true
 else
  (Zap s_0).bind fun b=>
  some b
noncomputable def Zc4 (s_0:ByteArray):Option Bool:=
 (Qq s_0).bind fun a=>
 if a=true then
  (sAt s_0 0).bind fun b=>
  (ZaU (IntKind.i64.wrap ((b.toNat:Nat):Int)) 97 122).bind fun c=>
  some c
 else
  some false
noncomputable def Xb (p_0:Zv):Option Bool:=
 Zp (σ:=Unit)
  (fun (i7:Nat) (a:ByteArray) _=>
   (QL a).bind fun b=>
   if b=true then
    some (.inl ())
   else
    some (.inr false))
  (fun _=>
   (Zc4 p_0.rel).bind fun c=>
   if c=true then
    some (decide (((p_0.args.length:Nat):Int)≤3))
   else
    some false)
  p_0.args 0 ()
noncomputable def Zey (f_0:Zc):Option Bool:=
 Zp (σ:=Unit)
  (fun (i7:Nat) (a:ByteArray) _=>
   (Qq a).bind fun b=>
   if b=true then
    some (.inl ())
   else
    some (.inr false))
  (fun _=>
   (Zc4 f_0.rel).bind fun c=>
   if c=true then
    some (decide (((f_0.args.length:Nat):Int)≤3))
   else
    some false)
  f_0.args 0 ()
noncomputable def XI (a:(List Zl)):Option Bool:=
 Zp (σ:=Unit)
  (fun (c:Nat) (b:Zl) _=>
   (Zap b.var).bind fun d=>
   if d=true then
    (Qq b.value).bind fun e=>
    if e=true then
     if (decide (0<((c:Nat):Int)))=true then
      (atI a (IntKind.i64.wrap (((c:Nat):Int) - 1))).bind fun f=>
      if (sLt f.var b.var)=true then
       some (.inl ())
      else
       some (.inr false)
     else
      some (.inl ())
    else
     some (.inr false)
   else
    some (.inr false))
  (fun _=>
   some (decide (((a.length:Nat):Int)≤6)))
  a 0 ()
noncomputable def ZbX (b_0:(List Zl)):Option (List Zl):=
 chk (b_0.length≤1073741824) <|
 some b_0
noncomputable def ZaC (b_0:(List Zl)) (term_1:ByteArray):Option (ByteArray × Bool):=
 (Qq term_1).bind fun b=>
 if b=true then
  some (term_1,true)
 else
  Zp (σ:=Unit)
   (fun (i7:Nat) (a:Zl) _=>
    if (sEq a.var term_1)=true then
     (Zap term_1).bind fun c=>
     if c=true then
      some (.inr (a.value,true))
     else
      some (.inl ())
    else
     some (.inl ()))
   (fun _=>
    some ((⟨#[]⟩),false))
   b_0 0 ()
noncomputable def ZhY (b_0:(List Zl)) (c:ByteArray) (value_2:ByteArray):Option (List Zl):=
 Zp (σ:=(List Zl) × Bool)
  (fun (i8:Nat) (b:Zl) s=>
   match s with
   | (a,d)=>
   if d=true then
    chk (a.length+1≤1073741824) <|
    some (.inl ((a++[b]),true))
   else
    if (sLt b.var c||sEq b.var c)=true then
     chk (a.length+1≤1073741824) <|
     some (.inl ((a++[b]),false))
    else
     chk (a.length+1≤1073741824) <|
     chk (a.length+1+1≤1073741824) <|
     some (.inl (((a++[({ var:=c,value:=value_2 }:Zl)])++[b]),true)))
  (fun s=>
   match s with
   | (a,d)=>
   if d=true then
    some a
   else
    chk (a.length+1≤1073741824) <|
    some (a++[({ var:=c,value:=value_2 }:Zl)]))
  b_0 0 ([],false)
noncomputable def Zfx (b_0:(List Zl)) (v_1:ByteArray) (value_2:ByteArray):Option ((List Zl) × Bool):=
 (XI b_0).bind fun b=>
 if b=true then
  (Zap v_1).bind fun c=>
  if c=true then
   (Qq value_2).bind fun d=>
   if d=true then
    (ZaC b_0 v_1).bind fun a=>
    if a.2=true then
     if (sEq a.1 value_2)=true then
      (ZbX b_0).bind fun e=>
      some (e,true)
     else
      some ([],false)
    else
     if (((b_0.length:Nat):Int)==6)=true then
      some ([],false)
     else
      (ZhY b_0 v_1 value_2).bind fun f=>
      some (f,true)
   else
    some ([],false)
  else
   some ([],false)
 else
  some ([],false)
noncomputable def ZaO (append_0:Zv) (a:Zc) (a_2:(List Zl)):Option ((List Zl) × Bool):=
 (Xb append_0).bind fun f=>
 if f=true then
  (Zey a).bind fun g=>
  if g=true then
   (XI a_2).bind fun i=>
   if i=true then
    if (sEq append_0.rel a.rel)=true then
     if (((append_0.args.length:Nat):Int) != ((a.args.length:Nat):Int))=true then
      some ([],false)
     else
      (ZbX a_2).bind fun j=>
      Zp (σ:=(List Zl))
       (fun (d:Nat) (c:ByteArray) b=>
        (Qq c).bind fun k=>
        if k=true then
         (atI a.args ((d:Nat):Int)).bind fun l=>
         if (sEq c l)=true then
          some (.inl b)
         else
          some (.inr ([],false))
        else
         (atI a.args ((d:Nat):Int)).bind fun m=>
         (Zfx b c m).bind fun e=>
         if e.2=true then
          some (.inl e.1)
         else
          some (.inr ([],false)))
       (fun b=>
        some (b,true))
       append_0.args 0 j
    else
     some ([],false)
   else
    some ([],false)
  else
   some ([],false)
 else
  some ([],false)
noncomputable def Zax (l_0:(List Zc)):Option (List Zc):=
 Zp (σ:=(List Zc))
  (fun (i7:Nat) (b:Zc) a=>
   (X1 b).bind fun c=>
   chk (a.length+1≤1073741824) <|
   some (.inl (a++[c])))
  (fun a=>
   some a)
  l_0 0 []
noncomputable def Xv (p_0:Zv) (b_1:(List Zl)) (facts_2:(List Zc)):Option (List Zc):=
 Zp (σ:=(List Zc))
  (fun (i9:Nat) (b:Zc) a=>
   (ZaO p_0 b b_1).bind fun c=>
   if c.2=true then
    (X1 b).bind fun d=>
    chk (a.length+1≤1073741824) <|
    some (.inl (a++[d]))
   else
    some (.inl a))
  (fun a=>
   some a)
  facts_2 0 []
noncomputable def Zc9 (x_0:Zm):Option Bool:=
 if (x_0.kind==1)=true then
  (Xb x_0.pattern).bind fun a=>
  if a=true then
   if (sEq x_0.left ⟨#[]⟩)=true then
    some (sEq x_0.right ⟨#[]⟩)
   else
    some false
  else
   some false
 else
  if (x_0.kind==2)=true then
   (Xb x_0.pattern).bind fun b=>
   if b=true then
    if (sEq x_0.left ⟨#[]⟩)=true then
     some (sEq x_0.right ⟨#[]⟩)
    else
     some false
   else
    some false
  else
   if (x_0.kind==3)=true then
    if (sEq x_0.pattern.rel ⟨#[]⟩)=true then
     if (((x_0.pattern.args.length:Nat):Int)==0)=true then
      (QL x_0.left).bind fun c=>
      if c=true then
       (QL x_0.right).bind fun d=>
       some d
      else
       some false
     else
      some false
    else
     some false
   else
    if (x_0.kind==4)=true then
     if (sEq x_0.pattern.rel ⟨#[]⟩)=true then
      if (((x_0.pattern.args.length:Nat):Int)==0)=true then
       (QL x_0.left).bind fun e=>
       if e=true then
        (QL x_0.right).bind fun f=>
        some f
       else
        some false
      else
       some false
     else
      some false
    else
     if (x_0.kind==5)=true then
      if (sEq x_0.pattern.rel ⟨#[]⟩)=true then
       if (((x_0.pattern.args.length:Nat):Int)==0)=true then
        (QL x_0.left).bind fun g=>
        if g=true then
         (QL x_0.right).bind fun i=>
         some i
        else
         some false
       else
        some false
      else
       some false
     else
      some false
noncomputable def Zgh (a:ByteArray) (b:ByteArray):Option Int:=
 if (sLt a b)=true then
  some (-1)
 else
  if (sLt a b||sEq a b)=true then
   some 0
  else
   some 1
noncomputable def Zab (n_0:Int):Option ByteArray:=
 if (n_0==(-9223372036854775808))=true then
  some (⟨#[45,57,50,50,51,51,55,50,48,51,54,56,53,52,55,55,53,56,48,56]⟩)
 else
  if (decide (n_0<0))=true then
   none
  else
   Zdu (σ:=Int × ByteArray)
    (fun s=>
     match s with
     | (a,b)=>
     chk ((Y9 [(IntKind.u8.wrap (IntKind.i64.wrap (48+(Int.tmod a 10))))]).size+b.size≤9223372036854775807) <|
     if ((IntKind.i64.wrap (Int.tdiv a 10))==0)=true then
      some (.inr ((Y9 [(IntKind.u8.wrap (IntKind.i64.wrap (48+(Int.tmod a 10))))])++b))
     else
      some (.inl ((IntKind.i64.wrap (Int.tdiv a 10)),((Y9 [(IntKind.u8.wrap (IntKind.i64.wrap (48+(Int.tmod a 10))))])++b))))
    (n_0,⟨#[]⟩)
noncomputable def ZaQ (n_0:Int):Option ByteArray:=
 if (n_0==(-9223372036854775808))=true then
  some (⟨#[45,57,50,50,51,51,55,50,48,51,54,56,53,52,55,55,53,56,48,56]⟩)
 else
  if (decide (n_0<0))=true then
   (Zab (IntKind.i64.wrap (0 - n_0))).bind fun c=>
   chk ((⟨#[45]⟩:ByteArray).size+c.size≤9223372036854775807) <|
   some ((⟨#[45]⟩:ByteArray)++c)
  else
   Zdu (σ:=Int × ByteArray)
    (fun s=>
     match s with
     | (a,b)=>
     chk ((Y9 [(IntKind.u8.wrap (IntKind.i64.wrap (48+(Int.tmod a 10))))]).size+b.size≤9223372036854775807) <|
     if ((IntKind.i64.wrap (Int.tdiv a 10))==0)=true then
      some (.inr ((Y9 [(IntKind.u8.wrap (IntKind.i64.wrap (48+(Int.tmod a 10))))])++b))
     else
      some (.inl ((IntKind.i64.wrap (Int.tdiv a 10)),((Y9 [(IntKind.u8.wrap (IntKind.i64.wrap (48+(Int.tmod a 10))))])++b))))
    (n_0,⟨#[]⟩)
noncomputable def QS (s_0:ByteArray):Option (Int × Bool):=
 (ZaU ((s_0.size:Nat):Int) 1 4).bind fun c=>
 if c=true then
  Zp (σ:=Int)
   (fun (i7:Nat) (b:UInt8) a=>
    if (decide (((b.toNat:Nat):Int)<48))=true then
     some (.inr (0,false))
    else
     if (decide (57<((b.toNat:Nat):Int)))=true then
      some (.inr (0,false))
     else
      some (.inl (IntKind.i64.wrap ((IntKind.i64.wrap (10 * a))+IntKind.i64.wrap (IntKind.u8.wrap (((b.toNat:Nat):Int) - 48))))))
   (fun a=>
    (ZaQ a).bind fun d=>
    if (sEq d s_0)=true then
     some (a,true)
    else
     some (0,false))
   s_0.data.toList 0 0
 else
  some (0,false)
noncomputable def Xo (a_0:ByteArray) (b_1:ByteArray):Option Int:=
 (QS a_0).bind fun b=>
 (QS b_1).bind fun a=>
 if b.2=true then
  if a.2=true then
   if (decide (b.1<a.1))=true then
    some (-1)
   else
    if (decide (a.1<b.1))=true then
     some 1
    else
     some 0
  else
   some (-1)
 else
  if a.2=true then
   some 1
  else
   (Zgh a_0 b_1).bind fun c=>
   some c
noncomputable def Za9 (x_0:Zm):Option Bool:=
 (Zc9 x_0).bind fun a=>
 if a=true then
  some (decide (3≤x_0.kind))
 else
  some false
noncomputable def ZcD (s_0:ByteArray):Option Bool:=
 (QS s_0).bind fun a=>
 some a.2
noncomputable def ZbV (x_0:Zm) (b_1:(List Zl)):Option Bool:=
 (Za9 x_0).bind fun c=>
 if c=true then
  (XI b_1).bind fun d=>
  if d=true then
   (ZaC b_1 x_0.left).bind fun a=>
   (ZaC b_1 x_0.right).bind fun b=>
   if a.2=true then
    if b.2=true then
     if (x_0.kind==3)=true then
      some (sEq a.1 b.1)
     else
      if (x_0.kind==4)=true then
       some (!(sEq a.1 b.1))
      else
       (ZcD a.1).bind fun e=>
       if e=true then
        (ZcD b.1).bind fun f=>
        if f=true then
         (Xo a.1 b.1).bind fun g=>
         some (decide (g<0))
        else
         some false
       else
        some false
    else
     some false
   else
    some false
  else
   some false
 else
  some false
noncomputable def Zb4 (x_0:Zm) (a:(List Zl)) (b:(List Zc)):Option Bool:=
 (Zc9 x_0).bind fun c=>
 if c=true then
  (XI a).bind fun d=>
  if d=true then
   if (x_0.kind==1)=true then
    (Xv x_0.pattern a b).bind fun e=>
    some (decide (0<((e.length:Nat):Int)))
   else
    if (x_0.kind==2)=true then
     (Xv x_0.pattern a b).bind fun f=>
     some (((f.length:Nat):Int)==0)
    else
     (ZbV x_0 a).bind fun g=>
     some g
  else
   some false
 else
  some false
noncomputable def Zfp (t_0:Zt):Option Zt:=
 (Zax t_0.facts).bind fun a=>
 (ZbX t_0.binding).bind fun b=>
 some ({ facts:=a,binding:=b }:Zt)
noncomputable def Zf1 (append_0:(List Zt)) (String_1:Zm) (a_2:(List Zc)):Option (List Zt):=
 Zp (σ:=(List Zt))
  (fun (i45:Nat) (c:Zt) a=>
   if (String_1.kind != 1)=true then
    (Zb4 String_1 c.binding a_2).bind fun g=>
    if g=true then
     (Zfp c).bind fun i=>
     chk (a.length+1≤1073741824) <|
     some (.inl (a++[i]))
    else
     some (.inl a)
   else
    Zp (σ:=(List Zt))
     (fun (i59:Nat) (d:Zc) b=>
      (ZaO String_1.pattern d c.binding).bind fun e=>
      if e.2=true then
       (Zax c.facts).bind fun f=>
       (X1 d).bind fun j=>
       chk (f.length+1≤1073741824) <|
       chk (b.length+1≤1073741824) <|
       some (.inl (b++[({ facts:=(f++[j]),binding:=e.1 }:Zt)]))
      else
       some (.inl b))
     (fun b=>
      some (.inl b))
     a_2 0 a)
  (fun a=>
   some a)
  append_0 0 []
noncomputable def Zay (l_0:(List Zm)) (facts_1:(List Zc)):Option (List Zt):=
 Zp (σ:=(List Zt))
  (fun (i7:Nat) (b:Zm) a=>
   (Zf1 a b facts_1).bind fun c=>
   some (.inl c))
  (fun a=>
   some a)
  l_0 0 ([({ facts:=[],binding:=[] }:Zt)])
noncomputable def XQ (r_0:Zf):Option (List Zm):=
 Zp (σ:=(List Zm))
  (fun (i6:Nat) (b:Zm) a=>
   if (b.kind != 2)=true then
    chk (a.length+1≤1073741824) <|
    some (.inl (a++[b]))
   else
    some (.inl a))
  (fun a=>
   some a)
  r_0.cond 0 []
noncomputable def Xi (p_0:Zv) (b_1:(List Zl)):Option (Zc × Bool):=
 (Xb p_0).bind fun c=>
 if c=true then
  (XI b_1).bind fun d=>
  if d=true then
   Zp (σ:=(List ByteArray))
    (fun (i11:Nat) (e:ByteArray) a=>
     (ZaC b_1 e).bind fun b=>
     if b.2=true then
      chk (a.length+1≤1073741824) <|
      some (.inl (a++[b.1]))
     else
      some (.inr (({ rel:=(⟨#[]⟩),args:=[] }:Zc),false)))
    (fun a=>
     some (({ rel:=p_0.rel,args:=a }:Zc),true))
    p_0.args 0 []
  else
   some (({ rel:=(⟨#[]⟩),args:=[] }:Zc),false)
 else
  some (({ rel:=(⟨#[]⟩),args:=[] }:Zc),false)
noncomputable def XW (l_0:(List ByteArray)) (s_1:ByteArray):Option (List ByteArray):=
 Zp (σ:=(List ByteArray) × Bool)
  (fun (i8:Nat) (b:ByteArray) s=>
   match s with
   | (a,c)=>
   if c=true then
    chk (a.length+1≤1073741824) <|
    some (.inl ((a++[b]),true))
   else
    if (sLt b s_1)=true then
     chk (a.length+1≤1073741824) <|
     some (.inl ((a++[b]),false))
    else
     if (sEq b s_1)=true then
      chk (a.length+1≤1073741824) <|
      some (.inl ((a++[b]),true))
     else
      chk (a.length+1≤1073741824) <|
      chk (a.length+1+1≤1073741824) <|
      some (.inl (((a++[s_1])++[b]),true)))
  (fun s=>
   match s with
   | (a,c)=>
   if c=true then
    some a
   else
    chk (a.length+1≤1073741824) <|
    some (a++[s_1]))
  l_0 0 ([],false)
noncomputable def Za4 (p_0:Zv):Option (List ByteArray):=
 Zp (σ:=(List ByteArray))
  (fun (i9:Nat) (b:ByteArray) a=>
   (Zap b).bind fun c=>
   if c=true then
    (XW a b).bind fun d=>
    some (.inl d)
   else
    some (.inl a))
  (fun a=>
   some a)
  p_0.args 0 []
noncomputable def XR (x_0:Zm):Option (List ByteArray):=
 (Za4 x_0.pattern).bind fun a=>
 (Zap x_0.left).bind fun c=>
 if c=true then
  (XW a x_0.left).bind fun b=>
  (Zap x_0.right).bind fun d=>
  if d=true then
   (XW b x_0.right).bind fun e=>
   some e
  else
   some b
 else
  (Zap x_0.right).bind fun f=>
  if f=true then
   (XW a x_0.right).bind fun g=>
   some g
  else
   some a
noncomputable def Qf (r_0:Zf) (n_1:Int):Option (List ByteArray):=
 Zp (σ:=(List ByteArray))
  (fun (i25:Nat) (c:Zm) a=>
   if (decide (((i25:Nat):Int)<n_1))=true then
    if (c.kind==1)=true then
     (Za4 c.pattern).bind fun d=>
     Zp (σ:=(List ByteArray))
      (fun (i34:Nat) (e:ByteArray) b=>
       (XW b e).bind fun f=>
       some (.inl f))
      (fun b=>
       some (.inl b))
      d 0 a
    else
     some (.inl a)
   else
    some (.inr a))
  (fun a=>
   some a)
  r_0.cond 0 []
noncomputable def ZS (l_0:(List ByteArray)) (s_1:ByteArray):Option Bool:=
 Zp (σ:=Unit)
  (fun (i4:Nat) (a:ByteArray) _=>
   if (sEq a s_1)=true then
    some (.inr true)
   else
    some (.inl ()))
  (fun _=>
   some false)
  l_0 0 ()
noncomputable def XS (r_0:Zf) (i_1:Int) (v_2:ByteArray):Option Bool:=
 Zp (σ:=Unit)
  (fun (i19:Nat) (a:Zm) _=>
   if (((i19:Nat):Int) != i_1)=true then
    (XR a).bind fun b=>
    (ZS b v_2).bind fun c=>
    if c=true then
     some (.inr true)
    else
     some (.inl ())
   else
    some (.inl ()))
  (fun _=>
   Zp (σ:=Unit)
    (fun (i30:Nat) (d:Zr) _=>
     (Za4 d.pattern).bind fun e=>
     (ZS e v_2).bind fun f=>
     if f=true then
      some (.inr true)
     else
      some (.inl ()))
    (fun _=>
     some false)
    r_0.thn 0 ())
  r_0.cond 0 ()
noncomputable def Zdm (a_0:Zr):Option Bool:=
 if (a_0.kind==1)=true then
  (Xb a_0.pattern).bind fun a=>
  some a
 else
  if (a_0.kind==2)=true then
   (Xb a_0.pattern).bind fun b=>
   some b
  else
   if (a_0.kind==3)=true then
    if (sEq a_0.pattern.rel ⟨#[]⟩)=true then
     some (((a_0.pattern.args.length:Nat):Int)==0)
    else
     some false
   else
    some false
noncomputable def Zdg (r_0:Zf):Option (List ByteArray):=
 Zp (σ:=(List ByteArray))
  (fun (i61:Nat) (e:Zm) a=>
   (XR e).bind fun f=>
   Zp (σ:=(List ByteArray))
    (fun (i70:Nat) (g:ByteArray) b=>
     (XW b g).bind fun i=>
     some (.inl i))
    (fun b=>
     some (.inl b))
    f 0 a)
  (fun a=>
   Zp (σ:=(List ByteArray))
    (fun (i97:Nat) (j:Zr) c=>
     (Za4 j.pattern).bind fun k=>
     Zp (σ:=(List ByteArray))
      (fun (i106:Nat) (l:ByteArray) d=>
       (XW d l).bind fun m=>
       some (.inl m))
      (fun d=>
       some (.inl d))
      k 0 c)
    (fun c=>
     some c)
    r_0.thn 0 a)
  r_0.cond 0 []
noncomputable def Zev (append_0:Zf):Option Bool:=
 (Zc4 append_0.name).bind fun g=>
 if g=true then
  (ZaU append_0.priority 0 9).bind fun i=>
  if i=true then
   (ZaU ((append_0.cond.length:Nat):Int) 1 4).bind fun j=>
   if j=true then
    (ZaU ((append_0.thn.length:Nat):Int) 1 2).bind fun k=>
    if k=true then
     (Qf append_0 ((append_0.cond.length:Nat):Int)).bind fun l=>
     Zp (σ:=Unit)
      (fun (i96:Nat) (a:Zm) _=>
       (Zc9 a).bind fun m=>
       if m=true then
        if (((i96:Nat):Int)==0)=true then
         if (a.kind != 1)=true then
          some (.inr false)
         else
          (Qf append_0 ((i96:Nat):Int)).bind fun o=>
          (XR a).bind fun p=>
          Zp (σ:=Unit)
           (fun (i110:Nat) (b:ByteArray) _=>
            (ZS o b).bind fun c=>
            (Za9 a).bind fun q=>
            if q=true then
             if c=true then
              if (a.kind==2)=true then
               some (.inl ())
              else
               some (.inl ())
             else
              some (.inr (.inr false))
            else
             if (a.kind==2)=true then
              if c=true then
               some (.inl ())
              else
               (XS append_0 ((i96:Nat):Int) b).bind fun t=>
               if t=true then
                some (.inr (.inr false))
               else
                some (.inl ())
             else
              some (.inl ()))
           (fun _=>
            some (.inl ()))
           p 0 ()
        else
         (Qf append_0 ((i96:Nat):Int)).bind fun u=>
         (XR a).bind fun v=>
         Zp (σ:=Unit)
          (fun (i126:Nat) (d:ByteArray) _=>
           (ZS u d).bind fun e=>
           (Za9 a).bind fun w=>
           if w=true then
            if e=true then
             if (a.kind==2)=true then
              some (.inl ())
             else
              some (.inl ())
            else
             some (.inr (.inr false))
           else
            if (a.kind==2)=true then
             if e=true then
              some (.inl ())
             else
              (XS append_0 ((i96:Nat):Int) d).bind fun x=>
              if x=true then
               some (.inr (.inr false))
              else
               some (.inl ())
            else
             some (.inl ()))
          (fun _=>
           some (.inl ()))
          v 0 ()
       else
        some (.inr false))
      (fun _=>
       Zp (σ:=Unit)
        (fun (i155:Nat) (f:Zr) _=>
         (Zdm f).bind fun y=>
         if y=true then
          (Za4 f.pattern).bind fun z=>
          Zp (σ:=Unit)
           (fun (i164:Nat) (A:ByteArray) _=>
            (ZS l A).bind fun B=>
            if B=true then
             some (.inl ())
            else
             some (.inr (.inr false)))
           (fun _=>
            some (.inl ()))
           z 0 ()
         else
          some (.inr false))
        (fun _=>
         (Zdg append_0).bind fun C=>
         some (decide (((C.length:Nat):Int)≤6)))
        append_0.thn 0 ())
      append_0.cond 0 ()
    else
     some false
   else
    some false
  else
   some false
 else
  some false
noncomputable def Zc8 (a_0:(List ByteArray)) (b_1:(List ByteArray)):Option Bool:=
 Zp (σ:=Unit)
  (fun (i6:Nat) (a:ByteArray) _=>
   (ZS b_1 a).bind fun b=>
   if b=true then
    some (.inl ())
   else
    some (.inr false))
  (fun _=>
   some true)
  a_0 0 ()
noncomputable def Zb6 (r_0:Zf):Option Bool:=
 (Zev r_0).bind fun b=>
 if b=true then
  Zp (σ:=Unit)
   (fun (i16:Nat) (a:Zm) _=>
    if (a.kind==2)=true then
     (XR a).bind fun c=>
     (Qf r_0 ((i16:Nat):Int)).bind fun d=>
     (Zc8 c d).bind fun e=>
     if e=true then
      some (.inl ())
     else
      some (.inr false)
    else
     some (.inl ()))
   (fun _=>
    Zp (σ:=Unit)
     (fun (i24:Nat) (f:Zr) _=>
      if (f.kind != 1)=true then
       some (.inr false)
      else
       some (.inl ()))
     (fun _=>
      some true)
     r_0.thn 0 ())
   r_0.cond 0 ()
 else
  some false
noncomputable def QW (r_0:Zf):Option (List ByteArray):=
 Zp (σ:=(List ByteArray))
  (fun (i9:Nat) (b:Zr) a=>
   if (b.kind==1)=true then
    (XW a b.pattern.rel).bind fun c=>
    some (.inl c)
   else
    if (b.kind==2)=true then
     (XW a b.pattern.rel).bind fun d=>
     some (.inl d)
    else
     some (.inl a))
  (fun a=>
   some a)
  r_0.thn 0 []
noncomputable def Zbx (r_0:Zf):Option (List ByteArray):=
 Zp (σ:=(List ByteArray))
  (fun (i9:Nat) (b:Zm) a=>
   if (b.kind==1)=true then
    (XW a b.pattern.rel).bind fun c=>
    some (.inl c)
   else
    if (b.kind==2)=true then
     (XW a b.pattern.rel).bind fun d=>
     some (.inl d)
    else
     some (.inl a))
  (fun a=>
   some a)
  r_0.cond 0 []
noncomputable def Za0 (append_0:(List Zf)) (String_1:ByteArray) (a_2:ByteArray):Option Bool:=
 Zdu (σ:=(List ByteArray) × Int)
  (fun s=>
   match s with
   | (d,c)=>
   if (decide (c<((d.length:Nat):Int)))=true then
    Zp (σ:=(List ByteArray))
     (fun (i93:Nat) (e:Zf) a=>
      (QW e).bind fun i=>
      chk (0≤c∧c<((a.length:Nat):Int)) <|
      (a[(Int.toNat c)]?).bind fun j=>
      (ZS i j).bind fun k=>
      if k=true then
       (Zbx e).bind fun f=>
       (ZS f a_2).bind fun l=>
       if l=true then
        some (.inr (.inr true))
       else
        Zp (σ:=(List ByteArray))
         (fun (i108:Nat) (g:ByteArray) b=>
          (ZS b g).bind fun m=>
          if m=true then
           some (.inl b)
          else
           chk (b.length+1≤1073741824) <|
           some (.inl (b++[g])))
         (fun b=>
          some (.inl b))
         f 0 a
      else
       some (.inl a))
     (fun a=>
      some (.inl (a,(IntKind.i64.wrap (c+1)))))
     append_0 0 d
   else
    some (.inr false))
  ([String_1],0)
noncomputable def ZeG (l_0:(List Zf)) (name_1:ByteArray):Option Int:=
 Zp (σ:=Unit)
  (fun (i4:Nat) (a:Zf) _=>
   if (sEq a.name name_1)=true then
    some (.inr ((i4:Nat):Int))
   else
    some (.inl ()))
  (fun _=>
   some (-1))
  l_0 0 ()
noncomputable def Zde (l_0:(List Zf)):Option Bool:=
 Zp (σ:=Unit)
  (fun (i8:Nat) (a:Zf) _=>
   (Zev a).bind fun b=>
   if b=true then
    (ZeG l_0 a.name).bind fun c=>
    if (c != ((i8:Nat):Int))=true then
     some (.inr false)
    else
     some (.inl ())
   else
    some (.inr false))
  (fun _=>
   some (decide (((l_0.length:Nat):Int)≤6)))
  l_0 0 ()
noncomputable def Zbg (append_0:(List Zf)):Option Bool:=
 Zp (σ:=Unit)
  (fun (i67:Nat) (a:Zf) _=>
   (Zb6 a).bind fun d=>
   if d=true then
    (QW a).bind fun e=>
    Zp (σ:=Unit)
     (fun (i90:Nat) (b:Zm) _=>
      Zp (σ:=Unit)
       (fun (i97:Nat) (c:ByteArray) _=>
        if (b.kind==2)=true then
         if (sEq b.pattern.rel c)=true then
          some (.inr (.inr (.inr false)))
         else
          (Za0 append_0 b.pattern.rel c).bind fun f=>
          if f=true then
           some (.inr (.inr (.inr false)))
          else
           some (.inl ())
        else
         some (.inr (.inl ())))
       (fun _=>
        some (.inl ()))
       e 0 ())
     (fun _=>
      some (.inl ()))
     a.cond 0 ()
   else
    some (.inr false))
  (fun _=>
   (Zde append_0).bind fun g=>
   some g)
  append_0 0 ()
noncomputable def Xj (a_0:Zc) (a:Zc):Option Int:=
 if (sEq a_0.rel a.rel)=true then
  Zp (σ:=Unit)
   (fun (b:Nat) (d:ByteArray) _=>
    if (decide (((b:Nat):Int)<((a.args.length:Nat):Int)))=true then
     (atI a.args ((b:Nat):Int)).bind fun e=>
     (Xo d e).bind fun c=>
     if (c != 0)=true then
      some (.inr c)
     else
      some (.inl ())
    else
     if (decide (((a_0.args.length:Nat):Int)<((a.args.length:Nat):Int)))=true then
      some (.inr (-1))
     else
      if (decide (((a.args.length:Nat):Int)<((a_0.args.length:Nat):Int)))=true then
       some (.inr 1)
      else
       some (.inr 0))
   (fun _=>
    if (decide (((a_0.args.length:Nat):Int)<((a.args.length:Nat):Int)))=true then
     some (-1)
    else
     if (decide (((a.args.length:Nat):Int)<((a_0.args.length:Nat):Int)))=true then
      some 1
     else
      some 0)
   a_0.args 0 ()
 else
  (Zgh a_0.rel a.rel).bind fun f=>
  some f
noncomputable def ZcW (a:(List Zc)):Option Bool:=
 Zp (σ:=Unit)
  (fun (b:Nat) (c:Zc) _=>
   (Zey c).bind fun d=>
   if d=true then
    if (decide (0<((b:Nat):Int)))=true then
     (atI a (IntKind.i64.wrap (((b:Nat):Int) - 1))).bind fun e=>
     (Xj e c).bind fun f=>
     if (decide (0≤f))=true then
      some (.inr false)
     else
      some (.inl ())
    else
     some (.inl ())
   else
    some (.inr false))
  (fun _=>
   some (decide (((a.length:Nat):Int)≤24)))
  a 0 ()
noncomputable def ZbK (l_0:(List Zc)) (f_1:Zc):Option (List Zc):=
 Zp (σ:=(List Zc) × Bool)
  (fun (i21:Nat) (b:Zc) s=>
   match s with
   | (a,c)=>
   if c=true then
    (X1 b).bind fun d=>
    chk (a.length+1≤1073741824) <|
    some (.inl ((a++[d]),true))
   else
    (Xj b f_1).bind fun e=>
    if (decide (0≤e))=true then
     (Xj b f_1).bind fun f=>
     if (decide (0<f))=true then
      (X1 f_1).bind fun g=>
      chk (a.length+1≤1073741824) <|
      (X1 b).bind fun i=>
      chk (a.length+1+1≤1073741824) <|
      some (.inl (((a++[g])++[i]),true))
     else
      (X1 b).bind fun j=>
      chk (a.length+1≤1073741824) <|
      some (.inl ((a++[j]),true))
    else
     (X1 b).bind fun k=>
     chk (a.length+1≤1073741824) <|
     some (.inl ((a++[k]),false)))
  (fun s=>
   match s with
   | (a,c)=>
   if c=true then
    some a
   else
    (X1 f_1).bind fun l=>
    chk (a.length+1≤1073741824) <|
    some (a++[l]))
  l_0 0 ([],false)
noncomputable def Yu (append_0:(List Zf)) (String_1:(List Zc)):Option ((List Zc) × Bool):=
 (Zbg append_0).bind fun f=>
 if f=true then
  (ZcW String_1).bind fun g=>
  if g=true then
   (Zax String_1).bind fun i=>
   Zdu (σ:=(List Zc) × Bool)
    (fun s=>
     match s with
     | (a,j)=>
     if j=true then
      Zp (σ:=(List Zc))
       (fun (i311:Nat) (e:Zf) b=>
        (XQ e).bind fun k=>
        (Zay k a).bind fun l=>
        Zp (σ:=(List Zc))
         (fun (i355:Nat) (m:Zt) c=>
          Zp (σ:=(List Zc))
           (fun (i368:Nat) (o:Zr) d=>
            (Xi o.pattern m.binding).bind fun p=>
            (ZbK d p.1).bind fun q=>
            some (.inl q))
           (fun d=>
            some (.inl d))
           e.thn 0 c)
         (fun c=>
          if (decide (24<((c.length:Nat):Int)))=true then
           some (.inr (.inr ([],false)))
          else
           some (.inl c))
         l 0 b)
       (fun b=>
        some (.inl (b,(decide (((a.length:Nat):Int)<((b.length:Nat):Int))))))
       append_0 0 a
     else
      some (.inr (a,true)))
    (i,true)
  else
   some ([],false)
 else
  some ([],false)
noncomputable def ZfJ (l_0:(List Int)) (x_1:Int):Option (List Int):=
 Zp (σ:=(List Int) × Bool)
  (fun (i7:Nat) (b:Int) s=>
   match s with
   | (a,c)=>
   if c=true then
    chk (a.length+1≤1073741824) <|
    some (.inl ((a++[b]),true))
   else
    if (decide (x_1≤b))=true then
     if (b != x_1)=true then
      chk (a.length+1≤1073741824) <|
      chk (a.length+1+1≤1073741824) <|
      some (.inl (((a++[x_1])++[b]),true))
     else
      chk (a.length+1≤1073741824) <|
      some (.inl ((a++[b]),true))
    else
     chk (a.length+1≤1073741824) <|
     some (.inl ((a++[b]),false)))
  (fun s=>
   match s with
   | (a,c)=>
   if c=true then
    some a
   else
    chk (a.length+1≤1073741824) <|
    some (a++[x_1]))
  l_0 0 ([],false)
noncomputable def Zbz (l_0:(List Zc)) (facts_1:(List Zc)):Option (List Int):=
 Zp (σ:=(List Int))
  (fun (i9:Nat) (c:Zc) a=>
   (Zau l_0 c).bind fun b=>
   if (decide (0≤b))=true then
    (ZfJ a b).bind fun d=>
    some (.inl d)
   else
    some (.inl a))
  (fun a=>
   some a)
  facts_1 0 []
noncomputable def ZaT (c:Zf) (e:Int) (b:Zt) (a_3:(List Zc)):Option Zh:=
 (atI c.thn e).bind fun f=>
 (Xi f.pattern b.binding).bind fun g=>
 Zp (σ:=(List Zc))
  (fun (i12:Nat) (d:Zm) a=>
   if (d.kind==2)=true then
    (Xi d.pattern b.binding).bind fun i=>
    chk (a.length+1≤1073741824) <|
    some (.inl (a++[i.1]))
   else
    some (.inl a))
  (fun a=>
   (Zau a_3 g.1).bind fun j=>
   (Zbz a_3 b.facts).bind fun k=>
   (Zbz a_3 a).bind fun l=>
   some ({ for_:=j,inn:=k,outs:=l }:Zh))
  c.cond 0 []
noncomputable def Zbc (a_0:(List Int)) (a:(List Int)):Option Bool:=
 if (((a_0.length:Nat):Int) != ((a.length:Nat):Int))=true then
  some false
 else
  Zp (σ:=Unit)
   (fun (b:Nat) (c:Int) _=>
    (atI a ((b:Nat):Int)).bind fun d=>
    if (c != d)=true then
     some (.inr false)
    else
     some (.inl ()))
   (fun _=>
    some true)
   a_0 0 ()
noncomputable def Zec (l_0:(List Zh)) (r_1:Zh):Option Int:=
 Zp (σ:=Unit)
  (fun (i8:Nat) (a:Zh) _=>
   if (a.for_==r_1.for_)=true then
    (Zbc a.inn r_1.inn).bind fun b=>
    if b=true then
     (Zbc a.outs r_1.outs).bind fun c=>
     if c=true then
      some (.inr ((i8:Nat):Int))
     else
      some (.inl ())
    else
     some (.inl ())
   else
    some (.inl ()))
  (fun _=>
   some (-1))
  l_0 0 ()
noncomputable def XG (append_0:(List Zf)) (String_1:(List Zc)):Option ((List Zc) × ZK × (List Xx) × Bool):=
 (Yu append_0 String_1).bind fun b=>
 if b.2=true then
  Zp (σ:=(List Zh) × (List Xx))
   (fun (i255:Nat) (o:Zc) s=>
    match s with
    | (d,e)=>
    (Zau b.1 o).bind fun p=>
    chk (d.length+1≤1073741824) <|
    chk (e.length+1≤1073741824) <|
    some (.inl ((d++[({ for_:=p,inn:=[],outs:=[] }:Zh)]),(e++[({ rule:=(⟨#[]⟩),token:=({ facts:=[],binding:=[] }:Zt) }:Xx)]))))
   (fun s=>
    match s with
    | (d,e)=>
    Zp (σ:=(List Zh) × (List Xx))
     (fun (i446:Nat) (f:Zf) s=>
      match s with
      | (g,i)=>
      (XQ f).bind fun q=>
      (Zay q b.1).bind fun t=>
      Zp (σ:=(List Zh) × (List Xx))
       (fun (i487:Nat) (l:Zt) s=>
        match s with
        | (j,k)=>
        Zp (σ:=(List Zh) × (List Xx))
         (fun (i498:Nat) (v:Zr) s=>
          match s with
          | (a,c)=>
          (ZaT f ((i498:Nat):Int) l b.1).bind fun m=>
          (Zec a m).bind fun u=>
          if (decide (0≤u))=true then
           some (.inl (a,c))
          else
           if (decide (60≤((a.length:Nat):Int)))=true then
            some (.inr (.inr (.inr ([],({ nodes:=0,reasons:=[] }:ZK),[],false))))
           else
            chk (a.length+1≤1073741824) <|
            chk (c.length+1≤1073741824) <|
            some (.inl ((a++[m]),(c++[({ rule:=f.name,token:=l }:Xx)]))))
         (fun s=>
          match s with
          | (a,c)=>
          some (.inl (a,c)))
         f.thn 0 (j,k))
       (fun s=>
        match s with
        | (j,k)=>
        some (.inl (j,k)))
       t 0 (g,i))
     (fun s=>
      match s with
      | (g,i)=>
      some (b.1,({ nodes:=((b.1.length:Nat):Int),reasons:=g }:ZK),i,true))
     append_0 0 (d,e))
   String_1 0 ([],[])
 else
  some ([],({ nodes:=0,reasons:=[] }:ZK),[],false)
noncomputable def Xw (rules_0:(List Zf)) (base_1:(List Zc)):Option ((List Zc) × ZK × Bool):=
 (XG rules_0 base_1).bind fun a=>
 if a.2.2.2=true then
  some (a.1,a.2.1,true)
 else
  some ([],({ nodes:=0,reasons:=[] }:ZK),false)
noncomputable def Zb0 (a_0:(List ByteArray)) (a:(List ByteArray)):Option Bool:=
 if (((a_0.length:Nat):Int) != ((a.length:Nat):Int))=true then
  some false
 else
  Zp (σ:=Unit)
   (fun (b:Nat) (c:ByteArray) _=>
    (atI a ((b:Nat):Int)).bind fun d=>
    if (sEq c d)=true then
     some (.inl ())
    else
     some (.inr false))
   (fun _=>
    some true)
   a_0 0 ()
noncomputable def Zbp (a_0:Zc) (b_1:Zc):Option Bool:=
 if (sEq a_0.rel b_1.rel)=true then
  (Zb0 a_0.args b_1.args).bind fun a=>
  some a
 else
  some false
noncomputable def Yh (l_0:(List Zc)) (f_1:Zc):Option Int:=
 Zp (σ:=Unit)
  (fun (i6:Nat) (a:Zc) _=>
   (Zbp a f_1).bind fun b=>
   if b=true then
    some (.inr ((i6:Nat):Int))
   else
    some (.inl ()))
  (fun _=>
   some (-1))
  l_0 0 ()
noncomputable def ZaI (l_0:(List ByteArray)):Option (List ByteArray):=
 chk (l_0.length≤1073741824) <|
 some l_0
noncomputable def Y3 (f_0:Zc):Option Zc:=
 (ZaI f_0.args).bind fun a=>
 some ({ rel:=f_0.rel,args:=a }:Zc)
noncomputable def Qr (s_0:ByteArray):Option Bool:=
 if (decide (((s_0.size:Nat):Int)<1))=true then
  some false
 else
  if (decide (8<((s_0.size:Nat):Int)))=true then
   some false
  else
   Zp (σ:=Unit)
    (fun (i4:Nat) (a:UInt8) _=>
     if (decide (((a.toNat:Nat):Int)<97))=true then
      if (decide (((a.toNat:Nat):Int)<48))=true then
       some (.inr false)
      else
       if (decide (57<((a.toNat:Nat):Int)))=true then
        some (.inr false)
       else
        some (.inl ())
     else
      if (decide (122<((a.toNat:Nat):Int)))=true then
       if (decide (((a.toNat:Nat):Int)<48))=true then
        some (.inr false)
       else
        if (decide (57<((a.toNat:Nat):Int)))=true then
         some (.inr false)
        else
         some (.inl ())
      else
       some (.inl ()))
    (fun _=>
     some true)
    s_0.data.toList 0 ()
noncomputable def ZcZ (s_0:ByteArray):Option Bool:=
 (Qr s_0).bind fun a=>
 if a=true then
  (sAt s_0 0).bind fun b=>
  some (decide (97≤((b.toNat:Nat):Int)))
 else
  some false
noncomputable def Zcn (a:ByteArray):Option Bool:=
 if (decide (1<((a.size:Nat):Int)))=true then
  (sAt a 0).bind fun b=>
  if (((b.toNat:Nat):Int)==63)=true then
   chk (0≤1∧1≤((a.size:Nat):Int)) <|
   (Qr (a.extract (Int.toNat 1) a.size)).bind fun c=>
   some c
  else
   some false
 else
  some false
noncomputable def QU (s_0:ByteArray):Option Bool:=
 (Qr s_0).bind fun a=>
 if a=true then
  some true
 else
  (Zcn s_0).bind fun b=>
  some b
noncomputable def Xe (p_0:Zv):Option Bool:=
 (ZcZ p_0.rel).bind fun a=>
 if a=true then
  if (decide (3<((p_0.args.length:Nat):Int)))=true then
   some false
  else
   Zp (σ:=Unit)
    (fun (i7:Nat) (b:ByteArray) _=>
     (QU b).bind fun c=>
     if c=true then
      some (.inl ())
     else
      some (.inr false))
    (fun _=>
     some true)
    p_0.args 0 ()
 else
  some false
noncomputable def XL (a:(List Zl)):Option Bool:=
 if (decide (6<((a.length:Nat):Int)))=true then
  some false
 else
  Zp (σ:=Unit)
   (fun (c:Nat) (b:Zl) _=>
    (Zcn b.var).bind fun d=>
    if d=true then
     (Qr b.value).bind fun e=>
     if e=true then
      if (decide (0<((c:Nat):Int)))=true then
       (atI a (IntKind.i64.wrap (((c:Nat):Int) - 1))).bind fun f=>
       if (sLt f.var b.var)=true then
        some (.inl ())
       else
        some (.inr false)
      else
       some (.inl ())
     else
      some (.inr false)
    else
     some (.inr false))
   (fun _=>
    some true)
   a 0 ()
noncomputable def Zen (f_0:Zc):Option Bool:=
 (ZcZ f_0.rel).bind fun a=>
 if a=true then
  if (decide (3<((f_0.args.length:Nat):Int)))=true then
   some false
  else
   Zp (σ:=Unit)
    (fun (i7:Nat) (b:ByteArray) _=>
     (Qr b).bind fun c=>
     if c=true then
      some (.inl ())
     else
      some (.inr false))
    (fun _=>
     some true)
    f_0.args 0 ()
 else
  some false
noncomputable def ZaB (b_0:(List Zl)):Option (List Zl):=
 chk (b_0.length≤1073741824) <|
 some b_0
noncomputable def ZaL (b_0:(List Zl)) (term_1:ByteArray):Option (ByteArray × Bool):=
 (Qr term_1).bind fun b=>
 if b=true then
  some (term_1,true)
 else
  (Zcn term_1).bind fun c=>
  if c=true then
   Zp (σ:=Unit)
    (fun (i6:Nat) (a:Zl) _=>
     if (sEq a.var term_1)=true then
      some (.inr (a.value,true))
     else
      some (.inl ()))
    (fun _=>
     some ((⟨#[]⟩),false))
    b_0 0 ()
  else
   some ((⟨#[]⟩),false)
noncomputable def ZfW (append_0:(List Zl)) (b:ByteArray) (a_2:ByteArray):Option ((List Zl) × Bool):=
 (XL append_0).bind fun f=>
 if f=true then
  (Zcn b).bind fun g=>
  if g=true then
   (Qr a_2).bind fun i=>
   if i=true then
    (ZaL append_0 b).bind fun e=>
    if e.2=true then
     if (sEq e.1 a_2)=true then
      (ZaB append_0).bind fun j=>
      some (j,true)
     else
      some ([],false)
    else
     if (decide (6≤((append_0.length:Nat):Int)))=true then
      some ([],false)
     else
      Zp (σ:=(List Zl) × Bool)
       (fun (i13:Nat) (c:Zl) s=>
        match s with
        | (a,d)=>
        if d=true then
         chk (a.length+1≤1073741824) <|
         some (.inl ((a++[c]),true))
        else
         if (sLt c.var b||sEq c.var b)=true then
          chk (a.length+1≤1073741824) <|
          some (.inl ((a++[c]),false))
         else
          chk (a.length+1≤1073741824) <|
          chk (a.length+1+1≤1073741824) <|
          some (.inl (((a++[({ var:=b,value:=a_2 }:Zl)])++[c]),true)))
       (fun s=>
        match s with
        | (a,d)=>
        if d=true then
         some (a,true)
        else
         chk (a.length+1≤1073741824) <|
         some ((a++[({ var:=b,value:=a_2 }:Zl)]),true))
       append_0 0 ([],false)
   else
    some ([],false)
  else
   some ([],false)
 else
  some ([],false)
noncomputable def ZaD (append_0:Zv) (a:Zc) (a_2:(List Zl)):Option ((List Zl) × Bool):=
 (Xe append_0).bind fun f=>
 if f=true then
  (Zen a).bind fun g=>
  if g=true then
   (XL a_2).bind fun i=>
   if i=true then
    if (sEq append_0.rel a.rel)=true then
     if (((append_0.args.length:Nat):Int) != ((a.args.length:Nat):Int))=true then
      some ([],false)
     else
      (ZaB a_2).bind fun j=>
      Zp (σ:=(List Zl))
       (fun (d:Nat) (c:ByteArray) b=>
        (Qr c).bind fun k=>
        if k=true then
         (atI a.args ((d:Nat):Int)).bind fun l=>
         if (sEq c l)=true then
          some (.inl b)
         else
          some (.inr ([],false))
        else
         (atI a.args ((d:Nat):Int)).bind fun m=>
         (ZfW b c m).bind fun e=>
         if e.2=true then
          some (.inl e.1)
         else
          some (.inr ([],false)))
       (fun b=>
        some (b,true))
       append_0.args 0 j
    else
     some ([],false)
   else
    some ([],false)
  else
   some ([],false)
 else
  some ([],false)
noncomputable def ZaF (l_0:(List Zc)):Option (List Zc):=
 Zp (σ:=(List Zc))
  (fun (i9:Nat) (b:Zc) a=>
   (Y3 b).bind fun c=>
   chk (a.length+1≤1073741824) <|
   some (.inl (a++[c])))
  (fun a=>
   some a)
  l_0 0 []
noncomputable def Xy (p_0:Zv) (b_1:(List Zl)) (facts_2:(List Zc)):Option (List Zc):=
 Zp (σ:=(List Zc))
  (fun (i12:Nat) (b:Zc) a=>
   (ZaD p_0 b b_1).bind fun c=>
   if c.2=true then
    (Y3 b).bind fun d=>
    chk (a.length+1≤1073741824) <|
    some (.inl (a++[d]))
   else
    some (.inl a))
  (fun a=>
   some a)
  facts_2 0 []
noncomputable def Xc (p_0:Zv):Option Bool:=
 if (sEq p_0.rel ⟨#[]⟩)=true then
  some (((p_0.args.length:Nat):Int)==0)
 else
  some false
noncomputable def Zdf (x_0:Zm):Option Bool:=
 if (x_0.kind==1)=true then
  (Xe x_0.pattern).bind fun a=>
  if a=true then
   if (sEq x_0.left ⟨#[]⟩)=true then
    some (sEq x_0.right ⟨#[]⟩)
   else
    some false
  else
   some false
 else
  if (x_0.kind==2)=true then
   (Xe x_0.pattern).bind fun b=>
   if b=true then
    if (sEq x_0.left ⟨#[]⟩)=true then
     some (sEq x_0.right ⟨#[]⟩)
    else
     some false
   else
    some false
  else
   if (x_0.kind==3)=true then
    (QU x_0.left).bind fun c=>
    if c=true then
     (QU x_0.right).bind fun d=>
     if d=true then
      (Xc x_0.pattern).bind fun e=>
      some e
     else
      some false
    else
     some false
   else
    if (x_0.kind==4)=true then
     (QU x_0.left).bind fun f=>
     if f=true then
      (QU x_0.right).bind fun g=>
      if g=true then
       (Xc x_0.pattern).bind fun i=>
       some i
      else
       some false
     else
      some false
    else
     if (x_0.kind==5)=true then
      (QU x_0.left).bind fun j=>
      if j=true then
       (QU x_0.right).bind fun k=>
       if k=true then
        (Xc x_0.pattern).bind fun l=>
        some l
       else
        some false
      else
       some false
     else
      some false
noncomputable def Zh1 (x_0:Zm):Option Bool:=
 (Zdf x_0).bind fun a=>
 if a=true then
  some (decide (3≤x_0.kind))
 else
  some false
noncomputable def ZaJ (n_0:Int):Option ByteArray:=
 (Zm7 n_0).bind fun a=>
 some a
noncomputable def QK (s_0:ByteArray):Option (Int × Bool):=
 if (decide (((s_0.size:Nat):Int)<1))=true then
  some (0,false)
 else
  if (decide (4<((s_0.size:Nat):Int)))=true then
   some (0,false)
  else
   (ZkL s_0).bind fun a=>
   if a.2=true then
    if (decide (a.1<0))=true then
     some (0,false)
    else
     if (decide (9999<a.1))=true then
      some (0,false)
     else
      (ZaJ a.1).bind fun b=>
      if (sEq b s_0)=true then
       some (a.1,true)
      else
       some (0,false)
   else
    some (0,false)
noncomputable def Zb7 (append_0:Zm) (String_1:(List Zl)):Option Bool:=
 (Zh1 append_0).bind fun e=>
 if e=true then
  (XL String_1).bind fun f=>
  if f=true then
   (ZaL String_1 append_0.left).bind fun a=>
   (ZaL String_1 append_0.right).bind fun b=>
   if a.2=true then
    if b.2=true then
     if (append_0.kind==3)=true then
      some (sEq a.1 b.1)
     else
      if (append_0.kind==4)=true then
       some (!(sEq a.1 b.1))
      else
       (QK a.1).bind fun c=>
       (QK b.1).bind fun d=>
       if c.2=true then
        if d.2=true then
         some (decide (c.1<d.1))
        else
         some false
       else
        some false
    else
     some false
   else
    some false
  else
   some false
 else
  some false
noncomputable def ZbZ (x_0:Zm) (a:(List Zl)) (b:(List Zc)):Option Bool:=
 (Zdf x_0).bind fun c=>
 if c=true then
  (XL a).bind fun d=>
  if d=true then
   if (x_0.kind==1)=true then
    (Xy x_0.pattern a b).bind fun e=>
    some (decide (0<((e.length:Nat):Int)))
   else
    if (x_0.kind==2)=true then
     (Xy x_0.pattern a b).bind fun f=>
     some (((f.length:Nat):Int)==0)
    else
     (Zb7 x_0 a).bind fun g=>
     some g
  else
   some false
 else
  some false
noncomputable def Zaw (append_0:(List Zm)) (String_1:(List Zc)):Option (List Zt):=
 Zp (σ:=(List Zt))
  (fun (i246:Nat) (d:Zm) e=>
   Zp (σ:=(List Zt))
    (fun (i322:Nat) (c:Zt) a=>
     if (d.kind != 1)=true then
      (ZbZ d c.binding String_1).bind fun j=>
      if j=true then
       chk (a.length+1≤1073741824) <|
       some (.inl (a++[c]))
      else
       some (.inl a)
     else
      Zp (σ:=(List Zt))
       (fun (i335:Nat) (f:Zc) b=>
        (ZaD d.pattern f c.binding).bind fun g=>
        if g.2=true then
         (ZaF c.facts).bind fun i=>
         (Y3 f).bind fun k=>
         chk (i.length+1≤1073741824) <|
         chk (b.length+1≤1073741824) <|
         some (.inl (b++[({ facts:=(i++[k]),binding:=g.1 }:Zt)]))
        else
         some (.inl b))
       (fun b=>
        some (.inl b))
       String_1 0 a)
    (fun a=>
     some (.inl a))
    e 0 [])
  (fun e=>
   some e)
  append_0 0 ([({ facts:=[],binding:=[] }:Zt)])
noncomputable def YU (r_0:Zf):Option (List Zm):=
 Zp (σ:=(List Zm))
  (fun (i7:Nat) (b:Zm) a=>
   if (b.kind != 2)=true then
    chk (a.length+1≤1073741824) <|
    some (.inl (a++[b]))
   else
    some (.inl a))
  (fun a=>
   some a)
  r_0.cond 0 []
noncomputable def Ql (p_0:Zv) (b_1:(List Zl)):Option (Zc × Bool):=
 (Xe p_0).bind fun c=>
 if c=true then
  (XL b_1).bind fun d=>
  if d=true then
   Zp (σ:=(List ByteArray))
    (fun (i11:Nat) (e:ByteArray) a=>
     (ZaL b_1 e).bind fun b=>
     if b.2=true then
      chk (a.length+1≤1073741824) <|
      some (.inl (a++[b.1]))
     else
      some (.inr (({ rel:=(⟨#[]⟩),args:=[] }:Zc),false)))
    (fun a=>
     some (({ rel:=p_0.rel,args:=a }:Zc),true))
    p_0.args 0 []
  else
   some (({ rel:=(⟨#[]⟩),args:=[] }:Zc),false)
 else
  some (({ rel:=(⟨#[]⟩),args:=[] }:Zc),false)
noncomputable def Zat (a:(List Zf)) (name_1:ByteArray):Option Int:=
 Zp (σ:=Unit)
  (fun (i4:Nat) (b:Zf) _=>
   if (sEq b.name name_1)=true then
    some (.inr ((i4:Nat):Int))
   else
    some (.inl ()))
  (fun _=>
   some (-1))
  a 0 ()
noncomputable def Yp (l_0:(List ByteArray)):Option (List ByteArray):=
 chk (l_0.length≤1073741824) <|
 (ZbI l_0).bind fun c=>
 Zp (σ:=(List ByteArray))
  (fun (b:Nat) (d:ByteArray) a=>
   if (((b:Nat):Int)==0)=true then
    chk (a.length+1≤1073741824) <|
    some (.inl (a++[d]))
   else
    chk (0≤(IntKind.i64.wrap (((b:Nat):Int) - 1))∧(IntKind.i64.wrap (((b:Nat):Int) - 1))<((c.length:Nat):Int)) <|
    (c[(Int.toNat (IntKind.i64.wrap (((b:Nat):Int) - 1)))]?).bind fun e=>
    if (sEq e d)=true then
     some (.inl a)
    else
     chk (a.length+1≤1073741824) <|
     some (.inl (a++[d])))
  (fun a=>
   some a)
  c 0 []
noncomputable def QJ (l_0:(List ByteArray)):Option (List ByteArray):=
 Zp (σ:=(List ByteArray))
  (fun (i9:Nat) (b:ByteArray) a=>
   (Zcn b).bind fun c=>
   if c=true then
    chk (a.length+1≤1073741824) <|
    some (.inl (a++[b]))
   else
    some (.inl a))
  (fun a=>
   some a)
  l_0 0 []
noncomputable def QR (r_0:Zf) (n_1:Int):Option (List ByteArray):=
 Zp (σ:=(List ByteArray))
  (fun (i10:Nat) (b:Zm) a=>
   if (decide (((i10:Nat):Int)<n_1))=true then
    if (b.kind==1)=true then
     (QJ b.pattern.args).bind fun c=>
     chk (a.length+c.length≤1073741824) <|
     some (.inl (a++c))
    else
     some (.inl a)
   else
    some (.inl a))
  (fun a=>
   (Yp a).bind fun d=>
   some d)
  r_0.cond 0 []
noncomputable def Xh (l_0:(List ByteArray)) (s_1:ByteArray):Option Bool:=
 Zp (σ:=Unit)
  (fun (i4:Nat) (a:ByteArray) _=>
   if (sEq a s_1)=true then
    some (.inr true)
   else
    some (.inl ()))
  (fun _=>
   some false)
  l_0 0 ()
noncomputable def Zgk (x_0:Zm):Option (List ByteArray):=
 (ZaI x_0.pattern.args).bind fun a=>
 chk (a.length+2≤1073741824) <|
 some (a++[x_0.left,x_0.right])
noncomputable def Qn (x_0:Zm):Option (List ByteArray):=
 (Zgk x_0).bind fun a=>
 (QJ a).bind fun b=>
 (Yp b).bind fun c=>
 some c
noncomputable def XB (r_0:Zf) (k_1:Int) (a:ByteArray):Option Bool:=
 Zp (σ:=Unit)
  (fun (i16:Nat) (b:Zm) _=>
   if (((i16:Nat):Int) != k_1)=true then
    (Qn b).bind fun c=>
    (Xh c a).bind fun d=>
    if d=true then
     some (.inr true)
    else
     some (.inl ())
   else
    some (.inl ()))
  (fun _=>
   Zp (σ:=Unit)
    (fun (i25:Nat) (e:Zr) _=>
     (Xh e.pattern.args a).bind fun f=>
     if f=true then
      some (.inr true)
     else
      some (.inl ()))
    (fun _=>
     some false)
    r_0.thn 0 ())
  r_0.cond 0 ()
noncomputable def ZbE (a:Zf) (b:Int):Option Bool:=
 (atI a.cond b).bind fun c=>
 (QR a b).bind fun e=>
 (Qn c).bind fun f=>
 Zp (σ:=Unit)
  (fun (i11:Nat) (d:ByteArray) _=>
   if (c.kind==1)=true then
    some (.inl ())
   else
    (Xh e d).bind fun g=>
    if g=true then
     some (.inl ())
    else
     if (c.kind != 2)=true then
      some (.inr false)
     else
      (XB a b d).bind fun i=>
      if i=true then
       some (.inr false)
      else
       some (.inl ()))
  (fun _=>
   some true)
  f 0 ()
noncomputable def ZcH (a_0:Zr):Option Bool:=
 if (a_0.kind==1)=true then
  (Xe a_0.pattern).bind fun a=>
  some a
 else
  if (a_0.kind==2)=true then
   (Xe a_0.pattern).bind fun b=>
   some b
  else
   if (a_0.kind==3)=true then
    (Xc a_0.pattern).bind fun c=>
    some c
   else
    some false
noncomputable def Zbj (l_0:(List Zm)):Option (List ByteArray):=
 Zp (σ:=(List ByteArray))
  (fun (i9:Nat) (c:Zm) a=>
   (Qn c).bind fun b=>
   chk (a.length+b.length≤1073741824) <|
   some (.inl (a++b)))
  (fun a=>
   some a)
  l_0 0 []
noncomputable def Zek (append_0:Zf):Option Bool:=
 (ZcZ append_0.name).bind fun c=>
 if c=true then
  if (decide (append_0.priority<0))=true then
   some false
  else
   if (decide (9<append_0.priority))=true then
    some false
   else
    if (decide (((append_0.cond.length:Nat):Int)<1))=true then
     some false
    else
     if (decide (4<((append_0.cond.length:Nat):Int)))=true then
      some false
     else
      if (decide (((append_0.thn.length:Nat):Int)<1))=true then
       some false
      else
       if (decide (2<((append_0.thn.length:Nat):Int)))=true then
        some false
       else
        Zp (σ:=Unit)
         (fun (i50:Nat) (a:Zm) _=>
          (Zdf a).bind fun d=>
          if d=true then
           if (((i50:Nat):Int)==0)=true then
            if (a.kind != 1)=true then
             some (.inr false)
            else
             (ZbE append_0 ((i50:Nat):Int)).bind fun e=>
             if e=true then
              some (.inl ())
             else
              some (.inr false)
           else
            (ZbE append_0 ((i50:Nat):Int)).bind fun f=>
            if f=true then
             some (.inl ())
            else
             some (.inr false)
          else
           some (.inr false))
         (fun _=>
          (QR append_0 ((append_0.cond.length:Nat):Int)).bind fun g=>
          Zp (σ:=Unit)
           (fun (i81:Nat) (b:Zr) _=>
            (ZcH b).bind fun i=>
            if i=true then
             (QJ b.pattern.args).bind fun j=>
             Zp (σ:=Unit)
              (fun (i90:Nat) (k:ByteArray) _=>
               (Xh g k).bind fun l=>
               if l=true then
                some (.inl ())
               else
                some (.inr (.inr false)))
              (fun _=>
               some (.inl ()))
              j 0 ()
            else
             some (.inr false))
           (fun _=>
            (Zbj append_0.cond).bind fun m=>
            (Yp m).bind fun o=>
            some (decide (((o.length:Nat):Int)≤6)))
           append_0.thn 0 ())
         append_0.cond 0 ()
 else
  some false
noncomputable def ZcX (a:(List Zf)):Option Bool:=
 if (decide (6<((a.length:Nat):Int)))=true then
  some false
 else
  Zp (σ:=Unit)
   (fun (i8:Nat) (b:Zf) _=>
    (Zek b).bind fun c=>
    if c=true then
     (Zat a b.name).bind fun d=>
     if (d != ((i8:Nat):Int))=true then
      some (.inr false)
     else
      some (.inl ())
    else
     some (.inr false))
   (fun _=>
    some true)
   a 0 ()
noncomputable def Zdh (r_0:Zf):Option Bool:=
 Zp (σ:=Unit)
  (fun (i4:Nat) (a:Zr) _=>
   if (a.kind != 1)=true then
    some (.inr false)
   else
    some (.inl ()))
  (fun _=>
   some true)
  r_0.thn 0 ()
noncomputable def ZbY (r_0:Zf):Option Bool:=
 (Zek r_0).bind fun b=>
 if b=true then
  (Zdh r_0).bind fun c=>
  if c=true then
   Zp (σ:=Unit)
    (fun (i26:Nat) (a:Zm) _=>
     if (a.kind != 2)=true then
      some (.inl ())
     else
      (QR r_0 ((i26:Nat):Int)).bind fun d=>
      (Qn a).bind fun e=>
      Zp (σ:=Unit)
       (fun (i35:Nat) (f:ByteArray) _=>
        (Xh d f).bind fun g=>
        if g=true then
         some (.inl ())
        else
         some (.inr (.inr false)))
       (fun _=>
        some (.inl ()))
       e 0 ())
    (fun _=>
     some true)
    r_0.cond 0 ()
  else
   some false
 else
  some false
noncomputable def Qm (r_0:Zf):Option (List ByteArray):=
 Zp (σ:=(List ByteArray))
  (fun (i7:Nat) (b:Zr) a=>
   if (b.kind==1)=true then
    chk (a.length+1≤1073741824) <|
    some (.inl (a++[b.pattern.rel]))
   else
    if (b.kind==2)=true then
     chk (a.length+1≤1073741824) <|
     some (.inl (a++[b.pattern.rel]))
    else
     some (.inl a))
  (fun a=>
   (Yp a).bind fun c=>
   some c)
  r_0.thn 0 []
noncomputable def ZbA (r_0:Zf):Option (List ByteArray):=
 Zp (σ:=(List ByteArray))
  (fun (i7:Nat) (b:Zm) a=>
   if (b.kind==1)=true then
    chk (a.length+1≤1073741824) <|
    some (.inl (a++[b.pattern.rel]))
   else
    if (b.kind==2)=true then
     chk (a.length+1≤1073741824) <|
     some (.inl (a++[b.pattern.rel]))
    else
     some (.inl a))
  (fun a=>
   (Yp a).bind fun c=>
   some c)
  r_0.cond 0 []
noncomputable def ZcM (rules_0:(List Zf)) (a_1:ByteArray):Option (List (ByteArray × Bool)):=
 Zdu (σ:=(List (ByteArray × Bool)) × (List ByteArray))
  (fun s=>
   match s with
   | (g,a)=>
   if (decide (0<((a.length:Nat):Int)))=true then
    chk (0≤0∧0<((a.length:Nat):Int)) <|
    (a[(Int.toNat 0)]?).bind fun j=>
    chk (0≤1∧1≤((a.length:Nat):Int)) <|
    Zp (σ:=(List (ByteArray × Bool)) × (List ByteArray))
     (fun (i72:Nat) (i:Zf) s=>
      match s with
      | (d,e)=>
      (Qm i).bind fun k=>
      (Xh k j).bind fun l=>
      if l=true then
       (ZbA i).bind fun m=>
       Zp (σ:=(List (ByteArray × Bool)) × (List ByteArray))
        (fun (i83:Nat) (f:ByteArray) s=>
         match s with
         | (b,c)=>
         if (Q6 b f false)=true then
          some (.inl (b,c))
         else
          chk (c.length+1≤1073741824) <|
          some (.inl ((Ze1 b f true),(c++[f]))))
        (fun s=>
         match s with
         | (b,c)=>
         some (.inl (b,c)))
        m 0 (d,e)
      else
       some (.inl (d,e)))
     (fun s=>
      match s with
      | (d,e)=>
      some (.inl (d,e)))
     rules_0 0 (g,(List.drop (Int.toNat 1) a))
   else
    some (.inr g))
  ([],[a_1])
noncomputable def Za7 (rules_0:(List Zf)):Option Bool:=
 (ZcX rules_0).bind fun d=>
 if d=true then
  Zp (σ:=Unit)
   (fun (i59:Nat) (a:Zf) _=>
    (ZbY a).bind fun e=>
    if e=true then
     Zp (σ:=Unit)
      (fun (i79:Nat) (b:Zm) _=>
       if (b.kind != 2)=true then
        some (.inl ())
       else
        (ZcM rules_0 b.pattern.rel).bind fun f=>
        (Qm a).bind fun g=>
        Zp (σ:=Unit)
         (fun (i86:Nat) (c:ByteArray) _=>
          if (sEq c b.pattern.rel)=true then
           some (.inr (.inr (.inr false)))
          else
           if (Q6 f c false)=true then
            some (.inr (.inr (.inr false)))
           else
            some (.inl ()))
         (fun _=>
          some (.inl ()))
         g 0 ())
      (fun _=>
       some (.inl ()))
      a.cond 0 ()
    else
     some (.inr false))
   (fun _=>
    some true)
   rules_0 0 ()
 else
  some false
noncomputable def XP (a_0:Int) (b_1:Int):Option Int:=
 if (decide (a_0<b_1))=true then
  some (-1)
 else
  if (decide (b_1<a_0))=true then
   some 1
  else
   some 0
noncomputable def QI (a_0:ByteArray) (b_1:ByteArray):Option Int:=
 (QK a_0).bind fun b=>
 (QK b_1).bind fun a=>
 if b.2=true then
  if a.2=true then
   (XP b.1 a.1).bind fun c=>
   some c
  else
   some (-1)
 else
  if a.2=true then
   some 1
  else
   (Zeg a_0 b_1).bind fun d=>
   some d
noncomputable def Qb (a_0:Zc) (a:Zc):Option Int:=
 (Zeg a_0.rel a.rel).bind fun b=>
 if (b != 0)=true then
  some b
 else
  Zp (σ:=Unit)
   (fun (c:Nat) (e:ByteArray) _=>
    if (decide (((c:Nat):Int)<((a.args.length:Nat):Int)))=true then
     (atI a.args ((c:Nat):Int)).bind fun f=>
     (QI e f).bind fun d=>
     if (d != 0)=true then
      some (.inr d)
     else
      some (.inl ())
    else
     (XP ((a_0.args.length:Nat):Int) ((a.args.length:Nat):Int)).bind fun g=>
     some (.inr g))
   (fun _=>
    (XP ((a_0.args.length:Nat):Int) ((a.args.length:Nat):Int)).bind fun i=>
    some i)
   a_0.args 0 ()
noncomputable def ZcU (a:(List Zc)):Option Bool:=
 if (decide (24<((a.length:Nat):Int)))=true then
  some false
 else
  Zp (σ:=Unit)
   (fun (b:Nat) (c:Zc) _=>
    (Zen c).bind fun d=>
    if d=true then
     if (decide (0<((b:Nat):Int)))=true then
      (atI a (IntKind.i64.wrap (((b:Nat):Int) - 1))).bind fun e=>
      (Qb e c).bind fun f=>
      if (decide (0≤f))=true then
       some (.inr false)
      else
       some (.inl ())
     else
      some (.inl ())
    else
     some (.inr false))
   (fun _=>
    some true)
   a 0 ()
noncomputable def X2 (l_0:(List Zc)) (f_1:Zc):Option (List Zc):=
 Zp (σ:=(List Zc) × Bool)
  (fun (i21:Nat) (b:Zc) s=>
   match s with
   | (a,c)=>
   if c=true then
    (Y3 b).bind fun d=>
    chk (a.length+1≤1073741824) <|
    some (.inl ((a++[d]),true))
   else
    (Qb b f_1).bind fun e=>
    if (decide (0<e))=true then
     (Y3 f_1).bind fun f=>
     chk (a.length+1≤1073741824) <|
     (Y3 b).bind fun g=>
     chk (a.length+1+1≤1073741824) <|
     some (.inl (((a++[f])++[g]),true))
    else
     (Y3 b).bind fun i=>
     chk (a.length+1≤1073741824) <|
     some (.inl ((a++[i]),false)))
  (fun s=>
   match s with
   | (a,c)=>
   if c=true then
    some a
   else
    (Y3 f_1).bind fun j=>
    chk (a.length+1≤1073741824) <|
    some (a++[j]))
  l_0 0 ([],false)
noncomputable def Yv (append_0:(List Zf)) (String_1:(List Zc)):Option ((List Zc) × Bool):=
 (Za7 append_0).bind fun k=>
 if k=true then
  (ZcU String_1).bind fun l=>
  if l=true then
   (ZaF String_1).bind fun m=>
   Zdu (σ:=(List Zc) × Bool)
    (fun s=>
     match s with
     | (g,o)=>
     if o=true then
      Zp (σ:=(List Zc) × Bool)
       (fun (i423:Nat) (i:Zf) s=>
        match s with
        | (b,c)=>
        (YU i).bind fun p=>
        (Zaw p b).bind fun q=>
        Zp (σ:=(List Zc) × Bool)
         (fun (i480:Nat) (t:Zt) s=>
          match s with
          | (d,e)=>
          Zp (σ:=(List Zc) × Bool)
           (fun (i501:Nat) (u:Zr) s=>
            match s with
            | (a,f)=>
            (Ql u.pattern t.binding).bind fun j=>
            (Yh a j.1).bind fun v=>
            if (decide (0≤v))=true then
             some (.inl (a,f))
            else
             if (decide (24≤((a.length:Nat):Int)))=true then
              some (.inr (.inr (.inr (.inr ([],false)))))
             else
              (X2 a j.1).bind fun w=>
              some (.inl (w,true)))
           (fun s=>
            match s with
            | (a,f)=>
            some (.inl (a,f)))
           i.thn 0 (d,e))
         (fun s=>
          match s with
          | (d,e)=>
          some (.inl (d,e)))
         q 0 (b,c))
       (fun s=>
        match s with
        | (b,c)=>
        some (.inl (b,c)))
       append_0 0 (g,false)
     else
      some (.inr (g,true)))
    (m,true)
  else
   some ([],false)
 else
  some ([],false)
noncomputable def ZfY (l_0:(List Int)) (n_1:Int):Option Bool:=
 Zp (σ:=Unit)
  (fun (i4:Nat) (a:Int) _=>
   if (a==n_1)=true then
    some (.inr true)
   else
    some (.inl ()))
  (fun _=>
   some false)
  l_0 0 ()
noncomputable def Zcy (facts_0:(List Zc)) (l_1:(List Zc)):Option (List Int):=
 Zp (σ:=(List Int))
  (fun (i16:Nat) (c:Zc) a=>
   (Yh facts_0 c).bind fun b=>
   if (decide (0≤b))=true then
    (ZfY a b).bind fun d=>
    if d=true then
     some (.inl a)
    else
     chk (a.length+1≤1073741824) <|
     some (.inl (a++[b]))
   else
    some (.inl a))
  (fun a=>
   (ZeM a).bind fun e=>
   some e)
  l_1 0 []
noncomputable def Zbt (a_0:(List Int)) (a:(List Int)):Option Bool:=
 if (((a_0.length:Nat):Int) != ((a.length:Nat):Int))=true then
  some false
 else
  Zp (σ:=Unit)
   (fun (b:Nat) (c:Int) _=>
    (atI a ((b:Nat):Int)).bind fun d=>
    if (c != d)=true then
     some (.inr false)
    else
     some (.inl ()))
   (fun _=>
    some true)
   a_0 0 ()
noncomputable def Zbb (a_0:Zh) (b_1:Zh):Option Bool:=
 if (a_0.for_==b_1.for_)=true then
  (Zbt a_0.inn b_1.inn).bind fun a=>
  if a=true then
   (Zbt a_0.outs b_1.outs).bind fun b=>
   some b
  else
   some false
 else
  some false
noncomputable def ZaK (l_0:(List Zh)) (r_1:Zh):Option Bool:=
 Zp (σ:=Unit)
  (fun (i6:Nat) (a:Zh) _=>
   (Zbb a r_1).bind fun b=>
   if b=true then
    some (.inr true)
   else
    some (.inl ()))
  (fun _=>
   some false)
  l_0 0 ()
noncomputable def Zbe (append_0:(List Zf)) (String_1:(List Zc)):Option ((List Zc) × ZK × (List Zaj) × Bool):=
 (Yv append_0 String_1).bind fun a=>
 if a.2=true then
  Zp (σ:=(List Zh) × (List Zaj))
   (fun (i941:Nat) (u:Zc) s=>
    match s with
    | (e,f)=>
    (Yh a.1 u).bind fun v=>
    chk (e.length+1≤1073741824) <|
    chk (f.length+1≤1073741824) <|
    some (.inl ((e++[({ for_:=v,inn:=[],outs:=[] }:Zh)]),(f++[({ rule:=(⟨#[]⟩),facts:=[] }:Zaj)]))))
   (fun s=>
    match s with
    | (e,f)=>
    Zp (σ:=(List Zh) × (List Zaj))
     (fun (i1660:Nat) (g:Zf) s=>
      match s with
      | (i,k)=>
      (YU g).bind fun w=>
      (Zaw w a.1).bind fun x=>
      Zp (σ:=(List Zh) × (List Zaj))
       (fun (i1803:Nat) (j:Zt) s=>
        match s with
        | (l,m)=>
        Zp (σ:=(List Zc))
         (fun (i1841:Nat) (o:Zm) c=>
          if (o.kind==2)=true then
           (Ql o.pattern j.binding).bind fun y=>
           chk (c.length+1≤1073741824) <|
           some (.inl (c++[y.1]))
          else
           some (.inl c))
         (fun c=>
          Zp (σ:=(List Zh) × (List Zaj))
           (fun (i1865:Nat) (z:Zr) s=>
            match s with
            | (b,d)=>
            (Ql z.pattern j.binding).bind fun A=>
            (Yh a.1 A.1).bind fun p=>
            (Zcy a.1 j.facts).bind fun q=>
            (Zcy a.1 c).bind fun t=>
            (ZaK b ({ for_:=p,inn:=q,outs:=t }:Zh)).bind fun B=>
            if B=true then
             some (.inl (b,d))
            else
             chk (b.length+1≤1073741824) <|
             chk (d.length+1≤1073741824) <|
             some (.inl ((b++[({ for_:=p,inn:=q,outs:=t }:Zh)]),(d++[({ rule:=g.name,facts:=j.facts }:Zaj)]))))
           (fun s=>
            match s with
            | (b,d)=>
            some (.inl (b,d)))
           g.thn 0 (l,m))
         g.cond 0 [])
       (fun s=>
        match s with
        | (l,m)=>
        some (.inl (l,m)))
       x 0 (i,k))
     (fun s=>
      match s with
      | (i,k)=>
      if (decide (60<((i.length:Nat):Int)))=true then
       some ([],({ nodes:=0,reasons:=[] }:ZK),[],false)
      else
       some (a.1,({ nodes:=((a.1.length:Nat):Int),reasons:=i }:ZK),k,true))
     append_0 0 (e,f))
   String_1 0 ([],[])
 else
  some ([],({ nodes:=0,reasons:=[] }:ZK),[],false)
noncomputable def Xz (rules_0:(List Zf)) (base_1:(List Zc)):Option ((List Zc) × ZK × Bool):=
 (Zbe rules_0 base_1).bind fun a=>
 some (a.1,a.2.1,a.2.2.2)
noncomputable def ZAp (a:(List Int)) (n_1:Int):Option Bool:=
 Zp (σ:=Unit)
  (fun (b:Nat) (c:Int) _=>
   (ZaU c 0 (IntKind.i64.wrap (n_1 - 1))).bind fun d=>
   if d=true then
    if (decide (0<((b:Nat):Int)))=true then
     (atI a (IntKind.i64.wrap (((b:Nat):Int) - 1))).bind fun e=>
     if (decide (c≤e))=true then
      some (.inr false)
     else
      some (.inl ())
    else
     some (.inl ())
   else
    some (.inr false))
  (fun _=>
   some true)
  a 0 ()
noncomputable def ZAr (b_0:ZK):Option Bool:=
 Zp (σ:=Unit)
  (fun (i11:Nat) (a:Zh) _=>
   (ZaU a.for_ 0 (IntKind.i64.wrap (b_0.nodes - 1))).bind fun b=>
   if b=true then
    (ZAp a.inn b_0.nodes).bind fun c=>
    if c=true then
     (ZAp a.outs b_0.nodes).bind fun d=>
     if d=true then
      some (.inl ())
     else
      some (.inr false)
    else
     some (.inr false)
   else
    some (.inr false))
  (fun _=>
   (ZaU b_0.nodes 0 24).bind fun e=>
   if e=true then
    some (decide (((b_0.reasons.length:Nat):Int)≤60))
   else
    some false)
  b_0.reasons 0 ()
noncomputable def ZBf (l_0:(List Int)):Option (List Int):=
 chk (l_0.length≤1073741824) <|
 some l_0
noncomputable def ZAC (g:ZK) (o:Int):Option (List Bool):=
 chk (0≤g.nodes∧g.nodes≤1073741824) <|
 Zdu (σ:=(List Bool) × (List Int) × Int)
  (fun s=>
   match s with
   | (l,m,d)=>
   if (decide (d<((m.length:Nat):Int)))=true then
    Zp (σ:=(List Bool) × (List Int))
     (fun (i95:Nat) (a:Zh) s=>
      match s with
      | (i,b)=>
      chk (0≤d∧d<((b.length:Nat):Int)) <|
      (b[(Int.toNat d)]?).bind fun p=>
      if (a.for_ != p)=true then
       some (.inl (i,b))
      else
       (ZBf a.inn).bind fun j=>
       chk (j.length+a.outs.length≤1073741824) <|
       Zdu (σ:=(List Bool) × (List Int) × Int)
        (fun s=>
         match s with
         | (e,k,c)=>
         if (decide (c<((j.length+a.outs.length:Nat):Int)))=true then
          chk (0≤c∧c<((j.length+a.outs.length:Nat):Int)) <|
          ((j++a.outs)[(Int.toNat c)]?).bind fun f=>
          chk (0≤f∧f<((e.length:Nat):Int)) <|
          (e[(Int.toNat f)]?).bind fun q=>
          if q=true then
           some (.inl (e,k,(IntKind.i64.wrap (c+1))))
          else
           chk (k.length+1≤1073741824) <|
           some (.inl ((List.set e (Int.toNat f) true),(k++[f]),(IntKind.i64.wrap (c+1))))
         else
          some (.inr (.inl (e,k))))
        (i,b,0))
     (fun s=>
      match s with
      | (i,b)=>
      some (.inl (i,b,(IntKind.i64.wrap (d+1)))))
     g.reasons 0 (l,m)
   else
    some (.inr l))
  ((List.replicate (Int.toNat g.nodes) false),[o],0)
noncomputable def ZAd (b_0:ZK):Option Bool:=
 (ZAr b_0).bind fun d=>
 if d=true then
  Zp (σ:=Unit)
   (fun (i27:Nat) (a:Zh) _=>
    Zp (σ:=Unit)
     (fun (i36:Nat) (b:Int) _=>
      if (b==a.for_)=true then
       some (.inr (.inr false))
      else
       (ZAC b_0 b).bind fun c=>
       chk (0≤a.for_∧a.for_<((c.length:Nat):Int)) <|
       (c[(Int.toNat a.for_)]?).bind fun e=>
       if e=true then
        some (.inr (.inr false))
       else
        some (.inl ()))
     (fun _=>
      some (.inl ()))
     a.outs 0 ())
   (fun _=>
    some true)
   b_0.reasons 0 ()
 else
  some false
noncomputable def ZAz (d:ZK):Option (List Int):=
 (ZAd d).bind fun p=>
 if p=true then
  chk (0≤d.nodes∧d.nodes≤1073741824) <|
  Zdu (σ:=(List Int) × Int)
   (fun s=>
    match s with
    | (i,j)=>
    if (decide (j≤d.nodes))=true then
     Zp (σ:=(List Int))
      (fun (i194:Nat) (a:Zh) e=>
       Zp (σ:=(List Int))
        (fun (i216:Nat) (f:Int) b=>
         chk (0≤a.for_∧a.for_<((b.length:Nat):Int)) <|
         (b[(Int.toNat a.for_)]?).bind fun k=>
         chk (0≤f∧f<((b.length:Nat):Int)) <|
         (b[(Int.toNat f)]?).bind fun l=>
         some (.inl (List.set b (Int.toNat a.for_) (if k<l then l else k))))
        (fun b=>
         Zp (σ:=(List Int))
          (fun (i228:Nat) (g:Int) c=>
           chk (0≤a.for_∧a.for_<((c.length:Nat):Int)) <|
           (c[(Int.toNat a.for_)]?).bind fun m=>
           chk (0≤g∧g<((c.length:Nat):Int)) <|
           (c[(Int.toNat g)]?).bind fun o=>
           some (.inl (List.set c (Int.toNat a.for_) (if m<(IntKind.i64.wrap (o+1)) then (IntKind.i64.wrap (o+1)) else m))))
          (fun c=>
           some (.inl c))
          a.outs 0 b)
        a.inn 0 e)
      (fun e=>
       some (.inl (e,(IntKind.i64.wrap (j+1)))))
      d.reasons 0 i
    else
     some (.inr i))
   ((List.replicate (Int.toNat d.nodes) 0),0)
 else
  some []
noncomputable def ZAq (l_0:(List Int)) (b:(List Int)) (round_2:Int):Option Bool:=
 Zp (σ:=Unit)
  (fun (i6:Nat) (c:Int) _=>
   (atI b c).bind fun a=>
   if (decide (a<0))=true then
    some (.inr false)
   else
    if (decide (round_2≤a))=true then
     some (.inr false)
    else
     some (.inl ()))
  (fun _=>
   some true)
  l_0 0 ()
noncomputable def ZAH (l_0:(List Int)) (a:(List Int)):Option Bool:=
 Zp (σ:=Unit)
  (fun (i6:Nat) (b:Int) _=>
   (atI a b).bind fun c=>
   if (decide (0≤c))=true then
    some (.inr false)
   else
    some (.inl ()))
  (fun _=>
   some true)
  l_0 0 ()
noncomputable def ZAo (append_0:ZK) (e:(List Int)) (a_2:Int) (c:(List Int)) (a_4:Int):Option (List Int):=
 Zdu (σ:=(List Int) × Int)
  (fun s=>
   match s with
   | (b,a)=>
   if (decide (a<append_0.nodes))=true then
    (atI e a).bind fun f=>
    if (f != a_2)=true then
     some (.inl (b,(IntKind.i64.wrap (a+1))))
    else
     (atI c a).bind fun g=>
     if (decide (0≤g))=true then
      some (.inl (b,(IntKind.i64.wrap (a+1))))
     else
      Zp (σ:=Unit)
       (fun (i38:Nat) (d:Zh) _=>
        if (d.for_==a)=true then
         (ZAq d.inn c a_4).bind fun i=>
         if i=true then
          (ZAH d.outs c).bind fun j=>
          if j=true then
           chk (b.length+1≤1073741824) <|
           some (.inr (.inl ((b++[a]),(IntKind.i64.wrap (a+1)))))
          else
           some (.inl ())
         else
          some (.inl ())
        else
         some (.inl ()))
       (fun _=>
        some (.inl (b,(IntKind.i64.wrap (a+1)))))
       append_0.reasons 0 ()
   else
    some (.inr b))
  ([],0)
noncomputable def ZAB (b_0:ZK):Option (List Int):=
 (ZAd b_0).bind fun m=>
 if m=true then
  (ZAz b_0).bind fun g=>
  Zdu (σ:=(List Int) × Int)
   (fun s=>
    match s with
    | (e,i)=>
    if (decide (i<b_0.nodes))=true then
     chk (e.length+1≤1073741824) <|
     some (.inl ((e++[(-1)]),(IntKind.i64.wrap (i+1))))
    else
     Zdu (σ:=(List Int) × Int × Int)
      (fun s=>
       match s with
       | (f,j,b)=>
       if (decide (b<b_0.nodes))=true then
        (ZAo b_0 g b f j).bind fun o=>
        Zdu (σ:=(List Int) × (List Int) × Int)
         (fun s=>
          match s with
          | (k,l,c)=>
          if (decide (0<((l.length:Nat):Int)))=true then
           Zp (σ:=(List Int))
            (fun (i56:Nat) (d:Int) a=>
             chk (0≤d∧d<((a.length:Nat):Int)) <|
             (a[(Int.toNat d)]?).bind fun q=>
             some (.inl (List.set a (Int.toNat d) c)))
            (fun a=>
             (ZAo b_0 g b a (IntKind.i64.wrap (c+1))).bind fun p=>
             some (.inl (a,p,(IntKind.i64.wrap (c+1)))))
            l 0 k
          else
           some (.inr (.inl (k,c,(IntKind.i64.wrap (b+1))))))
         (f,o,j)
       else
        some (.inr (.inr f)))
      (e,0,0))
   ([],0)
 else
  some []
noncomputable def ZAA (b_0:ZK):Option (List Bool):=
 (ZAB b_0).bind fun b=>
 Zp (σ:=(List Bool))
  (fun (i6:Nat) (c:Int) a=>
   chk (a.length+1≤1073741824) <|
   some (.inl (a++[(decide (0≤c))])))
  (fun a=>
   some a)
  b 0 []
noncomputable def ZBh (l_0:(List Zc)) (b_1:ZK):Option (List Zc):=
 (ZAA b_1).bind fun b=>
 Zp (σ:=(List Zc))
  (fun (i10:Nat) (c:Zc) a=>
   if (decide (((i10:Nat):Int)<((b.length:Nat):Int)))=true then
    chk (0≤((i10:Nat):Int)∧((i10:Nat):Int)<((b.length:Nat):Int)) <|
    (b[i10]?).bind fun d=>
    if d=true then
     (X1 c).bind fun e=>
     chk (a.length+1≤1073741824) <|
     some (.inl (a++[e]))
    else
     some (.inl a)
   else
    some (.inr a))
  (fun a=>
   some a)
  l_0 0 []
noncomputable def ZAw (rules_0:(List Zf)) (base_1:(List Zc)):Option ((List Zc) × Bool):=
 (Xw rules_0 base_1).bind fun a=>
 if a.2.2=true then
  (ZBh a.1 a.2.1).bind fun b=>
  some (b,true)
 else
  some ([],false)
noncomputable def ZAW (d:ZK):Option (List Int):=
 chk (0≤d.nodes∧d.nodes≤1073741824) <|
 Zdu (σ:=(List Int) × Bool)
  (fun s=>
   match s with
   | (j,o)=>
   if o=true then
    Zp (σ:=(List Int) × Bool)
     (fun (i155:Nat) (b:Zh) s=>
      match s with
      | (a,f)=>
      chk (0≤b.for_∧b.for_<((a.length:Nat):Int)) <|
      (a[(Int.toNat b.for_)]?).bind fun k=>
      Zp (σ:=Int)
       (fun (i173:Nat) (g:Int) e=>
        chk (0≤g∧g<((a.length:Nat):Int)) <|
        (a[(Int.toNat g)]?).bind fun l=>
        some (.inl (if e<l then l else e)))
       (fun e=>
        Zp (σ:=Int)
         (fun (i182:Nat) (i:Int) c=>
          chk (0≤i∧i<((a.length:Nat):Int)) <|
          (a[(Int.toNat i)]?).bind fun m=>
          some (.inl (if c<(IntKind.i64.wrap (m+1)) then (IntKind.i64.wrap (m+1)) else c)))
         (fun c=>
          if (decide (k<c))=true then
           some (.inl ((List.set a (Int.toNat b.for_) c),true))
          else
           some (.inl (a,f)))
         b.outs 0 e)
       b.inn 0 k)
     (fun s=>
      match s with
      | (a,f)=>
      some (.inl (a,f)))
     d.reasons 0 (j,false)
   else
    some (.inr j))
  ((List.replicate (Int.toNat d.nodes) 0),true)
noncomputable def ZAk (r_0:Zh) (a:(List Int)) (before_2:Int):Option Bool:=
 Zp (σ:=Unit)
  (fun (i14:Nat) (c:Int) _=>
   (atI a c).bind fun b=>
   if (decide (b<0))=true then
    some (.inr false)
   else
    if (decide (before_2≤b))=true then
     some (.inr false)
    else
     some (.inl ()))
  (fun _=>
   Zp (σ:=Unit)
    (fun (i22:Nat) (d:Int) _=>
     (atI a d).bind fun e=>
     if (decide (0≤e))=true then
      some (.inr false)
     else
      some (.inl ()))
    (fun _=>
     some true)
    r_0.outs 0 ())
  r_0.inn 0 ()
noncomputable def ZAU (d:ZK):Option (List Int):=
 (ZAW d).bind fun g=>
 chk (0≤d.nodes∧d.nodes≤1073741824) <|
 Zdu (σ:=(List Int) × Int × Int)
  (fun s=>
   match s with
   | (i,a,m)=>
   if (decide (a<((Int.toNat d.nodes:Nat):Int)))=true then
    chk (0≤a∧a<((i.length:Nat):Int)) <|
    (i[(Int.toNat a)]?).bind fun u=>
    chk (a<((g.length:Nat):Int)) <|
    (g[(Int.toNat a)]?).bind fun o=>
    some (.inl ((List.set i (Int.toNat a) (-1)),(IntKind.i64.wrap (a+1)),(if m<o then o else m)))
   else
    Zdu (σ:=(List Int) × Int × Int)
     (fun s=>
      match s with
      | (e,j,k)=>
      if (decide (k≤m))=true then
       Zp (σ:=(List Int))
        (fun (i109:Nat) (c:Zh) b=>
         chk (0≤c.for_∧c.for_<((g.length:Nat):Int)) <|
         (g[(Int.toNat c.for_)]?).bind fun p=>
         if (p==k)=true then
          chk (c.for_<((e.length:Nat):Int)) <|
          (e[(Int.toNat c.for_)]?).bind fun q=>
          if (decide (q<0))=true then
           (ZAk c e j).bind fun t=>
           if t=true then
            chk (b.length+1≤1073741824) <|
            some (.inl (b++[c.for_]))
           else
            some (.inl b)
          else
           some (.inl b)
         else
          some (.inl b))
        (fun b=>
         if (((b.length:Nat):Int)==0)=true then
          some (.inl (e,j,(IntKind.i64.wrap (k+1))))
         else
          Zp (σ:=(List Int))
           (fun (i120:Nat) (l:Int) f=>
            chk (0≤l∧l<((f.length:Nat):Int)) <|
            (f[(Int.toNat l)]?).bind fun v=>
            some (.inl (List.set f (Int.toNat l) j)))
           (fun f=>
            some (.inl (f,(IntKind.i64.wrap (j+1)),k)))
           b 0 e)
        d.reasons 0 []
      else
       some (.inr (.inr e)))
     (i,0,0))
  ((List.replicate (Int.toNat d.nodes) 0),0,0)
noncomputable def ZAV (b_0:ZK):Option (List Bool):=
 (ZAU b_0).bind fun b=>
 Zp (σ:=(List Bool))
  (fun (i7:Nat) (c:Int) a=>
   chk (a.length+1≤1073741824) <|
   some (.inl (a++[(decide (0≤c))])))
  (fun a=>
   some a)
  b 0 []
noncomputable def ZAy (b:(List Zc)) (b_1:ZK):Option (List Zc):=
 (ZAV b_1).bind fun c=>
 Zp (σ:=(List Zc))
  (fun (d:Nat) (e:Bool) a=>
   if e=true then
    (atI b ((d:Nat):Int)).bind fun f=>
    (Y3 f).bind fun g=>
    chk (a.length+1≤1073741824) <|
    some (.inl (a++[g]))
   else
    some (.inl a))
  (fun a=>
   some a)
  c 0 []
noncomputable def ZAv (rules_0:(List Zf)) (base_1:(List Zc)):Option ((List Zc) × Bool):=
 (Xz rules_0 base_1).bind fun a=>
 if a.2.2=true then
  (ZAy a.1 a.2.1).bind fun b=>
  some (b,true)
 else
  some ([],false)
noncomputable def ZDG (a:Zf) (b:Int) (c:(List Zc)):Option (List Zt):=
 (Zev a).bind fun d=>
 if d=true then
  (ZcW c).bind fun e=>
  if e=true then
   (ZaU b 0 ((a.cond.length:Nat):Int)).bind fun f=>
   if f=true then
    chk (0≤b∧b≤((a.cond.length:Nat):Int)) <|
    (Zay (List.drop 0 (List.take (Int.toNat b) a.cond)) c).bind fun g=>
    some g
   else
    some []
  else
   some []
 else
  some []
noncomputable def ZDJ (a_0:(List Zc)) (a:(List Zc)):Option Bool:=
 if (((a_0.length:Nat):Int) != ((a.length:Nat):Int))=true then
  some false
 else
  Zp (σ:=Unit)
   (fun (b:Nat) (c:Zc) _=>
    (atI a ((b:Nat):Int)).bind fun d=>
    (Zk4 c d).bind fun e=>
    if e=true then
     some (.inl ())
    else
     some (.inr false))
   (fun _=>
    some true)
   a_0 0 ()
noncomputable def ZDH (r_0:Zf) (model_1:(List Zc)) (facts_2:(List Zc)):Option (Zt × Bool):=
 (ZDG r_0 ((r_0.cond.length:Nat):Int) model_1).bind fun b=>
 Zp (σ:=Unit)
  (fun (i7:Nat) (a:Zt) _=>
   (ZDJ a.facts facts_2).bind fun c=>
   if c=true then
    some (.inr (a,true))
   else
    some (.inl ()))
  (fun _=>
   some (({ facts:=[],binding:=[] }:Zt),false))
  b 0 ()
noncomputable def ZDK (b:(List Zf)) (String_1:(List Zc)) (a_2:(List Zc)) (c:(List Zuw)) (a_4:Zuw):Option Bool:=
 if (sEq a_4.rule ⟨#[]⟩)=true then
  if (((a_4.uses.length:Nat):Int)==0)=true then
   (Zau String_1 a_4.fact).bind fun k=>
   some (decide (0≤k))
  else
   some false
 else
  (ZeG b a_4.rule).bind fun d=>
  Zp (σ:=(List Zc))
   (fun (i28:Nat) (e:Int) a=>
    (ZaU e 0 (IntKind.i64.wrap (((c.length:Nat):Int) - 1))).bind fun l=>
    if l=true then
     (atI c e).bind fun m=>
     chk (a.length+1≤1073741824) <|
     some (.inl (a++[m.fact]))
    else
     some (.inr false))
   (fun a=>
    if (decide (d<0))=true then
     some false
    else
     (atI b d).bind fun f=>
     (ZDH f a_2 a).bind fun g=>
     Zp (σ:=Bool)
      (fun (i42:Nat) (o:Zr) i=>
       if i=true then
        (Xi o.pattern g.1.binding).bind fun j=>
        if j.2=true then
         (Zk4 j.1 a_4.fact).bind fun p=>
         if p=true then
          some (.inr true)
         else
          some (.inl true)
        else
         some (.inl true)
       else
        some (.inr false))
      (fun i=>
       some false)
      f.thn 0 g.2)
   a_4.uses 0 []
noncomputable def ZDE (rules_0:(List Zf)) (base_1:(List Zc)) (steps_2:(List Zuw)):Option Bool:=
 (ZAw rules_0 base_1).bind fun a=>
 if a.2=true then
  if (decide (60<((steps_2.length:Nat):Int)))=true then
   some false
  else
   Zp (σ:=Unit)
    (fun (i7:Nat) (b:Zuw) _=>
     chk (0≤((i7:Nat):Int)∧((i7:Nat):Int)≤((steps_2.length:Nat):Int)) <|
     (ZDK rules_0 base_1 a.1 (List.drop 0 (List.take i7 steps_2)) b).bind fun c=>
     if c=true then
      some (.inl ())
     else
      some (.inr false))
    (fun _=>
     some true)
    steps_2 0 ()
 else
  some false
noncomputable def ZDI (b:Zf) (a:Int) (c:(List Zc)):Option (List Zt):=
 (Zek b).bind fun d=>
 if d=true then
  (ZcU c).bind fun e=>
  if e=true then
   if (decide (a<0))=true then
    some []
   else
    if (decide (((b.cond.length:Nat):Int)<a))=true then
     some []
    else
     chk (0≤a∧a≤((b.cond.length:Nat):Int)) <|
     (Zaw (List.drop 0 (List.take (Int.toNat a) b.cond)) c).bind fun f=>
     some f
  else
   some []
 else
  some []
noncomputable def ZDA (a_0:(List Zc)) (a:(List Zc)):Option Bool:=
 if (((a_0.length:Nat):Int) != ((a.length:Nat):Int))=true then
  some false
 else
  Zp (σ:=Unit)
   (fun (b:Nat) (c:Zc) _=>
    (atI a ((b:Nat):Int)).bind fun d=>
    (Zbp c d).bind fun e=>
    if e=true then
     some (.inl ())
    else
     some (.inr false))
   (fun _=>
    some true)
   a_0 0 ()
noncomputable def ZDB (r_0:Zf) (model_1:(List Zc)) (l_2:(List Zc)):Option (Zt × Bool):=
 (ZDI r_0 ((r_0.cond.length:Nat):Int) model_1).bind fun b=>
 Zp (σ:=Unit)
  (fun (i7:Nat) (a:Zt) _=>
   (ZDA a.facts l_2).bind fun c=>
   if c=true then
    some (.inr (a,true))
   else
    some (.inl ()))
  (fun _=>
   some (({ facts:=[],binding:=[] }:Zt),false))
  b 0 ()
noncomputable def ZDF (d:(List Zf)) (String_1:(List Zc)) (a_2:(List Zc)) (e:(List Zuw)) (a:Zuw):Option Bool:=
 if (sEq a.rule ⟨#[]⟩)=true then
  if (((a.uses.length:Nat):Int)==0)=true then
   (Yh String_1 a.fact).bind fun k=>
   some (decide (0≤k))
  else
   some false
 else
  (Zat d a.rule).bind fun f=>
  if (decide (f<0))=true then
   some false
  else
   Zp (σ:=(List Zc))
    (fun (i26:Nat) (c:Int) b=>
     if (decide (c<0))=true then
      some (.inr false)
     else
      if (decide (((e.length:Nat):Int)≤c))=true then
       some (.inr false)
      else
       (atI e c).bind fun l=>
       chk (b.length+1≤1073741824) <|
       some (.inl (b++[l.fact])))
    (fun b=>
     (atI d f).bind fun g=>
     (ZDB g a_2 b).bind fun i=>
     if i.2=true then
      Zp (σ:=Unit)
       (fun (i38:Nat) (m:Zr) _=>
        (Ql m.pattern i.1.binding).bind fun j=>
        if j.2=true then
         (Zbp j.1 a.fact).bind fun o=>
         if o=true then
          some (.inr true)
         else
          some (.inl ())
        else
         some (.inl ()))
       (fun _=>
        some false)
       g.thn 0 ()
     else
      some false)
    a.uses 0 []
noncomputable def ZDD (rules_0:(List Zf)) (base_1:(List Zc)) (steps_2:(List Zuw)):Option Bool:=
 (ZAv rules_0 base_1).bind fun a=>
 if a.2=true then
  if (decide (60<((steps_2.length:Nat):Int)))=true then
   some false
  else
   Zp (σ:=Unit)
    (fun (i7:Nat) (b:Zuw) _=>
     chk (0≤((i7:Nat):Int)∧((i7:Nat):Int)≤((steps_2.length:Nat):Int)) <|
     (ZDF rules_0 base_1 a.1 (List.drop 0 (List.take i7 steps_2)) b).bind fun c=>
     if c=true then
      some (.inl ())
     else
      some (.inr false))
    (fun _=>
     some true)
    steps_2 0 ()
 else
  some false
noncomputable def ZFm (steps_0:(List Zuw)) (f_1:Zc):Option Int:=
 Zp (σ:=Unit)
  (fun (i6:Nat) (a:Zuw) _=>
   (Zk4 a.fact f_1).bind fun b=>
   if b=true then
    some (.inr ((i6:Nat):Int))
   else
    some (.inl ()))
  (fun _=>
   some (-1))
  steps_0 0 ()
noncomputable def ZFn (rules_0:(List Zf)) (base_1:(List Zc)) (steps_2:(List Zuw)) (f_3:Zc):Option Bool:=
 (ZDE rules_0 base_1 steps_2).bind fun a=>
 if a=true then
  (ZFm steps_2 f_3).bind fun b=>
  some (decide (0≤b))
 else
  some false
noncomputable def ZFl (steps_0:(List Zuw)) (f_1:Zc):Option Int:=
 Zp (σ:=Unit)
  (fun (i6:Nat) (a:Zuw) _=>
   (Zbp a.fact f_1).bind fun b=>
   if b=true then
    some (.inr ((i6:Nat):Int))
   else
    some (.inl ()))
  (fun _=>
   some (-1))
  steps_0 0 ()
noncomputable def ZFo (rules_0:(List Zf)) (base_1:(List Zc)) (steps_2:(List Zuw)) (f_3:Zc):Option Bool:=
 (ZFl steps_2 f_3).bind fun a=>
 if (decide (0≤a))=true then
  (ZDD rules_0 base_1 steps_2).bind fun b=>
  some b
 else
  some false
end Go.Proofs.YtojnhepgnbhaaaaGreatDoor
