/- Texts of this proof, joined: Base, Own, Codec, BTree, BState, BInv, BRun, BOps1, BOps2, BOps3, BOps4, BOps5, BOps6, BOps7, BOps8. What each holds is said at its theorems. -/
import Derived.WalkKit
import Derived.Lib.Hide
import Derived.Deep.Draws
import Derived.Maps.AppendAt
import Derived.Deep.QuietTactic
import Derived.BigQuiet
import Derived.Laws.CopyRow
import Derived.Laws.OwnMore
import Derived.Laws.StructEq
import Derived.Laws.Tables
import Derived.Great.BuildSlice
open Array renaming getElem?_eq_some_iff→AE,getElem?_modify→AY,length_toList→BI
open Bool renaming and_eq_true→AT
open ByteArray renaming size→BS
open Go.ByteArray renaming toList_eq→BV
open List renaming mem_append→A0,mem_cons→AB,mem_flatMap→AC,nodup_append→AG,getElem?_eq_some_iff→AH,eq_nil_of_length_eq_zero→AI,getElem?_append_right→AN,nodup_cons→AO,singleton_append→AR,replicate→AS,append_assoc→AU,getElem?_append_left→AW,nil_sublist→AX,drop_take→AZ,append_nil→Ag,getElem?_eq_getElem→Ai,map_cons→Ak,getElem?_drop→Al,length_append→Am,size_toArray→Ao,length_take→Aq,length_drop→Ar,drop_append_of_le_length→As,take_append_drop→Au,cons_append→Ax,sublist_append_right→Ay,mem_of_getElem?→BB,mem_of_mem_drop→BC,mem_of_mem_take→BD,drop_append→BE,drop_of_length_le→BF,flatMap_cons→BG,take_left→BJ,take_zero→BK,drop_drop→BL,drop_eq_getElem_cons→BM,take_succ_eq_append_getElem→BP,map_append→BR,sublist_append_left→BT,getElem?_set→BU,getElem?_take→BX,nil_append→BZ,take_length_add_append→Ba,flatMap_append→Bb,take_left'→Bc,replicate_succ→Bd,flatten_cons→Be,all_cons→Bg,take_succ_cons→Bh,drop_succ_cons→Bi
open List.Sublist renaming append→AK,refl→AL
open Nat renaming add_mul→A6,add_assoc→AA,le_trans→AD,le_refl→AF,mul_le_mul_right→AJ,zero_le→AM,lt_of_lt_of_le→AP,add_sub_cancel_left→AQ,zero_add→Aa,sub_mul→Ac,zero_mul→Ae,lt_or_ge→Az,eq_zero_or_pos→BH,min_eq_left→BN,le_add_right→BY,mul_le_mul→Bf
open Option renaming map_eq_some_iff→A5,bind_eq_some_iff→A9,map_some→At
open Option.some renaming injEq→A3
open Prod.mk renaming injEq→A4
open UInt8 renaming ofNat→Ah
set_option linter.unusedSimpArgs false
set_option linter.unusedVariables false
set_option maxRecDepth 1000000
set_option maxHeartbeats 4000000
namespace Go.Proofs.YtlpkbfjcdaanmaaGreatDoor
theorem yE{p:Prop}(h:p:=by omega):p:=h
theorem yF{p:Prop}(h:p:=by decide):p:=h
theorem yG{p:Prop}(h:p:=by simp):p:=h
theorem yH{p:Prop}(h:p:=by rfl):p:=h
theorem yK{p:Prop}(h:p:=by first | (simp;done) | (simp;omega) | omega):p:=h
theorem yI{p:Prop}(h:p:=by repeat (first | refine Below.setCell ?_ (by dsimp only;omega) _ | refine Below.alloc ?_ (by first | (simp;done) | (simp;omega) | omega) _ | exact Below.refl _ _)):p:=h
theorem yi{p:Prop}(h:p):p:=h
section
open Go.RowKit
theorem ZbY (b off j:Nat):(⟨b,off,none⟩:Addr).add j=⟨b,off+j,none⟩:=by
 unfold Addr.add;split<;>simp_all
def Qh (w:World) (b off:Nat) (xs:List Value):Prop:=∀j u,xs[j]?=some u→w.cell? ⟨b,off+j,none⟩=some u
def Sl (w:World) (size:Nat) (A:Option Addr) (n:Nat) (xs:List Value) (L:List Nat):Prop:=
 xs.length=n * size∧((n=0∧L=[])∨(0<n∧∃b off,A=some ⟨b,off,none⟩∧L=[b]∧Qh w b off xs))
section
variable {w w':World} {size n:Nat} {A:Option Addr} {xs:List Value} {L:List Nat}
theorem Sl.zero:Sl w size A 0 [] []:=⟨yG,.inl ⟨rfl,rfl⟩⟩
theorem Sl.at_ (h:Sl w size A n xs L) (hn:0<n):∃b off,A=some ⟨b,off,none⟩∧L=[b]∧Qh w b off xs:=by
 rcases h.2 with ⟨h0,_⟩ | ⟨_,h⟩
 ·omega
 ·exact h
theorem Sl.keep (h:Sl w size A n xs L) (hk:∀b∈L,w'.heap[b]?=w.heap[b]?):Sl w' size A n xs L:=by
 refine ⟨h.1,?_⟩
 rcases h.2 with h0 | ⟨hn,b,off,hA,hL,hc⟩
 ·exact .inl h0
 ·refine .inr ⟨hn,b,off,hA,hL,fun j u hu=>?_⟩
  rw [←hc j u hu]
  exact World.cell?_of_block (hk b (by simp [hL]))
theorem Sl.lt (h:Sl w size A n xs L) (hs:0<size):∀b∈L,b<w.heap.size:=by
 rcases h.2 with h0 | ⟨hn,b,off,hA,hL,hc⟩
 ·simp [h0.2]
 ·intro x hx
  rw [hL] at hx
  simp at hx
  subst hx
  have hp:0<xs.length:=by rw [h.1];exact Nat.mul_pos hn hs
  exact World.block_lt_of_cell? w _ (hc 0 _ (Ai hp))
end
structure Own (w:World) (base:Nat) (L:List Nat):Prop where
 nodup:L.Nodup
 ge:∀b∈L,base≤b
 plain:∀b∈L,∃cur e,w.heap[b]?=some (.cells cur e (0,0))
theorem Own.nil (w:World) (base:Nat):Own w base []:=⟨List.nodup_nil,yG,yG⟩
theorem Own.lt {w:World} {base:Nat} {L:List Nat} (h:Own w base L):∀b∈L,b<w.heap.size:=by
 intro b hb
 obtain ⟨cur,e,hc⟩:=h.plain b hb
 exact (AE.1 hc).1
theorem Own.keep {w w':World} {base:Nat} {L:List Nat} (h:Own w base L) (hk:∀b∈L,w'.heap[b]?=w.heap[b]?):Own w' base L:=
 ⟨h.nodup,h.ge,fun b hb=>by rw [hk b hb];exact h.plain b hb⟩
theorem Own.mono {w:World} {base a:Nat} {L:List Nat} (h:Own w base L) (hb:a≤base):Own w a L:=
 ⟨h.nodup,fun b m=>AD hb (h.ge b m),h.plain⟩
theorem Zy {B:Nat} {w w':World} {L:List Nat} (hb:Below B w w') (h:∀b∈L,b<B):∀b∈L,w'.heap[b]?=w.heap[b]?:=
 fun b m=>hb.block b (h b m)
structure XB (L:List Nat) (w w':World):Prop where
 os:w'.os=w.os
 tape:w'.tape=w.tape
 output:w'.output=w.output
 size:w.heap.size≤w'.heap.size
 block:∀k,k<w.heap.size→k∉L→w'.heap[k]?=w.heap[k]?
theorem XB.refl (L:List Nat) (w:World):XB L w w:=⟨rfl,rfl,rfl,AF _,fun _ _ _=>rfl⟩
theorem XB.trans {L:List Nat} {a b c:World} (h:XB L a b) (k:XB L b c):XB L a c:=
 ⟨k.os.trans h.os,k.tape.trans h.tape,k.output.trans h.output,AD h.size k.size,fun i hi hn=>(k.block i (AP hi h.size) hn).trans (h.block i hi hn)⟩
theorem XB.mono {L L':List Nat} {w w':World} (h:XB L w w') (hl:∀b∈L,b∈L'):XB L' w w':=
 ⟨h.os,h.tape,h.output,h.size,fun k hk hn=>h.block k hk (fun m=>hn (hl k m))⟩
theorem XB.below {L:List Nat} {B:Nat} {w w':World} (h:XB L w w') (hB:B≤w.heap.size) (hl:∀b∈L,B≤b):Below B w w':=
 ⟨h.os,h.tape,h.output,h.size,fun k hk=>h.block k yE (fun m=>by have:=hl k m;omega)⟩
theorem XB.of_below {w w':World} (h:Below w.heap.size w w') (L:List Nat):XB L w w':=⟨h.os,h.tape,h.output,h.size,fun k hk _=>h.block k hk⟩
theorem XB.keep {L M:List Nat} {w w':World} (h:XB L w w') (hl:∀b∈M,b<w.heap.size) (hd:∀b∈M,b∉L):∀b∈M,w'.heap[b]?=w.heap[b]?:=
 fun b m=>h.block b (hl b m) (hd b m)
theorem XB.setCell {L:List Nat} {a w:World} (h:XB L a w) {p:Addr} (hp:p.block∈L) (u:Value):XB L a (w.setCell p u):=
 h.trans ⟨rfl,rfl,rfl,by simp [World.setCell],fun k _ hn=>Below.heap_setCell _ _ _ _ (fun e=>hn (by rw [e];exact hp))⟩
theorem Zrz {B:Nat} {a w:World} (h:Below B a w) (n:Nat):Below B a (w.drewN n):=⟨h.os,h.tape,h.output,h.size,h.block⟩
theorem ZmM (B:Nat) (w:World) (n:Nat):Below B w (w.drewN n):=Zrz (Below.refl _ _) n
theorem Zy2 (w:World) (q p:Nat):∃r,(w.drewN q).drewN p=w.drewN r:=⟨q+p,World.drewN_drewN w q p⟩
theorem ZxG (w:World) (q:Nat):∃r,w.drewN q=w.drewN r:=⟨q,rfl⟩
theorem ZjW {w:World} {b o:Nat} {u v:Value} (h:w.cell? ⟨b,o,none⟩=some v):(w.setCell ⟨b,o,none⟩ u).cell? ⟨b,o,none⟩=some u:=by
 unfold World.cell? at h ⊢
 unfold World.setCell
 simp only[AY,if_true]
 cases hb:w.heap[b]? with
 | none=>simp [hb] at h
 | some ob=>
  cases ob<;>simp [hb] at h ⊢
  have a:=(AE.1 h).1
  simp [Array.getElem?_setIfInBounds,a]
theorem Zyx {P:Program} {l:Array Oper} {f:List Oper} {o:Oper} {a:Act} {Q:Exit→Act→World→Prop} {w0:World} (q:o.guard=none) (s x:Operand) (t:TypeId)
  (ho:o.op=.call { callee:=.builtin .append,args:=#[s,x],argTypes:=#[t,t] })
  (e:TypeId) (z:Value) (size c:Nat) (ht:P.underlying t=some (.slice e)) (hi:(P.info? e).map (fun i=>(i.zero,i.size,i.bytes))=some (some z,size,c)) (w:z.cells.size=size) (y:0<size)
  (base:Nat) (v:Value) (n:Nat) (xs b:List Value) (hs:a.eval s=v) (hx:a.eval x=.slice (some ⟨w0.heap.size,0,none⟩) 1 1) (m:w0.ownsRow base e size v n xs)
  (hl:b.length=size) (h1:∀u∈b,u.oneCell'=true) (h63:n+1≤9223372036854775807) (d:(n+1) * c≤140737488355328) (hbase:base≤w0.heap.size)
  (h:∀v' w',w'.ownsRow base e size v' (n+1) (xs++b)→w0.grownBy w' v.ownBlock→(∀g,v'.ownBlock=some g→v.ownBlock=some g∨w0.heap.size≤g)→wpList P l Q f (a.put o.dst v') w'):
  wpList P l Q (o::f) a (w0.alloc (.cells b.toArray e)):=by
 obtain ⟨i,A,B,C,D⟩:=info_parts hi
 refine wpList_plain q fun K hK=>?_
 obtain ⟨v',w',p,h2,h3,_,h5⟩:=run_append_own_at (P:=P) (w0.alloc (.cells b.toArray e)) base t o.type e i z size c ht A B C D w y v n xs (m.alloc _) ⟨w0.heap.size,0,none⟩ 1 1 b
  yE (fun j u hu=>by rw [ZbY];rw [cell_of_row _ w0.heap.size (0+j) b.toArray e (0,0) (heap_alloc_new w0 _)];simpa using hu) h1 (by unfold maxLen;omega) d (by simp;omega)
 unfold Oper.wp execOp
 simp only[ho,resolve,invoke,builtin,Sem.run_bind,Sem.run_pure,Result.andThen_ok,List.map_toArray,Ak,List.map_nil,hs,hx,p]
 refine hK _ _ (h v' w' h2 ?_ ?_)
 ·exact ⟨h3.os,h3.tape,h3.output,AD yG h3.size,fun k hk hn=>(h3.block k (by simp;omega) hn).trans (Below.heap_alloc w0 _ k hk)⟩
 ·intro g hg
  rcases h5 with h5 | h5<;>rw [h5] at hg
  ·exact .inl hg
  ·simp at hg
   exact .inr yE
theorem ZqS {w:World} {base:Nat} {e:TypeId} {size n:Nat} {v:Value} {xs:List Value} (h:w.ownsRow base e size v n xs):∀k,v.ownBlock=some k→base≤k:=fun k hk=>(h.lt k hk).1
theorem YK {k:IntKind} {a b:Int} (h:a=b):Ending.returned (.int k a)=.returned (.int k b):=by rw [h]
section
variable {w w':World} {n:Nat} {A:Option Addr} {zs:List Int} {L:List Nat}
end
section
variable {P:Program} {f:FuncId} {args:Array Value} {w:World} {a n:Nat} {v:Value}
end
end
end Go.Proofs.YtlpkbfjcdaanmaaGreatDoor
namespace Go.Proofs.YtlpkbfjcdaanmaaGreatDoor
open Go.RowKit
end Go.Proofs.YtlpkbfjcdaanmaaGreatDoor
namespace Go
open Go.RowKit Go.Proofs.YtlpkbfjcdaanmaaGreatDoor
def World.ownsV (w : World) (base : Nat) (e : TypeId) (size : Nat) (v : Value) (n : Nat) (xs : List Value) : Prop :=
  xs.length = n * size ∧ ((v = .slice none 0 0 ∧ n = 0) ∨
   ∃ g o cap cur, v = .slice (some ⟨g, o, none⟩) n cap ∧ base ≤ g ∧ w.heap[g]? = some (.cells cur e (0, 0)) ∧ n ≤ cap ∧ cap ≤ maxLen ∧ o + cap * size ≤ cur.size ∧ (cur.toList.drop o).take (n * size) = xs)
end Go
namespace Go.Proofs.YtlpkbfjcdaanmaaGreatDoor
open Go.RowKit
section
variable {w w':World} {base:Nat} {e:TypeId} {size n:Nat} {v:Value} {xs:List Value}
theorem ZdZ (h:w.ownsRow base e size v n xs):w.ownsV base e size v n xs:=by
 refine ⟨h.1,?_⟩
 rcases h.2 with h0 | ⟨g,cap,a,h1,h2,h3,h4,h5,h6,h7⟩
 ·exact .inl h0
 ·exact .inr ⟨g,0,cap,a,h1,h2,h3,h4,h5,yE,by simpa using h7⟩
theorem ZfF (w:World) (base:Nat) (e:TypeId) (size:Nat):w.ownsV base e size (.slice none 0 0) 0 []:=ZdZ (World.ownsRow_nil _ _ _ _)
theorem QP (h:w.ownsV base e size v n xs):∃A c,v=.slice A n c∧n≤c∧c≤maxLen:=by
 rcases h.2 with ⟨rfl,rfl⟩ | ⟨g,o,cap,cur,rfl,hb,hg,a,hm,hs,ht⟩
 ·exact ⟨none,0,rfl,AF _,AM _⟩
 ·exact ⟨_,cap,rfl,a,hm⟩
theorem ZtJ {a:Nat} (h:w.ownsV base e size v n xs) (hb:a≤base):w.ownsV a e size v n xs:=by
 refine ⟨h.1,?_⟩
 rcases h.2 with h0 | ⟨g,o,cap,b,h1,h2,h3⟩
 ·exact .inl h0
 ·exact .inr ⟨g,o,cap,b,h1,AD hb h2,h3⟩
theorem Zi6 (h:w.ownsV base e size v n xs):∀b∈v.ownBlock.toList,b<w.heap.size:=by
 rcases h.2 with ⟨h0,_⟩ | ⟨g,o,cap,cur,hv,_,hc,_⟩
 ·simp [h0,Value.ownBlock]
 ·intro b mb
  simp [hv,Value.ownBlock] at mb
  subst mb
  exact (AE.1 hc).1
theorem Zcc (h:w.ownsV base e size v n xs) (hk:∀b∈v.ownBlock.toList,w'.heap[b]?=w.heap[b]?):w'.ownsV base e size v n xs:=by
 refine ⟨h.1,?_⟩
 rcases h.2 with h0 | ⟨g,o,cap,a,hv,hg,hc,r⟩
 ·exact .inl h0
 ·refine .inr ⟨g,o,cap,a,hv,hg,?_,r⟩
  rw [hk g (by simp [hv,Value.ownBlock])]
  exact hc
theorem ZjA {g o n' cap:Nat} (h:w.ownsV base e size v n xs) (a:v=.slice (some ⟨g,o,none⟩) n' cap):∀j u,xs[j]?=some u→w.cell? ⟨g,o+j,none⟩=some u:=by
 intro j u hj
 subst a
 rcases h.2 with ⟨h0,_⟩ | ⟨g',o',cap',b,hv,hb,hg,hnc,hm,hs,ht⟩
 ·simp at h0
 ·simp only[Value.slice.injEq,A3,Addr.mk.injEq,and_true,true_and] at hv
  obtain ⟨⟨rfl,rfl⟩,rfl,rfl⟩:=hv
  rw [cell_of_row w g (o+j) b e (0,0) hg]
  rw [←ht] at hj
  have hl:j<n' * size:=by
   have:=(AH.1 hj).1
   simp at this
   omega
  rw [List.getElem?_take_of_lt hl,Al] at hj
  simpa using hj
theorem Sl.of_ownV {c:Nat} {A:Option Addr} (h:w.ownsV base e size (.slice A n c) n xs):∃L,Sl w size A n xs L∧Own w base L∧∀b∈L,∃o,A=some ⟨b,o,none⟩:=by
 rcases h.2 with ⟨hv,hn⟩ | ⟨g,o,cap,a,hv,hb,hg,hnc,hm,hs,ht⟩
 ·subst hn
  exact ⟨[],⟨h.1,.inl ⟨rfl,rfl⟩⟩,Own.nil _ _,yG⟩
 ·injection hv with hA _ hc
  subst hA
  subst hc
  rcases BH n with h0 | h0
  ·subst h0
   exact ⟨[],⟨h.1,.inl ⟨rfl,rfl⟩⟩,Own.nil _ _,yG⟩
  ·refine ⟨[g],⟨h.1,.inr ⟨h0,g,o,rfl,rfl,fun j u hu=>ZjA h rfl j u hu⟩⟩,⟨yG,by simpa using hb,fun b m=>?_⟩,yG⟩
   simp at m
   subst m
   exact ⟨a,e,hg⟩
end
section
variable {P:Program} (w:World)
theorem Zj4 (t ty e:TypeId) (i:TypeInfo) (ht:P.underlying t=some (.slice e)) (hi:P.info? e=some i)
  (g o d f:Nat) (k:Array Value) (hg:w.heap[g]?=some (.cells k e (0,0)))
  (a:Addr) (m c:Nat) (b:List Value) (hl:b.length=m * i.size) (l:∀j u,b[j]?=some u→w.cell? (a.add j)=some u) (h1:∀u∈b,u.oneCell'=true)
  (p:d+m≤f) (q:o+d * i.size+b.length≤k.size):
  (Builtin.append_ #[t,t] ty #[.slice (some ⟨g,o,none⟩) d f,.slice (some a) m c]).run P w=
   .ok (.slice (some ⟨g,o,none⟩) (d+m) f) (w.setRow g (k.toList.take (o+d * i.size)++b++k.toList.drop (o+d * i.size+b.length)).toArray):=by
 have hf:=run_firstCells_some (P:=P) w i.size m a m c b hl l
 have v:=run_storeCells_at P g (o+d * i.size) e b 0 k w hg (by simpa using q) h1
 simp only[Nat.add_zero] at v
 simp [Builtin.append_,run_underlying ht,sizeOf,typeInfo,hi,Builtin.lenOf,p,hf,Addr.add_lit,v]
theorem ZgB (base:Nat) (t ty e:TypeId) (i:TypeInfo) (z:Value) (size f:Nat) (ht:P.underlying t=some (.slice e)) (hi:P.info? e=some i) (hz:i.zero=some z)
  (A:i.size=size) (F:i.bytes=f) (G:z.cells.size=size) (J:0<size)
  (v:Value) (n:Nat) (xs:List Value) (d:w.ownsV base e size v n xs)
  (a:Addr) (m c:Nat) (b:List Value) (hl:b.length=m * size) (l:∀j u,b[j]?=some u→w.cell? (a.add j)=some u) (h1:∀u∈b,u.oneCell'=true)
  (C:n+m≤maxLen) (q:(n+m) * f≤140737488355328) (B:base≤w.heap.size):
  ∃v' w',(Builtin.append_ #[t,t] ty #[v,.slice (some a) m c]).run P w=.ok v' w'∧w'.ownsV base e size v' (n+m) (xs++b)∧w.grownBy w' v.ownBlock∧
   (v'.ownBlock=v.ownBlock∨v'.ownBlock=some w.heap.size):=by
 rcases d.2 with ⟨rfl,rfl⟩ | ⟨g,o,cap,y,rfl,K,hg,hnc,L,hcs,D⟩
 ·have hx:xs=[]:=AI (by simpa using d.1)
  subst hx
  obtain ⟨v',w',r1,r2,r3,_,r5⟩:=run_append_own_at (P:=P) w base t ty e i z size f ht hi hz A F G J _ 0 [] (World.ownsRow_nil w base e size) a m c b hl l h1 C q B
  exact ⟨v',w',r1,ZdZ r2,r3,r5⟩
 ·subst A
  subst F
  have hsmall:n+m≤9223372036854775807:=by simp only[maxLen] at C;omega
  have x:(xs++b).length=(n+m) * i.size:=by rw [Am,d.1,hl,A6]
  by_cases p:n+m≤cap
  ·have H:o+n * i.size+b.length≤y.size:=by
    have:=AJ i.size p
    rw [A6] at this
    rw [hl];omega
   have hr:=Zj4 (P:=P) w t ty e i ht hi g o n cap y hg a m c b hl l h1 p H
   refine ⟨_,_,hr,⟨x,.inr ⟨g,o,cap,_,rfl,K,setRow_heap w g y _ e _ hg,p,L,?_,?_⟩⟩,⟨rfl,rfl,rfl,yG,fun k _ hk=>setRow_other w g k _ (fun e=>hk (by simp [Value.ownBlock,e]))⟩,.inl rfl⟩
   ·simp only[Ao,Am,Aq,Ar,BI]
    omega
   ·show List.take _ (List.drop o (y.toList.take (o+n * i.size)++b++_))=_
    have hx:(y.toList.take (o+n * i.size)).drop o=xs:=by
     rw [AZ,AQ];exact D
    have ho:o≤(y.toList.take (o+n * i.size)).length:=by simp;omega
    rw [AU,As ho,hx,←AU,←x]
    exact BJ
  ·have E:∀j u,xs[j]?=some u→w.cell? ((⟨g,o,none⟩:Addr).add j)=some u:=fun j u hj=>by
    rw [Addr.add_lit];exact ZjA d rfl j u hj
   have hr:=run_append_grow (P:=P) w t ty e i z ht hi hz ⟨g,o,none⟩ n cap xs d.1 E a m c b hl l yE yE (growslice_fits yE q)
   have M:=grownCap_ge w (n+m) cap e
   have I:grownCap w (n+m) cap e≤maxLen:=grownCap_le_maxLen w (n+m) cap e C
   refine ⟨_,_,hr,⟨x,.inr ⟨w.heap.size,0,_,_,rfl,B,heap_alloc_new w.drew _,M,I,?_,?_⟩⟩,⟨rfl,rfl,rfl,yG,fun k hk _=>heap_alloc_old w.drew _ hk⟩,.inr rfl⟩
   ·simp only[Array.size_append,Ao,size_zeroCells,G,d.1,hl,←A6]
    rw [Aa]
    exact AJ _ yE
   ·rw [List.drop_zero]
    simp only[Array.toList_append,AU]
    rw [←AU,←x]
    exact BJ
theorem Zug {w:World} {base:Nat} {e:TypeId} {size n l c:Nat} {A:Option Addr} {xs:List Value} (h:w.ownsV base e size (.slice A n c) n xs) (hl:l≤n):
  w.ownsV base e size (.slice (if c=l then A else A.map (·.add (l * size))) (n - l) (c - l)) (n - l) (xs.drop (l * size))∧(Value.slice (if c=l then A else A.map (·.add (l * size))) (n - l) (c - l)).ownBlock=(Value.slice A n c).ownBlock:=by
 have a:(xs.drop (l * size)).length=(n - l) * size:=by rw [Ar,h.1,Ac]
 rcases h.2 with ⟨h0,hn⟩ | ⟨g,o,cap,b,hv,hb,hg,hnc,hm,hs,ht⟩
 ·simp only[Value.slice.injEq] at h0
  obtain ⟨rfl,_,rfl⟩:=h0
  subst hn
  obtain rfl:l=0:=by omega
  exact ⟨⟨a,.inl ⟨yG,yE⟩⟩,yG⟩
 ·simp only[Value.slice.injEq,true_and] at hv
  obtain ⟨rfl,rfl⟩:=hv
  by_cases d:c=l
  ·subst d
   rw [if_pos rfl]
   refine ⟨⟨a,.inr ⟨g,o,c - c,b,rfl,hb,hg,yE,yE,?_,?_⟩⟩,rfl⟩
   ·rw [Nat.sub_self,Ae];omega
   ·have e0:(n - c) * size=0:=by rw [show n - c=0 by omega,Ae]
    rw [e0] at a ⊢
    rw [BK]
    exact (AI a).symm
  ·rw [if_neg d]
   refine ⟨⟨a,.inr ⟨g,o+l * size,c - l,b,by simp [Addr.add],hb,hg,yE,yE,?_,?_⟩⟩,by simp only[At,Value.ownBlock,Addr.add_lit]⟩
   ·rw [Ac]
    have:=AJ size (show l≤c by omega)
    omega
   ·rw [←ht,AZ,BL,Ac]
end
end Go.Proofs.YtlpkbfjcdaanmaaGreatDoor
namespace Go.Proofs.YtlpkbfjcdaanmaaGreatDoor
section
open Go.RowKit
def Zlp (n:Int):Prop:=-9223372036854775808≤n∧n≤9223372036854775807
structure Yh (α:Type) where
 size:Nat
 rep:World→List Value→α→List Nat→Prop
 len:∀{w cs x L},rep w cs x L→cs.length=size
 keep:∀{w w' cs x L},rep w cs x L→(∀b∈L,w'.heap[b]?=w.heap[b]?)→rep w' cs x L
 lt:∀{w cs x L},rep w cs x L→∀b∈L,b<w.heap.size
 one:∀{w cs x L},rep w cs x L→∀u∈cs,u.oneCell'=true
 pos:0<size
def ZGg:Yh Int where
 size:=1
 rep:=fun _ cs x L=>cs=[.int .i64 x]∧L=[]
 len:=fun h=>by simp [h.1]
 keep:=fun h _=>h
 lt:=fun h=>by simp [h.2]
 one:=fun h=>by simp [h.1,Value.oneCell']
 pos:=by omega
def Zde:Yh ByteArray where
 size:=1
 rep:=fun _ cs x L=>cs=[.string x]∧L=[]∧x.size≤9223372036854775807
 len:=fun h=>by simp [h.1]
 keep:=fun h _=>h
 lt:=fun h=>by simp [h.2.1]
 one:=fun h=>by simp [h.1,Value.oneCell']
 pos:=by omega
section
variable {α:Type} (c:Yh α)
def Yh.reps (w:World):List Value→List α→List Nat→Prop
 | xs,[],L=>xs=[]∧L=[]
 | xs,d::ds,L=>∃c1 c2 L1 L2,xs=c1++c2∧L=L1++L2∧c.rep w c1 d L1∧Yh.reps w c2 ds L2
variable {c}
theorem ZhJ {w:World}:∀{ds:List α} {xs:List Value} {L:List Nat},c.reps w xs ds L→xs.length=ds.length * c.size
 | [],_,_,h=>by simp [h.1]
 | d::ds,_,_,⟨c1,c2,L1,L2,rfl,rfl,h1,h2⟩=>by
  have:=ZhJ h2
  simp [c.len h1,this,A6];omega
theorem Xd {w w':World}:∀{ds:List α} {xs:List Value} {L:List Nat},c.reps w xs ds L→(∀b∈L,w'.heap[b]?=w.heap[b]?)→c.reps w' xs ds L
 | [],_,_,h,_=>h
 | d::ds,_,_,⟨c1,c2,L1,L2,rfl,rfl,h1,h2⟩,hk=>
  ⟨c1,c2,L1,L2,rfl,rfl,c.keep h1 (fun b m=>hk b (by simp [m])),Xd h2 (fun b m=>hk b (by simp [m]))⟩
theorem ZuV {w:World}:∀{ds:List α} {xs:List Value} {L:List Nat},c.reps w xs ds L→∀b∈L,b<w.heap.size
 | [],_,_,h=>by simp [h.2]
 | d::ds,_,_,⟨c1,c2,L1,L2,rfl,rfl,h1,h2⟩=>by
  intro b m
  rcases A0.1 m with m | m
  ·exact c.lt h1 b m
  ·exact ZuV h2 b m
theorem Zbv {w:World}:∀{ds es:List α} {xs ys:List Value} {L M:List Nat},c.reps w xs ds L→c.reps w ys es M→c.reps w (xs++ys) (ds++es) (L++M)
 | [],es,_,ys,_,M,h,h'=>by obtain ⟨rfl,rfl⟩:=h;simpa using h'
 | d::ds,es,_,ys,_,M,⟨c1,c2,L1,L2,rfl,rfl,h1,h2⟩,h'=>
  ⟨c1,c2++ys,L1,L2++M,yG,yG,h1,Zbv h2 h'⟩
theorem ZcK {w:World} {d:α} {cs:List Value} {L:List Nat} (h:c.rep w cs d L):c.reps w cs [d] L:=⟨cs,[],L,[],yG,yG,h,rfl,rfl⟩
theorem Znd {w:World}:∀{ds es:List α} {xs:List Value} {L:List Nat},c.reps w xs (ds++es) L→
  ∃x1 x2 L1 L2,xs=x1++x2∧L=L1++L2∧c.reps w x1 ds L1∧c.reps w x2 es L2
 | [],es,xs,L,h=>⟨[],xs,[],L,rfl,rfl,⟨rfl,rfl⟩,h⟩
 | d::ds,es,_,_,⟨c1,c2,L1,L2,rfl,rfl,h1,h2⟩=>by
  obtain ⟨x1,x2,M1,M2,rfl,rfl,h3,h4⟩:=Znd h2
  exact ⟨c1++x1,x2,L1++M1,M2,yG,yG,⟨c1,x1,L1,M1,rfl,rfl,h1,h3⟩,h4⟩
theorem ZuB {w:World} {ds:List α} {xs:List Value} {L:List Nat} (h:c.reps w xs ds L) {k:Nat} (hk:k<ds.length):
  ∃x1 cs x2 L1 Lk L2,xs=x1++(cs++x2)∧x1.length=k * c.size∧L=L1++(Lk++L2)∧c.reps w x1 (ds.take k) L1∧c.rep w cs ds[k] Lk∧c.reps w x2 (ds.drop (k+1)) L2:=by
 have e:ds=ds.take k++(ds[k]::ds.drop (k+1)):=by rw [←BM hk,Au]
 rw [e] at h
 obtain ⟨x1,x2,L1,L2,rfl,rfl,h1,c1,c2,M1,M2,rfl,rfl,h2,h3⟩:=Znd h
 refine ⟨x1,c1,c2,L1,M1,M2,rfl,?_,rfl,h1,h2,h3⟩
 have:=ZhJ h1
 rw [this,Aq,BN yE]
def Sli (c:Yh α) (w:World) (A:Option Addr) (ds:List α) (L:List Nat):Prop:=
 ∃xs L0 L1,L=L0++L1∧Sl w c.size A ds.length xs L0∧c.reps w xs ds L1
theorem Sli.nil (w:World) (A:Option Addr):Sli c w A [] []:=⟨[],[],[],rfl,Sl.zero,rfl,rfl⟩
theorem Sli.keep {w w':World} {A:Option Addr} {ds:List α} {L:List Nat} (h:Sli c w A ds L) (hk:∀b∈L,w'.heap[b]?=w.heap[b]?):Sli c w' A ds L:=by
 obtain ⟨xs,L0,L1,rfl,h1,h2⟩:=h
 exact ⟨xs,L0,L1,rfl,h1.keep (fun b m=>hk b (by simp [m])),Xd h2 (fun b m=>hk b (by simp [m]))⟩
theorem Sli.lt {w:World} {A:Option Addr} {ds:List α} {L:List Nat} (h:Sli c w A ds L):∀b∈L,b<w.heap.size:=by
 obtain ⟨xs,L0,L1,rfl,h1,h2⟩:=h
 intro b m
 rcases A0.1 m with m | m
 ·exact h1.lt c.pos b m
 ·exact ZuV h2 b m
theorem Sli.below {w w':World} {A:Option Addr} {ds:List α} {L:List Nat} (h:Sli c w A ds L) (hb:Below w.heap.size w w'):Sli c w' A ds L:=h.keep (Zy hb h.lt)
theorem Sli.at_ {w:World} {A:Option Addr} {ds:List α} {L:List Nat} (h:Sli c w A ds L) {k:Nat} (hk:k<ds.length):
  ∃b off cs Lk,A=some ⟨b,off,none⟩∧b∈L∧(∀x∈Lk,x∈L)∧c.rep w cs ds[k] Lk∧∀j u,cs[j]?=some u→w.cell? ⟨b,off+(k * c.size+j),none⟩=some u:=by
 obtain ⟨xs,L0,L1,rfl,h1,h2⟩:=h
 obtain ⟨x1,cs,x2,M1,Mk,M2,rfl,hx,rfl,_,h3,_⟩:=ZuB h2 hk
 obtain ⟨b,off,hA,hL,hc⟩:=h1.at_ yE
 subst hL
 refine ⟨b,off,cs,Mk,hA,yG,fun x m=>by simp [m],h3,fun j u hu=>hc _ u ?_⟩
 rw [AN yE,hx,AQ,AW (AH.1 hu).1]
 exact hu
def Zw (c:Yh α):Yh (List α) where
 size:=1
 rep:=fun w cs ds L=>∃A cap,cs=[.slice A ds.length cap]∧ds.length≤cap∧cap≤maxLen∧Sli c w A ds L
 len:=fun ⟨_,_,h,_⟩=>by simp [h]
 keep:=fun ⟨A,cap,h,h1,h2,h3⟩ hk=>⟨A,cap,h,h1,h2,h3.keep hk⟩
 lt:=fun ⟨_,_,_,_,_,h3⟩=>h3.lt
 one:=fun ⟨_,_,h,_⟩=>by simp [h,Value.oneCell']
 pos:=by omega
theorem Own.append {w:World} {base c:Nat} {L M:List Nat} (h:Own w base L) (k:Own w c M) (hb:base≤c) (hl:∀b∈L,b<c):Own w base (L++M):=by
 refine ⟨?_,?_,?_⟩
 ·rw [AG]
  refine ⟨h.nodup,k.nodup,fun a ha b d e=>?_⟩
  subst e
  have:=hl a ha
  have:=k.ge a d
  omega
 ·intro b m
  rcases A0.1 m with m | m
  ·exact h.ge b m
  ·exact AD hb (k.ge b m)
 ·intro b m
  rcases A0.1 m with m | m
  ·exact h.plain b m
  ·exact k.plain b m
theorem Own.sub {w:World} {base:Nat} {L M:List Nat} (h:Own w base L) (hs:M.Sublist L):Own w base M:=
 ⟨h.nodup.sublist hs,fun b m=>h.ge b (hs.subset m),fun b m=>h.plain b (hs.subset m)⟩
structure Got (c:Yh α) (base:Nat) (cs:List Value) (x:α) (L:List Nat) (w:World):Prop where
 rep:c.rep w cs x L
 own:Own w base L
section
variable {c:Yh α} {base:Nat} {cs:List Value} {x:α} {L M:List Nat} {w w':World}
theorem Got.keep (h:Got c base cs x L w) (hk:∀b∈L,w'.heap[b]?=w.heap[b]?):Got c base cs x L w':=⟨c.keep h.rep hk,h.own.keep hk⟩
theorem Got.later (h:Got c base cs x L w) (hb:Below w.heap.size w w'):Got c base cs x L w':=h.keep (Zy hb h.own.lt)
theorem Got.setCell (h:Got c base cs x L w) {p:Addr} (hp:p.block<base) (u:Value):Got c base cs x L (w.setCell p u):=
 h.keep fun b m=>Below.heap_setCell w p u b (by have:=h.own.ge b m;omega)
theorem Got.only (h:Got c base cs x L w) (ho:XB M w w') (hd:∀b∈L,b∉M):Got c base cs x L w':=h.keep (ho.keep h.own.lt hd)
theorem Got.lt (h:Got c base cs x L w):∀b∈L,b<w.heap.size:=h.own.lt
theorem Got.mono {a:Nat} (h:Got c base cs x L w) (hb:a≤base):Got c a cs x L w:=⟨h.rep,h.own.mono hb⟩
end
def Zma (c:Yh α) (w:World) (x:α) (e:Ending) (w':World):Prop:=∃cs L,e=.returned (.agg cs.toArray)∧Got c w.heap.size cs x L w'∧Below w.heap.size w w'
theorem ZH {c:Yh α} {w:World} {A:Option Addr} {n cap:Nat} {ds:List α} {L:List Nat} (h:(Zw c).rep w [.slice A n cap] ds L):ds.length≤cap∧cap≤maxLen∧Sli c w A ds L:=by
 obtain ⟨A',cap',hv,h1,h2,h3⟩:=h
 cases hv
 exact ⟨h1,h2,h3⟩
structure ZeC (c:Yh α) (E:TypeId) (W:World) (v:Value) (ds:List α) (w:World):Prop where
 ex:∃xs L1,w.ownsV W.heap.size E c.size v ds.length xs∧c.reps w xs ds L1∧Own w W.heap.size (v.ownBlock.toList++L1)
 below:Below W.heap.size W w
def Zi7 (c:Yh α) (E:TypeId) (w:World) (ds:List α) (e:Ending) (w':World):Prop:=∃v,e=.returned v∧ZeC c E w v ds w'
theorem ZeC.shape {c:Yh α} {E:TypeId} {W w:World} {v:Value} {ds:List α} (h:ZeC c E W v ds w):∃A cap,v=.slice A ds.length cap:=by
 obtain ⟨xs,L1,h1,_⟩:=h.ex
 obtain ⟨A,cap,hv,_⟩:=QP h1
 exact ⟨A,cap,hv⟩
theorem ZeC.got {c:Yh α} {E:TypeId} {W w:World} {v:Value} {ds:List α} (h:ZeC c E W v ds w):∃L,Got (Zw c) W.heap.size [v] ds L w:=by
 obtain ⟨xs,L1,h1,h2,h3⟩:=h.ex
 obtain ⟨A,cap,rfl,hn,hm⟩:=QP h1
 obtain ⟨L0,hs,ho,hb⟩:=Sl.of_ownV h1
 refine ⟨L0++L1,⟨A,cap,rfl,hn,hm,xs,L0,L1,rfl,hs,h2⟩,h3.sub ?_⟩
 refine AK ?_ (AL _)
 rcases hs.2 with ⟨_,h0⟩ | ⟨_,b,off,rfl,h0,_⟩
 ·subst h0;exact AX _
 ·subst h0
  simp [Value.ownBlock]
end
def Zq5 (w:World) (g p:Nat):List Value→World
 | []=>w
 | u::r=>Zq5 (w.setCell ⟨g,p,none⟩ u) g (p+1) r
def Zjr (xs:List Value) (p:Nat):List Value→List Value
 | []=>xs
 | u::r=>Zjr (xs.set p u) (p+1) r
theorem ZhG (x1:List Value):∀(cs x2:List Value),cs.length≤x2.length→Zjr (x1++x2) x1.length cs=x1++(cs++x2.drop cs.length)
 | [],x2,_=>by simp [Zjr]
 | u::r,[],h=>by simp at h
 | u::r,y::x2,h=>by
  rw [Zjr,List.set_append_right _ _ (AF _),Nat.sub_self,List.set_cons_zero]
  have e:x1++u::x2=(x1++[u])++x2:=by simp
  have l:x1.length+1=(x1++[u]).length:=by simp
  rw [e,l,ZhG (x1++[u]) r x2 (by simpa using h)]
  simp
theorem Zlh {base:Nat} {e:TypeId} {size g n cap:Nat}:∀(cs:List Value) (w:World) (xs:List Value) (p:Nat),w.ownsRow base e size (.slice (some ⟨g,0,none⟩) n cap) n xs→
  (Zq5 w g p cs).ownsRow base e size (.slice (some ⟨g,0,none⟩) n cap) n (Zjr xs p cs)∧w.grownBy (Zq5 w g p cs) (some g)
 | [],w,xs,p,h=>⟨h,World.grownBy.refl _ _⟩
 | u::r,w,xs,p,h=>by
  obtain ⟨h1,h2⟩:=h.stored p u
  obtain ⟨h3,h4⟩:=Zlh r _ _ (p+1) h1
  exact ⟨h3,⟨h4.os.trans h2.os,h4.tape.trans h2.tape,h4.output.trans h2.output,AD h2.size h4.size,fun k hk hn=>(h4.block k (AP hk h2.size) hn).trans (h2.block k hk hn)⟩⟩
structure Yf {α:Type} (c:Yh α) (E:TypeId) (W:World) (n:Nat) (ds:List α) (k:Nat) (w:World):Prop where
 ex:∃x1 x2 L1,w.ownsRow W.heap.size E c.size (.slice (some ⟨W.heap.size,0,none⟩) n n) n (x1++x2)∧c.reps w x1 (ds.take k) L1∧x2.length=(n - k) * c.size∧Own w W.heap.size (W.heap.size::L1)
 below:Below W.heap.size W w
section
variable {α:Type} {c:Yh α} {E:TypeId} {W:World} {n:Nat} {ds:List α} {k:Nat} {w w':World}
theorem Yf.start {ys:List Value} (h:w.ownsRow W.heap.size E c.size (.slice (some ⟨W.heap.size,0,none⟩) n n) n ys) (hb:Below W.heap.size W w):Yf c E W n ds 0 w:=by
 refine ⟨⟨[],ys,[],h,⟨rfl,rfl⟩,by simpa using h.1,yG,yG,?_⟩,hb⟩
 intro b m
 simp at m
 subst m
 rcases h.2 with ⟨h',_⟩ | ⟨g',cap',a,h',_,hg,_⟩
 ·simp at h'
 ·simp at h';obtain ⟨h',_⟩:=h';subst h';exact ⟨a,E,hg⟩
theorem Yf.later (h:Yf c E W n ds k w) (hb:Below w.heap.size w w'):Yf c E W n ds k w':=by
 obtain ⟨⟨x1,x2,L1,h1,h2,h3,h4⟩,hB⟩:=h
 have hk:=Zy hb h4.lt
 refine ⟨⟨x1,x2,L1,?_,Xd h2 (fun b m=>hk b (by simp [m])),h3,h4.keep hk⟩,hB.trans (hb.mono hB.size)⟩
 exact h1.kept (row:=none) ⟨hb.os,hb.tape,hb.output,hb.size,fun k hk _=>hb.block k hk⟩ (by simp [Value.ownBlock])
theorem Yf.cell (h:Yf c E W n ds k w) (hk:k<n) {j:Nat} (hj:j<c.size):∃d,w.cell? ⟨W.heap.size,k * c.size+j,none⟩=some d:=by
 obtain ⟨⟨x1,x2,L1,h1,h2,h3,h4⟩,hB⟩:=h
 have a:k * c.size+j<n * c.size:=by
  have:=AJ c.size (show k+1≤n from hk)
  rw [A6] at this
  omega
 rw [h1.cellAt _ a]
 exact ⟨_,Ai (by rw [h1.1];exact a)⟩
theorem Yf.frozen (h:Yf c E W n ds k w) (j:Nat):w.frozen? ⟨W.heap.size,j,none⟩=false:=by
 obtain ⟨⟨x1,x2,L1,h1,h2,h3,h4⟩,hB⟩:=h
 exact h1.frozenAt j
theorem Yf.store {cs:List Value} {x:α} {M:List Nat} {w2:World} (h:Yf c E W n ds k w) (hk:k<n) (hn:n=ds.length) (hx:∀hl:k<ds.length,x=ds[k]) (hb:Below w.heap.size w w2) (hg:Got c w.heap.size cs x M w2):
  Yf c E W n ds (k+1) (Zq5 w2 W.heap.size (k * c.size) cs):=by
 have g:=h
 obtain ⟨⟨x1,x2,L1,h1,h2,h3,h4⟩,hB⟩:=h
 have a:=Zy hb h4.lt
 have o:=(Yf.later g hb).ex
 clear o
 have o1:w2.ownsRow W.heap.size E c.size (.slice (some ⟨W.heap.size,0,none⟩) n n) n (x1++x2):=h1.kept (row:=none) ⟨hb.os,hb.tape,hb.output,hb.size,fun k hk _=>hb.block k hk⟩ (by simp [Value.ownBlock])
 obtain ⟨o2,o3⟩:=Zlh cs w2 (x1++x2) (k * c.size) o1
 have d:x1.length=k * c.size:=by rw [ZhJ h2,Aq,BN yE]
 have p:cs.length=c.size:=c.len hg.rep
 have h3':c.size≤x2.length:=by
  rw [h3]
  have:=AJ c.size (show 1≤n - k by omega)
  omega
 rw [←d,ZhG x1 cs x2 yE] at o2
 have j:∀b∈M,b≠W.heap.size:=fun b m e=>by have:=hg.own.ge b m;have:=hB.size;have:=h4.lt W.heap.size yG;omega
 have q:∀b∈L1,b≠W.heap.size:=fun b m e=>by
  have:=h4.nodup
  rw [AO] at this
  exact this.1 (e ▸ m)
 have f:∀b,b<w2.heap.size→b≠W.heap.size→(Zq5 w2 W.heap.size x1.length cs).heap[b]?=w2.heap[b]?:=fun b hl t=>by
  rw [d];exact o3.block b hl (fun e=>t (by injection e))
 rw [←d]
 refine ⟨⟨x1++cs,x2.drop cs.length,L1++M,by rw [AU];exact o2,?_,?_,?_⟩,?_⟩
 ·rw [BP yE]
  refine Zbv (Xd h2 (fun b m=>?_)) (ZcK ?_)
  ·rw [f b (AP (h4.lt b (by simp [m])) hb.size) (q b m)]
   exact a b (by simp [m])
  ·rw [←hx yE]
   exact c.keep hg.rep (fun b m=>f b (hg.own.lt b m) (j b m))
 ·rw [Ar,h3,p,show n - k=(n - (k+1))+1 by omega,A6];omega
 ·have hO:Own w2 W.heap.size ((W.heap.size::L1)++M):=Own.append (h4.keep a) hg.own hB.size h4.lt
  rw [Ax] at hO
  refine ⟨hO.nodup,hO.ge,fun b m=>?_⟩
  by_cases e:b=W.heap.size
  ·subst e
   rcases o2.2 with ⟨h',_⟩ | ⟨g',cap',u,h',_,l,_⟩
   ·simp at h'
   ·simp at h';obtain ⟨h',_⟩:=h';rw [←h'] at l;exact ⟨u,E,l⟩
  ·rw [f b (hO.lt b m) e]
   exact hO.plain b m
 ·rw [d]
  refine (hB.trans (hb.mono hB.size)).trans ⟨o3.os,o3.tape,o3.output,o3.size,fun i hi=>o3.block i (AP hi (AD hB.size hb.size)) (fun e=>by injection e with e;omega)⟩
theorem Yf.done (h:Yf c E W n ds n w) (hn:n=ds.length):ZeC c E W (.slice (some ⟨W.heap.size,0,none⟩) n n) ds w:=by
 obtain ⟨⟨x1,x2,L1,h1,h2,h3,h4⟩,hB⟩:=h
 have e:x2=[]:=AI (by simpa using h3)
 subst e
 rw [Ag] at h1
 rw [List.take_of_length_le yE] at h2
 subst hn
 exact ⟨⟨x1,L1,ZdZ h1,h2,by simpa [Value.ownBlock] using h4⟩,hB⟩
end
theorem Zl4 {α:Type} (f:α→Nat) (ds:List α) (k:Nat) (hk:k<ds.length) {B:Nat} (h:(ds.map f).sum≤B):f ds[k]≤B:=by
 refine AD ?_ h
 have e:ds=ds.take k++(ds[k]::ds.drop (k+1)):=by rw [←BM hk,Au]
 have:(ds.map f).sum=((ds.take k).map f).sum+(f ds[k]+((ds.drop (k+1)).map f).sum):=by
  have h1:=congrArg (fun l=>(List.map f l).sum) e
  simp only[BR,Ak,List.sum_append_nat,List.sum_cons] at h1
  exact h1
 omega
theorem ZhH {α:Type} {c:Yh α} {w wr WF:World} {x:α} {cs:List Value} (L:List Nat) (hg:Got c (w.heap.size+3) cs x L wr) (hk:∀b,w.heap.size+3≤b→WF.heap[b]?=wr.heap[b]?) (hb:Below w.heap.size w WF):
  Zma c w x (.returned (.agg cs.toArray)) WF:=⟨cs,L,rfl,(hg.keep (fun b m=>hk b (hg.own.ge b m))).mono yE,hb⟩
def szR (c:Nat) (l:Int):Int:=if (c:Int)≤l then l - c else -1
theorem Xe {c:Nat} {l:Int} (h:(c:Int)≤l):szR c l=l - c:=if_pos h
theorem ZZ {c:Nat} {l:Int} (h:¬(c:Int)≤l):szR c l=-1:=if_neg h
theorem ZaZ (a b c:Nat) (l:Int) (ha:(a:Int)≤l) (hc:c=a+b):szR b (l - a)=szR c l:=by
 subst hc
 by_cases h:(b:Int)≤l - a
 ·rw [Xe h,Xe yE];omega
 ·rw [ZZ h,ZZ yE]
def XD (l:List ByteArray):Nat:=l.length+(l.map BS).sum
theorem Zy5 {w:World} {cs:List Value} {x:ByteArray} {L:List Nat} (h:Zde.rep w cs x L):cs=[.string x]∧L=[]∧x.size≤9223372036854775807:=h
def Zfn (c:Nat) (left:Int) (w:World) (e:Ending) (w':World):Prop:=e=.returned (.int .i64 (szR c left))∧Below w.heap.size w w'
def Blk (w:World) (g:Nat) (t:TypeId) (cs:Array Value):Prop:=w.heap[g]?=some (.cells cs t (0,0))
section
variable {w w':World} {g:Nat} {t:TypeId} {cs:Array Value}
theorem Blk.lt (h:Blk w g t cs):g<w.heap.size:=(AE.1 h).1
theorem Blk.at {i:Nat} {v:Value} (h:Blk w g t cs) (hv:cs[i]?=some v):w.cell? ⟨g,i,none⟩=some v:=(cell_of_row w g i cs t (0,0) h).trans hv
theorem Blk.frozen (h:Blk w g t cs) (i:Nat):w.frozen? ⟨g,i,none⟩=false:=by
 unfold Blk at h
 simp [World.frozen?,h]
theorem Blk.new (w:World) (t:TypeId) (cs:Array Value):Blk (w.alloc (.cells cs t)) w.heap.size t cs:=heap_alloc_new w _
theorem Blk.new_at {w:World} {t:TypeId} {cs:Array Value} {g:Nat} (hg:g=w.heap.size):Blk (w.alloc (.cells cs t)) g t cs:=by subst hg;exact heap_alloc_new w _
theorem Blk.alloc (h:Blk w g t cs) (o:Obj):Blk (w.alloc o) g t cs:=(Below.heap_alloc w o g h.lt).trans h
theorem Blk.set_ (h:Blk w g t cs) (i:Nat) (u:Value):Blk (w.setCell ⟨g,i,none⟩ u) g t (cs.setIfInBounds i u):=by
 unfold Blk at h ⊢
 simp [World.setCell,AY,h]
theorem Blk.far (h:Blk w g t cs) {p:Addr} (hp:g≠p.block) (u:Value):Blk (w.setCell p u) g t cs:=(Below.heap_setCell w p u g hp).trans h
theorem Blk.later (h:Blk w g t cs) (hb:Below w.heap.size w w'):Blk w' g t cs:=(hb.block g h.lt).trans h
end
theorem Got.focus {α:Type} {c:Yh α} {base:Nat} {A:Option Addr} {n cap:Nat} {ds:List α} {L:List Nat} {w:World} {k:Nat} (h:Got (Zw c) base [.slice A n cap] ds L w) (hk:k<ds.length):
  ∃b off cs Lk,A=some ⟨b,off,none⟩∧b∈L∧(∀x∈Lk,x∈L)∧Own w base (b::Lk)∧c.rep w cs ds[k] Lk∧Qh w b (off+k * c.size) cs∧
   ∀w' a x',XB (b::Lk) w w'→Qh w' b (off+k * c.size) a→(∀o,o<off+k * c.size∨off+k * c.size+c.size≤o→w'.cell? ⟨b,o,none⟩=w.cell? ⟨b,o,none⟩)→
    c.rep w' a x' Lk→Own w' base (b::Lk)→Got (Zw c) base [.slice A n cap] (ds.set k x') L w':=by
 obtain ⟨⟨A',cap',hv,hn,hm,xs,L0,L1,rfl,h1,h2⟩,ho⟩:=h
 cases hv
 obtain ⟨x1,cs,x2,M1,Mk,M2,rfl,hx,rfl,r1,r2,r3⟩:=ZuB h2 hk
 obtain ⟨b,off,rfl,rfl,hc⟩:=h1.at_ yE
 have B:cs.length=c.size:=c.len r2
 have l:∀x∈Mk,x∈[b]++(M1++(Mk++M2)):=fun x m=>by simp [m]
 have p:=ho.nodup
 have q:(b::Mk).Sublist ([b]++(M1++(Mk++M2))):=by
  simp only[AR]
  exact List.Sublist.cons_cons b ((BT Mk M2).trans (Ay M1 _))
 refine ⟨b,off,cs,Mk,rfl,yG,l,ho.sub q,r2,fun j u hu=>?_,?_⟩
 ·have:=hc (x1.length+j) u (by rw [AN yE,AQ,AW (AH.1 hu).1];exact hu)
  rw [hx] at this
  rw [←this,AA]
 ·intro w' a x' f g d e t
  have v:a.length=c.size:=c.len e
  simp only[AR,AO,AG,A0] at p
  obtain ⟨hb,hM1,⟨hMk,hM2,C⟩,D⟩:=p
  have e1:∀y∈M1,y∉b::Mk:=fun y m m'=>by
   rcases AB.1 m' with rfl | m'
   ·exact hb (.inl m)
   ·exact D y m y (.inl m') rfl
  have e2:∀y∈M2,y∉b::Mk:=fun y m m'=>by
   rcases AB.1 m' with rfl | m'
   ·exact hb (.inr (.inr m))
   ·exact C y m' y m rfl
  have k1:=f.keep (fun y m=>ho.lt y (by simp [m])) e1
  have k2:=f.keep (fun y m=>ho.lt y (by simp [m])) e2
  have z:ds.set k x'=ds.take k++(x'::ds.drop (k+1)):=by rw [List.set_eq_take_append_cons_drop,if_pos hk]
  refine ⟨⟨some ⟨b,off,none⟩,cap,yG,by simpa using hn,hm,x1++(a++x2),[b],M1++(Mk++M2),rfl,⟨?_,.inr ⟨by simp;omega,b,off,rfl,rfl,?_⟩⟩,?_⟩,?_⟩
  ·have:=h1.1
   simp only[Am,List.length_set] at this ⊢
   omega
  ·intro j u hu
   rcases Az j x1.length with hj | hj
   ·rw [d _ (.inl yE)]
    exact hc j u (by rw [AW hj] at hu ⊢;exact hu)
   ·rw [AN hj] at hu
    rcases Az (j - x1.length) a.length with i | i
    ·rw [AW i] at hu
     have:=g _ u hu
     rw [show off+k * c.size+(j - x1.length)=off+j by omega] at this
     exact this
    ·rw [AN i] at hu
     rw [d _ (.inr yE)]
     exact hc j u (by rw [AN hj,AN yE,B,←v];exact hu)
  ·rw [z]
   refine Zbv (Xd r1 k1) ⟨a,x2,Mk,M2,rfl,rfl,e,Xd r3 k2⟩
  ·refine ⟨ho.nodup,ho.ge,fun y m=>?_⟩
   by_cases hy:y∈b::Mk
   ·exact t.plain y hy
   ·rw [f.block y (ho.lt y m) hy]
    exact ho.plain y m
structure Zcl (w0:World) (base b lo m:Nat) (Lk:List Nat) (cs:List Value) (w:World):Prop where
 cells:Qh w b lo cs
 len:cs.length=m
 only:XB (b::Lk) w0 w
 rest:∀o,o<lo∨lo+m≤o→w.cell? ⟨b,o,none⟩=w0.cell? ⟨b,o,none⟩
 plain:∃cur e,w.heap[b]?=some (.cells cur e (0,0))
section
variable {w0:World} {base b lo m:Nat} {Lk M:List Nat} {cs:List Value} {w w':World}
theorem Zcl.start (h:Qh w b lo cs) (hl:cs.length=m) (ho:Own w base (b::Lk)):Zcl w base b lo m Lk cs w:=⟨h,hl,XB.refl _ _,fun _ _=>rfl,ho.plain b yG⟩
theorem Zcl.lt (h:Zcl w0 base b lo m Lk cs w):b<w.heap.size:=by obtain ⟨cur,e,hc⟩:=h.plain;exact (AE.1 hc).1
theorem Zcl.keepb (h:Zcl w0 base b lo m Lk cs w) (hk:w'.heap[b]?=w.heap[b]?) (ho:XB (b::Lk) w w'):Zcl w0 base b lo m Lk cs w':=by
 refine ⟨fun j u hu=>?_,h.len,h.only.trans ho,fun o hr=>?_,?_⟩
 ·rw [←h.cells j u hu];exact World.cell?_of_block hk
 ·rw [←h.rest o hr];exact World.cell?_of_block hk
 ·rw [hk];exact h.plain
theorem Zcl.later (h:Zcl w0 base b lo m Lk cs w) (hb:Below w.heap.size w w'):Zcl w0 base b lo m Lk cs w':=h.keepb (hb.block b h.lt) (XB.of_below hb _)
theorem Zcl.marked (h:Zcl w0 base b lo m Lk cs w) (ho:XB M w w') (hs:∀y∈M,y∈Lk) (hd:b∉M):Zcl w0 base b lo m Lk cs w':=
 h.keepb (ho.block b h.lt hd) (ho.mono (fun y m=>by simp [hs y m]))
theorem Zcl.at (h:Zcl w0 base b lo m Lk cs w) {j:Nat} {u:Value} (hu:cs[j]?=some u):w.cell? ⟨b,lo+j,none⟩=some u:=h.cells j u hu
theorem Zcl.frozen (h:Zcl w0 base b lo m Lk cs w) (o:Nat):w.frozen? ⟨b,o,none⟩=false:=by
 obtain ⟨cur,e,hc⟩:=h.plain
 simp [World.frozen?,hc]
theorem Zcl.set (h:Zcl w0 base b lo m Lk cs w) (j:Nat) (hj:j<m) (u:Value):Zcl w0 base b lo m Lk (cs.set j u) (w.setCell ⟨b,lo+j,none⟩ u):=by
 have hl:=h.len
 refine ⟨fun i v hv=>?_,by simp [h.len],h.only.setCell yG _,fun o hr=>?_,?_⟩
 ·by_cases a:i=j
  ·subst a
   rw [BU] at hv
   simp [show i<cs.length by omega] at hv
   subst hv
   exact ZjW (h.cells i _ (Ai yE))
  ·rw [BU,if_neg (fun e=>a e.symm)] at hv
   rw [World.cell?_setCell_other _ _ _ _ (by intro e;injection e with _ e;omega)]
   exact h.cells i v hv
 ·rw [World.cell?_setCell_other _ _ _ _ (by intro e;injection e with _ e;omega)]
  exact h.rest o hr
 ·obtain ⟨c,e,hc⟩:=h.plain
  exact ⟨c.setIfInBounds (lo+j) u,e,by simp [World.setCell,AY,hc]⟩
end
theorem Got.setFar {α:Type} {c:Yh α} {base:Nat} {cs:List Value} {x:α} {L:List Nat} {w:World} (h:Got c base cs x L w) {p:Addr} (hp:p.block∉L) (u:Value):Got c base cs x L (w.setCell p u):=
 h.keep fun b m=>Below.heap_setCell w p u b (fun e=>hp (e ▸ m))
theorem X2 {w w':World} {base b:Nat} {Lk:List Nat} (h:Own w base (b::Lk)) (hp:∃a e,w'.heap[b]?=some (.cells a e (0,0))) (_ho:XB (b::Lk) w w') (hk:∀y∈Lk,∃a e,w'.heap[y]?=some (.cells a e (0,0))):Own w' base (b::Lk):=
 ⟨h.nodup,h.ge,fun y m=>by
  rcases AB.1 m with rfl | m
  ·exact hp
  ·exact hk y m⟩
theorem Own.tail {w:World} {base b:Nat} {L:List Nat} (h:Own w base (b::L)):Own w base L:=h.sub (List.sublist_cons_self b L)
theorem Own.left {w:World} {base:Nat} {L M:List Nat} (h:Own w base (L++M)):Own w base L:=h.sub (BT L M)
theorem Own.right {w:World} {base:Nat} {L M:List Nat} (h:Own w base (L++M)):Own w base M:=h.sub (Ay L M)
theorem Own.head {w:World} {base b:Nat} {L:List Nat} (h:Own w base (b::L)):b∉L:=(AO.1 h.nodup).1
theorem Own.apart {w:World} {base:Nat} {L M:List Nat} (h:Own w base (L++M)):∀y∈L,y∉M:=fun y m m'=>(AG.1 h.nodup).2.2 y m y m' rfl
end
section
open Go.RowKit
inductive PK where
 | int (k:IntKind)
 | bool
 | str
def Zie:PK→Value→Prop
 | .int k,.int k' _=>k=k'
 | .bool,.bool _=>True
 | .str,.string s=>s.size≤9223372036854775807
 | _,_=>False
def Zjp (kk vk:PK) (kv:List (Value × Value)):Prop:=∀p∈kv,Zie kk p.1∧Zie vk p.2
inductive CT where
 | int (k:IntKind) (n:Int)
 | bool (b:Bool)
 | str (s:ByteArray)
 | sl (e m:Nat) (xs:List (List CT))
 /-- a pointer to cells that are only read -/
 | pt (es:List CT)
 /-- a function value with what it has captured -/
 | fn (f:Nat) (cs:List CT)
 /-- a map of plain keys and plain values that is only read -/
 | mp (kk vk:PK) (kv:List (Value × Value))
 /-- an interface value: nil or not -/
 | ifc (isNil:Bool)
 /-- a cell of which nothing is known -/
 | any
 /-- the nil slice -/
 | nl (e m:Nat)
def ZdP (es:Array MapEntry):List (Value × Value):=es.toList.map fun e=>(e.key,e.val)
mutual
def RC (w:World):CT→Value→List Nat→Prop
 | .int k n,v,L=>v=.int k n∧L=[]
 | .bool b,v,L=>v=.bool b∧L=[]
 | .str s,v,L=>v=.string s∧L=[]∧s.size≤9223372036854775807
 | .sl _ m xs,v,L=>∃A cap cs L0 L1,v=.slice A xs.length cap∧xs.length≤cap∧cap≤maxLen∧L=L0++L1∧0<m∧Sl w m A xs.length cs L0∧REs w m xs cs L1
 | .pt es,v,L=>∃b cs L1,v=.pointer (some ⟨b,0,none⟩)∧b<w.heap.size∧L=b::L1∧Qh w b 0 cs∧RCs w es cs L1
 | .fn f es,v,L=>∃vs:List Value,v=.func (.func f) #[] vs.toArray∧RCs w es vs L
 | .mp kk vk kv,v,L=>∃b es c,v=.map (some b)∧w.heap[b]?=some (.map es c)∧ZdP es=kv∧Zjp kk vk kv∧L=[b]
 | .ifc b,v,L=>L=[]∧v.oneCell'=true∧(match b with | true=>v=.nilIface | false=>∃t x,v=.iface t x)
 | .any,v,L=>L=[]∧v.oneCell'=true
 | .nl _ _,v,L=>v=.slice none 0 0∧L=[]
def RCs (w:World):List CT→List Value→List Nat→Prop
 | [],cs,L=>cs=[]∧L=[]
 | x::r,cs,L=>∃v cs' L1 L2,cs=v::cs'∧L=L1++L2∧RC w x v L1∧RCs w r cs' L2
def REs (w:World) (m:Nat):List (List CT)→List Value→List Nat→Prop
 | [],cs,L=>cs=[]∧L=[]
 | e::r,cs,L=>∃c1 c2 L1 L2,cs=c1++c2∧L=L1++L2∧(RCs w e c1 L1∧c1.length=m)∧REs w m r c2 L2
end
mutual
theorem RC.keep {w w':World}:∀{x:CT} {v:Value} {L:List Nat},RC w x v L→(∀b∈L,w'.heap[b]?=w.heap[b]?)→RC w' x v L
 | .int _ _,_,_,h,_=>h
 | .bool _,_,_,h,_=>h
 | .str _,_,_,h,_=>h
 | .sl _ _ _,_,_,⟨A,cap,cs,L0,L1,h1,h2,h3,h4,h5,h6,h7⟩,hk=>⟨A,cap,cs,L0,L1,h1,h2,h3,h4,h5,h6.keep fun b m=>hk b (by simp [h4,m]),h7.keep fun b m=>hk b (by simp [h4,m])⟩
 | .pt _,_,_,⟨b,cs,L1,h1,h2,h3,h4,h5⟩,hk=>⟨b,cs,L1,h1,by
   have e:=hk b (by simp [h3])
   rcases Az b w'.heap.size with h | h
   ·exact h
   ·rw [Array.getElem?_eq_none h] at e
    have:=Array.getElem?_eq_none_iff.1 e.symm
    omega,h3,fun j u hu=>by rw [←h4 j u hu];exact World.cell?_of_block (hk b (by simp [h3])),h5.keep fun b m=>hk b (by simp [h3,m])⟩
 | .fn _ _,_,_,⟨vs,h1,h2⟩,hk=>⟨vs,h1,h2.keep hk⟩
 | .mp _ _ _,_,_,⟨b,es,c,h1,h2,h3,a,h4⟩,hk=>⟨b,es,c,h1,by rw [hk b (by simp [h4])];exact h2,h3,a,h4⟩
 | .ifc _,_,_,h,_=>h
 | .any,_,_,h,_=>h
 | .nl _ _,_,_,h,_=>h
theorem RCs.keep {w w':World}:∀{x:List CT} {v:List Value} {L:List Nat},RCs w x v L→(∀b∈L,w'.heap[b]?=w.heap[b]?)→RCs w' x v L
 | [],_,_,h,_=>h
 | _::_,_,_,⟨v,cs,L1,L2,h1,h2,h3,h4⟩,hk=>⟨v,cs,L1,L2,h1,h2,h3.keep fun b m=>hk b (by simp [h2,m]),h4.keep fun b m=>hk b (by simp [h2,m])⟩
theorem REs.keep {w w':World} {m:Nat}:∀{x:List (List CT)} {v:List Value} {L:List Nat},REs w m x v L→(∀b∈L,w'.heap[b]?=w.heap[b]?)→REs w' m x v L
 | [],_,_,h,_=>h
 | _::_,_,_,⟨c1,c2,L1,L2,h1,h2,h3,h4⟩,hk=>⟨c1,c2,L1,L2,h1,h2,⟨h3.1.keep fun b m=>hk b (by simp [h2,m]),h3.2⟩,h4.keep fun b m=>hk b (by simp [h2,m])⟩
end
mutual
theorem RC.lt {w:World}:∀{x:CT} {v:Value} {L:List Nat},RC w x v L→∀b∈L,b<w.heap.size
 | .int _ _,_,_,h=>by simp [h.2]
 | .bool _,_,_,h=>by simp [h.2]
 | .str _,_,_,h=>by simp [h.2.1]
 | .sl _ _ _,_,_,⟨A,cap,cs,L0,L1,h1,h2,h3,h4,h5,h6,h7⟩=>fun b m=>by
  rw [h4] at m
  rcases A0.1 m with m | m
  ·exact h6.lt h5 b m
  ·exact h7.lt b m
 | .pt _,_,_,⟨b,cs,L1,h1,h2,h3,h4,h5⟩=>fun x m=>by
  rw [h3] at m
  rcases AB.1 m with rfl | m
  ·exact h2
  ·exact h5.lt x m
 | .fn _ _,_,_,⟨vs,h1,h2⟩=>h2.lt
 | .mp _ _ _,_,_,⟨b,es,c,h1,h2,h3,h3',h4⟩=>fun x m=>by
  rw [h4] at m
  simp at m;subst m
  exact (AE.1 h2).1
 | .ifc _,_,_,h=>by simp [h.1]
 | .any,_,_,h=>by simp [h.1]
 | .nl _ _,_,_,h=>by simp [h.2]
theorem RCs.lt {w:World}:∀{x:List CT} {v:List Value} {L:List Nat},RCs w x v L→∀b∈L,b<w.heap.size
 | [],_,_,h=>by simp [h.2]
 | _::_,_,_,⟨v,cs,L1,L2,h1,h2,h3,h4⟩=>fun b m=>by
  rw [h2] at m
  rcases A0.1 m with m | m
  ·exact h3.lt b m
  ·exact h4.lt b m
theorem REs.lt {w:World} {m:Nat}:∀{x:List (List CT)} {v:List Value} {L:List Nat},REs w m x v L→∀b∈L,b<w.heap.size
 | [],_,_,h=>by simp [h.2]
 | _::_,_,_,⟨c1,c2,L1,L2,h1,h2,h3,h4⟩=>fun b m=>by
  rw [h2] at m
  rcases A0.1 m with m | m
  ·exact h3.1.lt b m
  ·exact h4.lt b m
end
theorem RC.one {w:World}:∀{x:CT} {v:Value} {L:List Nat},RC w x v L→v.oneCell'=true
 | .int _ _,_,_,h=>by simp [h.1,Value.oneCell']
 | .bool _,_,_,h=>by simp [h.1,Value.oneCell']
 | .str _,_,_,h=>by simp [h.1,Value.oneCell']
 | .sl _ _ _,_,_,⟨A,cap,cs,L0,L1,h1,_⟩=>by simp [h1,Value.oneCell']
 | .pt _,_,_,⟨b,cs,L1,h1,_⟩=>by simp [h1,Value.oneCell']
 | .fn _ _,_,_,⟨vs,h1,_⟩=>by simp [h1,Value.oneCell']
 | .mp _ _ _,_,_,⟨b,es,c,h1,_⟩=>by simp [h1,Value.oneCell']
 | .ifc _,_,_,h=>h.2.1
 | .any,_,_,h=>h.2
 | .nl _ _,_,_,h=>by simp [h.1,Value.oneCell']
theorem RCs.one {w:World}:∀{x:List CT} {v:List Value} {L:List Nat},RCs w x v L→∀u∈v,u.oneCell'=true
 | [],_,_,h=>by simp [h.1]
 | _::_,_,_,⟨v,cs,L1,L2,h1,h2,h3,h4⟩=>fun u m=>by
  rw [h1] at m
  rcases AB.1 m with rfl | m
  ·exact h3.one
  ·exact h4.one u m
theorem RCs.len {w:World}:∀{x:List CT} {v:List Value} {L:List Nat},RCs w x v L→v.length=x.length
 | [],_,_,h=>by simp [h.1]
 | _::_,_,_,⟨v,cs,L1,L2,h1,h2,h3,h4⟩=>by simp [h1,h4.len]
theorem RCs.append {w:World}:∀{xs ys:List CT} {us vs:List Value} {L M:List Nat},RCs w xs us L→RCs w ys vs M→RCs w (xs++ys) (us++vs) (L++M)
 | [],_,_,_,_,_,h,h'=>by obtain ⟨rfl,rfl⟩:=h;simpa using h'
 | _::_,_,_,_,_,_,⟨v,cs,L1,L2,h1,h2,h3,h4⟩,h'=>⟨v,cs++_,L1,L2++_,by simp [h1],by simp [h2],h3,h4.append h'⟩
end
section
open Go.RowKit
inductive AV where
 | c (x:CT)
 /-- a row that the call has made with all that it leads to,from now on only read,maybe through others too -/
 | n (x:CT)
 | row (k:Nat)
 | nil (e m:Nat)
 | dead
inductive SV where
 | any
 | und
 | p (agg:Bool) (cs:List AV)
 | tup (xs:List (Bool × List AV))
 | bp (k off:Nat)
 | rp (k m i off:Nat)
 | ep (e:List CT) (off:Nat)
 | fn (f:FuncId)
inductive Ob where
 | gone
 | box (t:TypeId) (cs:List AV)
 | row (e m:Nat) (xs:List (List CT)) (deep:Nat)
 | map (kk vk:PK) (kv:List (Value × Value))
def upd {α:Type} (f:Nat→α) (k:Nat) (v:α):Nat→α:=fun j=>if j=k then v else f j
def Zge (a b:Nat):Nat:=if a≤b then a else b
structure St where
 sl:Nat→SV
 ob:Nat→Ob
 n:Nat
def St.put (st:St) (d:Option Nat) (v:SV):St:=match d with | none=>st | some t=>{ st with sl:=upd st.sl t v }
def Zn (ob:Nat→Ob):List (Nat × Ob)→Nat→Ob
 | []=>ob
 | p::r=>Zn (upd ob p.1 p.2) r
def St.app (st:St) (u:List (Nat × Ob)):St:={ st with ob:=Zn st.ob u }
structure FI where
 off:Nat
 size:Nat
 agg:Bool
inductive TI where
 | atom (z:AV)
 | strct (fs:List FI) (n:Nat) (z:List AV)
 | slice (e m bytes:Nat) (z:List AV)
 | map (kk vk:PK)
 | eqs (ks:List PK)
 | ifc
def ZxJ:Option TI→Bool
 | some .ifc=>true
 | _=>false
def Zns:Option TI→Option (List AV)
 | some (.atom z)=>some [z]
 | some (.strct _ _ z)=>some z
 | some (.slice e m _ _)=>some [.nil e m]
 | _=>none
def ZbS (s:ByteArray):Bool:=Nat.ble s.data.toList.length 9223372036854775807
def cvT (ti:Option TI):Value→SV
 | .int k n=>.p false [.c (.int k n)]
 | .bool b=>.p false [.c (.bool b)]
 | .string s=>if ZbS s then .p false [.c (.str s)] else .any
 | .slice none 0 0=>match ti with | some (.slice e m _ _)=>.p false [.nil e m] | _=>.any
 | _=>.any
section
variable (tt:Nat→Option TI)
def St.ev (st:St) (t:Nat):Operand→SV
 | .tmp s=>st.sl s
 | .const v=>cvT (tt t) v
 | .func f=>.fn f
 | .global _=>.any
def ZFE (k:IntKind) (x y:Int):Int:=k.wrap (BitVec.ofInt k.bits x &&& BitVec.ofInt k.bits y).toNat
def orI (k:IntKind) (x y:Int):Int:=k.wrap (BitVec.ofInt k.bits x ||| BitVec.ofInt k.bits y).toNat
def ZEC (k:IntKind) (x y:Int):Int:=k.wrap (BitVec.ofInt k.bits x ^^^ BitVec.ofInt k.bits y).toNat
def Zu7 (k:IntKind) (x y:Int):Int:=k.wrap (BitVec.ofInt k.bits x &&& ~~~ BitVec.ofInt k.bits y).toNat
def ZET (k:IntKind) (x y:Int):Int:=k.wrap (x * 2 ^ (min y.toNat k.bits))
def ZER (k:IntKind) (x y:Int):Int:=x.fdiv (2 ^ (min y.toNat k.bits))
def ZAz (op:BinOp) (k:IntKind) (x y:Int):Option Int:=
 match op with
 | .and=>some (ZFE k x y)
 | .or=>some (orI k x y)
 | .xor=>some (ZEC k x y)
 | .andNot=>some (Zu7 k x y)
 | _=>none
def Zzz (op:BinOp) (k:IntKind) (x y:Int):Option CT:=
 match op with
 | .add=>some (.int k (k.wrap (x+y)))
 | .sub=>some (.int k (k.wrap (x - y)))
 | .mul=>some (.int k (k.wrap (x * y)))
 | .quo=>if y=0 then none else some (.int k (k.wrap (x.tdiv y)))
 | .rem=>if y=0 then none else some (.int k (x.tmod y))
 | .eql=>some (.bool (x==y))
 | .neq=>some (.bool (x != y))
 | .lss=>some (.bool (decide (x<y)))
 | .leq=>some (.bool (decide (x≤y)))
 | .gtr=>some (.bool (decide (y<x)))
 | .geq=>some (.bool (decide (y≤x)))
 | .shl=>if y<0 then none else some (.int k (ZET k x y))
 | .shr=>if y<0 then none else some (.int k (ZER k x y))
 | op=>(ZAz op k x y).map (.int k)
def sLt (x y:ByteArray):Bool:=Op.bytesLess x.toList y.toList
def sEq (x y:ByteArray):Bool:=decide (x=y)
def Zyn (op:BinOp) (x y:ByteArray):Option CT:=
 match op with
 | .add=>if x.size+y.size≤9223372036854775807 then some (.str (x++y)) else none
 | .eql=>some (.bool (sEq x y))
 | .neq=>some (.bool (!sEq x y))
 | .lss=>some (.bool (sLt x y))
 | .leq=>some (.bool (sLt x y||sEq x y))
 | .gtr=>some (.bool (!(sLt x y||sEq x y)))
 | .geq=>some (.bool (!sLt x y))
 | _=>none
def eqC:PK→AV→AV→Option Bool
 | .int _,.c (.int k x),.c (.int k' y)=>if k=k' then some (x==y) else none
 | .str,.c (.str x),.c (.str y)=>some (sEq x y)
 | .bool,.c (.bool x),.c (.bool y)=>some (x==y)
 | _,_,_=>none
def ZnZ:List PK→List AV→List AV→Option Bool
 | [],[],[]=>some true
 | k::ks,x::r,y::q=>(eqC k x y).bind fun a=>(ZnZ ks r q).map fun b=>a&&b
 | _,_,_=>none
def Zx0:Option TI→Option (List PK)
 | some (.eqs ks)=>some ks
 | _=>none
def ZsH (op:BinOp) (b:Bool):Option SV:=
 match op with
 | .eql=>some (.p false [.c (.bool b)])
 | .neq=>some (.p false [.c (.bool (!b))])
 | _=>none
def Zzm (t:Option TI) (op:BinOp):SV→SV→Option SV
 | .p true xs,.p true ys=>(Zx0 t).bind fun ks=>(ZnZ ks xs ys).bind (ZsH op)
 | _,_=>none
def Zub:Value→Bool
 | .nilIface=>true
 | .int _ _=>false
 | .string _=>false
 | .bool _=>false
 | .slice _ _ _=>false
 | _=>false
def ZkC:Operand→Bool
 | .const v=>Zub v
 | .tmp _=>false
 | .func _=>false
 | .global _=>false
def ZCl (op:BinOp):SV→Option SV
 | .p false [.c (.ifc b)]=>ZsH op b
 | _=>none
def Zwo:SV→Bool
 | .p ag _=>ag
 | _=>false
def Zyz (t:Option TI) (op:BinOp):SV→SV→Option SV
 | .p false [.c (.int k x)],.p false [.c (.int k' y)]=>if k=k'∨op=.shl∨op=.shr then (Zzz op k x y).map fun z=>.p false [.c z] else none
 | .p false [.c (.str x)],.p false [.c (.str y)]=>(Zyn op x y).map fun z=>.p false [.c z]
 | .p false [.c (.bool x)],.p false [.c (.bool y)]=>
  match t,op with
  | some (.atom (.c (.bool _))),.eql=>some (.p false [.c (.bool (x==y))])
  | some (.atom (.c (.bool _))),.neq=>some (.p false [.c (.bool (!(x==y)))])
  | _,_=>none
 | _,_=>none
def unV (op:UnOp):SV→Option SV
 | .p false [.c (.bool b)]=>match op with | .not=>some (.p false [.c (.bool (!b))]) | _=>none
 | .p false [.c (.int k n)]=>match op with | .neg=>some (.p false [.c (.int k (k.wrap (0 - n)))]) | _=>none
 | _=>none
def Zx6 (tt:Nat→Option TI) (t:Nat) (n:Bool) (op:BinOp) (x y:SV):Option SV:=
 if n=true then (if ZxJ (tt t)=true then ZCl op x else none) else if Zwo x=true then Zzm (tt (t+4000)) op x y else Zyz (tt t) op x y
def Ze6:List (List CT)→Option (List Int)
 | []=>some []
 | [.int .u8 n]::r=>(Ze6 r).map fun l=>n::l
 | _::_=>none
def Xn (l:List Int):ByteArray:=⟨(l.map fun n=>Ah n.toNat).toArray⟩
def Zni:Option TI→Bool
 | some (.atom (.c (.int .u8 _)))=>true
 | _=>false
def ZrI (s t:Option TI):SV→Option SV
 | .p false [.c (.int _ n)]=>match s,t with | some (.atom _),some (.atom (.c (.int k _)))=>some (.p false [.c (.int k (k.wrap n))]) | _,_=>none
 | _=>none
def Zb4:Option TI→Bool
 | some (.slice _ _ _ _)=>true
 | _=>false
def ZcV:Option TI→Bool
 | some (.atom (.c (.str _)))=>true
 | _=>false
def Zn4 (st:St) (t:Option TI):SV→Option SV
 | .p false [.c (.sl _ _ xs)]=>if Zb4 t=true then some (.p false [.c (.int .i64 xs.length)]) else none
 | .p false [.n (.sl _ _ xs)]=>if Zb4 t=true then some (.p false [.c (.int .i64 xs.length)]) else none
 | .p false [.c (.str s)]=>if ZcV t=true then some (.p false [.c (.int .i64 s.size)]) else none
 | .p false [.nil _ _]=>if Zb4 t=true then some (.p false [.c (.int .i64 0)]) else none
 | .p false [.row k]=>match st.ob k with | .row _ _ xs _=>if Zb4 t=true then some (.p false [.c (.int .i64 xs.length)]) else none | _=>none
 | _=>none
def ZbC (st:St) (m:Nat):SV→SV→Option SV
 | .p false [.c (.sl _ m' xs)],.p false [.c (.int _ i)]=>if 0≤i∧m=m' then (xs[i.toNat]?).map fun e=>.ep e 0 else none
 | .p false [.row k],.p false [.c (.int _ i)]=>match st.ob k with
  | .row _ m' xs _=>if 0≤i∧i<xs.length∧m=m' then some (.rp k m i.toNat 0) else none
  | _=>none
 | _,_=>none
def ZmC (t:Option TI):SV→SV→Option SV
 | .p false [.c (.str s)],.p false [.c (.int _ i)]=>if 0≤i∧ZcV t=true then (s[i.toNat]?).map fun b=>.p false [.c (.int .u8 b.toNat)] else none
 | _,_=>none
def cut (t:Option TI) (cs:List AV) (off:Nat):Option SV:=
 match t with
 | some (.strct _ n _)=>if off+n≤cs.length then some (.p true ((cs.drop off).take n)) else none
 | some (.eqs _)=>none
 | some _=>(cs[off]?).map fun x=>.p false [x]
 | none=>none
def QZ (st:St) (t:Option TI):SV→Option SV
 | .bp k off=>match st.ob k with | .box _ cs=>cut t cs off | _=>none
 | .rp k m i off=>match st.ob k with | .row _ m' xs _=>(xs[i]?).bind fun e=>if m=m' then cut t (e.map .c) off else none | _=>none
 | .ep e off=>cut t (e.map .c) off
 | .p false [.c (.pt e)]=>cut t (e.map .c) 0
 | _=>none
def splice {α:Type} (cs:List α) (off:Nat) (vs:List α):List α:=cs.take off++(vs++cs.drop (off+vs.length))
def Zut:AV→Option CT
 | .c (.int k n)=>some (.int k n)
 | .c (.bool b)=>some (.bool b)
 | .c (.str s)=>some (.str s)
 | _=>none
def Zjl:List AV→Option (List CT)
 | []=>some []
 | x::r=>(Zut x).bind fun a=>(Zjl r).map fun b=>a::b
def ZiO:Option TI→Nat
 | some (.strct _ n _)=>n
 | some (.atom _)=>1
 | some (.slice _ _ _ _)=>1
 | _=>0
def Zng (st:St) (t:Option TI):SV→SV→Option (List (Nat × Ob))
 | .bp k off,.p _ vs=>match st.ob k with
  | .box tb cs=>if vs.length=ZiO t∧0<vs.length∧off+vs.length≤cs.length then some [(k,.box tb (splice cs off vs))] else none
  | _=>none
 | .rp k m i off,.p _ vs=>match st.ob k with
  | .row e m' xs d=>(xs[i]?).bind fun x=>(Zjl vs).bind fun ys=>if m=m'∧vs.length=ZiO t∧0<vs.length∧off+vs.length≤m∧0<d then some [(k,.row e m (xs.set i (splice x off ys)) d)] else none
  | _=>none
 | _,_=>none
def ZkQ (d:Nat):SV→Option SV
 | .bp k off=>some (.bp k (off+d))
 | .rp k m i off=>some (.rp k m i (off+d))
 | .ep e off=>some (.ep e (off+d))
 | .p false [.c (.pt e)]=>some (.ep e d)
 | _=>none
def ZmF (fs:List FI) (f:Nat):SV→Option SV
 | .p true cs=>(fs[f]?).bind fun i=>if i.agg then (if i.off+i.size≤cs.length then some (.p true ((cs.drop i.off).take i.size)) else none) else (cs[i.off]?).map fun x=>.p false [x]
 | _=>none
def Zj2 (fs:List FI) (cs:List AV):List (Nat × SV)→Option (List AV)
 | []=>some cs
 | (i,.p _ vs)::r=>(fs[i]?).bind fun f=>if vs.length=f.size∧f.off+vs.length≤cs.length then Zj2 fs (splice cs f.off vs) r else none
 | _::_=>none
def ZgA (st:St) (fs:List FI) (z:List AV) (p:Nat × Operand):Nat × SV:=
 match p.2 with
 | .const (.slice none 0 0)=>(p.1,match (fs[p.1]?).bind fun f=>z[f.off]? with | some (.nil e m)=>.p false [.nil e m] | _=>.any)
 | x=>(p.1,st.ev tt 0 x)
def avT (st:St):AV→Option (CT × List Nat × Nat)
 | .c (.int k n)=>some (.int k n,[],2)
 | .c (.bool b)=>some (.bool b,[],2)
 | .c (.str s)=>some (.str s,[],2)
 | .c x=>some (x,[],1)
 | .nil e m=>if 0<m then some (.sl e m [],[],2) else none
 | .row k=>match st.ob k with | .row e m xs d=>(if d=0 then some (.sl e m xs,[],1) else some (.sl e m xs,[k],d)) | _=>none
 | .n _=>none
 | .dead=>none
def ZgE (st:St):List AV→Option (List CT × List Nat × Nat)
 | []=>some ([],[],2)
 | x::r=>(avT st x).bind fun a=>(ZgE st r).map fun b=>(a.1::b.1,a.2.1++b.2.1,Zge a.2.2 b.2.2)
def Xi (st:St) (m:Nat):List SV→Option (List (List CT) × List Nat × Nat)
 | []=>some ([],[],2)
 | .p _ cs::r=>if cs.length=m then (ZgE st cs).bind fun a=>(Xi st m r).map fun b=>(a.1::b.1,a.2.1++b.2.1,Zge a.2.2 b.2.2) else none
 | _::_=>none
def Zkq:AV→Bool
 | .c _=>true
 | _=>false
def Yc:Ob→Ob
 | .row e m xs _=>.row e m xs 0
 | o=>o
def ZU (st:St):List Nat→List (Nat × Ob)
 | []=>[]
 | k::r=>(k,Yc (st.ob k))::ZU st r
def Za8 (ks:List Nat):List (Nat × Ob):=ks.map fun k=>(k,Ob.gone)
def CT.flat:CT→Bool
 | .int _ _=>true
 | .bool _=>true
 | .str _=>true
 | _=>false
def ZaN (xs:List (List CT)):Bool:=xs.all fun e=>e.all CT.flat
def Zj5 (fl:Bool) (xs:List (List CT)):Nat:=if (fl&&ZaN xs)=true then 2 else 1
def Zgh (st:St) (fl:Bool):SV→Option (List (List CT) × List Nat × Nat)
 | .p false [.c (.sl _ _ ys)]=>some (ys,[],Zj5 fl ys)
 | .p false [.nil _ _]=>some ([],[],2)
 | .p false [.row j]=>match st.ob j with | .row _ _ ys d=>(if d=0 then some (ys,[],Zj5 fl ys) else some (ys,[j],d)) | _=>none
 | _=>none
def Zgk (st:St):SV→Option (List (List CT) × List Nat × Nat)
 | .p false [.nil _ _]=>some ([],[],2)
 | .p false [.row k]=>match st.ob k with | .row _ _ xs d=>(if d=0 then none else some (xs,[k],d)) | _=>none
 | _=>none
def Zmi (st:St) (e m:Nat):SV→Bool
 | .p false [.row k]=>match st.ob k with | .row e' m' _ _=>e==e'&&m==m' | _=>false
 | .p false [.nil _ _]=>true
 | _=>false
def Zk2 (st:St) (m:Nat):SV→Bool
 | .p false [.row k]=>match st.ob k with | .row _ m' _ _=>m==m' | _=>false
 | .p false [.c (.sl _ m' _)]=>m==m'
 | .p false [.nil _ _]=>true
 | _=>false
def Zor (st:St) (key:Nat) (t:Option TI) (s x:SV):Option (SV × List (Nat × Ob)):=
 match t with
 | some (.slice e m _ z)=>
  (Zgk st s).bind fun a=>(Zgh st (z.all Zkq) x).bind fun b=>
   if Zmi st e m s=true∧Zk2 st m x=true∧(a.2.1++b.2.1).Nodup∧a.1.length+b.1.length≤1073741824 then
    some (.p false [.row key],Za8 (a.2.1++b.2.1)++[(key,.row e m (a.1++b.1) (Zge a.2.2 b.2.2))]) else none
 | _=>none
def Zwn (lo:Bool):SV→SV→Option SV
 | .p false [.c (.int k x)],.p false [.c (.int _ y)]=>some (.p false [.c (.int k (if lo then (if y<x then y else x) else (if x<y then y else x)))])
 | _,_=>none
def Zky:Option TI→Nat
 | some (.slice _ m _ _)=>m
 | _=>0
def hiB (n:Nat):Option SV→Option Nat
 | none=>some n
 | some (.p false [.c (.int _ h)])=>if 0≤h∧h≤n then some h.toNat else none
 | _=>none
def loB (n:Nat):Option SV→Option Nat
 | none=>some 0
 | some (.p false [.c (.int _ l)])=>if 0≤l∧l≤n then some l.toNat else none
 | _=>none
def Zl8 (t:Option TI) (lo hi:Option SV):SV→Option SV
 | .p false [.c (.str s)]=>if ZcV t=true then (hiB s.size hi).bind fun h=>(loB h lo).map fun l=>.p false [.c (.str (s.extract l h))] else none
 | .p false [.c (.sl e m xs)]=>if Zky t=m then (hiB xs.length hi).bind fun h=>(loB h lo).map fun l=>.p false [.c (.sl e m ((xs.take h).drop l))] else none
 | _=>none
def mvS (d:Nat):Option SV→Option SV→Bool
 | some _,none=>if d=0 then false else true
 | _,_=>false
def Zaf (st:St) (key:Nat) (t:Option TI) (lo hi:Option SV):SV→Option (SV × List (Nat × Ob))
 | .p false [.row k]=>if Zb4 t=true then (match st.ob k with
  | .row e m xs d=>if Zky t=m then if mvS d lo hi=true then (loB xs.length lo).map fun l=>(.p false [.row key],[(k,.gone),(key,.row e m (xs.drop l) d)]) else (hiB xs.length hi).bind fun h=>(loB h lo).map fun l=>(.p false [.c (.sl e m ((xs.take h).drop l))],[(k,.row e m xs 0)]) else none
  | _=>none) else none
 | .p false [.c x]=>(Zl8 t lo hi (.p false [.c x])).map fun v=>(v,[])
 | _=>none
def vEq:Value→Value→Bool
 | .int k a,.int k' b=>k==k'&&a==b
 | .string a,.string b=>sEq a b
 | .bool a,.bool b=>a==b
 | _,_=>false
def ZlP:List (Value × Value)→Value→Option Value
 | [],_=>none
 | p::r,k=>if vEq k p.1=true then some p.2 else ZlP r k
def ZfP:List (Value × Value)→Value→Value→List (Value × Value)
 | [],k,v=>[(k,v)]
 | p::r,k,v=>if vEq k p.1=true then (k,v)::r else p::ZfP r k v
def avV:Value→AV
 | .int k n=>.c (.int k n)
 | .bool b=>.c (.bool b)
 | .string s=>.c (.str s)
 | _=>.dead
def ZbO (kv:List (Value × Value)) (k:Value) (z:AV):AV:=match ZlP kv k with | some v=>avV v | none=>z
def Zfb (kv:List (Value × Value)) (k:Value):Bool:=(ZlP kv k).isSome
def Zfc:PK→AV
 | .int k=>.c (.int k 0)
 | .bool=>.c (.bool false)
 | .str=>.c (.str ⟨#[]⟩)
def Zvf:PK→SV→Option Value
 | .int k,.p false [.c (.int k' n)]=>if k=k' then some (.int k' n) else none
 | .str,.p false [.c (.str s)]=>some (.string s)
 | .bool,.p false [.c (.bool b)]=>some (.bool b)
 | _,_=>none
def Zr8 (kk vk:PK) (kv:List (Value × Value)) (i:SV) (ok:Bool):Option SV:=
 (Zvf kk i).map fun k=>match ok with
  | true=>.tup [(false,[ZbO kv k (Zfc vk)]),(false,[.c (.bool (Zfb kv k))])]
  | false=>.p false [ZbO kv k (Zfc vk)]
instance pkDec:DecidableEq PK:=fun a b=>match a,b with
 | .int k,.int k'=>if h:k=k' then isTrue (h ▸ rfl) else isFalse (fun e=>h (PK.int.inj e))
 | .bool,.bool=>isTrue rfl
 | .str,.str=>isTrue rfl
 | .int _,.bool=>isFalse (fun e=>by cases e)
 | .int _,.str=>isFalse (fun e=>by cases e)
 | .bool,.int _=>isFalse (fun e=>by cases e)
 | .bool,.str=>isFalse (fun e=>by cases e)
 | .str,.int _=>isFalse (fun e=>by cases e)
 | .str,.bool=>isFalse (fun e=>by cases e)
def Ze3 (kk vk:PK):Option TI→Bool
 | some (.map a b)=>decide (a=kk)&&decide (b=vk)
 | _=>false
def Zhf (st:St) (t:Option TI) (x i:SV) (ok:Bool):Option SV:=
 match x with
 | .p false [.row k]=>match st.ob k with | .map kk vk kv=>if Ze3 kk vk t=true then Zr8 kk vk kv i ok else none | _=>none
 | .p false [.c (.mp kk vk kv)]=>if Ze3 kk vk t=true then Zr8 kk vk kv i ok else none
 | _=>none
def ZvR (st:St) (t:Option TI) (x i v:SV):Option (List (Nat × Ob)):=
 match x with
 | .p false [.row k]=>match st.ob k with | .map kk vk kv=>if Ze3 kk vk t=true then (Zvf kk i).bind fun a=>(Zvf vk v).map fun b=>[(k,.map kk vk (ZfP kv a b))] else none | _=>none
 | _=>none
def Zo7 (key:Nat):Option TI→Option (SV × List (Nat × Ob))
 | some (.map kk vk)=>some (.p false [.row key],[(key,.map kk vk [])])
 | _=>none
def ZjZ (st:St):SV→Option (CT × List (Nat × Ob))
 | .bp k 0=>match st.ob k with | .box _ cs=>(zBox cs).map fun l=>(.pt l,[(k,.gone)]) | _=>none
 | .p false [.c (.pt e)]=>some (.pt e,[])
 | _=>none
where zBox:List AV→Option (List CT)
 | []=>some []
 | .c x::r=>(zBox r).map fun b=>x::b
 | _::_=>none
def ZeM (st:St):List SV→Option (List CT × List (Nat × Ob))
 | []=>some ([],[])
 | x::r=>(ZjZ st x).bind fun a=>(ZeM st r).map fun b=>(a.1::b.1,a.2++b.2)
def ZlO:List AV→Option (List CT)
 | []=>some []
 | .c x::r=>(ZlO r).map fun b=>x::b
 | .nil e m::r=>if 0<m then (ZlO r).map fun b=>.sl e m []::b else none
 | _::_=>none
def Zso (key:Nat) (t:Option TI):SV→SV→Option (SV × List (Nat × Ob))
 | .p false [.c (.int .i64 n)],.p false [.c (.int .i64 c)]=>
  match t with
  | some (.slice e m _ z)=>(ZlO z).bind fun ze=>if 0≤n∧n=c∧n≤1073741824 then some (.p false [.row key],[(key,.row e m (AS n.toNat ze) 2)]) else none
  | _=>none
 | _,_=>none
def Zw4 (i:Nat):SV→Option SV
 | .tup xs=>(xs[i]?).map fun x=>.p x.1 x.2
 | _=>none
def Zbo (v:Option SV):Option (SV × List (Nat × Ob)):=v.map fun v=>(v,[])
def ZiG (st:St):SV→Option SV
 | .p false [.row k]=>match st.ob k with | .row _ _ xs _=>(Ze6 xs).map fun l=>.p false [.c (.str (Xn l))] | _=>none
 | .p false [.c (.sl _ _ xs)]=>(Ze6 xs).map fun l=>.p false [.c (.str (Xn l))]
 | _=>none
def Zqi (tt:Nat→Option TI):Option TI→Option TI
 | some (.slice e _ _ _)=>tt e
 | _=>none
def ZgN (tt:Nat→Option TI) (st:St) (s t:Nat) (x:SV):Option SV:=
 if (ZcV (tt t)&&Zni (Zqi tt (tt s)))=true then ZiG st x else ZrI (tt s) (tt t) x
def ZjB:List TypeId→List Operand→List (TypeId × Operand)
 | t::ts,x::xs=>(t,x)::ZjB ts xs
 | [],x::xs=>(0,x)::ZjB [] xs
 | _,[]=>[]
def evs (st:St) (ts:List TypeId) (xs:List Operand):List SV:=(ZjB ts xs).map fun p=>st.ev tt p.1 p.2
def Zf7 (st:St) (key:Nat) (b:Builtin) (ts:List TypeId) (vs:List SV):Option (SV × List (Nat × Ob)):=
 match b,ts,vs with
 | .len,t::_,[x]=>Zbo (Zn4 st (tt t) x)
 | .append,[t,u],[s,x]=>if t=u then Zor st key (tt t) s x else none
 | .max,_,[x,y]=>Zbo (Zwn false x y)
 | .min,_,[x,y]=>Zbo (Zwn true x y)
 | _,_,_=>none
def opE (key:Nat) (o:Oper) (st:St):Option (SV × List (Nat × Ob)):=
 match o.op with
 | .move x=>some (st.ev tt o.type x,[])
 | .assign x=>some (st.ev tt o.type x,[])
 | .pick c a b=>match st.ev tt 0 c with | .p false [.c (.bool t)]=>some (if t=true then st.ev tt o.type a else st.ev tt o.type b,[]) | _=>none
 | .alloc t=>(Zns (tt t)).map fun z=>(.bp key 0,[(key,.box t z)])
 | .box t x=>match st.ev tt t x with | .p _ cs=>some (.bp key 0,[(key,.box t cs)]) | _=>none
 | .build t parts=>match tt t with | some (.strct fs _ z)=>(Zj2 fs z (parts.toList.map (ZgA tt st fs z))).map fun cs=>(.p true cs,[]) | _=>none
 | .buildSlice t len parts=>match tt t with
  | some (.slice e m _ z)=>(Xi st m (parts.toList.map fun p=>st.ev tt e p.2)).bind fun a=>
   if parts.toList.map (·.1)=List.range len∧len * m≤16777216∧a.2.1.Nodup∧(!z.all Zkq||a.2.1.isEmpty)=true then some (.p false [.row key],ZU st a.2.1++[(key,.row e m a.1 a.2.2)]) else none
  | _=>none
 | .load t x=>Zbo (QZ st (tt t) (st.ev tt 0 x))
 | .store t x v=>(Zng st (tt t) (st.ev tt 0 x) (st.ev tt t v)).map fun u=>(.und,u)
 | .nilCheck x=>match st.ev tt 0 x with | .bp k i=>some (.bp k i,[]) | .rp k m i j=>some (.rp k m i j,[]) | .ep e i=>some (.ep e i,[]) | .p false [.c (.pt e)]=>some (.p false [.c (.pt e)],[]) | _=>none
 | .makeFunc (.func f) first caps=>if first.size=0 then (ZeM st (caps.toList.map (st.ev tt 0))).bind fun r=>if (r.2.map (·.1)).Nodup then some (.p false [.c (.fn f r.1)],r.2) else none else none
 | .makeMap t none=>Zo7 key (tt t)
 | .lookup t x i ok=>Zbo (Zhf st (tt t) (st.ev tt 0 x) (st.ev tt 0 i) ok)
 | .mapUpdate t x i v=>(ZvR st (tt t) (st.ev tt 0 x) (st.ev tt 0 i) (st.ev tt 0 v)).map fun u=>(.und,u)
 | .binOp op t x y _=>Zbo (Zx6 tt t (ZkC y) op (st.ev tt t x) (st.ev tt t y))
 | .unOp op _ x=>Zbo (unV op (st.ev tt 0 x))
 | .convert s t x=>Zbo (ZgN tt st s t (st.ev tt 0 x))
 | .makeSlice t n c=>Zso key (tt t) (st.ev tt 0 n) (st.ev tt 0 c)
 | .slice t x lo hi none=>Zaf st key (tt t) (lo.map (st.ev tt 0)) (hi.map (st.ev tt 0)) (st.ev tt 0 x)
 | .fieldAddr t x f=>match tt t with | some (.strct fs _ _)=>Zbo ((fs[f]?).bind fun i=>ZkQ i.off (st.ev tt 0 x)) | _=>none
 | .field t x f=>match tt t with | some (.strct fs _ _)=>Zbo (ZmF fs f (st.ev tt 0 x)) | _=>none
 | .indexAddr t x i=>match tt t with | some (.slice _ m _ _)=>Zbo (ZbC st m (st.ev tt 0 x) (st.ev tt 0 i)) | _=>none
 | .index t x i=>Zbo (ZmC (tt t) (st.ev tt 0 x) (st.ev tt 0 i))
 | .extract x i=>Zbo (Zw4 i (st.ev tt 0 x))
 | .call c=>match c.callee with
  | .builtin b=>Zf7 tt st key b c.argTypes.toList (evs tt st c.argTypes.toList c.args.toList)
  | _=>none
 | _=>none
end
def Zb9 (st:St):AV→Option CT
 | .c x=>some x
 | .nil e m=>if 0<m then some (.sl e m []) else none
 | .row k=>match st.ob k with | .row e m xs _=>some (.sl e m xs) | _=>none
 | .n x=>some x
 | .dead=>none
def Y0 (st:St):List AV→Option (List CT)
 | []=>some []
 | x::r=>(Zb9 st x).bind fun a=>(Y0 st r).map fun b=>a::b
def Zdh (st:St):SV→Option (Bool × List CT)
 | .p a cs=>(Y0 st cs).map fun l=>(a,l)
 | _=>none
def Z1 (st:St):List SV→Option (List (Bool × List CT))
 | []=>some []
 | x::r=>(Zdh st x).bind fun a=>(Z1 st r).map fun b=>a::b
def nlA:AV→AV
 | .nil e m=>.c (.nl e m)
 | .c x=>.c x
 | .n x=>.n x
 | .row k=>.row k
 | .dead=>.dead
def nlS:SV→SV
 | .p a cs=>.p a (cs.map nlA)
 | x=>x
def Zjj:CT→AV
 | .nl e m=>.nil e m
 | .int k n=>.c (.int k n)
 | .bool b=>.c (.bool b)
 | .str s=>.c (.str s)
 | .sl e m xs=>.c (.sl e m xs)
 | .pt es=>.c (.pt es)
 | .fn f es=>.c (.fn f es)
 | .mp k v kv=>.c (.mp k v kv)
 | .ifc b=>.c (.ifc b)
 | .any=>.c .any
abbrev RT:=Bool × List (Bool × CT)
def ZGI (l:List CT):List (Bool × CT):=l.map fun x=>(false,x)
def ZEP (l:List CT):List (Bool × CT):=l.map fun x=>(true,x)
def Ya (key:Nat):List (Bool × CT)→List AV × List (Nat × Ob) × Nat
 | []=>([],[],key)
 | (false,.sl e m xs)::r=>let b:=Ya (key+1) r;(.row key::b.1,(key,.row e m xs 2)::b.2.1,b.2.2)
 | (false,.int k n)::r=>let b:=Ya key r;(.c (.int k n)::b.1,b.2.1,b.2.2)
 | (false,.bool k)::r=>let b:=Ya key r;(.c (.bool k)::b.1,b.2.1,b.2.2)
 | (false,.str s)::r=>let b:=Ya key r;(.c (.str s)::b.1,b.2.1,b.2.2)
 | (false,.ifc x)::r=>let b:=Ya key r;(.c (.ifc x)::b.1,b.2.1,b.2.2)
 | (false,.any)::r=>let b:=Ya key r;(.c .any::b.1,b.2.1,b.2.2)
 | (false,.nl e m)::r=>let b:=Ya key r;(.c (.nl e m)::b.1,b.2.1,b.2.2)
 | (false,.pt x)::r=>let b:=Ya key r;(.c (.pt x)::b.1,b.2.1,b.2.2)
 | (false,.fn f x)::r=>let b:=Ya key r;(.c (.fn f x)::b.1,b.2.1,b.2.2)
 | (false,.mp k v x)::r=>let b:=Ya key r;(.c (.mp k v x)::b.1,b.2.1,b.2.2)
 | (true,x)::r=>let b:=Ya key r;(.c x::b.1,b.2.1,b.2.2)
def ZK (key:Nat):List RT→List (Bool × List AV) × List (Nat × Ob) × Nat
 | []=>([],[],key)
 | x::r=>let a:=Ya key x.2;let b:=ZK a.2.2 r;((x.1,a.1)::b.1,a.2.1++b.2.1,b.2.2)
def Zdg:List (Bool × List AV)→SV
 | [x]=>.p x.1 x.2
 | xs=>.tup xs
inductive Zme where
 | row (e m:Nat) (xs:List (List CT))
 | box (t:Nat) (cs:List CT)
inductive NB where
 | box (t:Nat) (cs:List CT)
 | map (kk vk:PK) (kv:List (Value × Value))
def ZEY (key:Nat):NB→SV
 | .box _ _=>.bp key 0
 | .map _ _ _=>.p false [.row key]
def ZxU:NB→Ob
 | .box t cs=>.box t (cs.map .c)
 | .map kk vk kv=>.map kk vk kv
structure Ctx where
 r:FuncId→List (Bool × List CT)→List RT→Prop
 h:FuncId→Zme→List (Bool × List CT)→List RT→Zme→Prop
 hd:FuncId→Nat
 b:FuncId→List (Bool × List CT)→NB→Prop
def ZbX:AV→Bool
 | .row _=>false
 | .dead=>false
 | _=>true
def Zia:SV→Bool
 | .p _ cs=>cs.all ZbX
 | _=>true
def Zcr:List (Bool × CT)→Bool
 | []=>false
 | p::r=>p.1||Zcr r
def Zdi:List RT→Bool
 | []=>false
 | x::r=>Zcr x.2||Zdi r
def ZiP:List AV→List Nat
 | []=>[]
 | .row k::r=>k::ZiP r
 | _::r=>ZiP r
def Yb:List SV→List Nat
 | []=>[]
 | .p _ cs::r=>ZiP cs++Yb r
 | _::r=>Yb r
def Zf1 (st:St):SV→Option (Nat × Zme)
 | .bp k 0=>match st.ob k with | .box t cs=>(if cs.all ZbX=true then (Y0 st cs).map fun l=>(k,.box t l) else none) | _=>none
 | .p false [.row k]=>match st.ob k with | .row e m xs d=>(if d=2∧ZaN xs=true then some (k,.row e m xs) else none) | _=>none
 | _=>none
def Zef:Zme→Ob
 | .row e m xs=>.row e m xs 2
 | .box t cs=>.box t (cs.map .c)
inductive Ex where
 | normal
 | exit (id:Nat)
 | ret
section
variable (tt:Nat→Option TI) (S:Ctx)
def YZ {α:Type} (r:Option α) (K:α→Prop):Prop:=match r with | some v=>K v | none=>False
def Zib (dst:Option Nat) (K:St→Prop) (st:St) (v:SV):Prop:=K (st.put dst v)
def ZlC (dst:Option Nat) (K:St→Prop) (st:St) (r:SV × List (Nat × Ob)):Prop:=K ((st.put dst r.1).app r.2)
def ZsM (f:FuncId) (key:Nat) (dst:Option Nat) (K:St→Prop) (st:St) (vs:List SV) (l:List (Bool × List CT)):Prop:=
 ∃res,S.r f l res∧(!Zdi res||vs.all Zia)=true∧(ZK key res).2.2≤key+16∧K ((st.put dst (Zdg (ZK key res).1)).app (ZK key res).2.1)
def Zzi (f:FuncId) (key:Nat) (dst:Option Nat) (K:St→Prop) (st:St) (vs:List SV) (l:List (Bool × List CT)):Prop:=
 ∃res,S.r f l res∧(ZK key res).2.2≤key+16∧K ((st.put dst (Zdg (ZK key res).1)).app (ZU st (Yb vs)++(ZK key res).2.1))
def ZxW (f:FuncId) (key:Nat) (dst:Option Nat) (K:St→Prop) (st:St) (vs:List SV) (kh:Nat × Zme) (l:List (Bool × List CT)):Prop:=
 ∃res h',S.h f kh.2 l res h'∧(Yb vs).all (fun j=>j != kh.1)=true∧(ZK key res).2.2≤key+16∧K ((st.put dst (Zdg (ZK key res).1)).app (ZU st (Yb vs)++((kh.1,Zef h')::(ZK key res).2.1)))
def ZB0 (f:FuncId) (key:Nat) (dst:Option Nat) (K:St→Prop) (st:St) (vs:List SV) (l:List (Bool × List CT)):Prop:=
 ∃nb,S.b f l nb∧K ((st.put dst (ZEY key nb)).app (ZU st (Yb vs)++[(key,ZxU nb)]))
def ZuJ (f:FuncId) (key:Nat) (dst:Option Nat) (K:St→Prop) (st:St):List SV→Prop
 | []=>False
 | v::r=>YZ (Zf1 st v) fun kh=>YZ (Z1 st r) (ZxW S f key dst K st r kh)
def spK (f:FuncId) (n key:Nat) (dst:Option Nat) (K:St→Prop) (st:St) (vs:List SV):Prop:=
 match n with
 | 0=>YZ (Z1 st vs) (ZsM S f key dst K st vs)
 | 1=>ZuJ S f key dst K st vs
 | 3=>YZ (Z1 st vs) (ZB0 S f key dst K st vs)
 | 4=>YZ (Z1 st (vs.map nlS)) (ZsM S f key dst K st (vs.map nlS))
 | _=>YZ (Z1 st vs) (Zzi S f key dst K st vs)
def Y7:Op→Option (FuncId × List TypeId × List Operand)
 | .call ⟨.value (.func f),args,ts⟩=>some (f,ts.toList,args.toList)
 | _=>none
def Xl:Op→Option (Nat × List TypeId × List Operand)
 | .call ⟨.value (.tmp s),args,ts⟩=>some (s,ts.toList,args.toList)
 | _=>none
def Zo2:SV→Option (FuncId × List CT)
 | .p false [.c (.fn f es)]=>some (f,es)
 | .fn f=>some (f,[])
 | _=>none
def Zk9 (c:CT):SV:=.p false [.c c]
def ZD5 (key:Nat) (dst:Option Nat) (K:St→Prop) (st:St) (vs:List SV) (fc:FuncId × List CT):Prop:=S.hd fc.1=0∧spK S fc.1 0 key dst K st (vs++fc.2.map Zk9)
def opS (key:Nat) (o:Oper) (K:St→Prop) (st:St):Prop:=
 match Y7 o.op with
 | some c=>spK S c.1 (S.hd c.1) key o.dst K st (evs tt st c.2.1 c.2.2)
 | none=>match Xl o.op with
  | some c=>YZ (Zo2 (st.sl c.1)) (ZD5 S key o.dst K st (evs tt st c.2.1 c.2.2))
  | none=>YZ (opE tt key o st) (ZlC o.dst K st)
def ZaO (all:List Oper) (o:Oper):Option (Option Nat × Bool):=
 match o.guard with
 | none=>none
 | some g=>some ((all[g.1]?).bind (·.dst),g.2)
def Zav:SV→Bool
 | .p false [.c (.bool _)]=>true
 | _=>false
def Qg:SV→Bool
 | .p false [.c (.bool b)]=>b
 | _=>false
def ZrT:SV→Bool
 | .und=>true
 | _=>false
def gK (v:SV) (want:Bool) (A B:Prop):Prop:=if Zav v=true then (if (Qg v==want)=true then A else B) else (if ZrT v=true then B else False)
def opG (all:List Oper) (key:Nat) (o:Oper) (K:St→Prop) (st:St):Prop:=
 match ZaO all o with
 | none=>opS tt S key o K st
 | some (none,_)=>K (st.put o.dst .und)
 | some (some t,want)=>gK (st.sl t) want (opS tt S key o K st) (K (st.put o.dst .und))
def Z7 (all:List Oper) (key:Nat):List Oper→(St→Prop)→St→Prop
 | [],K,st=>K st
 | o::r,K,st=>opG tt S all key o (Z7 all (key+16) r K) st
def Zqd (n:Nat) (K:St→Prop) (st:St):Prop:=K { st with n:=n }
def Zzh (ops:List Oper) (K:St→Prop) (st:St):Prop:=Z7 tt S ops st.n ops (Zqd (st.n+16 * ops.length) K) st
def ZgR (k:St→Prop) (Q:Ex→St→Prop):Ex→St→Prop
 | .normal,st=>k st
 | e,st=>Q e st
def Zhd (id:Nat) (Q:Ex→St→Prop):Ex→St→Prop
 | .exit j,st=>if j=id then Q .normal st else Q (.exit j) st
 | e,st=>Q e st
def ZpB (v:SV) (a b:Prop):Prop:=if Zav v=true then (if Qg v=true then a else b) else False
def ZqU:List Nat→Nat→Nat→Option Nat
 | [],_,_=>none
 | x::r,k,i=>if x=k then some i else ZqU r k (i+1)
def rAV (ρ:List Nat):AV→AV
 | .row k=>match ZqU ρ k 0 with | some j=>.row j | none=>.dead
 | x=>x
def rSV (ρ:List Nat):SV→SV
 | .p a cs=>.p a (cs.map (rAV ρ))
 | .tup xs=>.tup (xs.map fun x=>(x.1,x.2.map (rAV ρ)))
 | .bp k off=>match ZqU ρ k 0 with | some j=>.bp j off | none=>.any
 | .rp k m i off=>match ZqU ρ k 0 with | some j=>.rp j m i off | none=>.any
 | x=>x
def rOb (ρ:List Nat):Ob→Ob
 | .box t cs=>.box t (cs.map (rAV ρ))
 | x=>x
def St.ren (st:St) (ρ:List Nat):St:=⟨fun t=>rSV ρ (st.sl t),fun j=>match ρ[j]? with | some k=>rOb ρ (st.ob k) | none=>.gone,ρ.length⟩
def St.mat (st:St) (m:Bool × Nat × Nat):St:=
 match m.1 with
 | false=>match st.sl m.2.1 with
  | .p ag cs=>match cs[m.2.2]? with
   | some (.nil e q)=>if 0<q then ⟨upd st.sl m.2.1 (.p ag (cs.set m.2.2 (.row st.n))),upd st.ob st.n (.row e q [] 2),st.n+1⟩ else st
   | some (.row k)=>match st.ob k with
    | .row e q xs _=>⟨upd st.sl m.2.1 (.p ag (cs.set m.2.2 (.c (.sl e q xs)))),upd st.ob k (.row e q xs 0),st.n⟩
    | _=>st
   | _=>st
  | _=>st
 | true=>match st.ob m.2.1 with
  | .box ty cs=>match cs[m.2.2]? with
   | some (.nil e q)=>if 0<q then ⟨st.sl,upd (upd st.ob m.2.1 (.box ty (cs.set m.2.2 (.row st.n)))) st.n (.row e q [] 2),st.n+1⟩ else st
   | some (.row k)=>match st.ob k with
    | .row e q xs _=>⟨st.sl,upd (upd st.ob k (.row e q xs 0)) m.2.1 (.box ty (cs.set m.2.2 (.c (.sl e q xs)))),st.n⟩
    | _=>st
   | _=>st
  | .row e q xs d=>if m.2.2<d then ⟨st.sl,upd st.ob m.2.1 (.row e q xs m.2.2),st.n⟩ else st
  | _=>st
def St.matN (st:St) (m:Bool × Nat × Nat):St:=
 match st.sl m.2.1 with
 | .p ag cs=>match cs[m.2.2 - 4096]? with
  | some (.row k)=>match st.ob k with
   | .row e q xs d=>if d=2 then ⟨upd st.sl m.2.1 (.p ag (cs.set (m.2.2 - 4096) (.n (.sl e q xs)))),upd st.ob k (.row e q xs 0),st.n⟩ else st
   | _=>st
  | _=>st
 | _=>st
def St.mats (st:St):List (Bool × Nat × Nat)→St
 | []=>st
 | m::r=>(if m.1=false∧4096≤m.2.2 then st.matN m else st.mat m).mats r
/- no slice and no text is longer than Go allows, at any depth -/
mutual
def ctD:CT→Prop
 | .sl _ _ xs=>xs.length≤9223372036854775807∧essD xs
 | .pt es=>ctsD es
 | .fn _ es=>ctsD es
 | .str s=>s.size≤9223372036854775807
 | _=>True
def ctsD:List CT→Prop
 | []=>True
 | x::r=>ctD x∧ctsD r
def essD:List (List CT)→Prop
 | []=>True
 | e::r=>ctsD e∧essD r
end
def avD:AV→Prop
 | .c x=>ctD x
 | .n x=>ctD x
 | _=>True
def ZwH:List AV→Prop
 | []=>True
 | x::r=>avD x∧ZwH r
structure WF (st:St):Prop where
 sl:∀t a cs,st.sl t=.p a cs→ZwH cs
 box:∀k t cs,st.ob k=.box t cs→ZwH cs
 row:∀k e m xs d,st.ob k=.row e m xs d→xs.length≤9223372036854775807∧essD xs
theorem Zuo {α:Type} {g:α→List CT}:∀{l:List α} {i:Nat} {x:α},essD (l.map g)→l[i]?=some x→ctsD (g x)
 | [],_,_,_,h=>by simp at h
 | _::_,0,_,h,e=>by simp at e;subst e;exact h.1
 | _::_,i+1,_,h,e=>Zuo h.2 (by simpa using e)
def Zlo (F:(Ex→St→Prop)→St→Prop) (Q:Ex→St→Prop):Nat→St→Prop
 | 0,_=>False
 | n+1,st=>∃(ms:List (Bool × Nat × Nat)) (ρ:List Nat),ρ.Nodup∧(WF ((st.mats ms).ren ρ)→F (ZgR (Zlo F Q n) Q) ((st.mats ms).ren ρ))
def ldB:SV→Bool
 | .bp k _=>!decide (k=0)
 | .rp k _ _ _=>!decide (k=0)
 | _=>true
def hdB:SV→Bool
 | .bp k _=>decide (k=0)
 | _=>false
def hdC (n:Nat) (x:Option Operand) (st:St):Bool:=match n with
 | 1=>match x with | some x=>hdB (st.ev tt 0 x) | none=>false
 | _=>true
def slB:SV→Bool
 | .p false [.c _]=>true
 | _=>false
def stk (o:Op) (st:St):Bool:=match o with
 | .load _ x=>ldB (st.ev tt 0 x)
 | .slice _ x _ _ _=>slB (st.ev tt 0 x)
 | o=>match Y7 o with | some c=>hdC tt (S.hd c.1) c.2.2.head? st | none=>true
def ifB (b:Bool) (c:Bool) (P:Prop):Prop:=match b with
 | true=>c=true∧P
 | false=>P
def Zf3 (b:Bool) (all:List Oper) (base:Nat):List Nat→(St→Prop)→St→Prop
 | [],K,st=>K st
 | i::r,K,st=>match all[i]? with
  | some o=>ifB b (stk tt S o.op st) (opG tt S all (base+16 * i) o (Zf3 b all base r K) st)
  | none=>Zf3 b all base r K st
def Zvi (od:Option (List Nat × Bool)) (ops:List Oper) (K:St→Prop) (st:St):Prop:=match od with
 | none=>Zzh tt S ops K st
 | some l=>Zf3 tt S l.2 ops st.n l.1 (Zqd (st.n+16 * ops.length) K) st
abbrev OD:=Nat→Option (List Nat × Bool)
def swp (od:OD):Code→(Ex→St→Prop)→St→Prop
 | .skip,Q,st=>Q .normal st
 | .region id ops _,Q,st=>Zvi tt S (od id) ops.toList (Q .normal) st
 | .seq a b,Q,st=>swp od a (ZgR (swp od b Q) Q) st
 | .cond c a b,Q,st=>ZpB (st.ev tt 0 c) (swp od a Q st) (swp od b Q st)
 | .block id b,Q,st=>swp od b (Zhd id Q) st
 | .loop b,Q,st=>∃n,Zlo (swp od b) Q n st
 | .exit id,Q,st=>Q (.exit id) st
 | .ret,Q,st=>Q .ret st
 | _,_,_=>False
end
def ZfT (st:St):AV→Option ((Bool × CT) × List Nat)
 | .c (.sl e m xs)=>some ((true,.sl e m xs),[])
 | .c (.int k n)=>some ((false,.int k n),[])
 | .c (.bool b)=>some ((false,.bool b),[])
 | .c (.str s)=>some ((false,.str s),[])
 | .nil e m=>if 0<m then some ((false,.sl e m []),[]) else none
 | .c (.ifc x)=>some ((false,.ifc x),[])
 | .c x=>some ((true,x),[])
 | .row k=>match st.ob k with | .row e m xs d=>(if d=2 then some ((false,.sl e m xs),[k]) else some ((true,.sl e m xs),[])) | .map kk vk kv=>some ((true,.mp kk vk kv),[]) | _=>none
 | .n x=>some ((true,x),[])
 | .dead=>some ((true,.any),[])
def Zdc (st:St):List AV→Option (List (Bool × CT) × List Nat)
 | []=>some ([],[])
 | x::r=>(ZfT st x).bind fun a=>(Zdc st r).map fun b=>(a.1::b.1,a.2++b.2)
def Zc3 (tt:Nat→Option TI) (st:St):List ResultVar→Option (List RT × List Nat)
 | []=>some ([],[])
 | .tmp t::r=>match st.sl t with
  | .p a cs=>(Zdc st cs).bind fun x=>(Zc3 tt st r).map fun b=>((a,x.1)::b.1,x.2++b.2)
  | _=>none
 | .cell t ty::r=>match QZ st (tt ty) (st.sl t) with
  | some (.p a cs)=>(Zdc st cs).bind fun x=>(Zc3 tt st r).map fun b=>((a,x.1)::b.1,x.2++b.2)
  | _=>none
def ZuL:CT→Bool
 | .any=>true
 | .int _ _=>false
 | .bool _=>false
 | .str _=>false
 | .sl _ _ _=>false
 | .pt _=>false
 | .fn _ _=>false
 | .mp _ _ _=>false
 | .ifc _=>false
 | .nl _ _=>false
def wk1 (x y:Bool × CT) (R:Prop):Prop:=if ZuL y.2=true then R else x.2=y.2∧(x.1=y.1∨y.1=true)∧R
def wkC:List (Bool × CT)→List (Bool × CT)→Prop
 | [],[]=>True
 | x::r,y::q=>wk1 x y (wkC r q)
 | _,_=>False
def wkR:List RT→List RT→Prop
 | [],[]=>True
 | x::r,y::q=>x.1=y.1∧wkC x.2 y.2∧wkR r q
 | _,_=>False
def Zo (args:List (Bool × List CT)):St:=⟨fun t=>match args[t]? with | some x=>.p x.1 (x.2.map Zjj) | none=>.und,fun _=>.gone,0⟩
def ZvT (tt:Nat→Option TI) (rs:List ResultVar) (R:St→List RT→List Nat→Prop):Ex→St→Prop
 | .exit _,_=>False
 | _,st=>match Zc3 tt st rs with | some x=>x.2.Nodup∧R st x.1 x.2 | none=>False
def fnS (od:OD) (tt:Nat→Option TI) (S:Ctx) (rs:List ResultVar) (body:Code) (args:List (Bool × List CT)) (res:List RT):Prop:=swp tt S od body (ZvT tt rs fun _ r _=>wkR r res) (Zo args)
def ZxE (st:St) (ks:List Nat) (h':Zme):Prop:=
 match h' with
 | .row e m xs=>∃k,st.sl 0=.p false [.row k]∧st.ob k=.row e m xs 2∧ZaN xs=true∧k∉ks
 | .box t cs=>∃k ds,st.sl 0=.bp k 0∧st.ob k=.box t ds∧ds.all ZbX=true∧Y0 st ds=some cs
def Zf6 (st:St) (rs:List ResultVar) (nb:NB):Prop:=
 match rs with
 | [.tmp s]=>(match nb with
  | .box t cs=>∃k ds,st.sl s=.bp k 0∧st.ob k=.box t ds∧ds.all ZbX=true∧Y0 st ds=some cs
  | .map kk vk kv=>∃k,st.sl s=.p false [.row k]∧st.ob k=.map kk vk kv)
 | _=>False
def Zzf (rs:List ResultVar) (nb:NB):Ex→St→Prop
 | .exit _,_=>False
 | _,st=>Zf6 st rs nb
def hbO (st:St) (t:Nat) (cs:List CT):Ob→Prop
 | .box t' ds=>t'=t∧ds.all ZbX=true∧Y0 st ds=some cs
 | _=>False
def hbS (st:St) (t:Nat) (cs:List CT):SV→Prop
 | .bp k 0=>hbO st t cs (st.ob k)
 | _=>False
theorem Zup {st:St} {t:Nat} {cs:List CT} {v:SV}:hbS st t cs v↔∃k ds,v=.bp k 0∧st.ob k=.box t ds∧ds.all ZbX=true∧Y0 st ds=some cs:=by
 constructor
 ·intro h
  unfold hbS at h
  split at h
  ·rename_i k
   unfold hbO at h
   split at h
   ·rename_i t' ds hk
    obtain ⟨rfl,h2,h3⟩:=h
    exact ⟨k,ds,rfl,hk,h2,h3⟩
   ·exact h.elim
  ·exact h.elim
 ·rintro ⟨k,ds,rfl,h1,h2,h3⟩
  show hbO st t cs (st.ob k)
  rw [h1]
  exact ⟨rfl,h2,h3⟩
theorem Zp8 {st:St} {ks:List Nat} {t:Nat} {cs:List CT}:ZxE st ks (.box t cs)=hbS st t cs (st.sl 0):=propext Zup.symm
theorem Zrr {st:St} {s t:Nat} {cs:List CT}:Zf6 st [.tmp s] (.box t cs)=hbS st t cs (st.sl s):=propext Zup.symm
def mbO (kk vk:PK) (kv:List (Value × Value)):Ob→Prop
 | .map kk' vk' kv'=>kk'=kk∧vk'=vk∧kv'=kv
 | _=>False
def mbS (st:St) (kk vk:PK) (kv:List (Value × Value)):SV→Prop
 | .p false [.row k]=>mbO kk vk kv (st.ob k)
 | _=>False
theorem Zzw {st:St} {kk vk:PK} {kv:List (Value × Value)} {v:SV}:mbS st kk vk kv v↔∃k,v=.p false [.row k]∧st.ob k=.map kk vk kv:=by
 constructor
 ·intro h
  unfold mbS at h
  split at h
  ·rename_i k
   unfold mbO at h
   split at h
   ·rename_i a b c hk
    obtain ⟨rfl,rfl,rfl⟩:=h
    exact ⟨k,rfl,hk⟩
   ·exact h.elim
  ·exact h.elim
 ·rintro ⟨k,rfl,h1⟩
  show mbO kk vk kv (st.ob k)
  rw [h1]
  exact ⟨rfl,rfl,rfl⟩
theorem ZsA {st:St} {s:Nat} {kk vk:PK} {kv:List (Value × Value)}:Zf6 st [.tmp s] (.map kk vk kv)=mbS st kk vk kv (st.sl s):=propext Zzw.symm
theorem Zyv {st:St} {k:Nat} {kk vk:PK} {kv:List (Value × Value)}:mbS st kk vk kv (.p false [.row k])=mbO kk vk kv (st.ob k):=yi rfl
theorem Zy0 {kk vk a b:PK} {kv c:List (Value × Value)}:mbO kk vk kv (.map a b c)=(a=kk∧b=vk∧c=kv):=yi rfl
theorem ZAA {st:St} {t k:Nat} {cs:List CT}:hbS st t cs (.bp k 0)=hbO st t cs (st.ob k):=yi rfl
theorem ZyA {st:St} {t t':Nat} {cs:List CT} {ds:List AV}:hbO st t cs (.box t' ds)=(t'=t∧ds.all ZbX=true∧Y0 st ds=some cs):=yi rfl
theorem ZwJ {rs:List ResultVar} {nb:NB} {st:St}:Zzf rs nb .ret st=Zf6 st rs nb:=yi rfl
theorem ZvE {rs:List ResultVar} {nb:NB} {st:St}:Zzf rs nb .normal st=Zf6 st rs nb:=yi rfl
def fnB (od:OD) (tt:Nat→Option TI) (S:Ctx) (rs:List ResultVar) (body:Code) (args:List (Bool × List CT)) (nb:NB):Prop:=swp tt S od body (Zzf rs nb) (Zo args)
def Zus (k:Nat):Ob→AV
 | .row _ _ _ d=>if d=2 then .row k else .dead
 | .gone=>.dead
 | .box _ _=>.dead
 | .map _ _ _=>.dead
def ZjS (st:St):AV→AV
 | .c (.int k n)=>.c (.int k n)
 | .c (.bool b)=>.c (.bool b)
 | .c (.str s)=>.c (.str s)
 | .row k=>Zus k (st.ob k)
 | _=>.dead
def ZoV (st:St):SV→SV
 | .p ag cs=>.p ag (cs.map (ZjS st))
 | .bp k off=>.bp k off
 | _=>.any
def ZaX (st:St):Ob→Ob
 | .row e m xs d=>if d=2 then .row e m xs d else .gone
 | .gone=>.gone
 | .box t cs=>.box t (cs.map (ZjS st))
 | .map _ _ _=>.gone
def ZrO (st:St) (t:Nat):SV→St
 | .p false [.n (.sl e m xs)]=>⟨fun s=>if s=t then .p false [.row st.n] else ZoV st (st.sl s),fun k=>if k=st.n then .row e m xs 2 else ZaX st (st.ob k),st.n+1⟩
 | _=>st
def St.thaw (st:St) (t:Nat):St:=ZrO st t (st.sl t)
def Zzu (t:Nat) (Q:Ex→St→Prop):Ex→St→Prop
 | e,st=>Q e (st.thaw t)
def fnN (od:OD) (tt:Nat→Option TI) (S:Ctx) (rs:List ResultVar) (t:Nat) (body:Code) (args:List (Bool × List CT)) (res:List RT):Prop:=swp tt S od body (Zzu t (ZvT tt rs fun _ r _=>wkR r res)) (Zo args)
theorem ZyC (sl:Nat→SV) (ob:Nat→Ob) (n t:Nat):St.thaw ⟨sl,ob,n⟩ t=ZrO ⟨sl,ob,n⟩ t (sl t):=yi rfl
theorem Zzl (t:Nat) (Q:Ex→St→Prop) (e:Ex) (st:St):Zzu t Q e st=Q e (st.thaw t):=yi rfl
end
section
open Go.RowKit
def ZM {α β:Type} (R:α→β→Prop):List α→List β→Prop
 | [],[]=>True
 | a::l,b::r=>R a b∧ZM R l r
 | _,_=>False
section
variable {α β:Type} {R R':α→β→Prop}
theorem ZM.len:∀{l:List α} {r:List β},ZM R l r→l.length=r.length
 | [],[],_=>rfl
 | _::_,_::_,h=>by simp [h.2.len]
 | [],_::_,h=>h.elim
 | _::_,[],h=>h.elim
theorem ZM.mono:∀{l:List α} {r:List β},ZM R l r→(∀a b,a∈l→R a b→R' a b)→ZM R' l r
 | [],[],_,_=>trivial
 | _::_,_::_,h,f=>⟨f _ _ yG h.1,h.2.mono fun a b m=>f a b (by simp [m])⟩
 | [],_::_,h,_=>h.elim
 | _::_,[],h,_=>h.elim
theorem ZM.at:∀{l:List α} {r:List β} {i:Nat} {a:α},ZM R l r→l[i]?=some a→∃b,r[i]?=some b∧R a b
 | [],[],_,_,_,h=>by simp at h
 | _::_,b::_,0,_,h,e=>by simp at e;subst e;exact ⟨b,yG,h.1⟩
 | _::_,_::_,i+1,a,h,e=>by
  obtain ⟨b,h1,h2⟩:=h.2.at (i:=i) (a:=a) (by simpa using e)
  exact ⟨b,by simpa using h1,h2⟩
 | [],_::_,_,_,h,_=>h.elim
 | _::_,[],_,_,h,_=>h.elim
theorem ZM.set:∀{l:List α} {r:List β} {i:Nat} {a:α} {b:β},ZM R l r→R a b→ZM R (l.set i a) (r.set i b)
 | [],[],_,_,_,_,_=>trivial
 | _::_,_::_,0,_,_,h,e=>⟨e,h.2⟩
 | _::_,_::_,_+1,_,_,h,e=>⟨h.1,h.2.set e⟩
 | [],_::_,_,_,_,h,_=>h.elim
 | _::_,[],_,_,_,h,_=>h.elim
theorem ZM.drop:∀{l:List α} {r:List β} (n:Nat),ZM R l r→ZM R (l.drop n) (r.drop n)
 | _,_,0,h=>by simpa using h
 | [],[],n+1,_=>by simp [ZM]
 | _::_,_::_,n+1,h=>by simpa using h.2.drop n
 | [],_::_,_+1,h=>h.elim
 | _::_,[],_+1,h=>h.elim
theorem ZM.take:∀{l:List α} {r:List β} (n:Nat),ZM R l r→ZM R (l.take n) (r.take n)
 | _,_,0,h=>by simp [ZM]
 | [],[],n+1,_=>by simp [ZM]
 | _::_,_::_,n+1,h=>by simpa using ⟨h.1,h.2.take n⟩
 | [],_::_,_+1,h=>h.elim
 | _::_,[],_+1,h=>h.elim
theorem ZM.append:∀{l l':List α} {r r':List β},ZM R l r→ZM R l' r'→ZM R (l++l') (r++r')
 | [],_,[],_,_,h=>h
 | _::_,_,_::_,_,h,h'=>⟨h.1,h.2.append h'⟩
 | [],_,_::_,_,h,_=>h.elim
 | _::_,_,[],_,h,_=>h.elim
end
class NW where
 B0:Nat
structure Gh where
 val:Nat→Value
 O:Nat→List Nat
 D:Nat→List Nat
 Z:Nat→Prop
def Gh.own (g:Gh) (b:Nat):Prop:=(∃k,b∈g.O k)∨g.Z b
def Gh.low (g:Gh) (b:Nat):Prop:=g.own b∨∃k,b∈g.D k
structure QU (g g':Gh) (n:Nat):Prop where
 own:∀b,g'.own b→g.own b∨n≤b
 low:∀b,g'.low b→g.low b∨n≤b
structure XJ (g' g:Gh):Prop where
 own:∀b,g'.own b→g.own b
 low:∀b,g'.low b→g.low b
theorem QU.refl (g:Gh) (n:Nat):QU g g n:=⟨fun _ h=>.inl h,fun _ h=>.inl h⟩
theorem XJ.refl (g:Gh):XJ g g:=⟨fun _ h=>h,fun _ h=>h⟩
theorem XJ.trans {a b c:Gh} (h:XJ a b) (k:XJ b c):XJ a c:=⟨fun x hx=>k.own x (h.own x hx),fun x hx=>k.low x (h.low x hx)⟩
theorem XJ.grow {g' g:Gh} (h:XJ g' g) (n:Nat):QU g g' n:=⟨fun x hx=>.inl (h.own x hx),fun x hx=>.inl (h.low x hx)⟩
theorem XJ.of {g' g:Gh} (h:∀b,g'.own b→g.own b) (k:∀j b,b∈g'.D j→∃i,b∈g.D i):XJ g' g:=⟨h,fun x hx=>hx.imp (h x) fun ⟨j,mj⟩=>k j x mj⟩
theorem QU.of {g g':Gh} {n:Nat} (h:∀b,g'.own b→g.own b∨n≤b) (k:∀j b,b∈g'.D j→g.low b∨n≤b):QU g g' n:=⟨h,fun x hx=>by
 rcases hx with hx | ⟨j,mj⟩
 ·exact (h x hx).imp (fun q=>.inl q) id
 ·exact k j x mj⟩
structure ZaK extends World where
 z:Nat→Prop
 x:Nat→Prop
 hv:Option Value
structure Bel (W:ZaK) (w:World):Prop where
 os:w.os=W.os
 tape:w.tape=W.tape
 output:w.output=W.output
 size:W.heap.size≤w.heap.size
 block:∀k,k<W.heap.size→¬W.x k→w.heap[k]?=W.heap[k]?
theorem Bel.trans {W:ZaK} {w w':World} (h:Bel W w) (k:Below w.heap.size w w'):Bel W w':=
 ⟨k.os.trans h.os,k.tape.trans h.tape,k.output.trans h.output,AD h.size k.size,fun i hi hx=>(k.block i (AP hi h.size)).trans (h.block i hi hx)⟩
def NR [NW] (g:Gh) (w:World) (x:CT) (v:Value):Prop:=
 ∃e m xs cs L,x=.sl e m xs∧0<m∧w.ownsV 0 e m v xs.length cs∧REs w m xs cs L∧(v.ownBlock.toList++L).Nodup∧∀b∈v.ownBlock.toList++L,¬g.low b∧NW.B0≤b∧∃cur t,w.heap[b]?=some (.cells cur t (0,0))
def AVR [NW] (g:Gh) (w:World):AV→Value→Prop
 | .c x,v=>∃L,RC w x v L∧∀b∈L,¬g.own b
 | .n x,v=>NR g w x v
 | .row k,v=>v=g.val k∧v.oneCell'=true
 | .nil _ _,v=>v=.slice none 0 0
 | .dead,v=>v.oneCell'=true
def PVR [NW] (g:Gh) (w:World):Bool→List AV→Value→Prop
 | true,cs,v=>∃vs:List Value,v=.agg vs.toArray∧ZM (AVR g w) cs vs
 | false,cs,v=>∃x,cs=[x]∧AVR g w x v
def SVR [NW] (g:Gh) (w:World):SV→Value→Prop
 | .any,_=>True
 | .und,v=>v=undef
 | .p a cs,v=>PVR g w a cs v
 | .tup xs,v=>∃vs:List Value,v=.tuple vs.toArray∧ZM (fun x u=>PVR g w x.1 x.2 u) xs vs
 | .bp k off,v=>∃b,g.val k=.pointer (some ⟨b,0,none⟩)∧v=.pointer (some ⟨b,off,none⟩)
 | .rp k m i off,v=>∃b o n c,g.val k=.slice (some ⟨b,o,none⟩) n c∧v=.pointer (some ⟨b,o+(i * m+off),none⟩)
 | .ep e off,v=>∃b lo cs L,v=.pointer (some ⟨b,lo+off,none⟩)∧Qh w b lo cs∧RCs w e cs L∧(∀x∈b::L,¬g.own x)∧b<w.heap.size
 | .fn f,v=>v=.func (.func f) #[] #[]
def ObR [NW] (g:Gh) (w:World) (k:Nat):Ob→Prop
 | .gone=>g.O k=[]∧g.D k=[]
 | .box t cs=>∃b vs,g.val k=.pointer (some ⟨b,0,none⟩)∧g.O k=[b]∧g.D k=[]∧w.heap[b]?=some (.cells vs.toArray t (0,0))∧ZM (AVR g w) cs vs
 | .row e m xs d=>0<m∧∃cs L,w.ownsV 0 e m (g.val k) xs.length cs∧REs w m xs cs L∧((d=2∧g.O k=(g.val k).ownBlock.toList∧g.D k=L)∨(d=1∧g.O k=(g.val k).ownBlock.toList∧g.D k=[]∧∀b∈L,¬g.own b)∨(d=0∧g.O k=[]∧g.D k=[]∧∀b∈(g.val k).ownBlock.toList++L,¬g.own b))
 | .map kk vk kv=>∃b es c,g.val k=.map (some b)∧g.O k=[b]∧g.D k=[]∧w.heap[b]?=some (.map es c)∧ZdP es=kv∧Zjp kk vk kv
def Qf (w:World) (o:Ob) (b:Nat):Prop:=
 match o with
 | .map _ _ _=>∃es c,w.heap[b]?=some (.map es c)
 | _=>∃cur e,w.heap[b]?=some (.cells cur e (0,0))
theorem Qf.lt {w:World} {o:Ob} {b:Nat} (h:Qf w o b):b<w.heap.size:=by
 unfold Qf at h
 split at h
 ·obtain ⟨_,_,h⟩:=h;exact (AE.1 h).1
 ·obtain ⟨_,_,h⟩:=h;exact (AE.1 h).1
theorem Qf.keep {w w':World} {o:Ob} {b:Nat} (h:Qf w o b) (e:w'.heap[b]?=w.heap[b]?):Qf w' o b:=by
 unfold Qf at h ⊢
 rw [e];exact h
def ZkR:Ob→Bool
 | .map _ _ _=>true
 | _=>false
theorem Qf.of {w:World} {o o':Ob} {b:Nat} (h:Qf w o b) (e:ZkR o'=ZkR o):Qf w o' b:=by
 cases o<;>cases o'<;>simp [ZkR] at e<;>exact h
structure HI [NW] (W:ZaK) (g:Gh) (ob:Nat→Ob) (w:World):Prop where
 below:Bel W w
 obs:∀k,ObR g w k (ob k)
 nodup:∀k,(g.O k++g.D k).Nodup
 apart:∀k j,k≠j→∀b∈g.O k++g.D k,b∉g.O j++g.D j
 plain:∀k,∀b∈g.O k++g.D k,(W.heap.size≤b∨W.x b)∧Qf w (ob k) b
 gz:g.Z=W.z
 zx:∀b,W.z b→b<W.heap.size∧¬W.x b
 nw:∀b,(W.heap.size≤b∨W.x b)→NW.B0≤b
def avU (U:Nat→Prop):AV→Prop
 | .row k=>U k
 | _=>True
def QW (U:Nat→Prop) (cs:List AV):Prop:=∀x∈cs,avU U x
def svU (U:Nat→Prop):SV→Prop
 | .p _ cs=>QW U cs
 | .tup xs=>∀x∈xs,QW U x.2
 | .bp k _=>U k
 | .rp k _ _ _=>U k
 | _=>True
def obU (U:Nat→Prop):Ob→Prop
 | .box _ cs=>QW U cs
 | _=>True
structure StU (U:Nat→Prop) (st:St):Prop where
 sl:∀t,svU U (st.sl t)
 ob:∀k,obU U (st.ob k)
 gone:∀k,¬U k→st.ob k=.gone
theorem HI.lt [NW] {W:ZaK} {g:Gh} {ob:Nat→Ob} {w:World} (h:HI W g ob w) (k:Nat):∀b∈g.O k++g.D k,b<w.heap.size:=by
 intro b m
 exact (h.plain k b m).2.lt
theorem HI.nz [NW] {W:ZaK} {g:Gh} {ob:Nat→Ob} {w:World} (h:HI W g ob w) {k b:Nat} (m:b∈g.O k++g.D k):¬g.Z b:=fun hz=>by
 rw [h.gz] at hz
 obtain ⟨h1,h2⟩:=h.zx b hz
 rcases (h.plain k b m).1 with h3 | h3
 ·omega
 ·exact h2 h3
section
variable {g g':Gh} {w w':World} {U:Nat→Prop}
theorem NR.move [NW] {x:CT} {v:Value} (h:NR g w x v)
  (hw:∀b,b<w.heap.size→¬g.own b→w'.heap[b]?=w.heap[b]?) (ho:QU g g' w.heap.size):NR g' w' x v:=by
 obtain ⟨e,m,xs,cs,L,h1,h2,h3,h4,h5,h6⟩:=h
 have a:∀b∈v.ownBlock.toList++L,b<w.heap.size:=fun b mb=>by
  obtain ⟨_,_,_,_,q⟩:=h6 b mb
  exact (AE.1 q).1
 have hs:∀b∈v.ownBlock.toList++L,w'.heap[b]?=w.heap[b]?:=fun b mb=>hw b (a b mb) fun o=>(h6 b mb).1 (.inl o)
 refine ⟨e,m,xs,cs,L,h1,h2,Zcc h3 fun b mb=>hs b (by simp [mb]),h4.keep fun b mb=>hs b (by simp [mb]),h5,fun b mb=>⟨fun o=>?_,(h6 b mb).2.1,by rw [hs b mb];exact (h6 b mb).2.2⟩⟩
 rcases ho.low b o with o | o
 ·exact (h6 b mb).1 o
 ·have:=a b mb;omega
theorem AVR.move [NW] {x:AV} {v:Value} (h:AVR g w x v) (hx:avU U x) (hv:∀k,U k→g'.val k=g.val k)
  (hw:∀b,b<w.heap.size→¬g.own b→w'.heap[b]?=w.heap[b]?) (ho:QU g g' w.heap.size):AVR g' w' x v:=by
 cases x with
 | c x=>
  obtain ⟨L,h1,h2⟩:=h
  have a:=h1.lt
  refine ⟨L,h1.keep fun b m=>hw b (a b m) (h2 b m),fun b m o=>?_⟩
  rcases ho.own b o with o | o
  ·exact h2 b m o
  ·have:=a b m;omega
 | n x=>exact NR.move h hw ho
 | row k=>exact ⟨h.1.trans (hv k hx).symm,h.2⟩
 | nil e m=>exact h
 | dead=>exact h
theorem AVRs.move [NW] {cs:List AV} {vs:List Value} (h:ZM (AVR g w) cs vs) (hx:QW U cs) (hv:∀k,U k→g'.val k=g.val k)
  (hw:∀b,b<w.heap.size→¬g.own b→w'.heap[b]?=w.heap[b]?) (ho:QU g g' w.heap.size):ZM (AVR g' w') cs vs:=
 h.mono fun a _ m r=>r.move (hx a m) hv hw ho
theorem PVR.move [NW] {a:Bool} {cs:List AV} {v:Value} (h:PVR g w a cs v) (hx:QW U cs) (hv:∀k,U k→g'.val k=g.val k)
  (hw:∀b,b<w.heap.size→¬g.own b→w'.heap[b]?=w.heap[b]?) (ho:QU g g' w.heap.size):PVR g' w' a cs v:=by
 cases a with
 | true=>obtain ⟨vs,h1,h2⟩:=h;exact ⟨vs,h1,AVRs.move h2 hx hv hw ho⟩
 | false=>obtain ⟨x,h1,h2⟩:=h;exact ⟨x,h1,h2.move (hx x (by simp [h1])) hv hw ho⟩
theorem SVR.move [NW] {s:SV} {v:Value} (h:SVR g w s v) (hx:svU U s) (hv:∀k,U k→g'.val k=g.val k)
  (hw:∀b,b<w.heap.size→¬g.own b→w'.heap[b]?=w.heap[b]?) (ho:QU g g' w.heap.size) (hs:w.heap.size≤w'.heap.size):SVR g' w' s v:=by
 cases s with
 | any=>exact h
 | und=>exact h
 | p a cs=>exact PVR.move h hx hv hw ho
 | tup xs=>
  obtain ⟨vs,h1,h2⟩:=h
  exact ⟨vs,h1,h2.mono fun x _ m r=>r.move (hx x m) hv hw ho⟩
 | bp k off=>obtain ⟨b,h1,h2⟩:=h;exact ⟨b,(hv k hx).trans h1,h2⟩
 | rp k m i off=>obtain ⟨b,o,n,c,h1,h2⟩:=h;exact ⟨b,o,n,c,(hv k hx).trans h1,h2⟩
 | ep e off=>
  obtain ⟨b,lo,cs,L,h1,h2,h3,h4,h5⟩:=h
  have d:=h3.lt
  refine ⟨b,lo,cs,L,h1,fun j u hu=>?_,h3.keep fun x m=>hw x (d x m) (h4 x (by simp [m])),fun x m o=>?_,yE⟩
  ·rw [←h2 j u hu];exact World.cell?_of_block (hw b h5 (h4 b yG))
  ·rcases ho.own x o with o | o
   ·exact h4 x m o
   ·rcases AB.1 m with rfl | m
    ·omega
    ·have:=d x m;omega
 | fn f=>exact h
theorem HI.step [NW] {W:ZaK} {ob ob':Nat→Ob} (h:HI W g ob w) (T:Nat→Prop)
  (v:Bel W w') (hZ:g'.Z=g.Z)
  (hw:∀b,b<w.heap.size→(∀k,T k→b∉g.O k)→w'.heap[b]?=w.heap[b]?)
  (hk:∀k,¬T k→ob' k=ob k∧g'.val k=g.val k∧g'.O k=g.O k∧g'.D k=g.D k)
  (y:∀k,obU U (ob k)) (hv:∀k,U k→g'.val k=g.val k)
  (ho:QU g g' w.heap.size)
  (hT:∀k,T k→ObR g' w' k (ob' k)∧(g'.O k++g'.D k).Nodup∧(∀b∈g'.O k++g'.D k,(W.heap.size≤b∨W.x b)∧Qf w' (ob' k) b)∧∀j,k≠j→∀b∈g'.O k++g'.D k,b∉g'.O j++g'.D j):
  HI W g' ob' w':=by
 have p:∀b,b<w.heap.size→¬g.own b→w'.heap[b]?=w.heap[b]?:=fun b hb hn=>hw b hb fun k _ m=>hn (.inl ⟨k,m⟩)
 have i:∀k,¬T k→∀b∈g.O k++g.D k,w'.heap[b]?=w.heap[b]?:=fun k hk b m=>
  hw b (h.lt k b m) fun j hj mj=>h.apart j k (fun e=>hk (e ▸ hj)) b (by simp [mj]) m
 refine ⟨v,fun k=>?_,fun k=>?_,fun k j q b m=>?_,fun k b m=>?_,hZ.trans h.gz,h.zx,h.nw⟩
 ·by_cases a:T k
  ·exact (hT k a).1
  ·obtain ⟨e1,e2,e3,e4⟩:=hk k a
   have f:=h.obs k
   have hF:=i k a
   have hU:=y k
   rw [e1]
   cases hok:ob k with
   | gone=>rw [hok] at f;exact ⟨e3.trans f.1,e4.trans f.2⟩
   | box t cs=>
    rw [hok] at f hU
    obtain ⟨b,vs,h1,h2,h3,h4,h5⟩:=f
    exact ⟨b,vs,e2.trans h1,e3.trans h2,e4.trans h3,by rw [hF b (by simp [h2])];exact h4,AVRs.move h5 hU hv p ho⟩
   | map kk vk kv=>
    rw [hok] at f
    obtain ⟨b,es,c,h1,h2,h3,h4,h5⟩:=f
    exact ⟨b,es,c,e2.trans h1,e3.trans h2,e4.trans h3,by rw [hF b (by simp [h2])];exact h4,h5⟩
   | row e m xs d=>
    rw [hok] at f
    obtain ⟨hm,cs,L,h1,h2,h4⟩:=f
    have l:=h2.lt
    have hL:∀b∈L,w'.heap[b]?=w.heap[b]?:=fun b mb=>by
     rcases h4 with ⟨_,_,h4⟩ | ⟨_,_,_,h4⟩ | ⟨_,_,_,h4⟩
     ·exact hF b (by simp [h4,mb])
     ·exact p b (l b mb) (h4 b mb)
     ·exact p b (l b mb) (h4 b (by simp [mb]))
    have A:∀b∈(g.val k).ownBlock.toList,w'.heap[b]?=w.heap[b]?:=fun b mb=>by
     rcases h4 with ⟨_,h3,_⟩ | ⟨_,h3,_⟩ | ⟨_,_,_,h4⟩
     ·exact hF b (by simp [h3,mb])
     ·exact hF b (by simp [h3,mb])
     ·exact p b (Zi6 h1 b mb) (h4 b (by simp [mb]))
    refine ⟨hm,cs,L,by rw [e2];exact Zcc h1 A,h2.keep hL,?_⟩
    rw [e2,e3,e4]
    have u:∀b,b<w.heap.size→¬g.own b→¬g'.own b:=fun b hb hn o=>by
     rcases ho.own b o with o | o
     ·exact hn o
     ·omega
    rcases h4 with h4 | ⟨hd,h3,h4,h5⟩ | ⟨hd,h3,h4,h5⟩
    ·exact .inl h4
    ·exact .inr (.inl ⟨hd,h3,h4,fun b mb=>u b (l b mb) (h5 b mb)⟩)
    ·refine .inr (.inr ⟨hd,h3,h4,fun b mb=>?_⟩)
     rcases A0.1 mb with m1 | m1
     ·exact u b (Zi6 h1 b m1) (h5 b mb)
     ·exact u b (l b m1) (h5 b mb)
 ·by_cases a:T k
  ·exact (hT k a).2.1
  ·obtain ⟨e1,e2,e3,e4⟩:=hk k a
   rw [e3,e4];exact h.nodup k
 ·by_cases a:T k
  ·exact (hT k a).2.2.2 j q b m
  ·by_cases z:T j
   ·exact fun mj=>(hT j z).2.2.2 k (fun e=>q e.symm) b mj m
   ·obtain ⟨_,_,e3,e4⟩:=hk k a
    obtain ⟨_,_,f3,f4⟩:=hk j z
    rw [e3,e4] at m
    rw [f3,f4]
    exact h.apart k j q b m
 ·by_cases a:T k
  ·exact (hT k a).2.2.1 b m
  ·obtain ⟨_,_,e3,e4⟩:=hk k a
   rw [e3,e4] at m
   obtain ⟨p1,p2⟩:=h.plain k b m
   obtain ⟨e1,_⟩:=hk k a
   exact ⟨p1,by rw [e1];exact p2.keep (i k a b m)⟩
end
structure Inv [NW] (W:ZaK) (U:Nat→Prop) (st:St) (a:Act) (w:World):Prop where
 ex:∃g,HI W g st.ob w∧∀t,SVR g w (st.sl t) (a.tmps.getD t undef)
 wf:StU U st
 defers:a.defers=[]
 hand:∀v,W.hv=some v→a.tmps.getD 0 undef=v
end
section
open Go.RowKit
def ZaM:AV→Value→Bool
 | .c (.int k n),.int k' n'=>k==k'&&n==n'
 | .c (.bool b),.bool b'=>b==b'
 | .c (.str s),.string s'=>s.data.toList==s'.data.toList&&ZbS s
 | .nil _ m,.slice none 0 0=>Nat.blt 0 m
 | _,_=>false
def Zif:TypeDesc→AV→Bool
 | .int k,.c (.int k' _)=>k==k'
 | .bool,.c (.bool _)=>true
 | .string,.c (.str _)=>true
 | _,_=>false
def ZsK:TypeDesc→Bool
 | .struct _=>true
 | .array _ _=>true
 | _=>false
def Zd8:PK→TypeDesc→Bool
 | .int k,.int k'=>k==k'
 | .str,.string=>true
 | .bool,.bool=>true
 | _,_=>false
def EqF (P:Program):List PK→List Field→Nat→Prop
 | [],[],_=>True
 | k :: ks, f :: fs, n => f.name ≠ "_" ∧ f.offset = n ∧ (∃ d, P.underlying f.type = some d ∧ Zd8 k d = true) ∧ EqF P ks fs (n + 1)
 | _,_,_=>False
def TOk (P:Program) (t:TypeId):TI→Prop
 | .atom z=>∃d zv i,P.underlying t=some d∧Zif d z=true∧P.info? t=some i∧i.zero=some zv∧i.size=1∧ZaM z zv=true
 | .strct fs n z=>∃(fields:Array Field) (i:TypeInfo) (zvs:Array Value),P.underlying t=some (.struct fields)∧P.info? t=some i∧i.size=n∧i.zero=some (.agg zvs)∧ZM (fun a v=>ZaM a v=true) z zvs.toList∧
   ZM (fun (fi:FI) (f:Field)=>f.offset=fi.off∧fi.size≠0∧∃j d,P.info? f.type=some j∧j.size=fi.size∧P.underlying f.type=some d∧ZsK d=fi.agg) fs fields.toList
 | .slice e m bytes z=>P.underlying t=some (.slice e)∧0<m∧bytes≤131072∧(∃(i:TypeInfo) (zv:Value),P.info? e=some i∧i.size=m∧i.bytes=bytes∧i.zero=some zv∧ZM (fun a v=>ZaM a v=true) z zv.cells.toList∧z.length=m)∧
   ∃j:TypeInfo,P.info? t=some j∧j.size=1∧j.zero=some (.slice none 0 0)
 | .ifc=>∃ms,P.underlying t=some (.interface ms)
 | .map kk vk=>∃kt et dk dv i zv,P.underlying t=some (.map kt et)∧P.underlying kt=some dk∧Zd8 kk dk=true∧P.underlying et=some dv∧Zd8 vk dv=true∧P.info? et=some i∧i.zero=some zv∧ZaM (Zfc vk) zv=true
 | .eqs ks=>∃u,t=u+4000∧P.underlying u=some (.struct (P.fieldsOf u))∧P.stoodInHeld u=false∧P.eqGuardType P.depth u=false∧EqF P ks (P.fieldsOf u).toList 0
section
variable {P:Program} {w:World} {t:TypeId}
theorem Zra {i:TypeInfo} (h:P.info? t=some i):(typeInfo t).run P w=.ok i w:=by simp [typeInfo,program,Sem.run,h]
theorem YC {d:TypeDesc} (h:P.underlying t=some d):(underlying t).run P w=.ok d w:=by simp [underlying,program,Sem.run,h]
theorem XX [NW] {i:TypeInfo} (h:P.info? t=some i):(sizeOf t).run P w=.ok i.size w:=by simp [sizeOf,Zra h]
theorem Zko [NW] {i:TypeInfo} {z:Value} (h:P.info? t=some i) (hz:i.zero=some z):(zeroValue t).run P w=.ok z w:=by simp [zeroValue,Zra h,hz]
theorem ZhY [NW] {d:TypeDesc} (h:P.underlying t=some d):(isAgg t).run P w=.ok (ZsK d) w:=by
 simp only[isAgg,Sem.run_bind,YC h,Result.andThen_ok]
 cases d<;>rfl
theorem Zwz {d:TypeDesc} {z:AV} (h:Zif d z=true):ZsK d=false:=by
 unfold Zif at h
 split at h<;>first | rfl | simp at h
end
section
variable {g:Gh} {w:World}
theorem ZsO {s:ByteArray} (h:ZbS s=true):s.size≤9223372036854775807:=by
 unfold ZbS at h
 have:=Nat.le_of_ble_eq_true h
 rw [BI] at this
 exact this
theorem ZfU [NW] {x:AV} {v:Value} (h:ZaM x v=true):AVR g w x v:=by
 unfold ZaM at h
 split at h
 ·simp only[AT,beq_iff_eq] at h
  exact ⟨[],⟨by rw [h.1,h.2],rfl⟩,yG⟩
 ·simp only[beq_iff_eq] at h
  exact ⟨[],⟨by rw [h],rfl⟩,yG⟩
 ·rename_i s s'
  simp only[AT,beq_iff_eq] at h
  have e:s=s':=by
   cases s;cases s'
   simpa using h.1
  exact ⟨[],⟨by rw [e],rfl,ZsO h.2⟩,yG⟩
 ·rfl
 ·simp at h
theorem AVR.one [NW] {x:AV} {v:Value} (h:AVR g w x v):v.oneCell'=true:=by
 cases x with
 | c x=>obtain ⟨L,h1,_⟩:=h;exact h1.one
 | n x=>
  obtain ⟨e,m,xs,cs,L,h1,h2,h3,_⟩:=h
  obtain ⟨A,c,hv,_⟩:=QP h3
  simp [hv,Value.oneCell']
 | row k=>exact h.2
 | nil e m=>simp [AVR] at h;simp [h,Value.oneCell']
 | dead=>exact h
theorem ZpZ {v:Value} (h:v.oneCell'=true):v.cells=#[v]:=by
 cases v<;>simp [Value.oneCell'] at h<;>rfl
theorem PVR.cells [NW] {a:Bool} {cs:List AV} {v:Value} (h:PVR g w a cs v):∃vs:List Value,v.cells=vs.toArray∧ZM (AVR g w) cs vs:=by
 cases a with
 | true=>obtain ⟨vs,rfl,h2⟩:=h;exact ⟨vs,rfl,h2⟩
 | false=>obtain ⟨x,rfl,h2⟩:=h;exact ⟨[v],by rw [ZpZ h2.one],⟨h2,trivial⟩⟩
theorem AVRs.one [NW] {cs:List AV} {vs:List Value} (h:ZM (AVR g w) cs vs):∀u∈vs,u.oneCell'=true:=by
 induction vs generalizing cs with
 | nil=>simp
 | cons v r ih=>
  cases cs with
  | nil=>exact h.elim
  | cons c cs=>
   intro u m
   rcases AB.1 m with rfl | m
   ·exact h.1.one
   ·exact ih h.2 u m
end
theorem Zuw (x y:ByteArray):(x.toList==y.toList)=decide (x=y):=by
 rw [Bool.eq_iff_iff]
 simp only[beq_iff_eq,decide_eq_true_eq]
 constructor
 ·intro h
  have h':x.data.toList=y.data.toList:=by rw [←BV,←BV];exact h
  cases x;cases y
  simpa using h'
 ·rintro rfl;rfl
end
section
open Go.RowKit
def Uk (U:Nat→Prop) (key:Nat):Nat→Prop:=fun k=>U k∨(key≤k∧k<key+16)
theorem avU.mono {U U':Nat→Prop} (h:∀k,U k→U' k) {x:AV} (hx:avU U x):avU U' x:=by cases x<;>first | exact h _ hx | trivial
theorem QW.mono [NW] {U U':Nat→Prop} (h:∀k,U k→U' k) {x:List AV} (hx:QW U x):QW U' x:=fun y m=>(hx y m).mono h
theorem svU.mono [NW] {U U':Nat→Prop} (h:∀k,U k→U' k) {x:SV} (hx:svU U x):svU U' x:=by
 cases x<;>first | exact QW.mono h hx | exact fun y m=>QW.mono h (hx y m) | exact h _ hx | trivial
theorem obU.mono [NW] {U U':Nat→Prop} (h:∀k,U k→U' k) {x:Ob} (hx:obU U x):obU U' x:=by
 cases x<;>first | exact QW.mono h hx | trivial
def Fin [NW] (P:Program) (W:ZaK) (U:Nat→Prop) (key:Nat) (st:St) (g:Gh) (w:World) (s:Sem Next) (r:SV × List (Nat × Ob)):Prop:=
 ∃g' cv w',(s.run P w=.ok (.value cv) w'∨(s.run P w=.ok .skip w'∧cv=undef))∧HI W g' (Zn st.ob r.2) w'∧SVR g' w' r.1 cv∧(∀x v,svU U x→SVR g w x v→SVR g' w' x v)∧
  svU (Uk U key) r.1∧(∀k,obU (Uk U key) (Zn st.ob r.2 k))∧∀k,¬Uk U key k→Zn st.ob r.2 k=.gone
section
variable {P:Program} {W:ZaK} {U:Nat→Prop} {key:Nat} {st:St} {g:Gh} {w:World} {a:Act} {tt:Nat→Option TI}
theorem ZaW [NW] {s:Sem Next} {v:SV} {cv:Value} (hI:HI W g st.ob w) (hU:StU U st) (a:s.run P w=.ok (.value cv) w) (hv:SVR g w v cv) (hu:svU U v):Fin P W U key st g w s (v,[]):=
 ⟨g,cv,w,.inl a,hI,hv,fun _ _ _ h=>h,hu.mono fun _=>.inl,fun k=>(hU.ob k).mono fun _=>.inl,fun k hk=>hU.gone k fun h=>hk (.inl h)⟩
theorem XK (x:CT):svU U (.p false [.c x]):=fun y m=>by simp at m;subst m;trivial
theorem Zb7 [NW] (k:IntKind) (n:Int):SVR g w (.p false [.c (.int k n)]) (.int k n):=⟨_,rfl,[],⟨rfl,rfl⟩,yG⟩
theorem ZaU [NW] (b:Bool):SVR g w (.p false [.c (.bool b)]) (.bool b):=⟨_,rfl,[],⟨rfl,rfl⟩,yG⟩
theorem ZlX [NW] {s:ByteArray} (h:s.size≤9223372036854775807):SVR g w (.p false [.c (.str s)]) (.string s):=⟨_,rfl,[],⟨rfl,rfl,h⟩,yG⟩
theorem ZbZ [NW] {k:IntKind} {n:Int} {v:Value} (h:SVR g w (.p false [.c (.int k n)]) v):v=.int k n:=by
 obtain ⟨x,hx,h⟩:=h;simp at hx;subst hx;obtain ⟨L,h1,_⟩:=h;exact h1.1
theorem Zgr [NW] {b:Bool} {v:Value} (h:SVR g w (.p false [.c (.bool b)]) v):v=.bool b:=by
 obtain ⟨x,hx,h⟩:=h;simp at hx;subst hx;obtain ⟨L,h1,_⟩:=h;exact h1.1
theorem Zjh [NW] {s:ByteArray} {v:Value} (h:SVR g w (.p false [.c (.str s)]) v):v=.string s∧s.size≤9223372036854775807:=by
 obtain ⟨x,hx,h⟩:=h;simp at hx;subst hx;obtain ⟨L,h1,_⟩:=h;exact ⟨h1.1,h1.2.2⟩
theorem ZE8 [NW] {t:Nat} (htt:∀t i,tt t=some i→TOk P t i) (v:Value):SVR g w (cvT (tt t) v) v∧svU U (cvT (tt t) v):=by
 unfold cvT
 split
 ·exact ⟨Zb7 _ _,XK _⟩
 ·exact ⟨ZaU _,XK _⟩
 ·split
  ·rename_i h;exact ⟨ZlX (ZsO h),XK _⟩
  ·exact ⟨trivial,trivial⟩
 ·split
  ·exact ⟨⟨_,rfl,rfl⟩,fun y m=>by simp at m;subst m;trivial⟩
  ·exact ⟨trivial,trivial⟩
 ·exact ⟨trivial,trivial⟩
theorem Zlm [NW] (htt:∀t i,tt t=some i→TOk P t i) (hS:∀t,SVR g w (st.sl t) (a.tmps.getD t undef)) (hU:StU U st) (t:Nat) (x:Operand):
  SVR g w (st.ev tt t x) (a.eval x)∧svU U (st.ev tt t x):=by
 cases x with
 | tmp s=>exact ⟨hS s,hU.sl s⟩
 | const v=>exact ZE8 htt v
 | global _=>exact ⟨trivial,trivial⟩
 | func f=>exact ⟨rfl,trivial⟩
theorem Zyo [NW] {op:BinOp} {t:Nat} {ox oy:Operand} {k k':IntKind} {n n':Int} {z:CT} (hk:k=k'∨op=.shl∨op=.shr) (hz:Zzz op k n n'=some z):
  ∃cv,(do eqGuard op t ox oy (.int k n) (.int k' n');binOp op t (.int k n) (.int k' n'):Sem Value).run P w=.ok cv w∧SVR g w (.p false [.c z]) cv:=by
 have hg:(eqGuard op t ox oy (.int k n) (.int k' n')).run P w=.ok () w:=by
  cases op<;>rfl
 simp only[Sem.run_bind,hg,Result.andThen_ok]
 cases op<;>simp only[Zzz,ZAz,ZFE,orI,ZEC,Zu7,ZET,ZER,Option.map_none,At,A3,reduceCtorEq] at hz<;>(try subst hz)<;>
  (try (split at hz<;>simp only[A3,reduceCtorEq] at hz;subst hz))<;>
  simp only[reduceCtorEq,or_false,or_true] at hk<;>(try subst hk)<;>
  first
   | (refine ⟨_,?_,Zb7 _ _⟩;simp [binOp,Op.intArith,Op.intDiv,Op.intBits,Op.shift, *];done)
   | (refine ⟨_,?_,ZaU _⟩;simp [binOp,Op.intCmp];done)
theorem Zzo [NW] {op : BinOp} {t : Nat} {ox oy : Operand} {s s' : ByteArray} {z : CT} (hz : Zyn op s s' = some z) :
    ∃ cv, (do eqGuard op t ox oy (.string s) (.string s'); binOp op t (.string s) (.string s') : Sem Value).run P w = .ok cv w ∧ SVR g w (.p false [.c z]) cv := by
  have hg : (eqGuard op t ox oy (.string s) (.string s')).run P w = .ok () w := by
    cases op <;> rfl
  simp only[Sem.run_bind, hg, Result.andThen_ok]
  cases op <;> simp only[Zyn, A3, reduceCtorEq] at hz <;> (try subst hz) <;>
    first
      | (refine ⟨_, ?_, ZaU _⟩; simp only[binOp, Op.stringOp, sLt, sEq, ← Zuw]; rfl)
      | (split at hz
         · rename_i hl
           simp only[A3] at hz
           subst hz
           refine ⟨_, ?_, ZlX (by rw [ByteArray.size_append]; exact hl)⟩
           have a : ¬ ((s.size + s'.size : Nat) : Int) > IntKind.i64.max := by
             have : IntKind.i64.max = 9223372036854775807 := by decide
             omega
           simp only[binOp, Op.stringOp, a, if_false]
           rfl
         · simp at hz)
theorem Ztd [NW] {op:BinOp} {t:Nat} {ox oy:Operand} {b b':Bool} {r:Bool} (ht:P.underlying t=some .bool) (a:(op=.eql∧r=(b==b'))∨(op=.neq∧r=!(b==b'))):
  (do eqGuard op t ox oy (.bool b) (.bool b');binOp op t (.bool b) (.bool b'):Sem Value).run P w=.ok (.bool r) w:=by
 have hg:(eqGuard op t ox oy (.bool b) (.bool b')).run P w=.ok () w:=by
  cases op<;>rfl
 have he:(Op.equal t (.bool b) (.bool b')).run P w=.ok (b==b') w:=by
  have key:∀d:Nat,(Op.equalIn (d+1) t (.bool b) (.bool b')).run P w=.ok (b==b') w:=fun d=>by
   rw [Op.equalIn]
   simp only[Sem.run_bind,YC ht,Result.andThen_ok,Sem.run_pure]
  exact key 9999
 simp only[Sem.run_bind,hg,Result.andThen_ok]
 rcases a with ⟨rfl,rfl⟩ | ⟨rfl,rfl⟩
 ·simp only[binOp,Sem.run_bind,he,Result.andThen_ok,Sem.run_pure]
 ·simp only[binOp,Sem.run_bind,he,Result.andThen_ok,Sem.run_pure]
theorem ZCo [NW] (htt:∀t i,tt t=some i→TOk P t i) {op:BinOp} {t:Nat} {ox oy:Operand} {x y v:SV} {vx vy:Value} (h:Zyz (tt t) op x y=some v) (hx:SVR g w x vx) (hy:SVR g w y vy):
  ∃cv,(do eqGuard op t ox oy vx vy;binOp op t vx vy:Sem Value).run P w=.ok cv w∧SVR g w v cv∧svU U v:=by
 unfold Zyz at h
 split at h
 ·have ex:=ZbZ hx
  have ey:=ZbZ hy
  subst ex ey
  split at h
  ·rename_i hk
   obtain ⟨z,hz,rfl⟩:=A5.1 h
   obtain ⟨cv,h1,h2⟩:=Zyo (P:=P) (g:=g) (w:=w) (t:=t) (ox:=ox) (oy:=oy) hk hz
   exact ⟨cv,h1,h2,XK _⟩
  ·simp at h
 ·obtain ⟨ex,lx⟩:=Zjh hx
  obtain ⟨ey,ly⟩:=Zjh hy
  subst ex ey
  obtain ⟨z,hz,rfl⟩:=A5.1 h
  obtain ⟨cv,h1,h2⟩:=Zzo (P:=P) (g:=g) (w:=w) (t:=t) (ox:=ox) (oy:=oy) hz
  exact ⟨cv,h1,h2,XK _⟩
 ·have ex:=Zgr hx
  have ey:=Zgr hy
  subst ex ey
  split at h
  ·rename_i a
   simp only[A3] at h
   subst h
   obtain ⟨d,zv,i,h1,h2,_⟩:=htt t _ a
   have hd:d=.bool:=by cases d<;>simp [Zif] at h2;rfl
   subst hd
   exact ⟨_,Ztd h1 (.inl ⟨rfl,rfl⟩),ZaU _,XK _⟩
  ·rename_i a
   simp only[A3] at h
   subst h
   obtain ⟨d,zv,i,h1,h2,_⟩:=htt t _ a
   have hd:d=.bool:=by cases d<;>simp [Zif] at h2;rfl
   subst hd
   exact ⟨_,Ztd h1 (.inr ⟨rfl,rfl⟩),ZaU _,XK _⟩
  ·simp at h
 ·simp at h
theorem ZoS {k:PK} {d:TypeDesc} (h:Zd8 k d=true):ZsK d=false:=by
 unfold Zd8 at h
 split at h<;>first | rfl | simp at h
theorem ZDc [NW] {k:PK} {x y:AV} {vx vy:Value} {b:Bool} {t:Nat} {d:TypeDesc} (h:eqC k x y=some b) (hd:P.underlying t=some d) (hk:Zd8 k d=true) (hx:AVR g w x vx) (hy:AVR g w y vy) (n:Nat):(Op.equalIn (n+1) t vx vy).run P w=.ok b w:=by
 unfold eqC at h
 split at h
 ·split at h<;>simp only[A3,reduceCtorEq] at h
  rename_i kk;subst kk h
  obtain ⟨_,h1,_⟩:=hx;obtain ⟨_,h2,_⟩:=hy
  have e1:=h1.1;have e2:=h2.1;subst e1 e2
  cases d<;>simp [Zd8] at hk
  exact run_equalIn_int w n t _ _ _ _ hd
 ·simp only[A3] at h;subst h
  obtain ⟨_,h1,_⟩:=hx;obtain ⟨_,h2,_⟩:=hy
  have e1:=h1.1;have e2:=h2.1;subst e1 e2
  cases d<;>simp [Zd8] at hk
  rw [run_equalIn_string w n t _ _ hd,sEq,Zuw]
 ·simp only[A3] at h;subst h
  obtain ⟨_,h1,_⟩:=hx;obtain ⟨_,h2,_⟩:=hy
  have e1:=h1.1;have e2:=h2.1;subst e1 e2
  cases d<;>simp [Zd8] at hk
  exact run_equalIn_bool' w n t _ _ hd
 ·simp at h
theorem Zuq [NW] (n:Nat) {X Y:Array Value}:∀{ks:List PK} {fs:List Field} {o:Nat} {xs ys:List AV} {vx vy:List Value} {b:Bool},ZnZ ks xs ys=some b→EqF P ks fs o→ZM (AVR g w) xs vx→ZM (AVR g w) ys vy→(∀j v,vx[j]?=some v→X[o+j]?=some v)→(∀j v,vy[j]?=some v→Y[o+j]?=some v)→(Op.eqFields (n+1) X Y fs).run P w=.ok b w
 | [],[],_,[],[],_,_,b,h,_,_,_,_,_=>by simp [ZnZ] at h;subst h;simp [Op.eqFields]
 | k::ks,f::fs,o,x::xs,y::ys,[],_,_,_,_,hx,_,_,_=>hx.elim
 | k::ks,f::fs,o,x::xs,y::ys,_::_,[],_,_,_,_,hy,_,_=>hy.elim
 | k::ks,f::fs,o,x::xs,y::ys,u::vx,v::vy,b,h,hf,hx,hy,hX,hY=>by
  simp only[ZnZ] at h
  obtain ⟨b1,h1,h⟩:=A9.1 h
  obtain ⟨b2,h2,rfl⟩:=A5.1 h
  obtain ⟨f1,f2,⟨d,f3,f4⟩,f5⟩:=hf
  have e1:=ZDc h1 f3 f4 hx.1 hy.1 n
  have e2:=Zuq n h2 f5 hx.2 hy.2 (fun j v hj=>by have:=hX (j+1) v (by simpa using hj);rwa [show o+(j+1)=o+1+j by omega] at this) (fun j v hj=>by have:=hY (j+1) v (by simpa using hj);rwa [show o+(j+1)=o+1+j by omega] at this)
  have p1:(part f.type X f.offset).run P w=.ok u w:=by
   have:=hX 0 u yG
   simp only[part,Sem.run_bind,ZhY f3,ZoS f4,Result.andThen_ok]
   rw [f2];simp at this;simp [this]
  have p2:(part f.type Y f.offset).run P w=.ok v w:=by
   have:=hY 0 v yG
   simp only[part,Sem.run_bind,ZhY f3,ZoS f4,Result.andThen_ok]
   rw [f2];simp at this;simp [this]
  simp only[Op.eqFields,f1,ne_eq,not_false_eq_true,if_true,Sem.run_bind,p1,p2,e1,Result.andThen_ok]
  cases b1
  ·simp
  ·simpa using e2
 | [],_::_,_,_,_,_,_,_,_,hf,_,_,_,_=>hf.elim
 | _::_,[],_,_,_,_,_,_,_,hf,_,_,_,_=>hf.elim
 | [],[],_,_::_,_,_,_,_,h,_,_,_,_,_=>by simp [ZnZ] at h
 | [],[],_,[],_::_,_,_,_,h,_,_,_,_,_=>by simp [ZnZ] at h
 | _::_,_::_,_,[],_,_,_,_,h,_,_,_,_,_=>by simp [ZnZ] at h
 | _::_,_::_,_,_::_,[],_,_,_,h,_,_,_,_,_=>by simp [ZnZ] at h
theorem Zsx {op:BinOp} {b:Bool} {v:SV} (h:ZsH op b=some v):(op=.eql∧v=.p false [.c (.bool b)])∨(op=.neq∧v=.p false [.c (.bool (!b))]):=by
 unfold ZsH at h
 split at h<;>simp only[A3,reduceCtorEq] at h<;>subst h
 ·exact .inl ⟨rfl,rfl⟩
 ·exact .inr ⟨rfl,rfl⟩
theorem ZA6 [NW] (htt:∀t i,tt t=some i→TOk P t i) {op:BinOp} {t:Nat} {ox oy:Operand} {x y v:SV} {vx vy:Value} (h:Zzm (tt (t+4000)) op x y=some v) (hx:SVR g w x vx) (hy:SVR g w y vy):
  ∃cv,(do eqGuard op t ox oy vx vy;binOp op t vx vy:Sem Value).run P w=.ok cv w∧SVR g w v cv∧svU U v:=by
 unfold Zzm at h
 split at h
 ·obtain ⟨ks,a,h'⟩:=A9.1 h
  obtain ⟨b,hb,d⟩:=A9.1 h'
  have c:tt (t+4000)=some (.eqs ks):=by
   unfold Zx0 at a
   split at a<;>simp only[A3,reduceCtorEq] at a
   rename_i c
   rw [c,a]
  obtain ⟨u,e,h1,h2,h3,h4⟩:=htt _ _ c
  have e:t=u:=Nat.add_right_cancel e
  subst e
  obtain ⟨us,rfl,f⟩:=hx
  obtain ⟨vs,rfl,k⟩:=hy
  have hq:=Zuq (X:=us.toArray) (Y:=vs.toArray) 9998 hb h4 f k (fun j v hj=>by simpa using hj) (fun j v hj=>by simpa using hj)
  have hg:=run_eqGuard_agg (P:=P) w op t ox oy us.toArray vs.toArray h3
  rcases Zsx d with ⟨rfl,rfl⟩ | ⟨rfl,rfl⟩
  ·refine ⟨_,?_,ZaU b,XK _⟩
   simp only[Sem.run_bind,hg,Result.andThen_ok,run_eql_struct,run_equalIn_struct w 9999 t _ _ h1 h2,hq]
  ·refine ⟨_,?_,ZaU (!b),XK _⟩
   simp only[Sem.run_bind,hg,Result.andThen_ok,run_neq_struct,run_equalIn_struct w 9999 t _ _ h1 h2,hq]
 ·simp at h
theorem ZEi [NW] {b:Bool} {v:Value} (h:SVR g w (.p false [.c (.ifc b)]) v):(b=true∧v=.nilIface)∨(b=false∧∃t x,v=.iface t x):=by
 obtain ⟨x,hx,h⟩:=h;simp at hx;subst hx;obtain ⟨L,h1,_⟩:=h
 have h2:=h1.2.2
 cases b with
 | true=>exact .inl ⟨rfl,h2⟩
 | false=>exact .inr ⟨rfl,h2⟩
theorem ZyV [NW] (htt:∀t i,tt t=some i→TOk P t i) {op:BinOp} {t:Nat} {ox oy:Operand} {x y v:SV} {vx:Value} (h:Zx6 tt t (ZkC oy) op x y=some v) (hx:SVR g w x vx) (hy:SVR g w y (a.eval oy)):
  ∃cv,(do eqGuard op t ox oy vx (a.eval oy);binOp op t vx (a.eval oy):Sem Value).run P w=.ok cv w∧SVR g w v cv∧svU U v:=by
 unfold Zx6 at h
 split at h
 ·rename_i hn
  have ho:oy=.const .nilIface:=by
   cases oy with
   | const c=>cases c<;>first | rfl | (simp [ZkC,Zub] at hn;done)
   | _=>simp [ZkC] at hn
  subst ho
  split at h
  rotate_left
  ·simp at h
  rename_i d
  have j:tt t=some .ifc:=by
   unfold ZxJ at d
   split at d
   ·assumption
   ·simp at d
  obtain ⟨ms,e⟩:=htt _ _ j
  unfold ZCl at h
  split at h
  ·rename_i b
   have hb:=ZEi hx
   have k:a.eval (.const .nilIface)=.nilIface:=rfl
   rw [k]
   have hg:∀v:Value,(v=.nilIface∨∃t x,v=.iface t x)→(eqGuard op t ox (.const .nilIface) v .nilIface).run P w=.ok () w:=fun v hv=>by
    rcases hv with rfl | ⟨t',x',rfl⟩
    ·simp only[eqGuard]
     cases ox<;>cases op<;>rfl
    ·simp only[eqGuard]
     cases op<;>rfl
   have he:(Op.equal t vx .nilIface).run P w=.ok b w:=by
    show (Op.equalIn (9999+1) t _ _).run P w=_
    rw [Op.equalIn]
    rcases hb with ⟨rfl,rfl⟩ | ⟨rfl,t',x',rfl⟩
    ·simp only[Sem.run_bind,YC e,Result.andThen_ok,Sem.run_pure]
    ·simp only[Sem.run_bind,YC e,Result.andThen_ok,Sem.run_pure]
   have f:=hg vx (hb.imp (fun h=>h.2) (fun h=>h.2))
   rcases Zsx h with ⟨rfl,rfl⟩ | ⟨rfl,rfl⟩
   ·refine ⟨_,?_,ZaU b,XK _⟩
    simp only[Sem.run_bind,f,Result.andThen_ok]
    rcases hb with ⟨rfl,rfl⟩ | ⟨rfl,t',x',rfl⟩<;>simp only[binOp,Sem.run_bind,he,Result.andThen_ok,Sem.run_pure]
   ·refine ⟨_,?_,ZaU (!b),XK _⟩
    simp only[Sem.run_bind,f,Result.andThen_ok]
    rcases hb with ⟨rfl,rfl⟩ | ⟨rfl,t',x',rfl⟩<;>simp only[binOp,Sem.run_bind,he,Result.andThen_ok,Sem.run_pure]
  ·simp at h
 ·split at h
  ·exact ZA6 htt h hx hy
  ·exact ZCo htt h hx hy
theorem ZE3 [NW] {op:UnOp} {x v:SV} {vx:Value} (h:unV op x=some v) (hx:SVR g w x vx):∃cv,(Op.unary op vx).run P w=.ok cv w∧SVR g w v cv∧svU U v:=by
 unfold unV at h
 split at h
 ·have ex:=Zgr hx
  subst ex
  split at h<;>simp at h
  subst h
  exact ⟨_,by simp [Op.unary],ZaU _,XK _⟩
 ·have ex:=ZbZ hx
  subst ex
  split at h<;>simp at h
  subst h
  exact ⟨_,by simp [Op.unary,Op.intArith],Zb7 _ _,XK _⟩
 ·simp at h
end
end
section
open Go.RowKit
section
variable {P:Program} {W:ZaK} {U:Nat→Prop} {key:Nat} {st:St} {g:Gh} {w:World} {a:Act} {tt:Nat→Option TI}
theorem ZB2 {t:Nat} {z:AV} (htt:∀t i,tt t=some i→TOk P t i) (h:tt t=some (.atom z)):∃d,P.underlying t=some d:=by
 obtain ⟨d,_,_,h,_⟩:=htt t _ h;exact ⟨d,h⟩
theorem ZrJ {t:Nat} (htt:∀t i,tt t=some i→TOk P t i) (h:Zb4 (tt t)=true):∃e,P.underlying t=some (.slice e):=by
 unfold Zb4 at h
 split at h
 ·rename_i h1;exact ⟨_,(htt t _ h1).1⟩
 ·simp at h
theorem ZhT {t:Nat} (htt:∀t i,tt t=some i→TOk P t i) (h:ZcV (tt t)=true):P.underlying t=some .string:=by
 unfold ZcV at h
 split at h
 ·rename_i h1
  obtain ⟨d,zv,i,h2,h3,_⟩:=htt t _ h1
  have hd:d=.string:=by cases d<;>simp [Zif] at h3;rfl
  rw [hd] at h2;exact h2
 ·simp at h
theorem Zzv [NW] (htt:∀t i,tt t=some i→TOk P t i) {s t:Nat} {x v:SV} {vx:Value} (h:ZrI (tt s) (tt t) x=some v) (hx:SVR g w x vx):∃cv,(convert s t vx).run P w=.ok cv w∧SVR g w v cv∧svU U v:=by
 unfold ZrI at h
 split at h
 ·have ex:=ZbZ hx
  subst ex
  split at h
  ·rename_i h1 h2
   simp only[A3] at h
   subst h
   obtain ⟨d,zv,i,h3,h4,_⟩:=htt t _ h2
   have hd:∃k,d=.int k:=by cases d<;>simp [Zif] at h4;exact ⟨_,rfl⟩
   obtain ⟨k,rfl⟩:=hd
   simp only[Zif,beq_iff_eq] at h4
   subst h4
   obtain ⟨ds,hs⟩:=ZB2 htt h1
   refine ⟨_,?_,Zb7 _ _,XK _⟩
   simp [convert,YC hs,YC h3,Conv.intToInt]
  ·simp at h
 ·simp at h
theorem Zhv [NW] {e m:Nat} {xs:List (List CT)} {v:Value} (h:SVR g w (.p false [.c (.sl e m xs)]) v):∃A cap cs L0 L1,v=.slice A xs.length cap∧xs.length≤cap∧cap≤maxLen∧0<m∧Sl w m A xs.length cs L0∧REs w m xs cs L1∧(∀b∈L0++L1,¬g.own b):=by
 obtain ⟨x,hx,h⟩:=h
 simp at hx
 subst hx
 obtain ⟨L,⟨A,cap,cs,L0,L1,h1,h2,h3,h4,h5,h6,h7⟩,ho⟩:=h
 exact ⟨A,cap,cs,L0,L1,h1,h2,h3,h5,h6,h7,fun b m=>ho b (h4 ▸ m)⟩
theorem Zgn [NW] {k:Nat} {v:Value} (h:SVR g w (.p false [.row k]) v):v=g.val k:=by
 obtain ⟨x,hx,h⟩:=h;simp at hx;subst hx;exact h.1
theorem ZtI [NW] {e m:Nat} {v:Value} (h:SVR g w (.p false [.nil e m]) v):v=.slice none 0 0:=by
 obtain ⟨x,hx,h⟩:=h;simp at hx;subst hx;exact h
theorem Zdl {B e m n:Nat} {v:Value} {cs:List Value} (h:w.ownsV B e m v n cs):∃A cap,v=.slice A n cap:=by
 obtain ⟨A,c,hv,_⟩:=QP h
 exact ⟨A,c,hv⟩
theorem ZFF [NW] {x:CT} {v:Value} (h:SVR g w (.p false [.n x]) v):NR g w x v:=by
 obtain ⟨y,hy,h⟩:=h;simp at hy;subst hy;exact h
theorem ZC0 [NW] (htt:∀t i,tt t=some i→TOk P t i) (hI:HI W g st.ob w) {t:Nat} {ts:Array TypeId} {ty:TypeId} (a:ts[0]?=some t) {x v:SV} {vx:Value} (h:Zn4 st (tt t) x=some v) (hx:SVR g w x vx):
  ∃cv,(Builtin.len_ ts ty #[vx]).run P w=.ok cv w∧SVR g w v cv∧svU U v:=by
 have fin:∀(A:Option Addr) (n c:Nat),Zb4 (tt t)=true→(Builtin.len_ ts ty #[.slice A n c]).run P w=.ok (.int .i64 n) w:=fun A n c hs=>by
  obtain ⟨e,he⟩:=ZrJ htt hs
  simp [Builtin.len_,a,YC he,goInt]
 unfold Zn4 at h
 split at h
 ·split at h<;>simp at h
  rename_i hs
  subst h
  obtain ⟨A,cap,_,_,_,rfl,_⟩:=Zhv hx
  exact ⟨_,fin _ _ _ hs,Zb7 _ _,XK _⟩
 ·split at h<;>simp at h
  rename_i hs
  subst h
  obtain ⟨_,_,_,_,_,h1,_,h3,_⟩:=ZFF hx
  simp only[CT.sl.injEq] at h1
  obtain ⟨_,_,rfl⟩:=h1
  obtain ⟨A,cap,rfl⟩:=Zdl h3
  exact ⟨_,fin _ _ _ hs,Zb7 _ _,XK _⟩
 ·split at h<;>simp at h
  rename_i hs
  subst h
  obtain ⟨rfl,_⟩:=Zjh hx
  refine ⟨_,?_,Zb7 _ _,XK _⟩
  simp [Builtin.len_,a,YC (ZhT htt hs),goInt]
 ·split at h<;>simp at h
  rename_i hs
  subst h
  have:=ZtI hx
  subst this
  exact ⟨_,fin _ _ _ hs,Zb7 _ _,XK _⟩
 ·split at h
  ·rename_i k _ e m xs d hk
   split at h<;>simp at h
   rename_i hs
   subst h
   have hv:=Zgn hx
   subst hv
   have ho:=hI.obs k
   rw [hk] at ho
   obtain ⟨_,cs,L,h1,_⟩:=ho
   obtain ⟨A,cap,hv⟩:=Zdl h1
   rw [hv]
   exact ⟨_,fin _ _ _ hs,Zb7 _ _,XK _⟩
  ·simp at h
 ·simp at h
theorem Zmq {f:Value→ByteArray→Sem (ForInStep ByteArray)} (hf:∀n s,f (.int .u8 n) s=pure (ForInStep.yield (s.push (Ah n.toNat)))):∀(l:List Int) (s:ByteArray),(forIn (l.map fun n=>Value.int .u8 n) s f).run P w=.ok ⟨s.data++(l.map fun n=>Ah n.toNat).toArray⟩ w
 | [],s=>by simp
 | n::l,s=>by
  have ih:=Zmq hf l (s.push (Ah n.toNat))
  simp only[Ak,List.forIn_cons,hf,Sem.run_bind,Sem.run_pure,Result.andThen_ok,ih]
  congr 2
  apply Array.ext'
  simp [ByteArray.push]
theorem Zvx [NW] {b o cap:Nat} (l:List Int) (hc:∀j u,(l.map fun n=>Value.int .u8 n)[j]?=some u→w.cell? ⟨b,o+j,none⟩=some u):(Conv.bytesToString (.slice (some ⟨b,o,none⟩) l.length cap)).run P w=.ok (.string (Xn l)) w:=by
 have h1:=run_loadCells_list (P:=P) w ⟨b,o,none⟩ (l.map fun n=>Value.int .u8 n) (fun j u hj=>by rw [ZbY];exact hc j u hj)
 rw [List.length_map] at h1
 unfold Conv.bytesToString
 simp only[Sem.run_bind,h1,Result.andThen_ok,←Array.forIn_toList]
 rw [Zmq (fun _ _=>rfl)]
 simp [Xn,ByteArray.empty,ByteArray.emptyWithCapacity]
 rfl
theorem ZmP {m:Nat}:∀{xs:List (List CT)} {l:List Int} {cs:List Value} {L:List Nat},Ze6 xs=some l→REs w m xs cs L→cs=l.map (fun n=>Value.int .u8 n)∧xs.length=l.length
 | [],_,_,_,h,⟨h1,_⟩=>by simp [Ze6] at h;subst h h1;simp
 | x::r,l,_,_,h,⟨c1,c2,L1,L2,rfl,rfl,h3,h4⟩=>by
  unfold Ze6 at h
  split at h
  ·rename_i he;simp at he
  ·rename_i n r' he
   simp only[List.cons.injEq] at he
   obtain ⟨rfl,rfl⟩:=he
   obtain ⟨l',hl,rfl⟩:=A5.1 h
   obtain ⟨i1,i2⟩:=ZmP hl h4
   obtain ⟨v,cs',_,_,rfl,rfl,a1,a2⟩:=h3.1
   obtain ⟨rfl,_⟩:=a2
   rw [a1.1,i1]
   exact ⟨rfl,by simp [i2]⟩
  ·simp at h
theorem Zro (l:List Int):(Xn l).size=l.length:=by simp [Xn,BS]
theorem Zxn [NW] (htt:∀t i,tt t=some i→TOk P t i) (hI:HI W g st.ob w) {s t:Nat} {x v:SV} {vx:Value} (y:ZcV (tt t)=true) (f:Zni (Zqi tt (tt s))=true) (h:ZiG st x=some v) (hx:SVR g w x vx):∃cv,(convert s t vx).run P w=.ok cv w∧SVR g w v cv∧svU U v:=by
 have ht:=ZhT htt y
 have hs:∃e,P.underlying s=some (.slice e)∧P.underlying e=some (.int .u8):=by
  unfold Zqi at f
  split at f
  ·rename_i e m b z B
   have h1:=(htt _ _ B).1
   unfold Zni at f
   split at f
   ·rename_i C
    obtain ⟨d,zv,i,h2,h3,_⟩:=htt _ _ C
    cases d<;>simp [Zif] at h3
    subst h3
    exact ⟨e,h1,h2⟩
   ·simp at f
  ·simp [Zni] at f
 obtain ⟨e,hs,he⟩:=hs
 have go:∀A n c,(convert s t (.slice A n c)).run P w=(Conv.bytesToString (.slice A n c)).run P w:=fun A n c=>by
  unfold convert
  simp only[Sem.run_bind,YC hs,YC ht,YC he,Result.andThen_ok]
 have fin:∀(A:Option Addr) (n cap:Nat) (cs:List Value) (L:List Nat) (xs:List (List CT)) (l:List Int) (m:Nat),n=xs.length→0<m→Ze6 xs=some l→REs w m xs cs L→n≤9223372036854775807→(n=0∨∃b o,A=some ⟨b,o,none⟩∧Qh w b o cs)→∃cv,(convert s t (.slice A n cap)).run P w=.ok cv w∧SVR g w (.p false [.c (.str (Xn l))]) cv∧svU U (.p false [.c (.str (Xn l))]):=by
  intro A n cap cs L xs l m hn hm hl hR hsz hA
  obtain ⟨i1,i2⟩:=ZmP hl hR
  have q:(Xn l).size≤9223372036854775807:=by rw [Zro];omega
  refine ⟨.string (Xn l),?_,ZlX q,XK _⟩
  rw [go]
  rcases hA with h0 | ⟨b,o,rfl,hc⟩
  ·have:l=[]:=AI yE
   subst this
   cases A with
   | none=>rfl
   | some a=>
    have h1:=run_loadCells_list (P:=P) w a [] yG
    rw [h0]
    unfold Conv.bytesToString
    simp only[List.length_nil] at h1
    simp only[Sem.run_bind,h1,Result.andThen_ok]
    rfl
  ·rw [hn,i2]
   exact Zvx l fun j u hj=>hc j u (by rw [i1];exact hj)
 unfold ZiG at h
 split at h
 ·split at h
  ·rename_i k _ e' m xs d hk
   obtain ⟨l,hl,rfl⟩:=A5.1 h
   have hv:=Zgn hx
   have ho:=hI.obs k
   rw [hk] at ho
   obtain ⟨hm,cs,L,h1,h2,_⟩:=ho
   rw [hv]
   rcases h1.2 with ⟨h3,h4⟩ | ⟨b,o,cap,cur,h3,h4,h5,h6,h7,h8,h9⟩
   ·rw [h3]
    exact fin _ _ _ cs L xs l m yE hm hl h2 yE (.inl rfl)
   ·rw [h3]
    refine fin _ _ _ cs L xs l m rfl hm hl h2 (by unfold maxLen at h7;omega) (.inr ⟨b,o,rfl,fun j u hj=>?_⟩)
    exact ZjA h1 h3 j u hj
  ·simp at h
 ·obtain ⟨l,hl,rfl⟩:=A5.1 h
  obtain ⟨A,cap,cs,L0,L1,rfl,h2,h3,h5,h6,h7,_⟩:=Zhv hx
  rename_i e' m' xs _
  refine fin _ _ _ cs L1 xs l _ rfl h5 hl h7 (by unfold maxLen at h3;omega) ?_
  rcases BH xs.length with h0 | h0
  ·exact .inl h0
  ·obtain ⟨b,off,h8,h9,hc⟩:=h6.at_ h0
   exact .inr ⟨b,off,h8,hc⟩
 ·simp at h
theorem Zwr [NW] (htt:∀t i,tt t=some i→TOk P t i) (hI:HI W g st.ob w) {s t:Nat} {x v:SV} {vx:Value} (h:ZgN tt st s t x=some v) (hx:SVR g w x vx):∃cv,(convert s t vx).run P w=.ok cv w∧SVR g w v cv∧svU U v:=by
 unfold ZgN at h
 split at h
 ·rename_i hc
  simp only[AT] at hc
  exact Zxn htt hI hc.1 hc.2 h hx
 ·exact Zzv htt h hx
theorem RCs.avr [NW] {e:List CT} {cs:List Value} {L:List Nat}:RCs w e cs L→(∀b∈L,¬g.own b)→ZM (AVR g w) (e.map .c) cs:=by
 induction e generalizing cs L with
 | nil=>intro h _;obtain ⟨rfl,rfl⟩:=h;trivial
 | cons x r ih=>
  rintro ⟨v,cs',L1,L2,rfl,rfl,h1,h2⟩ ho
  exact ⟨⟨L1,h1,fun b m=>ho b (by simp [m])⟩,ih h2 fun b m=>ho b (by simp [m])⟩
theorem Zuf (a:Bool) (e:List CT):QW U (e.map AV.c):=fun y m=>by
 obtain ⟨x,_,rfl⟩:=List.mem_map.1 m;trivial
theorem Zqb [NW] (htt:∀t i,tt t=some i→TOk P t i) {t b lo off:Nat} {cs:List AV} {vs:List Value} {v:SV} (h:cut (tt t) cs off=some v) (hc:Qh w b lo vs) (hr:ZM (AVR g w) cs vs) (hu:QW U cs):
  ∃cv,(Instr.loadAt t (.pointer (some ⟨b,lo+off,none⟩))).run P w=.ok cv w∧SVR g w v cv∧svU U v:=by
 have hlen:=hr.len
 have one:∀d,P.underlying t=some d→ZsK d=false→∀x,cs[off]?=some x→∃cv,(Instr.loadAt t (.pointer (some ⟨b,lo+off,none⟩))).run P w=.ok cv w∧SVR g w (.p false [x]) cv∧svU U (.p false [x]):=fun d hd ha x hx=>by
  obtain ⟨u,h1,h2⟩:=hr.at hx
  refine ⟨u,?_,⟨x,rfl,h2⟩,fun y m=>by simp at m;subst m;exact hu y (BB hx)⟩
  simp [Instr.loadAt,Instr.sureAddr,loadVar,ZhY hd,ha,load,Sem.run,hc off u h1]
 unfold cut at h
 split at h
 ·rename_i fs n z f
  split at h<;>simp at h
  rename_i hn
  subst h
  obtain ⟨fields,i,zvs,h1,h2,h3,_⟩:=htt t _ f
  refine ⟨.agg ((vs.drop off).take n).toArray,?_,⟨_,rfl,(hr.drop off).take n⟩,fun y m=>hu y (BC (BD m))⟩
  have hl:((vs.drop off).take n).length=i.size:=by simp;omega
  have a:=run_loadCells_list (P:=P) w ⟨b,lo+off,none⟩ ((vs.drop off).take n) (fun j u hj=>by
   rw [ZbY,AA]
   refine hc _ u ?_
   have k:j<n:=by
    have:=(AH.1 hj).1
    simp at this;omega
   rw [BX,if_pos k,Al] at hj
   exact hj)
  rw [hl] at a
  simp [Instr.loadAt,Instr.sureAddr,loadVar,ZhY h1,ZsK,XX h2,a]
 ·simp at h
 ·rename_i i f l c
  obtain ⟨x,hx,rfl⟩:=A5.1 h
  cases i with
  | atom z=>obtain ⟨d,zv,i,h1,h2,_⟩:=htt t _ c;exact one d h1 (Zwz h2) x hx
  | strct fs n z=>exact absurd rfl (f _ _ _)
  | slice e m b z=>exact one _ (htt t _ c).1 rfl x hx
  | map kk vk=>
   obtain ⟨kt,et,_,_,_,_,h1,_⟩:=htt t _ c
   exact one _ h1 rfl x hx
  | ifc=>obtain ⟨ms,h1⟩:=htt t _ c;exact one _ h1 rfl x hx
  | eqs ks=>exact absurd rfl (l _)
 ·simp at h
end
end
section
open Go.RowKit
section
variable {P:Program} {W:ZaK} {U:Nat→Prop} {key:Nat} {st:St} {g:Gh} {w:World} {a:Act} {tt:Nat→Option TI}
theorem HI.deep [NW] {ob:Nat→Ob} {k e m:Nat} {xs:List (List CT)} {d:Nat} (hI:HI W g ob w) (hk:ob k=.row e m xs d):0<m∧∃cs L,w.ownsV 0 e m (g.val k) xs.length cs∧REs w m xs cs L∧(∀b∈L,¬g.own b)∧((d=2∧g.O k=(g.val k).ownBlock.toList∧g.D k=L)∨(d=1∧g.O k=(g.val k).ownBlock.toList∧g.D k=[])∨(d=0∧g.O k=[]∧g.D k=[]∧∀b∈(g.val k).ownBlock.toList,¬g.own b)):=by
 have ho:=hI.obs k
 rw [hk] at ho
 obtain ⟨hm,cs,L,h1,h2,h4⟩:=ho
 refine ⟨hm,cs,L,h1,h2,?_,?_⟩
 ·rcases h4 with ⟨_,_,h4⟩ | ⟨_,_,_,h4⟩ | ⟨_,_,_,h4⟩
  ·rintro b mb (⟨j,mj⟩ | hz)
   ·by_cases a:j=k
    ·subst a
     have:=hI.nodup j
     rw [AG] at this
     exact this.2.2 b mj b (h4 ▸ mb) rfl
    ·exact hI.apart j k a b (by simp [mj]) (by simp [h4,mb])
   ·exact hI.nz (k:=k) (by simp [h4,mb]) hz
  ·exact h4
  ·exact fun b mb=>h4 b (by simp [mb])
 ·rcases h4 with h4 | ⟨q1,q2,q3,_⟩ | ⟨q1,q2,q3,q4⟩
  ·exact .inl h4
  ·exact .inr (.inl ⟨q1,q2,q3⟩)
  ·exact .inr (.inr ⟨q1,q2,q3,fun b mb=>q4 b (by simp [mb])⟩)
theorem HI.deepO [NW] {ob:Nat→Ob} {k e m:Nat} {xs:List (List CT)} {d:Nat} (hI:HI W g ob w) (hk:ob k=.row e m xs d) (hd:¬d=0):0<m∧∃cs L,w.ownsV 0 e m (g.val k) xs.length cs∧REs w m xs cs L∧(∀b∈L,¬g.own b)∧g.O k=(g.val k).ownBlock.toList∧((d=2∧g.D k=L)∨(d=1∧g.D k=[])):=by
 obtain ⟨hm,cs,L,h1,h2,h3,h4⟩:=hI.deep hk
 refine ⟨hm,cs,L,h1,h2,h3,?_⟩
 rcases h4 with ⟨q1,q2,q3⟩ | ⟨q1,q2,q3⟩ | ⟨q1,_⟩
 ·exact ⟨q2,.inl ⟨q1,q3⟩⟩
 ·exact ⟨q2,.inr ⟨q1,q3⟩⟩
 ·exact absurd q1 hd
theorem REs.at {m:Nat}:∀{xs:List (List CT)} {cs:List Value} {L:List Nat} {i:Nat} {e:List CT},REs w m xs cs L→xs[i]?=some e→
  ∃c L',RCs w e c L'∧c.length=m∧(∀b∈L',b∈L)∧∀j u,c[j]?=some u→cs[i * m+j]?=some u
 | [],_,_,_,_,_,h=>by simp at h
 | x::r,_,_,0,e,⟨c1,c2,L1,L2,rfl,rfl,h3,h4⟩,h=>by
  simp at h;subst h
  exact ⟨c1,L1,h3.1,h3.2,fun b mb=>by simp [mb],fun j u hu=>by
   rw [Ae,Aa,AW (AH.1 hu).1];exact hu⟩
 | x::r,_,_,i+1,e,⟨c1,c2,L1,L2,rfl,rfl,h3,h4⟩,h=>by
  obtain ⟨c,L',a1,a2,a3,a4⟩:=REs.at h4 (i:=i) (e:=e) (by simpa using h)
  refine ⟨c,L',a1,a2,fun b mb=>by simp [a3 b mb],fun j u hu=>?_⟩
  have hl:=h3.2
  rw [AN (by rw [A6];omega)]
  rw [←a4 j u hu]
  congr 1
  rw [hl,A6];omega
theorem REs.len {m:Nat}:∀{xs:List (List CT)} {cs:List Value} {L:List Nat},REs w m xs cs L→cs.length=xs.length * m
 | [],_,_,h=>by simp [h.1]
 | x::r,_,_,⟨c1,c2,L1,L2,rfl,rfl,h3,h4⟩=>by simp [h3.2,REs.len h4,A6];omega
theorem ZC1 [NW] (htt:∀t i,tt t=some i→TOk P t i) (hI:HI W g st.ob w) (hU:StU U st) {t e m a:Nat} {z:List AV} (p:tt t=some (.slice e m a z)) {x i v:SV} {vx vi:Value} (h:ZbC st m x i=some v) (hx:SVR g w x vx) (B:svU U x) (hi:SVR g w i vi):
  ∃cv,(Instr.indexAt t vx vi).run P w=.ok cv w∧SVR g w v cv∧svU U v:=by
 obtain ⟨hu,hm,_,⟨ie,zv,C,D,_⟩,_⟩:=htt t _ p
 have f:∀(b o n c:Nat) (k:IntKind) (q:Int),0≤q→q<n→(Instr.indexAt t (.slice (some ⟨b,o,none⟩) n c) (.int k q)).run P w=.ok (.pointer (some ⟨b,o+q.toNat * m,none⟩)) w:=fun b o n c k q h0 h1=>by
  simp [Instr.indexAt,asIntOf,YC hu,h0,h1,XX C,D,ZbY]
 unfold ZbC at h
 split at h
 ·have ei:=ZbZ hi
  subst ei
  split at h
  ·rename_i hq
   obtain ⟨x,l,rfl⟩:=A5.1 h
   obtain ⟨A,cap,cs,L0,L1,rfl,h2,h3,h5,h6,h7,ho⟩:=Zhv hx
   obtain ⟨h0,rfl⟩:=hq
   have hlt:=(AH.1 l).1
   obtain ⟨b,off,rfl,rfl,hc⟩:=h6.at_ yE
   obtain ⟨c,L',a1,a2,a3,a4⟩:=h7.at l
   refine ⟨_,f b off _ _ _ _ h0 yE,⟨b,off+_,c,L',by rw [Nat.add_zero],fun j u hj=>?_,a1,fun y my=>?_,?_⟩,trivial⟩
   ·rw [AA];exact hc _ u (a4 j u hj)
   ·rcases AB.1 my with rfl | my
    ·exact ho _ yG
    ·exact ho _ (by simp [a3 y my])
   ·exact h6.lt h5 b yG
  ·simp at h
 ·rename_i k _ _
  have ei:=ZbZ hi
  subst ei
  split at h
  ·rename_i e' m' xs d hk
   split at h
   ·rename_i hq
    obtain ⟨h0,h1,rfl⟩:=hq
    simp only[A3] at h
    subst h
    have hv:=Zgn hx
    subst hv
    obtain ⟨_,cs,L,o1,_⟩:=hI.deep hk
    rcases o1.2 with ⟨_,hn⟩ | ⟨b,o,cap,cur,hv,_⟩
    ·omega
    ·refine ⟨_,by rw [hv];exact f b o _ _ _ _ h0 h1,⟨b,o,_,_,hv,yG⟩,by have:=B (.row k) yG;exact this⟩
   ·simp at h
  ·simp at h
 ·simp at h
theorem Zzt [NW] (htt:∀t i,tt t=some i→TOk P t i) {t:Nat} {x i v:SV} {vx vi:Value} (h:ZmC (tt t) x i=some v) (hx:SVR g w x vx) (hi:SVR g w i vi):
  ∃cv,(Instr.index t vx vi).run P w=.ok cv w∧SVR g w v cv∧svU U v:=by
 unfold ZmC at h
 split at h
 ·have ei:=ZbZ hi
  subst ei
  obtain ⟨rfl,_⟩:=Zjh hx
  split at h
  ·rename_i hq
   obtain ⟨b,hb,rfl⟩:=A5.1 h
   refine ⟨_,?_,Zb7 _ _,XK _⟩
   simp [Instr.index,asIntOf,YC (ZhT htt hq.2),hq.1,hb]
  ·simp at h
 ·simp at h
theorem Zu3 [NW] {e:List CT} {v:Value} (h:SVR g w (.p false [.c (.pt e)]) v):∃b cs L,v=.pointer (some ⟨b,0,none⟩)∧b<w.heap.size∧Qh w b 0 cs∧RCs w e cs L∧∀x∈b::L,¬g.own x:=by
 obtain ⟨x,hx,h⟩:=h
 simp at hx
 subst hx
 obtain ⟨_,⟨b,cs,L,h1,h2,rfl,h4,h5⟩,ho⟩:=h
 exact ⟨b,cs,L,h1,h2,h4,h5,ho⟩
theorem Zu6 [NW] (htt:∀t i,tt t=some i→TOk P t i) (hI:HI W g st.ob w) (hU:StU U st) {t:Nat} {x v:SV} {vx:Value} (h:QZ st (tt t) x=some v) (hx:SVR g w x vx):
  ∃cv,(Instr.loadAt t vx).run P w=.ok cv w∧SVR g w v cv∧svU U v:=by
 unfold QZ at h
 split at h
 ·rename_i k off
  split at h
  ·rename_i tb cs hk
   obtain ⟨b,h1,rfl⟩:=hx
   have ho:=hI.obs k
   rw [hk] at ho
   obtain ⟨b',vs,o1,o2,o3,o4,o5⟩:=ho
   have hb:b=b':=by rw [o1] at h1;simpa using h1.symm
   subst hb
   have hu:=hU.ob k
   rw [hk] at hu
   have hc:Qh w b 0 vs:=fun j u hj=>by
    rw [Aa,cell_of_row w b j vs.toArray tb (0,0) o4];simpa using hj
   have:=Zqb (P:=P) htt h hc o5 hu
   simpa using this
  ·simp at h
 ·rename_i k m i off
  split at h
  ·rename_i e m' xs d hk
   obtain ⟨x,a,h'⟩:=A9.1 h
   obtain ⟨b,o,n,c,h1,rfl⟩:=hx
   obtain ⟨hm,cs,L,o1,o2,o3,_⟩:=hI.deep hk
   split at h'
   ·rename_i f
    subst f
    obtain ⟨c',L',a1,a2,a3,a4⟩:=o2.at a
    have hc:Qh w b (o+i * m) c':=fun j u hj=>by
     rw [AA]
     exact ZjA o1 h1 (i * m+j) u (a4 j u hj)
    rw [←AA]
    exact Zqb htt h' hc (a1.avr fun y my=>o3 y (a3 y my)) (Zuf true _)
   ·simp at h'
  ·simp at h
 ·obtain ⟨b,lo,cs,L,rfl,h2,h3,h4,h5⟩:=hx
  exact Zqb htt h h2 (h3.avr fun y my=>h4 y (by simp [my])) (Zuf true _)
 ·obtain ⟨b,cs,L,rfl,h2,h3,h4,h5⟩:=Zu3 hx
  have:=Zqb (P:=P) (U:=U) htt h h3 (h4.avr fun y my=>h5 y (by simp [my])) (Zuf true _)
  simpa using this
 ·simp at h
theorem ZBr [NW] {d:Nat} {x v:SV} {vx:Value} (h:ZkQ d x=some v) (hx:SVR g w x vx) (hu:svU U x):∃b o,vx=.pointer (some ⟨b,o,none⟩)∧SVR g w v (.pointer (some ⟨b,o+d,none⟩))∧svU U v:=by
 unfold ZkQ at h
 split at h<;>simp at h<;>subst h
 ·obtain ⟨b,h1,rfl⟩:=hx;exact ⟨b,_,rfl,⟨b,h1,rfl⟩,hu⟩
 ·obtain ⟨b,o,n,c,h1,rfl⟩:=hx;exact ⟨b,_,rfl,⟨b,o,n,c,h1,by simp only[AA]⟩,hu⟩
 ·obtain ⟨b,lo,cs,L,rfl,h⟩:=hx;exact ⟨b,_,rfl,⟨b,lo,cs,L,by rw [AA],h⟩,trivial⟩
 ·obtain ⟨b,cs,L,rfl,h2,h3,h4,h5⟩:=Zu3 hx
  exact ⟨b,0,rfl,⟨b,0,cs,L,rfl,h3,h4,h5,h2⟩,trivial⟩
theorem ZCv [NW] (htt:∀t i,tt t=some i→TOk P t i) {t f n:Nat} {fs:List FI} {z:List AV} (c:tt t=some (.strct fs n z)) {fi:FI} (hf:fs[f]?=some fi) {x v:SV} {vx:Value} (h:ZkQ fi.off x=some v) (hx:SVR g w x vx) (hu:svU U x):
  ∃cv,(Instr.fieldAt t vx f).run P w=.ok cv w∧SVR g w v cv∧svU U v:=by
 obtain ⟨b,o,rfl,h1,h2⟩:=ZBr h hx hu
 obtain ⟨a,i,zvs,u1,_,_,_,_,u2⟩:=htt t _ c
 obtain ⟨fl,e1,e2,e3,j,d,e4,e5,_⟩:=u2.at hf
 have e:a[f]?=some fl:=by simpa using e1
 refine ⟨_,?_,h1,h2⟩
 simp [Instr.fieldAt,YC u1,e,Instr.sureAddr,fieldPlace,XX e4,e5,e3,ZbY,e2]
theorem ZzX [NW] (htt:∀t i,tt t=some i→TOk P t i) {t f n:Nat} {fs:List FI} {z:List AV} (c:tt t=some (.strct fs n z)) {x v:SV} {vx:Value} (h:ZmF fs f x=some v) (hx:SVR g w x vx) (hu:svU U x):
  ∃cv,(Instr.field t vx f).run P w=.ok cv w∧SVR g w v cv∧svU U v:=by
 unfold ZmF at h
 split at h
 ·rename_i cs
  obtain ⟨fi,hf,h⟩:=A9.1 h
  obtain ⟨vs,rfl,hr⟩:=hx
  obtain ⟨a,i,zvs,u1,_,_,_,_,u2⟩:=htt t _ c
  obtain ⟨fl,e1,e2,e3,j,d,e4,e5,e6,e7⟩:=u2.at hf
  have b:a[f]?=some fl:=by simpa using e1
  have hlen:=hr.len
  split at h
  ·rename_i ha
   split at h<;>simp at h
   rename_i hn
   subst h
   refine ⟨.agg ((vs.drop fi.off).take fi.size).toArray,?_,⟨_,rfl,(hr.drop _).take _⟩,fun y m=>hu y (BC (BD m))⟩
   simp [Instr.field,YC u1,b,asAgg,part,ZhY e6,e7,ha,XX e4,e5,e2]
  ·rename_i ha
   obtain ⟨y,hy,rfl⟩:=A5.1 h
   obtain ⟨u,b1,b2⟩:=hr.at hy
   refine ⟨u,?_,⟨y,rfl,b2⟩,fun z mz=>by simp at mz;subst mz;exact hu z (BB hy)⟩
   simp [Instr.field,YC u1,b,asAgg,part,ZhY e6,e7,ha,e2,b1]
 ·simp at h
theorem Zze [NW] {c:Bool} {x y:SV} {vc vx vy:Value} (hc:SVR g w (.p false [.c (.bool c)]) vc) (hx:SVR g w x vx∧svU U x) (hy:SVR g w y vy∧svU U y):
  ∃cv,(do pure (Next.value (if ←asBool vc then vx else vy)):Sem Next).run P w=.ok (.value cv) w∧SVR g w (if c=true then x else y) cv∧svU U (if c=true then x else y):=by
 have:=Zgr hc
 subst this
 cases c
 ·exact ⟨vy,by simp [asBool],by simpa using hy.1,by simpa using hy.2⟩
 ·exact ⟨vx,by simp [asBool],by simpa using hx.1,by simpa using hx.2⟩
theorem ZBc [NW] {i:Nat} {x v:SV} {vx:Value} (h:Zw4 i x=some v) (hx:SVR g w x vx) (hu:svU U x):∃cv,(Instr.extract vx i).run P w=.ok cv w∧SVR g w v cv∧svU U v:=by
 unfold Zw4 at h
 split at h
 ·obtain ⟨y,hy,rfl⟩:=A5.1 h
  obtain ⟨vs,rfl,hr⟩:=hx
  obtain ⟨u,b1,b2⟩:=hr.at hy
  exact ⟨u,by simp [Instr.extract,b1],b2,hu y (BB hy)⟩
 ·simp at h
theorem ZxK [NW] {lo:Bool} {x y v:SV} {vx vy:Value} {ts:Array TypeId} {ty:TypeId} (h:Zwn lo x y=some v) (hx:SVR g w x vx) (hy:SVR g w y vy):
  ∃cv,((if lo then Builtin.min_ ts ty #[vx,vy] else Builtin.max_ ts ty #[vx,vy]):Sem Value).run P w=.ok cv w∧SVR g w v cv∧svU U v:=by
 unfold Zwn at h
 split at h
 ·have ex:=ZbZ hx
  have ey:=ZbZ hy
  subst ex ey
  simp only[A3] at h
  subst h
  refine ⟨_,?_,Zb7 _ _,XK _⟩
  cases lo
  ·simp [Builtin.max_,Builtin.max2]
  ·simp [Builtin.min_,Builtin.min2]
 ·simp at h
end
end
section
open Go.RowKit
theorem Zgc {α:Type} (l:List α) (off:Nat) (vs:List α) (h:off+vs.length≤l.length):(splice l off vs).length=l.length:=by
 simp [splice];omega
theorem Zsq {α:Type} (l:List α) (n:Nat) (v:α) (r:List α) (h:n+(r.length+1)≤l.length):splice (l.set n v) (n+1) r=splice l n (v::r):=by
 unfold splice
 have e1:(l.set n v).take (n+1)=l.take n++[v]:=by
  rw [BP (by simp;omega)]
  simp [List.take_set_of_le]
 have e2:(l.set n v).drop (n+1+r.length)=l.drop (n+(v::r).length):=by
  rw [List.drop_set_of_lt yE]
  congr 1
  simp;omega
 rw [e1,e2];simp
theorem Zpw [NW] (off:Nat):∀(vs:List Value) (k:Nat) (a:Array Value),off+k+vs.length≤a.size→
  (vs.zipIdx k).foldl (fun (cs:Array Value) (p:Value × Nat)=>cs.setIfInBounds (off+p.2) p.1) a=(splice a.toList (off+k) vs).toArray
 | [],k,a,h=>by simp [splice]
 | v::r,k,a,h=>by
  rw [List.zipIdx_cons,List.foldl_cons,Zpw off r (k+1) _ (by simp at h ⊢;omega)]
  have:=Zsq a.toList (off+k) v r (by simpa using h)
  rw [←this]
  simp [AA]
theorem Zm6 [NW] (off:Nat) (v:Value) (vs:List Value) (hv:v.cells=vs.toArray) (a:Array Value) (h:off+vs.length≤a.size):
  v.cells.zipIdx.foldl (fun cs (c,j)=>cs.setIfInBounds (off+j) c) a=(splice a.toList off vs).toArray:=by
 have:=Zpw off vs 0 a (by simpa using h)
 rw [hv,←Array.foldl_toList]
 simpa using this
section
variable {P:Program} {W:ZaK} {U:Nat→Prop} {key:Nat} {st:St} {g:Gh} {w:World} {a:Act} {tt:Nat→Option TI}
theorem ZM.splice {α β:Type} {R:α→β→Prop} {l vs:List α} {r us:List β} (h:ZM R l r) (h':ZM R vs us) (off:Nat):ZM R (splice l off vs) (splice r off us):=by
 unfold Go.Proofs.YtlpkbfjcdaanmaaGreatDoor.splice
 rw [h'.len]
 exact (h.take _).append (h'.append (h.drop _))
theorem Zlz {l vs:List AV} (h:QW U l) (h':QW U vs) (off:Nat):QW U (splice l off vs):=by
 intro y m
 unfold splice at m
 rcases A0.1 m with m | m
 ·exact h y (BD m)
 ·rcases A0.1 m with m | m
  ·exact h' y m
  ·exact h y (BC m)
theorem ZuW [NW] {a:Nat→Option (Nat × Nat)} {fs:List FI} (hp:∀i fi,fs[i]?=some fi→a i=some (fi.off,fi.size)):
  ∀{b:List (Nat × SV)} {ps:List (Nat × Value)} {cs c:List AV} {vs:List Value},Zj2 fs cs b=some c→ZM (fun p q=>p.1=q.1∧SVR g w p.2 q.2∧svU U p.2) b ps→ZM (AVR g w) cs vs→QW U cs→
   ∃d:List Value,Instr.fill a vs.toArray ps=some d.toArray∧ZM (AVR g w) c d∧QW U c
 | [],[],cs,c,vs,h,_,hr,hu=>by simp [Zj2] at h;subst h;exact ⟨vs,rfl,hr,hu⟩
 | [],_::_,_,_,_,_,h,_,_=>h.elim
 | _::_,[],_,_,_,_,h,_,_=>h.elim
 | (i,s)::r,(j,v)::ps,cs,c,vs,h,⟨⟨e,hs,hsu⟩,hps⟩,hr,hu=>by
  simp only at e hs hsu
  subst e
  cases s with
  | p ag us=>
   simp only[Zj2] at h
   obtain ⟨f,hf,h⟩:=A9.1 h
   split at h
   ·rename_i hl
    obtain ⟨k,c1,c2⟩:=PVR.cells hs
    have hlen:=c2.len
    have hlen2:=hr.len
    obtain ⟨d,d1,d2,d3⟩:=ZuW hp h hps (hr.splice c2 f.off) (Zlz hu hsu f.off)
    refine ⟨d,?_,d2,d3⟩
    have l:v.cells.size=k.length:=by simp [c1]
    rw [Instr.fill,hp i f hf]
    simp only
    rw [if_neg (by simp [l];omega),Zm6 f.off v k c1 _ (by simp;omega)]
    simpa using d1
   ·simp at h
  | _=>simp [Zj2] at h
theorem ZM.of_map {α β γ:Type} {R:β→γ→Prop} (f:α→β) (h:α→γ):∀{l:List α},(∀x∈l,R (f x) (h x))→ZM R (l.map f) (l.map h)
 | [],_=>trivial
 | x::l,hh=>⟨hh x yG,ZM.of_map f h fun y m=>hh y (by simp [m])⟩
theorem Zi5 [NW]:∀{z:List AV} {zvs:List Value},ZM (fun a v=>ZaM a v=true) z zvs→ZM (AVR g w) z zvs∧QW U z
 | [],[],_=>⟨trivial,fun _ m=>by simp at m⟩
 | x::z,v::zvs,h=>by
  obtain ⟨h1,h2⟩:=Zi5 (z:=z) (zvs:=zvs) h.2
  refine ⟨⟨ZfU h.1,h1⟩,fun y m=>?_⟩
  rcases AB.1 m with rfl | m
  ·have:=h.1
   cases y<;>first | trivial | simp [ZaM] at this
  ·exact h2 y m
 | [],_::_,h=>h.elim
 | _::_,[],h=>h.elim
theorem Zpe:∀{fs:List FI} {a:List Field},ZM (fun (fi:FI) (f:Field)=>f.offset=fi.off∧fi.size≠0∧∃j d,P.info? f.type=some j∧j.size=fi.size∧P.underlying f.type=some d∧ZsK d=fi.agg) fs a→
  a.mapM (fun f=>(P.info? f.type).map fun i=>(f.offset,i.size))=some (fs.map fun fi=>(fi.off,fi.size))
 | [],[],_=>rfl
 | fi::fs,f::a,⟨⟨h1,_,j,d,h2,h3,_⟩,h⟩=>by
  simp [List.mapM_cons,h2,h3,h1,Zpe h]
 | [],_::_,h=>h.elim
 | _::_,[],h=>h.elim
theorem ZxN [NW] (htt:∀t i,tt t=some i→TOk P t i) (hS:∀t,SVR g w (st.sl t) (a.tmps.getD t undef)) (hU:StU U st) {t n:Nat} {fs:List FI} {z:List AV} (f:tt t=some (.strct fs n z)) {b:Array (Nat × Operand)} {cs:List AV} (h:Zj2 fs z (b.toList.map (ZgA tt st fs z))=some cs):
  ∃cv,(Instr.build t (b.map fun (i,x)=>(i,a.eval x))).run P w=.ok cv w∧SVR g w (.p true cs) cv∧svU U (.p true cs):=by
 obtain ⟨fields,i,zvs,u1,u2,u3,u4,u5,u6⟩:=htt t _ f
 obtain ⟨hz,j⟩:=Zi5 (g:=g) (w:=w) (U:=U) u5
 have c:ZM (fun (p:Nat × SV) (q:Nat × Value)=>p.1=q.1∧SVR g w p.2 q.2∧svU U p.2) (b.toList.map (ZgA tt st fs z)) (b.toList.map fun p=>(p.1,a.eval p.2)):=by
  refine ZM.of_map _ _ fun p _=>?_
  unfold ZgA
  split
  ·rename_i hc
   rw [hc]
   refine ⟨rfl,?_⟩
   dsimp only
   split
   ·exact ⟨⟨_,rfl,rfl⟩,fun y m=>by simp at m;subst m;trivial⟩
   ·exact ⟨trivial,trivial⟩
  ·have:=Zlm htt hS hU 0 p.2
   exact ⟨rfl,this⟩
 have k:∀(i:Nat) (fi:FI),fs[i]?=some fi→((fs.map fun (fi:FI)=>(fi.off,fi.size)).toArray[i]?)=some (fi.off,fi.size):=fun i fi hf=>by simp [hf]
 obtain ⟨d,d1,d2,d3⟩:=ZuW k h c hz j
 refine ⟨.agg d.toArray,run_build w t _ _ ?_,⟨d,rfl,d2⟩,d3⟩
 unfold Program.built
 simp only[u1,u2,u4,Zpe u6]
 have e:(b.map fun (x:Nat × Operand)=>(x.1,a.eval x.2)).toList=b.toList.map fun p=>(p.1,a.eval p.2):=by simp
 have e2:(b.map fun x=>match x with | (i,x)=>(i,a.eval x))=b.map fun (x:Nat × Operand)=>(x.1,a.eval x.2):=rfl
 rw [e2,e]
 exact d1
theorem Sl.sub {m n:Nat} {A:Option Addr} {cs:List Value} {L:List Nat} (h:Sl w m A n cs L) (l q cap:Nat) (hm:0<m) (hq:l+q≤n) (hcap:n≤cap):
  ∃A' L',A'=(if cap=l then A else A.map (·.add (l * m)))∧Sl w m A' q ((cs.drop (l * m)).take (q * m)) L'∧∀b∈L',b∈L:=by
 have hlen:=h.1
 have hlm:l * m+q * m≤n * m:=by rw [←A6];exact AJ m hq
 refine ⟨_,if q=0 then [] else L,rfl,⟨by simp;omega,?_⟩,fun b mb=>?_⟩
 ·by_cases a:q=0
  ·exact .inl ⟨a,by simp [a]⟩
  ·rcases h.2 with ⟨h0,_⟩ | ⟨_,b,off,rfl,rfl,hc⟩
   ·omega
   ·refine .inr ⟨yE,b,off+l * m,by rw [if_neg yE];simp [ZbY],by simp [a],fun j u hj=>?_⟩
    rw [AA]
    refine hc _ u ?_
    have c:j<q * m:=by
     have:=(AH.1 hj).1
     simp at this;omega
    rw [BX,if_pos c,Al] at hj
    exact hj
 ·split at mb
  ·simp at mb
  ·exact mb
theorem REs.drop {m:Nat}:∀{xs:List (List CT)} {cs:List Value} {L:List Nat} (l:Nat),REs w m xs cs L→∃L',REs w m (xs.drop l) (cs.drop (l * m)) L'∧∀b∈L',b∈L
 | xs,cs,L,0,h=>⟨L,by simpa using h,fun _ mb=>mb⟩
 | [],cs,L,l+1,h=>⟨[],by obtain ⟨rfl,rfl⟩:=h;simp [REs],yG⟩
 | x::r,_,_,l+1,⟨c1,c2,L1,L2,rfl,rfl,h3,h4⟩=>by
  obtain ⟨L',h5,h6⟩:=REs.drop l h4
  refine ⟨L',?_,fun b mb=>by simp [h6 b mb]⟩
  have e:(l+1) * m=c1.length+l * m:=by rw [h3.2,A6];omega
  have e2:(c1++c2).drop (c1.length+l * m)=c2.drop (l * m):=by
   rw [BE,BF (BY _ _),BZ,AQ]
  rw [e,e2]
  simpa using h5
theorem REs.take {m:Nat}:∀{xs:List (List CT)} {cs:List Value} {L:List Nat} (l:Nat),REs w m xs cs L→∃L',REs w m (xs.take l) (cs.take (l * m)) L'∧∀b∈L',b∈L
 | xs,cs,L,0,h=>⟨[],by simp [REs],yG⟩
 | [],cs,L,l+1,h=>⟨[],by obtain ⟨rfl,rfl⟩:=h;simp [REs],yG⟩
 | x::r,_,_,l+1,⟨c1,c2,L1,L2,rfl,rfl,h3,h4⟩=>by
  obtain ⟨L',h5,h6⟩:=REs.take l h4
  refine ⟨L1++L',?_,fun b mb=>by
   rcases A0.1 mb with mb | mb
   ·simp [mb]
   ·simp [h6 b mb]⟩
  have e:(l+1) * m=c1.length+l * m:=by rw [h3.2,A6];omega
  rw [e,Ba]
  exact ⟨c1,_,L1,L',rfl,rfl,h3,h5⟩
theorem Zpf {k:IntKind} {i:Int} {y:Nat} {a:BoundsCode} (h0:0≤i) (h1:i≤y):(Instr.sliceBound (.int k i) y a).run P w=.ok i.toNat w:=by
 simp [Instr.sliceBound,asIntOf,h0,h1]
def Zne [NW] (g:Gh) (w:World):Option SV→Option Value→Prop
 | none,none=>True
 | some s,some u=>SVR g w s u
 | _,_=>False
theorem ZiY [NW] {lo hi:Option SV} {vlo vhi:Option Value} {len cap l h:Nat} {b:Bool} (hh:hiB len hi=some h) (hl:loB h lo=some l) (hlo:Zne g w lo vlo) (hhi:Zne g w hi vhi) (hc:len≤cap):
  (Instr.sliceBounds b len cap vlo vhi none).run P w=.ok (l,h,cap) w∧l≤h∧h≤len:=by
 have e1 : ((match vhi, (none : Option Value) with | some v, some _ => Instr.sliceBound v cap .slice3B | some v, none => Instr.sliceBound v cap (if b then .sliceAcap else .sliceAlen) | none, none => pure len | none, some _ => stuck "Slice: max without high") : Sem Nat).run P w = .ok h w ∧ h ≤ len := by
  unfold hiB at hh
  split at hh
  ·simp only[A3] at hh
   subst hh
   cases vhi with
   | none=>exact ⟨rfl,AF _⟩
   | some v=>exact hhi.elim
  ·split at hh<;>simp only[A3,reduceCtorEq] at hh
   rename_i hq
   subst hh
   cases vhi with
   | none=>exact hhi.elim
   | some v=>
    have e:=ZbZ hhi
    subst e
    exact ⟨Zpf hq.1 yE,yE⟩
  ·simp at hh
 have e2:((match vlo with | some v=>Instr.sliceBound v h .sliceB | none=>pure 0):Sem Nat).run P w=.ok l w∧l≤h:=by
  unfold loB at hl
  split at hl
  ·simp only[A3] at hl
   subst hl
   cases vlo with
   | none=>exact ⟨rfl,AM _⟩
   | some v=>exact hlo.elim
  ·split at hl<;>simp only[A3,reduceCtorEq] at hl
   rename_i hq
   subst hl
   cases vlo with
   | none=>exact hlo.elim
   | some v=>
    have e:=ZbZ hlo
    subst e
    exact ⟨Zpf hq.1 hq.2,yE⟩
  ·simp at hl
 refine ⟨?_,e2.2,e1.2⟩
 unfold Instr.sliceBounds
 simp only[Sem.run_bind,Sem.run_pure,Result.andThen_ok,Option.isSome_none,Bool.false_eq_true,if_false]
 have e1':=e1.1
 have e2':=e2.1
 cases vhi<;>cases vlo<;>simp_all
theorem ZsS [NW] (htt:∀t i,tt t=some i→TOk P t i) {t:Nat} {x v:SV} {lo hi:Option SV} {vx:Value} {vlo vhi:Option Value} (h:Zl8 (tt t) lo hi x=some v) (hx:SVR g w x vx)
  (f:Zne g w lo vlo) (j:Zne g w hi vhi):∃cv,(Instr.sliceAt t vx vlo vhi none).run P w=.ok cv w∧SVR g w v cv∧svU U v:=by
 unfold Zl8 at h
 split at h
 ·rename_i s
  split at h
  ·rename_i k
   have hu:=ZhT htt k
   obtain ⟨q,hq,h⟩:=A9.1 h
   obtain ⟨l,hl,rfl⟩:=A5.1 h
   obtain ⟨rfl,hs⟩:=Zjh hx
   obtain ⟨b1,b2,b3⟩:=ZiY (P:=P) (b:=false) hq hl f j (AF _)
   refine ⟨_,?_,ZlX (by rw [ByteArray.size_extract];omega),XK _⟩
   simp [Instr.sliceAt,YC hu,Instr.slice,b1]
  ·simp at h
 ·rename_i e m xs
  split at h
  ·rename_i d
   obtain ⟨q,hq,h⟩:=A9.1 h
   obtain ⟨l,hl,rfl⟩:=A5.1 h
   obtain ⟨A,cap,cs,L0,L1,rfl,h2,h3,h5,h6,h7,ho⟩:=Zhv hx
   obtain ⟨b1,b2,b3⟩:=ZiY (P:=P) (b:=true) hq hl f j h2
   obtain ⟨e',b',z',o⟩:∃e' b' z',tt t=some (.slice e' m b' z'):=by
    unfold Zky at d
    split at d
    ·rename_i h1;subst d;exact ⟨_,_,_,h1⟩
    ·omega
   obtain ⟨hu,_,_,⟨ie,zv,u,y,_⟩,_⟩:=htt t _ o
   have fin:SVR g w (.p false [.c (.sl e m ((xs.take q).drop l))]) (.slice (if cap=l then A else A.map (·.add (l * m))) (q - l) (cap - l)):=by
    obtain ⟨A',L',rfl,s1,s2⟩:=h6.sub l (q - l) cap h5 yE h2
    obtain ⟨M1,r1,r2⟩:=h7.take q
    obtain ⟨M2,r3,r4⟩:=r1.drop l
    have a:((xs.take q).drop l).length=q - l:=by simp;omega
    have e1:(cs.drop (l * m)).take ((q - l) * m)=(cs.take (q * m)).drop (l * m):=by
     rw [AZ,Ac]
    rw [e1] at s1
    refine ⟨_,rfl,L'++M2,⟨_,_,_,L',M2,by rw [a],by rw [a];omega,yE,rfl,h5,by rw [a];exact s1,r3⟩,fun b mb=>?_⟩
    rcases A0.1 mb with mb | mb
    ·exact ho b (by simp [s2 b mb])
    ·exact ho b (by simp [r2 b (r4 b mb)])
   refine ⟨_,?_,fin,XK _⟩
   simp [Instr.sliceAt,YC hu,Instr.slice,b1,XX u,y]
  ·simp at h
 ·simp at h
end
end
section
open Go.RowKit
theorem ZF {α:Type} (f:Nat→α) (k:Nat) (v:α):upd f k v k=v:=by simp [upd]
theorem ZP {α:Type} (f:Nat→α) {k j:Nat} (v:α) (h:j≠k):upd f k v j=f j:=by simp [upd,h]
theorem Xa (ob:Nat→Ob) (u v:List (Nat × Ob)):Zn ob (u++v)=Zn (Zn ob u) v:=by
 induction u generalizing ob with
 | nil=>rfl
 | cons p r ih=>exact ih _
theorem Zk7:∀(ks:List Nat) (ob:Nat→Ob) (k:Nat),Zn ob (Za8 ks) k=if k∈ks then .gone else ob k
 | [],ob,k=>by simp [Za8,Zn]
 | x::ks,ob,k=>by
  have:Za8 (x::ks)=(x,Ob.gone)::Za8 ks:=rfl
  rw [this,Zn,Zk7 ks]
  by_cases h1:k∈ks
  ·simp [h1]
  ·by_cases h2:k=x
   ·subst h2;simp [upd]
   ·simp [h1,h2,upd]
theorem Zby [NW] (ks:List Nat) (ob:Nat→Ob) (key:Nat) (o:Ob) (k:Nat):Zn ob (Za8 ks++[(key,o)]) k=if k=key then o else if k∈ks then .gone else ob k:=by
 rw [Xa]
 simp only[Zn,upd,Zk7]
def Gh.turn (g:Gh) (ks:List Nat) (key:Nat) (v:Value) (O D:List Nat):Gh:=
 ⟨upd g.val key v,fun k=>if k=key then O else if k∈ks then [] else g.O k,fun k=>if k=key then D else if k∈ks then [] else g.D k,g.Z⟩
section
variable {P:Program} {W:ZaK} {U:Nat→Prop} {key:Nat} {st:St} {g:Gh} {w w':World} {a:Act} {tt:Nat→Option TI}
theorem ZfA {ks:List Nat} {v:Value} {O D:List Nat} {b:Nat} (h:(g.turn ks key v O D).own b):b∈O∨(∃k,k∉ks∧k≠key∧b∈g.O k)∨g.Z b:=by
 rcases h with ⟨k,hk⟩ | h
 ·simp only[Gh.turn] at hk
  split at hk
  ·exact .inl hk
  ·rename_i h1
   split at hk
   ·simp at hk
   ·rename_i h2;exact .inr (.inl ⟨k,h2,h1,hk⟩)
 ·exact .inr (.inr h)
theorem ZpN {n:Nat} {ks:List Nat} {v:Value} {O D:List Nat} (hO:∀b∈O,(∃k∈ks,b∈g.O k)∨n≤b) (hD:∀b∈D,(∃k∈ks,b∈g.O k++g.D k)∨n≤b):QU g (g.turn ks key v O D) n:=by
 refine .of (fun b hb=>?_) fun j b mb=>?_
 ·rcases ZfA hb with m | ⟨k,_,_,m⟩ | m
  ·rcases hO b m with ⟨k,_,m⟩ | m
   ·exact .inl (.inl ⟨k,m⟩)
   ·exact .inr m
  ·exact .inl (.inl ⟨k,m⟩)
  ·exact .inl (.inr m)
 ·simp only[Gh.turn] at mb
  split at mb
  ·refine (hD b mb).imp (fun ⟨k,_,mk⟩=>?_) id
   rcases A0.1 mk with m1 | m1
   ·exact .inl (.inl ⟨k,m1⟩)
   ·exact .inr ⟨k,m1⟩
  ·split at mb
   ·simp at mb
   ·exact .inl (.inr ⟨j,mb⟩)
theorem HI.turn [NW] {ob:Nat→Ob} (h:HI W g ob w) (i:∀k,obU U (ob k)) (c:¬U key) (ks:List Nat) (y:∀k∈ks,U k)
  (l:Bel W w') (z:w.heap.size≤w'.heap.size) (hw:∀b,b<w.heap.size→(∀k∈ks,b∉g.O k)→w'.heap[b]?=w.heap[b]?)
  {v:Value} {O D:List Nat} {o:Ob} (hO:∀b∈O,(∃k∈ks,b∈g.O k)∨w.heap.size≤b) (hD:∀b∈D,(∃k∈ks,b∈g.O k++g.D k)∨w.heap.size≤b)
  (A:(O++D).Nodup) (B:∀b∈O++D,(W.heap.size≤b∨W.x b)∧Qf w' o b)
  (C:QU g (g.turn ks key v O D) w.heap.size→ObR (g.turn ks key v O D) w' key o):
  HI W (g.turn ks key v O D) (Zn ob (Za8 ks++[(key,o)])) w'∧∀x u,svU U x→SVR g w x u→SVR (g.turn ks key v O D) w' x u:=by
 have hkk:key∉ks:=fun m=>c (y key m)
 have d:∀k,U k→(g.turn ks key v O D).val k=g.val k:=fun k hk=>ZP _ _ fun e=>c (e ▸ hk)
 have a:QU g (g.turn ks key v O D) w.heap.size:=ZpN hO hD
 have f:∀b∈O++D,(∃k∈ks,b∈g.O k++g.D k)∨w.heap.size≤b:=fun b m=>by
  rcases A0.1 m with m | m
  ·exact (hO b m).imp (fun ⟨k,h1,h2⟩=>⟨k,h1,by simp [h2]⟩) id
  ·exact hD b m
 refine ⟨h.step (fun k=>k=key∨k∈ks) l rfl (fun b hb hn=>hw b hb fun k hk=>hn k (.inr hk)) (fun k hk=>?_) i d a (fun k hk=>?_),fun x u hx hu=>hu.move hx d (fun b hb hn=>hw b hb fun k _ m=>hn (.inl ⟨k,m⟩)) a z⟩
 ·have h1:k≠key:=fun e=>hk (.inl e)
  have h2:k∉ks:=fun e=>hk (.inr e)
  rw [Zby]
  simp [Gh.turn,h1,h2,upd]
 ·rw [Zby]
  by_cases h1:k=key
  ·subst h1
   have eO:(g.turn ks k v O D).O k=O:=by simp [Gh.turn]
   have eD:(g.turn ks k v O D).D k=D:=by simp [Gh.turn]
   rw [if_pos rfl,eO,eD]
   refine ⟨C a,A,B,fun j hj b m mj=>?_⟩
   have p:¬j=k:=fun e=>hj e.symm
   by_cases h2:j∈ks
   ·simp [Gh.turn,p,h2] at mj
   ·have t:b∈g.O j++g.D j:=by simpa [Gh.turn,p,h2] using mj
    rcases f b m with ⟨q,q1,q2⟩ | q
    ·exact h.apart q j (fun e=>h2 (e ▸ q1)) b q2 t
    ·have:=h.lt j b t;omega
  ·have h2:k∈ks:=hk.resolve_left h1
   have eO:(g.turn ks key v O D).O k=[]:=by simp [Gh.turn,h1,h2]
   have eD:(g.turn ks key v O D).D k=[]:=by simp [Gh.turn,h1,h2]
   rw [if_neg h1,if_pos h2,eO,eD]
   exact ⟨⟨eO,eD⟩,yG,yG,yG⟩
theorem Zjx [NW] (hU:StU U st) (ks:List Nat) {o:Ob} (ho:obU (Uk U key) o):(∀k,obU (Uk U key) (Zn st.ob (Za8 ks++[(key,o)]) k))∧∀k,¬Uk U key k→Zn st.ob (Za8 ks++[(key,o)]) k=.gone:=by
 constructor
 ·intro k
  rw [Zby]
  split
  ·exact ho
  ·split
   ·trivial
   ·exact (hU.ob k).mono fun _=>.inl
 ·intro k hk
  rw [Zby,if_neg (fun e=>hk (.inr yE))]
  split
  ·rfl
  ·exact hU.gone k fun h=>hk (.inl h)
theorem ZkS:Uk U key key:=.inr yE
theorem Zxt [NW] (hI:HI W g st.ob w) (hU:StU U st) (a:¬U key) {t:TypeId} {cs:List AV} {vs:List Value} (hr:ZM (AVR g w) cs vs) (hu:QW U cs) {s:Sem Next}
  (d:s.run P w=.ok (.value (.pointer (some ⟨w.heap.size,0,none⟩))) (w.alloc (.cells vs.toArray t))):Fin P W U key st g w s (.bp key 0,[(key,.box t cs)]):=by
 have hb:Below w.heap.size w (w.alloc (.cells vs.toArray t)):=(Below.refl _ _).alloc (AF _) _
 obtain ⟨h1,h2⟩:=hI.turn (key:=key) (U:=U) (w':=w.alloc (.cells vs.toArray t)) (v:=.pointer (some ⟨w.heap.size,0,none⟩)) (O:=[w.heap.size]) (D:=[]) (o:=.box t cs) hU.ob a [] yG
  (hI.below.trans hb) hb.size (fun b c _=>hb.block b c) yG yG yG (fun b m=>by
   simp at m;subst m;exact ⟨.inl hI.below.size,_,_,heap_alloc_new w _⟩) (fun f=>⟨w.heap.size,vs,by simp [Gh.turn,upd],by simp [Gh.turn],by simp [Gh.turn],heap_alloc_new w _,
    AVRs.move hr hu (fun k hk=>ZP _ _ fun e=>a (e ▸ hk)) (fun b c _=>hb.block b c) f⟩)
 have i:=Zjx (key:=key) (o:=.box t cs) hU [] (QW.mono (fun _=>.inl) hu)
 exact ⟨_,_,_,.inl d,h1,⟨w.heap.size,by simp [Gh.turn,upd],rfl⟩,h2,ZkS,i.1,i.2⟩
theorem ZpF (b:Nat) (cs a:Array Value) (t:TypeId) (hb:w.heap[b]?=some (.cells cs t (0,0))):(w.setRow b a).heap[b]?=some (.cells a t (0,0))∧(∀k,k≠b→(w.setRow b a).heap[k]?=w.heap[k]?)∧(w.setRow b a).heap.size=w.heap.size∧(w.setRow b a).os=w.os∧(w.setRow b a).tape=w.tape∧(w.setRow b a).output=w.output:=by
 refine ⟨setRow_heap w b cs a t _ hb,fun k hk=>?_,?_,rfl,rfl,rfl⟩
 ·have c:¬b=k:=fun e=>hk e.symm
  simp [World.setRow,AY,c]
 ·simp [World.setRow]
theorem Zwv [NW] (htt:∀t i,tt t=some i→TOk P t i) (hI:HI W g st.ob w) (hU:StU U st) {t k off tb:Nat} {cs vs:List AV} {va vv:Value} {ag:Bool} (hk:st.ob k=.box tb cs) (hl:vs.length=ZiO (tt t)) (ho:off+vs.length≤cs.length)
  (ha:SVR g w (.bp k off) va) (hv:SVR g w (.p ag vs) vv) (o:QW U vs) (a:0<vs.length) {s:Sem Next} (hs:s=(do Instr.storeAt t va vv;pure .skip)):Fin P W U key st g w s (.und,[(k,.box tb (splice cs off vs))]):=by
 obtain ⟨b,h1,rfl⟩:=ha
 have v:=hI.obs k
 rw [hk] at v
 obtain ⟨b',us,o1,o2,o3,o4,o5⟩:=v
 have hb:b=b':=by rw [o1] at h1;simpa using h1.symm
 subst hb
 have hlen:=o5.len
 obtain ⟨xs,c1,c2⟩:=PVR.cells hv
 have C:=c2.len
 have c:=hU.ob k
 rw [hk] at c
 obtain ⟨r1,r2,r3,r4,r5,r6⟩:=ZpF b us.toArray (splice us off xs).toArray tb o4
 have f:(sizeOf t).run P w=.ok xs.length w:=by
  rw [←C,hl]
  unfold ZiO at hl ⊢
  cases hti:tt t with
  | none=>rw [hti] at hl;simp at hl;simp [hl] at a
  | some i=>
   cases i with
   | atom z=>obtain ⟨d,zv,i,_,_,h3,_,h4,_⟩:=htt t _ hti;rw [XX h3,h4]
   | strct fs n z=>obtain ⟨_,i,_,_,h3,h4,_⟩:=htt t _ hti;rw [XX h3,h4]
   | slice e m b z=>obtain ⟨_,_,_,_,j,h3,h4,_⟩:=htt t _ hti;rw [XX h3,h4]
   | _=>rw [hti] at hl;simp at hl;simp [hl] at a
 have y:=run_storeCells_at (P:=P) b off tb xs 0 us.toArray w o4 (by simp;omega) (AVRs.one c2)
 have A:s.run P w=.ok .skip (w.setRow b (splice us off xs).toArray):=by
  subst hs
  have e:(us.toArray.toList.take (off+0)++xs++us.toArray.toList.drop (off+0+xs.length)).toArray=(splice us off xs).toArray:=by simp [splice]
  rw [e] at y
  simp [Instr.storeAt,Instr.sureAddr,storeVar,c1,f,y]
 have l:∀b',b'<w.heap.size→¬g.own b'→(w.setRow b (splice us off xs).toArray).heap[b']?=w.heap[b']?:=fun b' _ hn=>r2 b' fun e=>hn (.inl ⟨k,by simp [o2,e]⟩)
 have B:W.heap.size≤b∨W.x b:=(hI.plain k b (by simp [o2])).1
 refine ⟨g,undef,_,.inr ⟨A,rfl⟩,?_,rfl,fun x u hx hu=>hu.move hx (fun _ _=>rfl) l (QU.refl _ _) yE,trivial,fun q=>?_,fun q hq=>?_⟩
 ·refine hI.step (U:=U) (fun q=>q=k) ?_ rfl (fun b' _ hn=>r2 b' fun e=>hn k rfl (by simp [o2,e])) (fun q hq=>⟨ZP _ _ hq,rfl,rfl,rfl⟩) hU.ob (fun _ _=>rfl) (QU.refl _ _) (fun q hq=>?_)
  ·exact ⟨r4.trans hI.below.os,r5.trans hI.below.tape,r6.trans hI.below.output,by have:=hI.below.size;omega,fun q hq hx=>by rw [r2 q (fun e=>by subst e;rcases B with h | h;omega;exact hx h)];exact hI.below.block q hq hx⟩
  ·subst hq
   refine ⟨?_,hI.nodup q,fun b' m=>?_,hI.apart q⟩
   ·simp only[Zn,ZF]
    exact ⟨b,_,o1,o2,o3,r1,(AVRs.move o5 c (fun _ _=>rfl) l (QU.refl _ _)).splice (AVRs.move c2 o (fun _ _=>rfl) l (QU.refl _ _)) off⟩
   ·simp [o2,o3] at m
    subst m
    refine ⟨B,?_⟩
    simp only[Zn,ZF]
    exact ⟨_,_,r1⟩
 ·simp only[Zn,upd]
  split
  ·exact QW.mono (fun _=>.inl) (Zlz c o off)
  ·exact (hU.ob q).mono fun _=>.inl
 ·simp only[Zn,upd]
  split
  ·rename_i e;subst e
   exact absurd (hU.gone q fun h=>hq (.inl h)) (by simp [hk])
  ·exact hU.gone q fun h=>hq (.inl h)
end
end
section
open Go.RowKit
section
variable {P:Program} {W:ZaK} {U:Nat→Prop} {key:Nat} {st:St} {g:Gh} {w w':World} {a:Act} {tt:Nat→Option TI}
def Gh.F (g:Gh) (ks:List Nat):List Nat:=ks.flatMap fun k=>g.O k++g.D k
def FP (g:Gh) (ks:List Nat) (d:Nat) (L:List Nat):Prop:=(d=2→L.Sublist (g.F ks))∧d≤2∧0<d∧∀b∈L,¬g.own b∨∃k∈ks,b∈g.O k
theorem FP.nil:FP g [] 2 []:=⟨fun _=>by simp [Gh.F],yG⟩
theorem FP.append {ks a:List Nat} {d d':Nat} {L L':List Nat} (h:FP g ks d L) (h':FP g a d' L'):FP g (ks++a) (Zge d d') (L++L'):=by
 have q1:=h.2.1
 have q2:=h'.2.1
 have q3:=h.2.2.1
 have q4:=h'.2.2.1
 refine ⟨fun hd=>?_,by unfold Zge;split<;>omega,by unfold Zge;split<;>omega,fun b m=>?_⟩
 ·have c:d=2∧d'=2:=by unfold Zge at hd;split at hd<;>omega
  simp only[Gh.F,Bb]
  exact AK (h.1 c.1) (h'.1 c.2)
 ·rcases A0.1 m with m | m
  ·exact (h.2.2.2 b m).imp id fun ⟨k,h1,h2⟩=>⟨k,by simp [h1],h2⟩
  ·exact (h'.2.2.2 b m).imp id fun ⟨k,h1,h2⟩=>⟨k,by simp [h1],h2⟩
theorem HI.nodupF [NW] {ob:Nat→Ob} (hI:HI W g ob w):∀{ks:List Nat},ks.Nodup→(g.F ks).Nodup
 | [],_=>by simp [Gh.F]
 | k::ks,h=>by
  simp only[Gh.F,BG,AG]
  rw [AO] at h
  refine ⟨AG.1 (hI.nodup k),hI.nodupF h.2,fun x hx y hy e=>?_⟩
  subst e
  obtain ⟨j,hj,hy⟩:=AC.1 hy
  exact hI.apart k j (fun e=>h.1 (e ▸ hj)) x hx hy
theorem ZkZ {ks:List Nat} {b:Nat} (h:b∈g.F ks):∃k∈ks,b∈g.O k++g.D k:=by simpa [Gh.F] using h
theorem Sl.row {B e m n:Nat} {v:Value} {cs:List Value} (h:w.ownsV B e m v n cs):∃A cap L0,v=.slice A n cap∧n≤cap∧cap≤maxLen∧Sl w m A n cs L0∧L0.Sublist v.ownBlock.toList:=by
 obtain ⟨A,cap,rfl,h1,h2⟩:=QP h
 obtain ⟨L0,h3,_,h4⟩:=Sl.of_ownV h
 refine ⟨A,cap,L0,rfl,h1,h2,h3,?_⟩
 rcases h3.2 with ⟨_,rfl⟩ | ⟨_,b,off,rfl,rfl,_⟩
 ·exact AX _
 ·simp [Value.ownBlock]
theorem NR.toC [NW] {x:CT} {v:Value} (h:NR g w x v):∃L,RC w x v L∧∀b∈L,¬g.own b:=by
 obtain ⟨e,m,xs,cs,L,rfl,h2,h3,h4,h5,h6⟩:=h
 obtain ⟨A,cap,L0,s1,s2,s3,s4,s5⟩:=Sl.row h3
 refine ⟨L0++L,⟨A,cap,cs,L0,L,s1,s2,s3,rfl,h2,s4,h4⟩,fun b mb o=>(h6 b ?_).1 (.inl o)⟩
 rcases A0.1 mb with m1 | m1
 ·simp [s5.subset m1]
 ·simp [m1]
theorem ZAD [NW] (hI:HI W g st.ob w) {x:AV} {ct:CT} {ks:List Nat} {d:Nat} {v:Value} (h:avT st x=some (ct,ks,d)) (hx:AVR g w x v) (hu:avU U x):∃L,RC w ct v L∧FP g ks d L∧∀k∈ks,U k:=by
 cases x with
 | c y=>
  obtain ⟨L,h1,h2⟩:=hx
  cases y<;>simp only[avT,A3,A4] at h<;>obtain ⟨rfl,rfl,rfl⟩:=h
  ·exact ⟨L,h1,⟨fun _=>by rw [h1.2];simp [Gh.F],yG,yG,fun b m=>.inl (h2 b m)⟩,yG⟩
  ·exact ⟨L,h1,⟨fun _=>by rw [h1.2];simp [Gh.F],yG,yG,fun b m=>.inl (h2 b m)⟩,yG⟩
  ·exact ⟨L,h1,⟨fun _=>by rw [h1.2.1];simp [Gh.F],yG,yG,fun b m=>.inl (h2 b m)⟩,yG⟩
  all_goals exact ⟨L,h1,⟨fun e=>by simp at e,yG,yG,fun b m=>.inl (h2 b m)⟩,yG⟩
 | row k=>
  simp only[avT] at h
  split at h
  ·rename_i e m xs d' hk
   obtain ⟨hm,cs,L1,o1,o2,o3,o5⟩:=hI.deep hk
   obtain ⟨A,cap,L0,s1,s2,s3,s4,s5⟩:=Sl.row o1
   have a:RC w (.sl e m xs) v (L0++L1):=⟨A,cap,cs,L0,L1,by rw [hx.1,s1],s2,s3,rfl,hm,s4,o2⟩
   split at h
   ·rename_i f
    simp only[A3,A4] at h
    obtain ⟨rfl,rfl,rfl⟩:=h
    refine ⟨L0++L1,a,⟨fun e=>by simp at e,yG,yG,fun b m=>.inl ?_⟩,yG⟩
    rcases o5 with ⟨q,_⟩ | ⟨q,_⟩ | ⟨_,_,_,q⟩
    ·omega
    ·omega
    ·rcases A0.1 m with m | m
     ·exact q b (s5.subset m)
     ·exact o3 b m
   ·rename_i f
    simp only[A3,A4] at h
    obtain ⟨rfl,rfl,rfl⟩:=h
    have hO:g.O k=(g.val k).ownBlock.toList:=by
     rcases o5 with ⟨_,q,_⟩ | ⟨_,q,_⟩ | ⟨q,_⟩
     ·exact q
     ·exact q
     ·exact absurd q f
    refine ⟨L0++L1,a,⟨fun hd=>?_,?_,yE,fun b m=>?_⟩,fun q mq=>by simp at mq;subst mq;exact hu⟩
    ·rcases o5 with ⟨_,_,o5⟩ | ⟨o5,_⟩ | ⟨o5,_⟩
     ·simp only[Gh.F,BG,List.flatMap_nil,Ag,hO,o5]
      exact AK s5 (AL _)
     ·omega
     ·omega
    ·rcases o5 with ⟨o5,_⟩ | ⟨o5,_⟩ | ⟨o5,_⟩<;>omega
    ·rcases A0.1 m with m | m
     ·exact .inr ⟨k,yG,by rw [hO];exact s5.subset m⟩
     ·exact .inl (o3 b m)
  ·simp at h
 | nil e m=>
  simp only[avT] at h
  split at h
  ·rename_i hm
   simp only[A3,A4] at h
   obtain ⟨rfl,rfl,rfl⟩:=h
   refine ⟨[],⟨none,0,[],[],[],hx,yG,AM _,rfl,hm,Sl.zero,rfl,rfl⟩,FP.nil,yG⟩
  ·simp at h
 | n x=>simp [avT] at h
 | dead=>simp [avT] at h
theorem ZuQ [NW] (hI:HI W g st.ob w):∀{xs:List AV} {cts:List CT} {ks:List Nat} {d:Nat} {vs:List Value},ZgE st xs=some (cts,ks,d)→ZM (AVR g w) xs vs→QW U xs→∃L,RCs w cts vs L∧FP g ks d L∧∀k∈ks,U k
 | [],_,_,_,[],h,_,_=>by
  simp only[ZgE,A3,A4] at h
  obtain ⟨rfl,rfl,rfl⟩:=h
  exact ⟨[],⟨rfl,rfl⟩,FP.nil,yG⟩
 | [],_,_,_,_::_,_,h,_=>h.elim
 | _::_,_,_,_,[],_,h,_=>h.elim
 | x::r,cts,ks,d,v::vs,h,hr,hu=>by
  simp only[ZgE] at h
  obtain ⟨⟨c1,k1,d1⟩,h1,h⟩:=A9.1 h
  obtain ⟨⟨c2,k2,d2⟩,h2,h⟩:=A5.1 h
  simp only[A4] at h
  obtain ⟨rfl,rfl,rfl⟩:=h
  obtain ⟨L1,a1,a2,a3⟩:=ZAD hI h1 hr.1 (hu x yG)
  obtain ⟨L2,b1,b2,b3⟩:=ZuQ hI h2 hr.2 (fun y m=>hu y (by simp [m]))
  exact ⟨L1++L2,⟨v,vs,L1,L2,rfl,rfl,a1,b1⟩,a2.append b2,fun k m=>(A0.1 m).elim (a3 k) (b3 k)⟩
theorem ZrK [NW] (hI:HI W g st.ob w) {m:Nat}:∀{xs:List SV} {es:List (List CT)} {ks:List Nat} {d:Nat} {vs:List Value},Xi st m xs=some (es,ks,d)→ZM (fun s v=>SVR g w s v∧svU U s) xs vs→
  ∃(cs:List (List Value)) (L:List Nat),ZM (fun (c:List Value) (v:Value)=>v.cells=c.toArray∧c.length=m∧∀u∈c,u.oneCell'=true) cs vs∧REs w m es cs.flatten L∧FP g ks d L∧∀k∈ks,U k
 | [],_,_,_,[],h,_=>by
  simp only[Xi,A3,A4] at h
  obtain ⟨rfl,rfl,rfl⟩:=h
  exact ⟨[],[],trivial,⟨rfl,rfl⟩,FP.nil,yG⟩
 | [],_,_,_,_::_,_,h=>h.elim
 | _::_,_,_,_,[],_,h=>h.elim
 | s::r,es,ks,d,v::vs,h,⟨⟨hs,hsu⟩,hr⟩=>by
  cases s with
  | p ag us=>
   simp only[Xi] at h
   split at h
   ·rename_i hl
    obtain ⟨⟨c1,k1,d1⟩,h1,h⟩:=A9.1 h
    obtain ⟨⟨c2,k2,d2⟩,h2,h⟩:=A5.1 h
    simp only[A4] at h
    obtain ⟨rfl,rfl,rfl⟩:=h
    obtain ⟨a,p1,p2⟩:=PVR.cells hs
    obtain ⟨L1,a1,a2,a3⟩:=ZuQ hI h1 p2 hsu
    obtain ⟨cs,L2,b1,b2,b3,b4⟩:=ZrK hI h2 hr
    have b:a.length=m:=by rw [←p2.len];exact hl
    exact ⟨a::cs,L1++L2,⟨⟨p1,b,AVRs.one p2⟩,b1⟩,⟨a,cs.flatten,L1,L2,yG,rfl,⟨a1,b⟩,b2⟩,a2.append b3,fun k mk=>(A0.1 mk).elim (a3 k) (b4 k)⟩
   ·simp at h
  | _=>simp [Xi] at h
theorem Zq6 [NW] {m:Nat}:∀(cs:List (List Value)) (vs:List Value) (i:Nat) (a base:List Value),ZM (fun (c:List Value) (v:Value)=>v.cells=c.toArray∧c.length=m∧∀u∈c,u.oneCell'=true) cs vs→a.length=i * m→base.length=vs.length * m→
  Instr.fill (fun i=>some (i * m,m)) (a++base).toArray ((List.range' i vs.length).zip vs)=some (a++cs.flatten).toArray
 | [],[],i,a,base,_,_,hb=>by
  have:base=[]:=AI (by simpa using hb)
  subst this
  simp [Instr.fill]
 | [],_::_,_,_,_,h,_,_=>h.elim
 | _::_,[],_,_,_,h,_,_=>h.elim
 | c::cs,v::vs,i,a,base,⟨⟨h1,h2,_⟩,h⟩,hp,hb=>by
  have hb':base.length=m+vs.length * m:=by rw [hb];simp [A6];omega
  have b:v.cells.size=m:=by simp [h1,h2]
  simp only[List.length_cons,List.range'_succ,List.zip_cons_cons,Instr.fill]
  rw [if_neg (by simp [b];omega),Zm6 (i * m) v c h1 _ (by simp;omega)]
  have e:splice (a++base).toArray.toList (i * m) c=(a++c)++base.drop m:=by
   unfold splice
   simp only[←hp]
   rw [Bc,BE,BF yE]
   ·simp [h2]
   ·rfl
  rw [e,Zq6 cs vs (i+1) (a++c) (base.drop m) h (by simp [hp,h2,A6]) (by simp;omega)]
  simp
theorem Zwf [NW] (hI:HI W g st.ob w) (hU:StU U st) (i:¬U key) {e m:Nat} (hm:0<m) {xs:List (List CT)} {ks:List Nat} {d:Nat} {L:List Nat} {cs:List Value} {v:Value} (f:w'.ownsV 0 e m v xs.length cs) (hv:v.ownBlock=some w.heap.size)
  (hb:Below w.heap.size w w') (x:∃z e,w'.heap[w.heap.size]?=some (.cells z e (0,0))) (hr:REs w m xs cs L) (hf:FP g ks d L) (B:∀k∈ks,U k) (j:∀k∈ks,∃e m xs d,st.ob k=.row e m xs d) (C:ks.Nodup) {s:Sem Next} (l:s.run P w=.ok (.value v) w'):
  Fin P W U key st g w s (.p false [.row key],Za8 ks++[(key,.row e m xs d)]):=by
 have c:=hr.lt
 have hF:=hI.nodupF C
 have a:∀b∈(if d=2 then L else []),b∈L∧d=2:=fun b mb=>by
  split at mb
  ·rename_i hd;exact ⟨mb,hd⟩
  ·simp at mb
 obtain ⟨h1,h2⟩:=hI.turn (key:=key) (U:=U) (w':=w') (v:=v) (O:=[w.heap.size]) (D:=if d=2 then L else []) (o:=.row e m xs d) hU.ob i ks B
  (hI.below.trans hb) hb.size (fun b t _=>hb.block b t) yG (fun b mb=>by
   obtain ⟨m1,m2⟩:=a b mb
   exact .inl (ZkZ ((hf.1 m2).subset m1)))
  (by
   simp only[AR,AO]
   refine ⟨fun mb=>?_,?_⟩
   ·have:=c _ (a _ mb).1;omega
   ·split
    ·rename_i hd;exact hF.sublist (hf.1 hd)
    ·simp)
  (fun b mb=>by
   simp only[AR,AB] at mb
   rcases mb with rfl | mb
   ·exact ⟨.inl hI.below.size,x⟩
   ·obtain ⟨m1,m2⟩:=a b mb
    obtain ⟨k,k1,mk⟩:=ZkZ ((hf.1 m2).subset m1)
    obtain ⟨p1,p2⟩:=hI.plain k b mk
    obtain ⟨_,_,_,_,E⟩:=j k k1
    rw [E] at p2
    exact ⟨p1,p2.keep (hb.block b (c b m1))⟩)
  (fun _=>⟨hm,cs,L,by simpa [Gh.turn,upd] using f,hr.keep fun b mb=>hb.block b (c b mb),by
   have q1:=hf.2.1
   have q2:=hf.2.2.1
   by_cases hd:d=2
   ·exact .inl ⟨hd,by simp [Gh.turn,upd,hv],by simp [Gh.turn,hd]⟩
   ·refine .inr (.inl ⟨yE,by simp [Gh.turn,upd,hv],by simp [Gh.turn,hd],fun b mb ho=>?_⟩)
    have t:=c b mb
    rcases ZfA ho with mo | ⟨k,k1,_,mk⟩ | hz
    ·simp at mo;omega
    ·rcases hf.2.2.2 b mb with hn | ⟨q,q1,q2⟩
     ·exact hn (.inl ⟨k,mk⟩)
     ·exact hI.apart k q (fun e=>k1 (e ▸ q1)) b (by simp [mk]) (by simp [q2])
    ·rcases hf.2.2.2 b mb with hn | ⟨q,q1,q2⟩
     ·exact hn (.inr hz)
     ·exact hI.nz (k:=q) (by simp [q2]) hz⟩)
 have u:=Zjx (key:=key) (o:=.row e m xs d) hU ks trivial
 refine ⟨_,_,_,.inl l,h1,⟨_,rfl,⟨by simp [Gh.turn,upd],?_⟩⟩,h2,fun y my=>by simp at my;subst my;exact ZkS,u.1,u.2⟩
 obtain ⟨A,cap,F⟩:=Zdl f
 simp [F,Value.oneCell']
theorem ZmN (st:St):∀(ks:List Nat) (ob:Nat→Ob) (k:Nat),Zn ob (ZU st ks) k=if k∈ks then Yc (st.ob k) else ob k
 | [],ob,k=>by simp [ZU,Zn]
 | j::r,ob,k=>by
  show Zn (upd ob j (Yc (st.ob j))) (ZU st r) k=_
  rw [ZmN st r]
  by_cases h:k∈r
  ·simp [h]
  ·by_cases hj:k=j
   ·subst hj;simp [h,upd]
   ·simp [h,hj,upd]
theorem Zdo [NW] (st:St) (ks:List Nat) (ob:Nat→Ob) (key:Nat) (o:Ob) (k:Nat):Zn ob (ZU st ks++[(key,o)]) k=if k=key then o else if k∈ks then Yc (st.ob k) else ob k:=by
 rw [Xa]
 show upd (Zn ob (ZU st ks)) key o k=_
 by_cases h:k=key
 ·simp [upd,h]
 ·simp only[upd,h,if_false];exact ZmN st ks ob k
theorem ZwN {x:AV} {ct:CT} {ks:List Nat} {d:Nat} (h:avT st x=some (ct,ks,d)):∀k∈ks,∃e m xs d,st.ob k=.row e m xs d:=by
 intro k mk
 cases x with
 | c y=>cases y<;>simp only[avT,A3,A4] at h<;>(rw [←h.2.1] at mk;simp at mk)
 | nil e m=>
  simp only[avT] at h
  split at h<;>simp only[A3,A4,reduceCtorEq] at h
  rw [←h.2.1] at mk;simp at mk
 | row j=>
  simp only[avT] at h
  split at h
  ·rename_i e m xs d' hj
   split at h<;>simp only[A3,A4] at h
   ·rw [←h.2.1] at mk;simp at mk
   ·rw [←h.2.1] at mk;simp at mk;subst mk;exact ⟨_,_,_,_,hj⟩
  ·simp at h
 | n x=>simp [avT] at h
 | dead=>simp [avT] at h
theorem ZpR [NW]:∀{xs:List AV} {cts:List CT} {ks:List Nat} {d:Nat},ZgE st xs=some (cts,ks,d)→∀k∈ks,∃e m xs d,st.ob k=.row e m xs d
 | [],_,_,_,h,k,mk=>by simp only[ZgE,A3,A4] at h;rw [←h.2.1] at mk;simp at mk
 | x::r,_,_,_,h,k,mk=>by
  simp only[ZgE] at h
  obtain ⟨⟨c1,k1,d1⟩,h1,h⟩:=A9.1 h
  obtain ⟨⟨c2,k2,d2⟩,h2,h⟩:=A5.1 h
  simp only[A4] at h
  rw [←h.2.1] at mk
  rcases A0.1 mk with mk | mk
  ·exact ZwN h1 k mk
  ·exact ZpR h2 k mk
theorem Zk0 [NW] {m:Nat}:∀{xs:List SV} {es:List (List CT)} {ks:List Nat} {d:Nat},Xi st m xs=some (es,ks,d)→∀k∈ks,∃e m xs d,st.ob k=.row e m xs d
 | [],_,_,_,h,k,mk=>by simp only[Xi,A3,A4] at h;rw [←h.2.1] at mk;simp at mk
 | x::r,_,_,_,h,k,mk=>by
  cases x with
  | p a cs=>
   simp only[Xi] at h
   split at h
   ·obtain ⟨⟨c1,k1,d1⟩,h1,h⟩:=A9.1 h
    obtain ⟨⟨c2,k2,d2⟩,h2,h⟩:=A5.1 h
    simp only[A4] at h
    rw [←h.2.1] at mk
    rcases A0.1 mk with mk | mk
    ·exact ZpR h1 k mk
    ·exact Zk0 h2 k mk
   ·simp at h
  | _=>simp [Xi] at h
theorem ZtY [NW] (hI:HI W g st.ob w) (hU:StU U st) (t:¬U key) {e m:Nat} (hm:0<m) {xs:List (List CT)} {ks:List Nat} {d:Nat} {L:List Nat} {cs:List Value} {v:Value} (u:w'.ownsV 0 e m v xs.length cs) (hv:v.ownBlock=some w.heap.size)
  (hb:Below w.heap.size w w') (H:∃I e,w'.heap[w.heap.size]?=some (.cells I e (0,0))) (hr:REs w m xs cs L) (hf:FP g ks d L) (z:∀k∈ks,U k) (i:∀k∈ks,∃e m xs d,st.ob k=.row e m xs d) (J:ks.Nodup) {s:Sem Next} (B:s.run P w=.ok (.value v) w'):
  Fin P W U key st g w s (.p false [.row key],ZU st ks++[(key,.row e m xs d)]):=by
 have l:=hr.lt
 have hF:=hI.nodupF J
 have c:∀b∈(if d=2 then L else []),b∈L∧d=2:=fun b mb=>by
  split at mb
  ·rename_i hd;exact ⟨mb,hd⟩
  ·simp at mb
 obtain ⟨h1,h2⟩:=hI.turn (key:=key) (U:=U) (w':=w') (v:=v) (O:=[w.heap.size]) (D:=if d=2 then L else []) (o:=.row e m xs d) hU.ob t ks z
  (hI.below.trans hb) hb.size (fun b C _=>hb.block b C) yG (fun b mb=>by
   obtain ⟨m1,m2⟩:=c b mb
   exact .inl (ZkZ ((hf.1 m2).subset m1)))
  (by
   simp only[AR,AO]
   refine ⟨fun mb=>?_,?_⟩
   ·have:=l _ (c _ mb).1;omega
   ·split
    ·rename_i hd;exact hF.sublist (hf.1 hd)
    ·simp)
  (fun b mb=>by
   simp only[AR,AB] at mb
   rcases mb with rfl | mb
   ·exact ⟨.inl hI.below.size,H⟩
   ·obtain ⟨m1,m2⟩:=c b mb
    obtain ⟨k,k1,mk⟩:=ZkZ ((hf.1 m2).subset m1)
    obtain ⟨p1,p2⟩:=hI.plain k b mk
    obtain ⟨_,_,_,_,f⟩:=i k k1
    rw [f] at p2
    exact ⟨p1,p2.keep (hb.block b (l b m1))⟩)
  (fun _=>⟨hm,cs,L,by simpa [Gh.turn,upd] using u,hr.keep fun b mb=>hb.block b (l b mb),by
   have q1:=hf.2.1
   have q2:=hf.2.2.1
   by_cases hd:d=2
   ·exact .inl ⟨hd,by simp [Gh.turn,upd,hv],by simp [Gh.turn,hd]⟩
   ·refine .inr (.inl ⟨yE,by simp [Gh.turn,upd,hv],by simp [Gh.turn,hd],fun b mb ho=>?_⟩)
    have C:=l b mb
    rcases ZfA ho with mo | ⟨k,k1,_,mk⟩ | hz
    ·simp at mo;omega
    ·rcases hf.2.2.2 b mb with hn | ⟨q,q1,q2⟩
     ·exact hn (.inl ⟨k,mk⟩)
     ·exact hI.apart k q (fun e=>k1 (e ▸ q1)) b (by simp [mk]) (by simp [q2])
    ·rcases hf.2.2.2 b mb with hn | ⟨q,q1,q2⟩
     ·exact hn (.inr hz)
     ·exact hI.nz (k:=q) (by simp [q2]) hz⟩)
 have hkk:∀k∈ks,k≠key:=fun k mk e=>t (e ▸ z k mk)
 have K:HI W (g.turn ks key v [w.heap.size] (if d=2 then L else [])) (Zn st.ob (ZU st ks++[(key,.row e m xs d)])) w':=by
  refine ⟨h1.below,fun k=>?_,h1.nodup,h1.apart,fun k b mb=>?_,h1.gz,h1.zx,h1.nw⟩
  rotate_left
  ·have hp:=h1.plain k b mb
   rw [Zby] at hp
   rw [Zdo]
   by_cases hk:k=key
   ·rw [if_pos hk] at hp ⊢;exact hp
   ·rw [if_neg hk] at hp ⊢
    by_cases a:k∈ks
    ·rw [if_pos a] at hp ⊢
     obtain ⟨e2,m2,M,d2,f⟩:=i k a
     rw [f]
     exact hp
    ·rw [if_neg a] at hp ⊢;exact hp
  have ho:=h1.obs k
  rw [Zby] at ho
  rw [Zdo]
  by_cases hk:k=key
  ·rw [if_pos hk] at ho ⊢;exact ho
  ·rw [if_neg hk] at ho ⊢
   by_cases a:k∈ks
   ·rw [if_pos a] at ho ⊢
    obtain ⟨e2,m2,M,d2,f⟩:=i k a
    obtain ⟨p1,N,L2,p2,p3,p4,p5⟩:=hI.deep f
    rw [f]
    have x:(g.turn ks key v [w.heap.size] (if d=2 then L else [])).val k=g.val k:=by simp [Gh.turn,upd,hk]
    have E:=p3.lt
    have F:=Zi6 p2
    refine ⟨p1,N,L2,by rw [x];exact Zcc p2 fun b mb=>hb.block b (F b mb),p3.keep fun b mb=>hb.block b (E b mb),.inr (.inr ⟨rfl,ho.1,ho.2,fun b mb G=>?_⟩)⟩
    rw [x] at mb
    have hbl:b<w.heap.size:=by
     rcases A0.1 mb with m1 | m1
     ·exact F b m1
     ·exact E b m1
    rcases ZfA G with mo | ⟨j,j1,_,mj⟩ | hz
    ·simp at mo;omega
    ·rcases A0.1 mb with m1 | m1
     ·rcases p5 with ⟨_,q1,_⟩ | ⟨_,q1,_⟩ | ⟨_,_,_,q⟩
      ·exact hI.apart j k (fun e=>j1 (e ▸ a)) b (by simp [mj]) (by simp [q1,m1])
      ·exact hI.apart j k (fun e=>j1 (e ▸ a)) b (by simp [mj]) (by simp [q1,m1])
      ·exact q b m1 (.inl ⟨j,mj⟩)
     ·exact p4 b m1 (.inl ⟨j,mj⟩)
    ·rcases A0.1 mb with m1 | m1
     ·rcases p5 with ⟨_,q1,_⟩ | ⟨_,q1,_⟩ | ⟨_,_,_,q⟩
      ·exact hI.nz (k:=k) (by simp [q1,m1]) hz
      ·exact hI.nz (k:=k) (by simp [q1,m1]) hz
      ·exact q b m1 (.inr hz)
     ·exact p4 b m1 (.inr hz)
   ·rw [if_neg a] at ho ⊢;exact ho
 have Q:∀k,obU U (Yc (st.ob k)):=fun k=>by
  have:=hU.ob k
  cases hk:st.ob k<;>simp only[Yc]<;>first | trivial | (rw [hk] at this;exact this)
 refine ⟨_,_,_,.inl B,K,⟨_,rfl,⟨by simp [Gh.turn,upd],?_⟩⟩,h2,fun y my=>by simp at my;subst my;exact ZkS,fun k=>?_,fun k hk=>?_⟩
 ·obtain ⟨A,cap,R⟩:=Zdl u
  simp [R,Value.oneCell']
 ·rw [Zdo]
  split
  ·trivial
  ·split
   ·exact (Q k).mono fun _=>.inl
   ·exact (hU.ob k).mono fun _=>.inl
 ·rw [Zdo,if_neg (fun e=>hk (.inr yE))]
  have e:=hU.gone k fun h=>hk (.inl h)
  split
  ·rw [e];rfl
  ·exact e
end
end
section
open Go.RowKit
section
variable {P:Program} {W:ZaK} {U:Nat→Prop} {key:Nat} {st:St} {g:Gh} {w w':World} {a:Act} {tt:Nat→Option TI}
theorem ZAc [NW] (htt:∀t i,tt t=some i→TOk P t i) (hI:HI W g st.ob w) (hS:∀t,SVR g w (st.sl t) (a.tmps.getD t undef)) (hU:StU U st) (q:¬U key) {t len e m l:Nat} {z:List AV} (H:tt t=some (.slice e m l z)) {b:Array (Nat × Operand)} {xs:List (List CT)} {ks:List Nat} {d:Nat}
  (h:Xi st m (b.toList.map fun p=>st.ev tt e p.2)=some (xs,ks,d)) (hr:b.toList.map (·.1)=List.range len) (hl:len * m≤16777216) (I:ks.Nodup) {s:Sem Next} (hs:s=(do pure (.value (←Instr.buildSlice t len (b.map fun (i,x)=>(i,a.eval x)))))):
  Fin P W U key st g w s (.p false [.row key],ZU st ks++[(key,.row e m xs d)]):=by
 obtain ⟨hu,hm,_,⟨ie,zv,y,o,hby,hz,hzc,hzl⟩,_⟩:=htt t _ H
 have A:ZM (fun s v=>SVR g w s v∧svU U s) (b.toList.map fun p=>st.ev tt e p.2) (b.toList.map fun p=>a.eval p.2):=ZM.of_map _ _ fun p _=>Zlm htt hS hU e p.2
 obtain ⟨cs,L,c1,c2,c3,c4⟩:=ZrK hI h A
 have f:b.toList.length=len:=by have:=congrArg List.length hr;simpa using this
 have B:cs.length=len:=by rw [c1.len];simpa using f
 have C:xs.length=len:=by
  have h1:=c2.len
  have h2:cs.flatten.length=len * m:=by
   have:∀(cs:List (List Value)) (vs:List Value),ZM (fun (c:List Value) (v:Value)=>v.cells=c.toArray∧c.length=m∧∀u∈c,u.oneCell'=true) cs vs→cs.flatten.length=cs.length * m:=by
    intro cs
    induction cs with
    | nil=>intro _ _;simp
    | cons c cs ih=>
     intro vs hh
     cases vs with
     | nil=>exact hh.elim
     | cons v vs=>simp [ih vs hh.2,hh.1.2.1,A6];omega
   rw [this cs _ c1,B]
  rw [h2] at h1
  exact (Nat.eq_of_mul_eq_mul_right hm h1).symm
 have j:(b.map fun x=>match x with | (i,x)=>(i,a.eval x)).toList=(List.range' 0 (b.toList.map fun p=>a.eval p.2).length).zip (b.toList.map fun p=>a.eval p.2):=by
  have e1:(b.map fun x=>match x with | (i,x)=>(i,a.eval x)).toList=(b.toList.map (·.1)).zip (b.toList.map fun p=>a.eval p.2):=by
   rw [List.zip_map'];simp
  rw [e1,hr,List.range_eq_range']
  simp [f]
 have D:(Instr.buildSlice t len (b.map fun (i,x)=>(i,a.eval x))).run P w=.ok (.slice (some ⟨w.heap.size,0,none⟩) len len) (w.alloc (.cells cs.flatten.toArray e)):=by
  have k:∀base:List Value,base.length=len * m→Instr.fill (fun i=>some (i * m,m)) base.toArray (b.map fun x=>match x with | (i,x)=>(i,a.eval x)).toList=some cs.flatten.toArray:=fun base hb=>by
   rw [j]
   have:=Zq6 cs (b.toList.map fun p=>a.eval p.2) 0 [] base c1 yG (by simpa [f] using hb)
   simpa using this
  by_cases h0:len=0
  ·subst h0
   have E:cs=[]:=AI B
   subst E
   have J:b=#[]:=by
    have:b.toList=[]:=AI f
    simpa using this
   subst J
   simp [Instr.buildSlice,YC hu,XX y,Instr.fill,newRow,Array.range_zero']
  ·have F:¬len * ie.size=0:=by
    rw [o];intro e;rcases Nat.mul_eq_zero.1 e with e | e<;>omega
   refine run_buildSlice w t e len _ _ ie zv hu y hz (by rw [o];omega) F ?_
   rw [o]
   have hb:=k ((Array.range (len * m)).map (zv.cells[· % zv.cells.size]!)).toList yG
   rw [Array.toArray_toList] at hb
   exact hb
 have G:=ZdZ <| World.ownsRow_lit (base:=0) (e:=e) (size:=m) w cs.flatten.toArray len (AM _) (by unfold maxLen;have:=Nat.le_mul_of_pos_right len hm;omega) (by
  have h1:=c2.len
  rw [C] at h1
  simpa using h1)
 refine ZtY hI hU q hm (v:=.slice (some ⟨w.heap.size,0,none⟩) len len) (cs:=cs.flatten) (w':=w.alloc (.cells cs.flatten.toArray e)) (by rw [C];simpa using G) rfl ((Below.refl _ _).alloc (AF _) _) ⟨_,_,heap_alloc_new w _⟩ c2 c3 c4 (Zk0 h) I ?_
 subst hs
 simp only[Sem.run_bind,D,Result.andThen_ok,Sem.run_pure]
theorem Ziu {m:Nat} {ze:List CT} {zc:List Value} (h:RCs w ze zc []) (hl:zc.length=m):∀n:Nat,REs w m (AS n ze) (AS n zc).flatten []
 | 0=>by simp [REs]
 | n+1=>by
  rw [Bd,Bd,Be]
  exact ⟨zc,_,[],[],rfl,rfl,⟨h,hl⟩,Ziu h hl n⟩
theorem Zp4 [NW]:∀{z:List AV} {zs:List Value} {ze:List CT},ZlO z=some ze→ZM (fun a v=>ZaM a v=true) z zs→RCs w ze zs []
 | [],[],ze,h,_=>by simp [ZlO] at h;subst h;exact ⟨rfl,rfl⟩
 | [],_::_,_,_,h=>h.elim
 | _::_,[],_,_,h=>h.elim
 | .c x::z,v::zs,ze,h,hr=>by
  simp only[ZlO] at h
  obtain ⟨b,h1,rfl⟩:=A5.1 h
  have hx:=ZfU (g:=⟨fun _=>undef,fun _=>[],fun _=>[],fun _=>False⟩) (w:=w) hr.1
  obtain ⟨L,hL,_⟩:=hx
  have d:L=[]:=by
   have:=hr.1
   cases x with
   | int k n=>exact hL.2
   | bool b=>exact hL.2
   | str s=>exact hL.2.1
   | _=>simp [ZaM] at this
  subst d
  exact ⟨v,zs,[],[],rfl,rfl,hL,Zp4 h1 hr.2⟩
 | .nil e m::z,v::zs,ze,h,hr=>by
  simp only[ZlO] at h
  split at h
  ·rename_i hm
   obtain ⟨b,h1,rfl⟩:=A5.1 h
   have hv:v=.slice none 0 0:=ZfU (g:=⟨fun _=>undef,fun _=>[],fun _=>[],fun _=>False⟩) (w:=w) hr.1
   subst hv
   exact ⟨_,zs,[],[],rfl,rfl,⟨none,0,[],[],[],rfl,yG,AM _,rfl,hm,Sl.zero,rfl,rfl⟩,Zp4 h1 hr.2⟩
  ·simp at h
 | .row k::z,v::zs,ze,h,_=>by simp [ZlO] at h
 | .n x::z,v::zs,ze,h,_=>by simp [ZlO] at h
 | .dead::z,v::zs,ze,h,_=>by simp [ZlO] at h
theorem ZpS (z:Array Value) (m:Nat) (hz:z.size=m) (hm:0<m):∀n:Nat,(madeCells z (n * m)).toList=(AS n z.toList).flatten
 | 0=>by simp [madeCells]
 | n+1=>by
  have ih:=ZpS z m hz hm n
  rw [List.replicate_succ',List.flatten_append,←ih]
  simp only[madeCells,Array.toList_map,Array.toList_range,A6,Nat.one_mul,List.range_add,BR,List.map_map,Be,List.flatten_nil,Ag]
  congr 1
  apply List.ext_getElem?
  intro j
  by_cases hj:j<m
  ·simp only[List.getElem?_map,List.getElem?_range hj,At,Function.comp]
   have e:(n * m+j) % z.size=j:=by
    rw [hz,Nat.add_comm,Nat.add_mul_mod_self_right,Nat.mod_eq_of_lt hj]
   have a:j<z.size:=by omega
   simp [e,a]
  ·have h1:z.size≤j:=by omega
   simp [hj,h1]
theorem ZyG [NW] (htt:∀t i,tt t=some i→TOk P t i) (hI:HI W g st.ob w) (hU:StU U st) (c:¬U key) {t e m a:Nat} {z:List AV} (k:tt t=some (.slice e m a z)) {n:Nat} {ze:List CT} (hz:ZlO z=some ze) (hn:n≤1073741824) {s:Sem Next}
  (hs:s=(do pure (.value (←Instr.makeSlice t (.int .i64 n) (.int .i64 n))))):Fin P W U key st g w s (.p false [.row key],[(key,.row e m (AS n ze) 2)]):=by
 obtain ⟨hu,hm,hby0,⟨ie,zv,l,o,hby,q,f,u⟩,_⟩:=htt t _ k
 have v:ie.bytes * n≤281474976710656:=by
  have:=Bf (show ie.bytes≤131072 by omega) hn
  omega
 obtain ⟨w',r1,r2,r3⟩:=run_make_full (P:=P) w 0 t e ie zv m hu l q o .i64 .i64 n v (by unfold maxLen;omega) (AM _)
 have j:zv.cells.size=m:=by rw [←u,f.len];simp
 rw [ZpS zv.cells m j hm n] at r2
 have x:=Ziu (Zp4 (w:=w) hz f) (by simpa using j) n
 have hb:Below w.heap.size w w':=(Below.refl _ _).grown r3 (AF _) yG
 have y:∃b e,w'.heap[w.heap.size]?=some (.cells b e (0,0)):=by
  rcases r2.2 with ⟨h',_⟩ | ⟨g',cap',b,h',_,hg,_⟩
  ·simp at h'
  ·simp at h'
   rw [←h'.1] at hg
   exact ⟨b,e,hg⟩
 have:=Zwf (ks:=[]) (d:=2) hI hU c hm (xs:=AS n ze) (by simpa using ZdZ r2) rfl hb y x FP.nil yG yG yG (s:=s) (P:=P) (by subst hs;simp only[Sem.run_bind,r1,Result.andThen_ok,Sem.run_pure])
 simpa [Za8] using this
theorem Zsa [NW] {t e:TypeId} {ty:TypeId} {ie:TypeInfo} (hu:P.underlying t=some (.slice e)) (a:P.info? e=some ie) (A B:Option Addr) (n c c':Nat) (b:n≤c):
  (Builtin.append_ #[t,t] ty #[.slice A n c,.slice B 0 c']).run P w=.ok (.slice A n c) w:=by
 cases A<;>cases B<;>simp [Builtin.append_,YC hu,XX a,Builtin.lenOf,Builtin.firstCells,loadCells,loadCellsFrom,storeCells,b]
theorem Zs7:∀{e:List CT} {cs:List Value} {L:List Nat},RCs w e cs L→e.all CT.flat=true→L=[]
 | [],_,_,h,_=>h.2
 | x::r,_,_,⟨v,cs',L1,L2,rfl,rfl,h1,h2⟩,hf=>by
  simp only[Bg,AT] at hf
  have e1:L1=[]:=by
   cases x with
   | int k n=>exact h1.2
   | bool b=>exact h1.2
   | str s=>exact h1.2.1
   | _=>simp [CT.flat] at hf
  rw [e1,Zs7 h2 hf.2];rfl
theorem Zkj [NW] {m:Nat}:∀{xs:List (List CT)} {cs:List Value} {L:List Nat},REs w m xs cs L→ZaN xs=true→L=[]
 | [],_,_,h,_=>h.2
 | x::r,_,_,⟨c1,c2,L1,L2,rfl,rfl,h1,h2⟩,hf=>by
  simp only[ZaN,Bg,AT] at hf
  rw [Zs7 h1.1 hf.1,Zkj h2 hf.2];rfl
theorem REs.append {m:Nat}:∀{xs ys:List (List CT)} {us vs:List Value} {L M:List Nat},REs w m xs us L→REs w m ys vs M→REs w m (xs++ys) (us++vs) (L++M)
 | [],_,_,_,_,_,h,h'=>by obtain ⟨rfl,rfl⟩:=h;simpa using h'
 | _::_,_,_,_,_,_,⟨c1,c2,L1,L2,rfl,rfl,h3,h4⟩,h'=>⟨c1,c2++_,L1,L2++_,yG,yG,h3,h4.append h'⟩
theorem REs.one {m:Nat}:∀{xs:List (List CT)} {cs:List Value} {L:List Nat},REs w m xs cs L→∀u∈cs,u.oneCell'=true
 | [],_,_,h=>by simp [h.1]
 | _::_,_,_,⟨c1,c2,L1,L2,rfl,rfl,h3,h4⟩=>fun u mu=>by
  rcases A0.1 mu with mu | mu
  ·exact h3.1.one u mu
  ·exact h4.one u mu
theorem ZwP {a b:Nat} (h:Zge a b=2) (ha:a≤2) (hb:b≤2):a=2∧b=2:=by unfold Zge at h;split at h<;>omega
theorem ZpP {fl:Bool} {xs:List (List CT)} (h:Zj5 fl xs=2):ZaN xs=true:=by unfold Zj5 at h;split at h<;>simp_all
theorem ZsI (fl:Bool) (xs:List (List CT)):Zj5 fl xs≤2:=by unfold Zj5;split<;>omega
theorem Zo1 (fl:Bool) (xs:List (List CT)):0<Zj5 fl xs:=by unfold Zj5;split<;>omega
theorem HI.plainD [NW] {ob:Nat→Ob} (h:HI W g ob w) {k b:Nat} (m:b∈g.D k):(W.heap.size≤b∨W.x b)∧∃a e,w.heap[b]?=some (.cells a e (0,0)):=by
 have h1:=h.plain k b (by simp [m])
 have h2:=h.obs k
 cases hk:ob k with
 | map kk vk kv=>
  rw [hk] at h2
  obtain ⟨_,_,_,_,_,h3,_⟩:=h2
  rw [h3] at m;simp at m
 | _=>rw [hk] at h1;exact h1
theorem ZBi [NW] (hI:HI W g st.ob w) {x:SV} {v:Value} {e m:Nat} {xs:List (List CT)} {ks:List Nat} {d:Nat} (h:Zgk st x=some (xs,ks,d)) (a:Zmi st e m x=true) (hx:SVR g w x v) (hu:svU U x):
  ∃cs L,w.ownsV 0 e m v xs.length cs∧REs w m xs cs L∧(∀b∈L,¬g.own b)∧(d=2→L=ks.flatMap g.D)∧v.ownBlock.toList=ks.flatMap g.O∧(∀k∈ks,U k)∧d≤2∧0<d:=by
 unfold Zgk at h
 split at h
 ·simp only[A3,A4] at h
  obtain ⟨rfl,rfl,rfl⟩:=h
  have:=ZtI hx
  subst this
  exact ⟨[],[],ZfF _ _ _ _,⟨rfl,rfl⟩,yG,yG,by simp [Value.ownBlock],yG,yG,yG⟩
 ·rename_i k
  split at h
  ·rename_i e' m' xs' d' hk
   split at h
   ·simp at h
   rename_i c
   simp only[A3,A4] at h
   obtain ⟨rfl,rfl,rfl⟩:=h
   simp only[Zmi,hk,AT,beq_iff_eq] at a
   obtain ⟨rfl,rfl⟩:=a
   have:=Zgn hx
   subst this
   obtain ⟨hm,cs,L,o1,o2,o3,o4,o5⟩:=hI.deepO hk c
   refine ⟨cs,L,o1,o2,o3,fun hd=>?_,by simp [o4],fun q mq=>by simp at mq;subst mq;exact hu (.row q) yG,?_,yE⟩
   ·rcases o5 with ⟨_,o5⟩ | ⟨o5,_⟩
    ·simp [o5]
    ·omega
   ·rcases o5 with ⟨o5,_⟩ | ⟨o5,_⟩<;>omega
  ·simp at h
 ·simp at h
theorem ZAw [NW] (hI:HI W g st.ob w) {x:SV} {v:Value} {m:Nat} {xs:List (List CT)} {ks:List Nat} {d:Nat} {fl:Bool} (h:Zgh st fl x=some (xs,ks,d)) (a:Zk2 st m x=true) (hx:SVR g w x v) (hu:svU U x):
  ∃A c cs L,v=.slice A xs.length c∧REs w m xs cs L∧(0<xs.length→∃b off,A=some ⟨b,off,none⟩∧Qh w b off cs)∧(∀b∈L,¬g.own b)∧(d=2→L.Sublist (ks.flatMap g.D))∧(∀k∈ks,U k)∧d≤2∧0<d:=by
 unfold Zgh at h
 split at h
 ·simp only[A3,A4] at h
  obtain ⟨rfl,rfl,rfl⟩:=h
  simp only[Zk2,beq_iff_eq] at a
  subst a
  obtain ⟨A,cap,cs,L0,L1,rfl,h2,h3,h5,h6,h7,ho⟩:=Zhv hx
  refine ⟨A,cap,cs,L1,rfl,h7,fun hp=>?_,fun b mb=>ho b (by simp [mb]),fun hd=>by rw [Zkj h7 (ZpP hd)];simp,yG,ZsI _ _,Zo1 _ _⟩
  obtain ⟨b,off,h8,_,h9⟩:=h6.at_ hp
  exact ⟨b,off,h8,h9⟩
 ·simp only[A3,A4] at h
  obtain ⟨rfl,rfl,rfl⟩:=h
  have:=ZtI hx
  subst this
  exact ⟨none,0,[],[],rfl,⟨rfl,rfl⟩,yG,yG,yG,yG,yG,yG⟩
 ·rename_i k
  split at h
  ·rename_i e' m' f d' hk
   simp only[Zk2,hk,beq_iff_eq] at a
   subst a
   have:=Zgn hx
   subst this
   obtain ⟨hm,cs,L,o1,o2,o3,o5⟩:=hI.deep hk
   obtain ⟨A,cap,L0,s1,s2,s3,s4,s5⟩:=Sl.row o1
   have e:0<f.length→∃b off,A=some ⟨b,off,none⟩∧Qh w b off cs:=fun hp=>by
    obtain ⟨b,off,h8,_,h9⟩:=s4.at_ hp
    exact ⟨b,off,h8,h9⟩
   split at h
   ·simp only[A3,A4] at h
    obtain ⟨rfl,rfl,rfl⟩:=h
    exact ⟨A,cap,cs,L,s1,o2,e,o3,fun hd=>by rw [Zkj o2 (ZpP hd)];simp,yG,ZsI _ _,Zo1 _ _⟩
   ·rename_i hd0
    simp only[A3,A4] at h
    obtain ⟨rfl,rfl,rfl⟩:=h
    refine ⟨A,cap,cs,L,s1,o2,e,o3,fun hd=>?_,fun q mq=>by simp at mq;subst mq;exact hu (.row q) yG,?_,yE⟩
    ·rcases o5 with ⟨_,_,o5⟩ | ⟨o5,_⟩ | ⟨o5,_⟩
     ·simp [o5]
     ·omega
     ·omega
    ·rcases o5 with ⟨o5,_⟩ | ⟨o5,_⟩ | ⟨o5,_⟩<;>omega
  ·simp at h
 ·simp at h
theorem HI.nodupD [NW] {ob:Nat→Ob} (hI:HI W g ob w):∀{ks:List Nat},ks.Nodup→(ks.flatMap g.D).Nodup
 | [],_=>by simp
 | k::ks,h=>by
  simp only[BG,AG]
  rw [AO] at h
  refine ⟨(AG.1 (hI.nodup k)).2.1,hI.nodupD h.2,fun x hx y hy e=>?_⟩
  subst e
  obtain ⟨j,hj,hy⟩:=AC.1 hy
  exact hI.apart k j (fun e=>h.1 (e ▸ hj)) x (by simp [hx]) (by simp [hy])
theorem ZzT [NW] (htt:∀t i,tt t=some i→TOk P t i) (hI:HI W g st.ob w) (hU:StU U st) (I:¬U key) {t:Nat} {s x:SV} {vs vx:Value} {r:SV × List (Nat × Ob)} (h:Zor st key (tt t) s x=some r) (hs:SVR g w s vs∧svU U s) (hx:SVR g w x vx∧svU U x) {ty:TypeId} {q:Sem Next}
  (hq:q=(do pure (.value (←Builtin.append_ #[t,t] ty #[vs,vx])))):Fin P W U key st g w q r:=by
 unfold Zor at h
 split at h
 ·rename_i e m p z V
  obtain ⟨⟨xs,k1,d1⟩,h1,h⟩:=A9.1 h
  obtain ⟨⟨ys,k2,d2⟩,h2,h⟩:=A9.1 h
  split at h
  ·rename_i hc
   simp only[A3] at h
   subst h
   obtain ⟨X,Y,J,K⟩:=hc
   simp only at J K
   obtain ⟨hu,hm,L,⟨ie,zv,M,Z,aa,ab,ac,ad⟩,_⟩:=htt t _ V
   obtain ⟨cs,Lx,a1,a2,a3,a4,a5,a6,a7,a8⟩:=ZBi hI h1 X hs.1 hs.2
   obtain ⟨A,c,a,Ly,b0,b1,b2,b3,b4,b5,b7,b8⟩:=ZAw hI h2 Y hx.1 hx.2
   subst b0
   obtain ⟨A1,cap1,ae,af,hv3⟩:=QP a1
   have N:a.length=ys.length * m:=b1.len
   obtain ⟨v',w',r1,r2,r3,r4⟩:∃v' w',(Builtin.append_ #[t,t] ty #[vs,.slice A ys.length c]).run P w=.ok v' w'∧w'.ownsV 0 e m v' (xs.length+ys.length) (cs++a)∧w.grownBy w' vs.ownBlock∧(v'.ownBlock=vs.ownBlock∨v'.ownBlock=some w.heap.size):=by
    by_cases hy:ys.length=0
    ·have ag:a=[]:=AI (by rw [N,hy];simp)
     refine ⟨vs,w,?_,by rw [ag,hy,Ag];exact a1,World.grownBy.refl _ _,.inl rfl⟩
     rw [ae,hy]
     exact Zsa hu M A1 A _ _ _ af
    ·obtain ⟨b,off,rfl,E⟩:=b2 yE
     have B:(xs.length+ys.length) * p≤140737488355328:=by
      have:=Bf K L
      omega
     obtain ⟨v',w',q1,q2,q3,q5⟩:=ZgB (P:=P) w 0 t ty e ie zv m p hu M ab Z aa (by rw [←ad,ac.len];simp) hm vs xs.length cs a1 ⟨b,off,none⟩ ys.length c a N
      (fun j u hj=>by rw [ZbY];exact E j u hj) b1.one (by unfold maxLen;omega) B (AM _)
     exact ⟨v',w',q1,q2,q3,q5⟩
   have C:∀b,¬g.own b→some b≠vs.ownBlock:=fun b hn e=>hn (by
    have:b∈vs.ownBlock.toList:=by simp [←e]
    rw [a5] at this
    obtain ⟨k,_,mk⟩:=AC.1 this
    exact .inl ⟨k,mk⟩)
   have d:∀b∈Lx++Ly,w'.heap[b]?=w.heap[b]?:=fun b mb=>by
    rcases A0.1 mb with mb | mb
    ·exact r3.block b (a2.lt b mb) (C b (a3 b mb))
    ·exact r3.block b (b1.lt b mb) (C b (b3 b mb))
   have Q:REs w' m (xs++ys) (cs++a) (Lx++Ly):=(a2.keep fun b mb=>d b (by simp [mb])).append (b1.keep fun b mb=>d b (by simp [mb]))
   have l:∀b∈v'.ownBlock.toList,b∈k1.flatMap g.O∨b=w.heap.size:=fun b mb=>by
    rcases r4 with r4 | r4
    ·rw [r4,a5] at mb;exact .inl mb
    ·rw [r4] at mb;simp at mb;exact .inr mb
   have f:(Zge d1 d2)=2→(Lx++Ly).Sublist ((k1++k2).flatMap g.D):=fun hd=>by
    have hd:=ZwP hd a7 b7
    rw [Bb]
    exact AK (by rw [a4 hd.1];exact AL _) (b4 hd.2)
   have F:∀b∈(if (Zge d1 d2)=2 then Lx++Ly else []),b∈Lx++Ly∧(Zge d1 d2)=2:=fun b mb=>by
    split at mb
    ·rename_i hd;exact ⟨mb,hd⟩
    ·simp at mb
   have R:Bel W w':=by
    refine ⟨r3.os.trans hI.below.os,r3.tape.trans hI.below.tape,r3.output.trans hI.below.output,AD hI.below.size r3.size,fun b hb S=>?_⟩
    rw [r3.block b (AP hb hI.below.size) fun e=>?_]
    ·exact hI.below.block b hb S
    ·have:b∈vs.ownBlock.toList:=by simp [←e]
     rw [a5] at this
     obtain ⟨k,_,mk⟩:=AC.1 this
     rcases (hI.plain k b (by simp [mk])).1 with h | h
     ·omega
     ·exact S h
   obtain ⟨t1,t2⟩:=hI.turn (key:=key) (U:=U) (w':=w') (v:=v') (O:=v'.ownBlock.toList) (D:=if (Zge d1 d2)=2 then Lx++Ly else []) (o:=.row e m (xs++ys) (Zge d1 d2)) hU.ob I (k1++k2)
    (fun k mk=>(A0.1 mk).elim (a6 k) (b5 k)) R r3.size (fun b hb hn=>r3.block b hb fun e=>by
     have:b∈vs.ownBlock.toList:=by simp [←e]
     rw [a5] at this
     obtain ⟨k,hk,mk⟩:=AC.1 this
     exact hn k (by simp [hk]) mk)
    (fun b mb=>by
     rcases l b mb with mb | rfl
     ·obtain ⟨k,hk,mk⟩:=AC.1 mb
      exact .inl ⟨k,by simp [hk],mk⟩
     ·exact .inr (AF _))
    (fun b mb=>by
     obtain ⟨m1,m2⟩:=F b mb
     obtain ⟨k,hk,mk⟩:=AC.1 ((f m2).subset m1)
     exact .inl ⟨k,hk,by simp [mk]⟩)
    (by
     rw [AG]
     refine ⟨by cases v'.ownBlock<;>simp,?_,fun b mb b' ah e=>?_⟩
     ·split
      ·rename_i hd;exact (hI.nodupD J).sublist (f hd)
      ·simp
     ·subst e
      obtain ⟨m1,m2⟩:=F b ah
      rcases l b mb with mb | rfl
      ·obtain ⟨k,_,mk⟩:=AC.1 mb
       rcases A0.1 m1 with m1 | m1
       ·exact a3 b m1 (.inl ⟨k,mk⟩)
       ·exact b3 b m1 (.inl ⟨k,mk⟩)
      ·rcases A0.1 m1 with m1 | m1
       ·have:=a2.lt _ m1;omega
       ·have:=b1.lt _ m1;omega)
    (fun b mb=>by
     rcases A0.1 mb with mb | mb
     ·have ai:W.heap.size≤b∨W.x b:=by
       rcases l b mb with mb | rfl
       ·obtain ⟨k,_,mk⟩:=AC.1 mb
        exact (hI.plain k b (by simp [mk])).1
       ·exact .inl hI.below.size
      rcases r2.2 with ⟨h',_⟩ | ⟨g',o',cap',G,h',hg0,hg,_⟩
      ·simp [h',Value.ownBlock] at mb
      ·simp [h',Value.ownBlock] at mb
       subst mb
       exact ⟨ai,G,e,hg⟩
     ·obtain ⟨m1,m2⟩:=F b mb
      obtain ⟨k,hk,mk⟩:=AC.1 ((f m2).subset m1)
      obtain ⟨p1,G,e',p2⟩:=hI.plainD mk
      exact ⟨p1,G,e',by rw [d b m1];exact p2⟩)
    (fun hown=>⟨hm,cs++a,Lx++Ly,by simpa [Gh.turn,upd] using r2,Q,by
     by_cases hd:Zge d1 d2=2
     ·exact .inl ⟨hd,by simp [Gh.turn,upd],by simp [Gh.turn,hd]⟩
     ·have aj:Zge d1 d2=1:=by unfold Zge at hd ⊢;split<;>simp_all<;>omega
      refine .inr (.inl ⟨aj,by simp [Gh.turn,upd],by simp [Gh.turn,hd],fun b mb ho=>?_⟩)
      have H:¬g.own b:=by
       rcases A0.1 mb with m1 | m1
       ·exact a3 b m1
       ·exact b3 b m1
      rcases ZfA ho with mo | ⟨k,_,_,mk⟩ | hz
      ·rcases l b mo with mo | rfl
       ·obtain ⟨k,_,mk⟩:=AC.1 mo
        exact H (.inl ⟨k,mk⟩)
       ·rcases A0.1 mb with m1 | m1
        ·have:=a2.lt _ m1;omega
        ·have:=b1.lt _ m1;omega
      ·exact H (.inl ⟨k,mk⟩)
      ·exact H (.inr hz)⟩)
   have T:=Zjx (key:=key) (o:=.row e m (xs++ys) (Zge d1 d2)) hU (k1++k2) trivial
   refine ⟨_,v',w',.inl (by subst hq;simp only[Sem.run_bind,r1,Result.andThen_ok,Sem.run_pure]),t1,⟨_,rfl,⟨by simp [Gh.turn,upd],?_⟩⟩,t2,fun y my=>by simp at my;subst my;exact ZkS,T.1,T.2⟩
   obtain ⟨A2,cap2,ak⟩:=Zdl r2
   simp [ak,Value.oneCell']
  ·simp at h
 ·simp at h
end
end
section
open Go.RowKit
section
variable {P:Program} {W:ZaK} {U:Nat→Prop} {key:Nat} {st:St} {g:Gh} {w w':World} {a:Act} {tt:Nat→Option TI}
theorem RCs.dropS:∀{x:List CT} {c:List Value} {L:List Nat} (n:Nat),RCs w x c L→∃L',RCs w (x.drop n) (c.drop n) L'∧L'.Sublist L
 | x,c,L,0,h=>⟨L,by simpa using h,AL _⟩
 | [],c,L,n+1,h=>⟨[],by obtain ⟨rfl,rfl⟩:=h;simp [RCs],AX _⟩
 | x::r,_,_,n+1,⟨v,cs',L1,L2,rfl,rfl,h1,h2⟩=>by
  obtain ⟨L',a1,a2⟩:=RCs.dropS n h2
  exact ⟨L',by simpa using a1,a2.trans (Ay L1 L2)⟩
theorem RCs.spliceS [NW] {x:List CT} {c:List Value} {L:List Nat} {ys:List CT} {us:List Value} (h:RCs w x c L) (h':RCs w ys us []):∀(off:Nat),∃L',RCs w (splice x off ys) (splice c off us) L'∧L'.Sublist L:=by
 have hl:us.length=ys.length:=h'.len
 intro off
 induction off generalizing x c L with
 | zero=>
  obtain ⟨L',a1,a2⟩:=h.dropS (0+ys.length)
  refine ⟨[]++L',?_,a2⟩
  simp only[splice,BK,BZ,hl]
  exact h'.append a1
 | succ off ih=>
  cases x with
  | nil=>
   obtain ⟨rfl,rfl⟩:=h
   refine ⟨[],?_,AX _⟩
   simpa [splice] using h'
  | cons x r=>
   obtain ⟨v,a,L1,L2,rfl,rfl,h1,h2⟩:=h
   obtain ⟨L',a1,a2⟩:=ih h2
   refine ⟨L1++L',?_,AK (AL _) a2⟩
   have e1:splice (x::r) (off+1) ys=x::splice r off ys:=by
    simp only[splice,Bh,Ax]
    rw [show off+1+ys.length=(off+ys.length)+1 by omega,Bi]
   have e2:splice (v::a) (off+1) us=v::splice a off us:=by
    simp only[splice,Bh,Ax]
    rw [show off+1+us.length=(off+us.length)+1 by omega,Bi]
   rw [e1,e2]
   exact ⟨v,_,L1,L',rfl,rfl,h1,a1⟩
theorem ZkN {α:Type} (c1 c2:List α) (off:Nat) (us:List α):splice (c1++c2) (c1.length+off) us=c1++splice c2 off us:=by
 simp only[splice]
 rw [Ba,AA,BE,BF (BY _ _),AQ]
 simp
theorem Zgv {α:Type} (c1 c2:List α) (off:Nat) (us:List α) (h:off+us.length≤c1.length):splice (c1++c2) off us=splice c1 off us++c2:=by
 simp only[splice]
 rw [List.take_append_of_le_length yE,As h]
 simp
theorem REs.set [NW] {m:Nat} {ys:List CT} {us:List Value} (h':RCs w ys us []):∀{xs:List (List CT)} {cs:List Value} {L:List Nat} {i off:Nat} {x:List CT},REs w m xs cs L→xs[i]?=some x→off+us.length≤m→
  ∃L',REs w m (xs.set i (splice x off ys)) (splice cs (i * m+off) us) L'∧L'.Sublist L
 | [],_,_,_,_,_,_,hx,_=>by simp at hx
 | e::r,_,_,0,off,x,⟨c1,c2,L1,L2,rfl,rfl,h3,h4⟩,hx,ho=>by
  simp at hx;subst hx
  obtain ⟨L',a1,a2⟩:=h3.1.spliceS h' off
  refine ⟨L'++L2,?_,AK a2 (AL _)⟩
  rw [Ae,Aa,Zgv _ _ _ _ (by rw [h3.2];exact ho)]
  exact ⟨splice c1 off us,c2,L',L2,rfl,rfl,⟨a1,by rw [Zgc _ _ _ (by rw [h3.2];exact ho)];exact h3.2⟩,h4⟩
 | e::r,_,_,i+1,off,x,⟨c1,c2,L1,L2,rfl,rfl,h3,h4⟩,hx,ho=>by
  obtain ⟨L',a1,a2⟩:=REs.set h' h4 (i:=i) (off:=off) (x:=x) (by simpa using hx) ho
  refine ⟨L1++L',?_,AK (AL _) a2⟩
  have e:(i+1) * m+off=c1.length+(i * m+off):=by rw [h3.2,A6];omega
  rw [e,ZkN]
  exact ⟨c1,_,L1,L',rfl,rfl,h3,a1⟩
theorem Zpj [NW]:∀{vs:List AV} {ys:List CT} {us:List Value},Zjl vs=some ys→ZM (AVR g w) vs us→RCs w ys us []
 | [],_,[],h,_=>by simp [Zjl] at h;subst h;exact ⟨rfl,rfl⟩
 | [],_,_::_,_,h=>h.elim
 | _::_,_,[],_,h=>h.elim
 | x::vs,ys,u::us,h,hr=>by
  simp only[Zjl] at h
  obtain ⟨y,h1,h⟩:=A9.1 h
  obtain ⟨b,h2,rfl⟩:=A5.1 h
  have hx:x=.c y∧y.flat=true:=by
   cases x with
   | c z=>cases z<;>simp [Zut] at h1<;>subst h1<;>exact ⟨rfl,rfl⟩
   | _=>simp [Zut] at h1
  obtain ⟨rfl,hf⟩:=hx
  obtain ⟨L,hL,_⟩:=hr.1
  have a:L=[]:=by
   cases y with
   | int k n=>exact hL.2
   | bool b=>exact hL.2
   | str s=>exact hL.2.1
   | _=>simp [CT.flat] at hf
  subst a
  exact ⟨u,us,[],[],rfl,rfl,hL,Zpj h2 hr.2⟩
theorem Zw2 [NW] (htt:∀t i,tt t=some i→TOk P t i) (hI:HI W g st.ob w) (hU:StU U st) {t k m i off e:Nat} {xs:List (List CT)} {d:Nat} {x ys:List CT} {vs:List AV} {va vv:Value} {ag:Bool} (hk:st.ob k=.row e m xs d) (S:¬d=0) (hx:xs[i]?=some x) (T:Zjl vs=some ys) (hl:vs.length=ZiO (tt t)) (ho:off+vs.length≤m)
  (ha:SVR g w (.rp k m i off) va) (hv:SVR g w (.p ag vs) vv) (l:0<vs.length) {s:Sem Next} (hs:s=(do Instr.storeAt t va vv;pure .skip)):Fin P W U key st g w s (.und,[(k,.row e m (xs.set i (splice x off ys)) d)]):=by
 obtain ⟨b,o,n,c,h1,rfl⟩:=ha
 obtain ⟨hm,cs,L,o1,o2,o3,o4,o5⟩:=hI.deepO hk S
 obtain ⟨us,c1,c2⟩:=PVR.cells hv
 have V:=c2.len
 have hi:i<xs.length:=(AH.1 hx).1
 rcases o1.2 with ⟨_,hn⟩ | ⟨b',o',cap,a,y,X,hg,F,Y,aa,ab⟩
 ·omega
 have ac:b=b'∧o=o':=by rw [y] at h1;simp at h1;exact ⟨h1.1.1.symm,h1.1.2.symm⟩
 obtain ⟨rfl,rfl⟩:=ac
 have hlt:i * m+off+us.length≤xs.length * m:=by
  have:=AJ m (show i+1≤xs.length by omega)
  rw [A6] at this
  omega
 have hcap:xs.length * m≤cap * m:=AJ m F
 have A:(sizeOf t).run P w=.ok us.length w:=by
  rw [←V,hl]
  unfold ZiO at hl ⊢
  cases hti:tt t with
  | none=>rw [hti] at hl;simp at hl;simp [hl] at l
  | some i=>
   cases i with
   | atom z=>obtain ⟨d,zv,i,_,_,h3,_,h4,_⟩:=htt t _ hti;rw [XX h3,h4]
   | strct fs n z=>obtain ⟨_,i,_,_,h3,h4,_⟩:=htt t _ hti;rw [XX h3,h4]
   | slice e m b z=>obtain ⟨_,_,_,_,j,h3,h4,_⟩:=htt t _ hti;rw [XX h3,h4]
   | _=>rw [hti] at hl;simp at hl;simp [hl] at l
 have G:=run_storeCells_at (P:=P) b (o+(i * m+off)) e us 0 a w hg yE (AVRs.one c2)
 obtain ⟨r1,r2,r3,r4,r5,r6⟩:=ZpF b a (splice a.toList (o+(i * m+off)) us).toArray e hg
 have H:s.run P w=.ok .skip (w.setRow b (splice a.toList (o+(i * m+off)) us).toArray):=by
  subst hs
  have e:(a.toList.take (o+(i * m+off)+0)++us++a.toList.drop (o+(i * m+off)+0+us.length)).toArray=(splice a.toList (o+(i * m+off)) us).toArray:=by simp [splice]
  rw [e] at G
  simp [Instr.storeAt,Instr.sureAddr,storeVar,c1,A,G]
 have B:g.O k=[b]:=by rw [o4,y];rfl
 have I:∀b',b'<w.heap.size→¬g.own b'→(w.setRow b (splice a.toList (o+(i * m+off)) us).toArray).heap[b']?=w.heap[b']?:=fun b' _ hn=>r2 b' fun e=>hn (.inl ⟨k,by simp [B,e]⟩)
 obtain ⟨L',q1,q2⟩:=o2.set (Zpj T c2) hx (show off+us.length≤m by omega)
 have C:(w.setRow b (splice a.toList (o+(i * m+off)) us).toArray).ownsV 0 e m (g.val k) (xs.set i (splice x off ys)).length (splice cs (i * m+off) us):=by
  have J:cs.length=xs.length * m:=o1.1
  refine ⟨by rw [Zgc _ _ _ yE,J];simp,.inr ⟨b,o,cap,_,by simpa using y,X,r1,by simpa using F,Y,by rw [Ao,Zgc _ _ _ (show o+(i * m+off)+us.length≤a.toList.length by simp;omega)];simpa using aa,?_⟩⟩
  have h0:((splice a.toList (o+(i * m+off)) us).toArray.toList).drop o=splice (a.toList.drop o) (i * m+off) us:=by
   show (splice a.toList (o+(i * m+off)) us).drop o=_
   unfold splice
   have ad:o≤(a.toList.take (o+(i * m+off))).length:=by simp;omega
   rw [As ad,AZ,AQ,BL,AA]
  rw [h0]
  have:a.toList.drop o=cs++(a.toList.drop o).drop (xs.length * m):=by rw [←ab];exact (Au _ _).symm
  rw [this,Zgv _ _ _ _ yE]
  have e2:(xs.set i (splice x off ys)).length * m=(splice cs (i * m+off) us).length:=by rw [Zgc _ _ _ yE,J];simp
  rw [e2]
  exact Bc rfl
 have K:=o2.lt
 have E:REs (w.setRow b (splice a.toList (o+(i * m+off)) us).toArray) m (xs.set i (splice x off ys)) (splice cs (i * m+off) us) L':=q1.keep fun b' mb=>I b' (K b' (q2.subset mb)) (o3 b' (q2.subset mb))
 let g':Gh:=⟨g.val,g.O,upd g.D k (if d=2 then L' else []),g.Z⟩
 have hgo:∀b',g'.own b'↔g.own b':=fun b'=>Iff.rfl
 have M:(∀b'∈g'.D k,b'∈g.D k)→QU g g' w.heap.size:=fun hs=>.of (fun b' h=>.inl h) fun j b' mb=>by
  by_cases hj:j=k
  ·subst hj;exact .inl (.inr ⟨j,hs b' mb⟩)
  ·exact .inl (.inr ⟨j,by simpa [g',ZP _ _ hj] using mb⟩)
 have f:∀b'∈g'.D k,b'∈g.D k:=fun b' mb=>by
  simp only[g',ZF] at mb
  split at mb
  ·rename_i hd
   rcases o5 with ⟨_,o5⟩ | ⟨o5,_⟩
   ·rw [o5];exact q2.subset mb
   ·omega
  ·simp at mb
 refine ⟨g',undef,_,.inr ⟨H,rfl⟩,?_,rfl,fun x u hx hu=>hu.move hx (fun _ _=>rfl) I (M f) yE,trivial,fun q=>?_,fun q hq=>?_⟩
 ·refine hI.step (U:=U) (fun q=>q=k) ?_ rfl (fun b' _ hn=>r2 b' fun e=>hn k rfl (by simp [B,e])) (fun q hq=>⟨ZP _ _ hq,rfl,rfl,ZP _ _ hq⟩) hU.ob (fun _ _=>rfl) (M f) (fun q hq=>?_)
  ·exact ⟨r4.trans hI.below.os,r5.trans hI.below.tape,r6.trans hI.below.output,by have:=hI.below.size;omega,fun q hq N=>by rw [r2 q (fun e=>by subst e;rcases (hI.plain k q (by simp [B])).1 with h | h;omega;exact N h)];exact hI.below.block q hq N⟩
  ·subst hq
   have v:∀b'∈g'.O q++g'.D q,b'∈g.O q++g.D q:=fun b' mb=>by
    rcases A0.1 mb with mb | mb
    ·exact A0.2 (.inl mb)
    ·exact A0.2 (.inr (f b' mb))
   refine ⟨?_,?_,fun b' mb=>?_,fun j hj b' mb mj=>?_⟩
   ·simp only[Zn,ZF]
    refine ⟨hm,_,L',C,E,?_⟩
    rcases o5 with ⟨o5,_⟩ | ⟨o5,_⟩
    ·exact .inl ⟨o5,o4,by simp [g',upd,o5]⟩
    ·exact .inr (.inl ⟨o5,o4,by simp [g',upd,o5],fun b' mb=>o3 b' (q2.subset mb)⟩)
   ·have hn:=hI.nodup q
    refine hn.sublist (AK (AL _) ?_)
    simp only[g',ZF]
    split
    ·rename_i hd
     rcases o5 with ⟨_,o5⟩ | ⟨o5,_⟩
     ·rw [o5];exact q2
     ·omega
    ·exact AX _
   ·have hp:=hI.plain q b' (v b' mb)
    rw [hk] at hp
    obtain ⟨p1,Q,e',p2⟩:=hp
    refine ⟨p1,?_⟩
    simp only[Zn,ZF]
    show ∃a e,_=_
    by_cases R:b'=b
    ·subst R;exact ⟨_,_,r1⟩
    ·exact ⟨Q,e',by rw [r2 b' R];exact p2⟩
   ·have ae:b'∈g.O j++g.D j:=by
     rcases A0.1 mj with mj | mj
     ·exact A0.2 (.inl mj)
     ·simp only[g',ZP _ _ (fun e:j=q=>hj e.symm)] at mj;exact A0.2 (.inr mj)
    exact hI.apart q j hj b' (v b' mb) ae
 ·simp only[Zn,upd]
  split
  ·trivial
  ·exact (hU.ob q).mono fun _=>.inl
 ·simp only[Zn,upd]
  split
  ·rename_i e;subst e
   exact absurd (hU.gone q fun h=>hq (.inl h)) (by simp [hk])
  ·exact hU.gone q fun h=>hq (.inl h)
end
end
end Go.Proofs.YtlpkbfjcdaanmaaGreatDoor
