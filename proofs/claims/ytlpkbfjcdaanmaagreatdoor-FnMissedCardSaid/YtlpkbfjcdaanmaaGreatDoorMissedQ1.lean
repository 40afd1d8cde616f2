/- A part of the proof; no conditions. -/
import Derived.WalkKit
import Derived.Lib.Hide
import Derived.Deep.Draws
import Derived.Maps.AppendAt
import Derived.Deep.QuietTactic
import Derived.BigQuiet
import Derived.IntWalk
import Derived.Lib.ItoaNum
import Derived.Lib.Bytealg
import Derived.Lib.Join
import Derived.Lib.Atoi
open Array renaming getElem?_eq_some_iff→AD,length_toList→AG
open Bool renaming and_eq_true→Ad
open ByteArray renaming size→AC
open Go.ByteArray renaming toList_eq→Ae
open Int renaming toNat_natCast→Ab
open List renaming mem_cons→A0,mem_append→A3,map→A4,map_cons→A5,getElem?_eq_some_iff→A6,append_assoc→A7,length_map→A8,pairwise_cons→A9,length_append→AE,getElem?_eq_getElem→AL,nodup_nil→AM,map_nil→AN,eq_nil_of_length_eq_zero→AO,size_toArray→AP,length_take→AQ,length_drop→AR,drop_take→AS,take_left→AU,drop_zero→AW,take_zero→AX,drop_eq_getElem_cons→AY,length_cons→AZ,cons_append→Aa,foldl_cons→Af,append_inj'→Ag
open List.Pairwise renaming nil→AK
open Nat renaming add_mul→AA,mul_le_mul_right→AF,sub_mul→AH,add_sub_cancel_left→AT
open Option renaming map_some→AB,bind_some→AI
open Option.some renaming inj→AJ
open Sum.inl renaming inj→Ac
set_option linter.unusedSimpArgs false
set_option linter.unusedVariables false
set_option maxRecDepth 1000000
set_option maxHeartbeats 4000000
namespace Go.Proofs.YtlpkbfjcdaanmaaGreatDoor
theorem yE{p:Prop}(h:p:=by omega):p:=h
theorem yF{p:Prop}(h:p:=by decide):p:=h
theorem yG{p:Prop}(h:p:=by simp):p:=h
theorem yH{p:Prop}(h:p:=by rfl):p:=h
theorem yK{p:Prop}(h:p:=by first | (simp;done) | (simp;omega) | omega):p:=h
theorem yI{p:Prop}(h:p:=by repeat (first | refine Below.setCell ?_ (by dsimp only;omega) _ | refine Below.alloc ?_ (by first | (simp;done) | (simp;omega) | omega) _ | exact Below.refl _ _)):p:=h
theorem yi{p:Prop}(h:p):p:=h
section
open Go.RowKit
theorem ZbY (b off j:Nat):(⟨b,off,none⟩:Addr).add j=⟨b,off+j,none⟩:=by
 unfold Addr.add;split<;>simp_all
def Qh (w:World) (b off:Nat) (xs:List Value):Prop:=∀j u,xs[j]?=some u->w.cell? ⟨b,off+j,none⟩=some u
def Sl (w:World) (size:Nat) (A:Option Addr) (n:Nat) (xs:List Value) (L:List Nat):Prop:=
 xs.length=n*size/\((n=0/\L=[])\/(0<n/\∃b off,A=some ⟨b,off,none⟩/\L=[b]/\Qh w b off xs))
section
variable {w w':World} {size n:Nat} {A:Option Addr} {xs:List Value} {L:List Nat}
theorem Sl.zero:Sl w size A 0 [] []:=⟨yG,.inl ⟨rfl,rfl⟩⟩
theorem Sl.at_ (h:Sl w size A n xs L) (hn:0<n):∃b off,A=some ⟨b,off,none⟩/\L=[b]/\Qh w b off xs:=by
 rcases h.2 with ⟨h0,_⟩|⟨_,h⟩
 .omega
 .exact h
theorem Sl.keep (h:Sl w size A n xs L) (hk:∀b∈L,w'.heap[b]?=w.heap[b]?):Sl w' size A n xs L:=by
 refine ⟨h.1,?_⟩;rcases h.2 with h0|⟨hn,b,off,hA,hL,hc⟩
 .exact .inl h0
 .refine .inr ⟨hn,b,off,hA,hL,fun j u hu=>?_⟩;rw [<-hc j u hu];exact World.cell?_of_block (hk b (by simp [hL]))
theorem Sl.lt (h:Sl w size A n xs L) (hs:0<size):∀b∈L,b<w.heap.size:=by
 rcases h.2 with h0|⟨hn,b,off,hA,hL,hc⟩
 .simp [h0.2]
 .intro x hx;rw [hL]at hx;simp at hx;subst hx;have hp:0<xs.length:=by rw [h.1];exact Nat.mul_pos hn hs
  exact World.block_lt_of_cell? w _ (hc 0 _ (AL hp))
end
structure Own (w:World) (base:Nat) (L:List Nat):Prop where
 nodup:L.Nodup
 ge:∀b∈L,base<=b
 plain:∀b∈L,∃cur e,w.heap[b]?=some (.cells cur e (0,0))
theorem Own.nil (w:World) (base:Nat):Own w base []:=⟨AM,yG,yG⟩
theorem Zy {B:Nat}{w w':World}{L:List Nat}(hb:Below B w w') (h:∀b∈L,b<B):∀b∈L,w'.heap[b]?=w.heap[b]?:=
 fun b m=>hb.block b (h b m)
theorem Zrz {B:Nat}{a w:World}(h:Below B a w) (n:Nat):Below B a (w.drewN n):=⟨h.os,h.tape,h.output,h.size,h.block⟩
theorem Zyx {P:Program}{l:Array Oper}{f:List Oper}{o:Oper}{a:Act}{Q:Exit->Act->World->Prop}{w0:World}(q:o.guard=none) (s x:Operand) (t:TypeId)
  (ho:o.op=.call {callee:=.builtin .append,args:=#[s,x],argTypes:=#[t,t]})
  (e:TypeId) (z:Value) (size c:Nat) (ht:P.underlying t=some (.slice e)) (hi:(P.info? e).map (fun i=>(i.zero,i.size,i.bytes))=some (some z,size,c)) (w:z.cells.size=size) (y:0<size)
  (base:Nat) (v:Value) (n:Nat) (xs b:List Value) (hs:a.eval s=v) (hx:a.eval x=.slice (some ⟨w0.heap.size,0,none⟩) 1 1) (m:w0.ownsRow base e size v n xs)
  (hl:b.length=size) (h1:∀u∈b,u.oneCell'=true) (h63:n+1<=9223372036854775807) (d:(n+1)*c<=140737488355328) (hbase:base<=w0.heap.size)
  (h:∀v' w',w'.ownsRow base e size v' (n+1) (xs++b)->w0.grownBy w' v.ownBlock->(∀g,v'.ownBlock=some g->v.ownBlock=some g\/w0.heap.size<=g)->wpList P l Q f (a.put o.dst v') w'):
  wpList P l Q (o::f) a (w0.alloc (.cells b.toArray e)):=by
 obtain ⟨i,A,B,C,D⟩:=info_parts hi;refine wpList_plain q fun K hK=>?_;obtain ⟨v',w',p,h2,h3,_,h5⟩:=run_append_own_at (P:=P) (w0.alloc (.cells b.toArray e)) base t o.type e i z size c ht A B C D w y v n xs (m.alloc _) ⟨w0.heap.size,0,none⟩ 1 1 b
  yE (fun j u hu=>by rw [ZbY];rw [cell_of_row _ w0.heap.size (0+j) b.toArray e (0,0) (heap_alloc_new w0 _)];simpa using hu) h1 (by unfold maxLen;omega) d (by simp;omega)
 unfold Oper.wp execOp;simp only[ho,resolve,invoke,builtin,Sem.run_bind,Sem.run_pure,Result.andThen_ok,List.map_toArray,A5,AN,hs,hx,p];refine hK _ _ (h v' w' h2 ?_ ?_)
 .exact ⟨h3.os,h3.tape,h3.output,Nat.le_trans yG h3.size,fun k hk hn=>(h3.block k (by simp;omega) hn).trans (Below.heap_alloc w0 _ k hk)⟩
 .intro g hg;rcases h5 with h5|h5<;>rw [h5]at hg
  .exact .inl hg
  .simp at hg;exact .inr yE
theorem ZqS {w:World}{base:Nat}{e:TypeId}{size n:Nat}{v:Value}{xs:List Value}(h:w.ownsRow base e size v n xs):∀k,v.ownBlock=some k->base<=k:=fun k hk=>(h.lt k hk).1
section
variable {w w':World} {n:Nat} {A:Option Addr} {zs:List Int} {L:List Nat}
end
section
variable {P:Program} {f:FuncId} {args:Array Value} {w:World} {a n:Nat} {v:Value}
end
end
end Go.Proofs.YtlpkbfjcdaanmaaGreatDoor
namespace Go.Proofs.YtlpkbfjcdaanmaaGreatDoor
open Go.RowKit
end Go.Proofs.YtlpkbfjcdaanmaaGreatDoor
namespace Go
open Go.RowKit Go.Proofs.YtlpkbfjcdaanmaaGreatDoor
def World.ownsV (w:World) (base:Nat) (e:TypeId) (size:Nat) (v:Value) (n:Nat) (xs:List Value):Prop :=
  xs.length=n*size /\ ((v=.slice none 0 0 /\ n=0) \/
   ∃ g o cap cur, v=.slice (some ⟨g, o, none⟩) n cap /\ base <= g /\ w.heap[g]?=some (.cells cur e (0, 0)) /\ n <= cap /\ cap <= maxLen /\ o+cap*size <= cur.size /\ (cur.toList.drop o).take (n*size)=xs)
end Go
namespace Go.Proofs.YtlpkbfjcdaanmaaGreatDoor
open Go.RowKit
section
variable {w w':World} {base:Nat} {e:TypeId} {size n:Nat} {v:Value} {xs:List Value}
theorem ZdZ (h:w.ownsRow base e size v n xs):w.ownsV base e size v n xs:=by
 refine ⟨h.1,?_⟩;rcases h.2 with h0|⟨g,cap,a,h1,h2,h3,h4,h5,h6,h7⟩
 .exact .inl h0
 .exact .inr ⟨g,0,cap,a,h1,h2,h3,h4,h5,yE,by simpa using h7⟩
theorem ZfF (w:World) (base:Nat) (e:TypeId) (size:Nat):w.ownsV base e size (.slice none 0 0) 0 []:=ZdZ (World.ownsRow_nil _ _ _ _)
theorem QP (h:w.ownsV base e size v n xs):∃A c,v=.slice A n c/\n<=c/\c<=maxLen:=by
 rcases h.2 with ⟨rfl,rfl⟩|⟨g,o,cap,cur,rfl,hb,hg,a,hm,hs,ht⟩
 .exact ⟨none,0,rfl,Nat.le_refl _,Nat.zero_le _⟩
 .exact ⟨_,cap,rfl,a,hm⟩
theorem ZtJ {a:Nat}(h:w.ownsV base e size v n xs) (hb:a<=base):w.ownsV a e size v n xs:=by
 refine ⟨h.1,?_⟩;rcases h.2 with h0|⟨g,o,cap,b,h1,h2,h3⟩
 .exact .inl h0
 .exact .inr ⟨g,o,cap,b,h1,Nat.le_trans hb h2,h3⟩
theorem Zi6 (h:w.ownsV base e size v n xs):∀b∈v.ownBlock.toList,b<w.heap.size:=by
 rcases h.2 with ⟨h0,_⟩|⟨g,o,cap,cur,hv,_,hc,_⟩
 .simp [h0,Value.ownBlock]
 .intro b mb;simp [hv,Value.ownBlock]at mb;subst mb;exact (AD.1 hc).1
theorem Zcc (h:w.ownsV base e size v n xs) (hk:∀b∈v.ownBlock.toList,w'.heap[b]?=w.heap[b]?):w'.ownsV base e size v n xs:=by
 refine ⟨h.1,?_⟩;rcases h.2 with h0|⟨g,o,cap,a,hv,hg,hc,r⟩
 .exact .inl h0
 .refine .inr ⟨g,o,cap,a,hv,hg,?_,r⟩;rw [hk g (by simp [hv,Value.ownBlock])];exact hc
theorem ZjA {g o n' cap:Nat}(h:w.ownsV base e size v n xs) (a:v=.slice (some ⟨g,o,none⟩) n' cap):∀j u,xs[j]?=some u->w.cell? ⟨g,o+j,none⟩=some u:=by
 intro j u hj;subst a;rcases h.2 with ⟨h0,_⟩|⟨g',o',cap',b,hv,hb,hg,hnc,hm,hs,ht⟩
 .simp at h0
 .simp only[Value.slice.injEq,Option.some.injEq,Addr.mk.injEq,and_true,true_and]at hv;obtain ⟨⟨rfl,rfl⟩,rfl,rfl⟩:=hv;rw [cell_of_row w g (o+j) b e (0,0) hg];rw [<-ht]at hj;have hl:j<n' * size:=by
   have:=(A6.1 hj).1;simp at this;omega
  rw [List.getElem?_take_of_lt hl,List.getElem?_drop]at hj;simpa using hj
theorem Sl.of_ownV {c:Nat}{A:Option Addr}(h:w.ownsV base e size (.slice A n c) n xs):∃L,Sl w size A n xs L/\Own w base L/\∀b∈L,∃o,A=some ⟨b,o,none⟩:=by
 rcases h.2 with ⟨hv,hn⟩|⟨g,o,cap,a,hv,hb,hg,hnc,hm,hs,ht⟩
 .subst hn;exact ⟨[],⟨h.1,.inl ⟨rfl,rfl⟩⟩,Own.nil _ _,yG⟩
 .injection hv with hA _ hc;subst hA;subst hc;rcases Nat.eq_zero_or_pos n with h0|h0
  .subst h0;exact ⟨[],⟨h.1,.inl ⟨rfl,rfl⟩⟩,Own.nil _ _,yG⟩
  .refine ⟨[g],⟨h.1,.inr ⟨h0,g,o,rfl,rfl,fun j u hu=>ZjA h rfl j u hu⟩⟩,⟨yG,by simpa using hb,fun b m=>?_⟩,yG⟩;simp at m;subst m;exact ⟨a,e,hg⟩
end
section
variable {P:Program} (w:World)
theorem Zj4 (t ty e:TypeId) (i:TypeInfo) (ht:P.underlying t=some (.slice e)) (hi:P.info? e=some i)
  (g o d f:Nat) (k:Array Value) (hg:w.heap[g]?=some (.cells k e (0,0)))
  (a:Addr) (m c:Nat) (b:List Value) (hl:b.length=m*i.size) (l:∀j u,b[j]?=some u->w.cell? (a.add j)=some u) (h1:∀u∈b,u.oneCell'=true)
  (p:d+m<=f) (q:o+d*i.size+b.length<=k.size):
  (Builtin.append_ #[t,t] ty #[.slice (some ⟨g,o,none⟩) d f,.slice (some a) m c]).run P w=
   .ok (.slice (some ⟨g,o,none⟩) (d+m) f) (w.setRow g (k.toList.take (o+d*i.size)++b++k.toList.drop (o+d*i.size+b.length)).toArray):=by
 have hf:=run_firstCells_some (P:=P) w i.size m a m c b hl l;have v:=run_storeCells_at P g (o+d*i.size) e b 0 k w hg (by simpa using q) h1;simp only[Nat.add_zero]at v;simp [Builtin.append_,run_underlying ht,sizeOf,typeInfo,hi,Builtin.lenOf,p,hf,Addr.add_lit,v]
theorem ZgB (base:Nat) (t ty e:TypeId) (i:TypeInfo) (z:Value) (size f:Nat) (ht:P.underlying t=some (.slice e)) (hi:P.info? e=some i) (hz:i.zero=some z)
  (A:i.size=size) (F:i.bytes=f) (G:z.cells.size=size) (J:0<size)
  (v:Value) (n:Nat) (xs:List Value) (d:w.ownsV base e size v n xs)
  (a:Addr) (m c:Nat) (b:List Value) (hl:b.length=m*size) (l:∀j u,b[j]?=some u->w.cell? (a.add j)=some u) (h1:∀u∈b,u.oneCell'=true)
  (C:n+m<=maxLen) (q:(n+m)*f<=140737488355328) (B:base<=w.heap.size):
  ∃v' w',(Builtin.append_ #[t,t] ty #[v,.slice (some a) m c]).run P w=.ok v' w'/\w'.ownsV base e size v' (n+m) (xs++b)/\w.grownBy w' v.ownBlock/\
   (v'.ownBlock=v.ownBlock\/v'.ownBlock=some w.heap.size):=by
 rcases d.2 with ⟨rfl,rfl⟩|⟨g,o,cap,y,rfl,K,hg,hnc,L,hcs,D⟩
 .have hx:xs=[]:=AO (by simpa using d.1);subst hx;obtain ⟨v',w',r1,r2,r3,_,r5⟩:=run_append_own_at (P:=P) w base t ty e i z size f ht hi hz A F G J _ 0 [] (World.ownsRow_nil w base e size) a m c b hl l h1 C q B;exact ⟨v',w',r1,ZdZ r2,r3,r5⟩
 .subst A;subst F;have hsmall:n+m<=9223372036854775807:=by simp only[maxLen]at C;omega
  have x:(xs++b).length=(n+m)*i.size:=by rw [AE,d.1,hl,AA]
  by_cases p:n+m<=cap
  .have H:o+n*i.size+b.length<=y.size:=by
    have:=AF i.size p;rw [AA]at this;rw [hl];omega
   have hr:=Zj4 (P:=P) w t ty e i ht hi g o n cap y hg a m c b hl l h1 p H;refine ⟨_,_,hr,⟨x,.inr ⟨g,o,cap,_,rfl,K,setRow_heap w g y _ e _ hg,p,L,?_,?_⟩⟩,⟨rfl,rfl,rfl,yG,fun k _ hk=>setRow_other w g k _ (fun e=>hk (by simp [Value.ownBlock,e]))⟩,.inl rfl⟩
   .simp only[AP,AE,AQ,AR,AG];omega
   .show List.take _ (List.drop o (y.toList.take (o+n*i.size)++b++_))=_
    have hx:(y.toList.take (o+n*i.size)).drop o=xs:=by
     rw [AS,AT];exact D
    have ho:o<=(y.toList.take (o+n*i.size)).length:=by simp;omega
    rw [A7,List.drop_append_of_le_length ho,hx,<-A7,<-x];exact AU
  .have E:∀j u,xs[j]?=some u->w.cell? ((⟨g,o,none⟩:Addr).add j)=some u:=fun j u hj=>by
    rw [Addr.add_lit];exact ZjA d rfl j u hj
   have hr:=run_append_grow (P:=P) w t ty e i z ht hi hz ⟨g,o,none⟩ n cap xs d.1 E a m c b hl l yE yE (growslice_fits yE q);have M:=grownCap_ge w (n+m) cap e;have I:grownCap w (n+m) cap e<=maxLen:=grownCap_le_maxLen w (n+m) cap e C;refine ⟨_,_,hr,⟨x,.inr ⟨w.heap.size,0,_,_,rfl,B,heap_alloc_new w.drew _,M,I,?_,?_⟩⟩,⟨rfl,rfl,rfl,yG,fun k hk _=>heap_alloc_old w.drew _ hk⟩,.inr rfl⟩
   .simp only[Array.size_append,AP,size_zeroCells,G,d.1,hl,<-AA];rw [Nat.zero_add];exact AF _ yE
   .rw [AW];simp only[Array.toList_append,A7];rw [<-A7,<-x];exact AU
theorem Zug {w:World}{base:Nat}{e:TypeId}{size n l c:Nat}{A:Option Addr}{xs:List Value}(h:w.ownsV base e size (.slice A n c) n xs) (hl:l<=n):
  w.ownsV base e size (.slice (if c=l then A else A.map (·.add (l*size))) (n-l) (c-l)) (n-l) (xs.drop (l*size))/\(Value.slice (if c=l then A else A.map (·.add (l*size))) (n-l) (c-l)).ownBlock=(Value.slice A n c).ownBlock:=by
 have a:(xs.drop (l*size)).length=(n-l)*size:=by rw [AR,h.1,AH]
 rcases h.2 with ⟨h0,hn⟩|⟨g,o,cap,b,hv,hb,hg,hnc,hm,hs,ht⟩
 .simp only[Value.slice.injEq]at h0;obtain ⟨rfl,_,rfl⟩:=h0;subst hn;obtain rfl:l=0:=by omega
  exact ⟨⟨a,.inl ⟨yG,yE⟩⟩,yG⟩
 .simp only[Value.slice.injEq,true_and]at hv;obtain ⟨rfl,rfl⟩:=hv;by_cases d:c=l
  .subst d;rw [if_pos rfl];refine ⟨⟨a,.inr ⟨g,o,c-c,b,rfl,hb,hg,yE,yE,?_,?_⟩⟩,rfl⟩
   .rw [Nat.sub_self,Nat.zero_mul];omega
   .have e0:(n-c)*size=0:=by rw [show n-c=0 by omega,Nat.zero_mul]
    rw [e0]at a ⊢;rw [AX];exact (AO a).symm
  .rw [if_neg d];refine ⟨⟨a,.inr ⟨g,o+l*size,c-l,b,by simp [Addr.add],hb,hg,yE,yE,?_,?_⟩⟩,by simp only[AB,Value.ownBlock,Addr.add_lit]⟩
   .rw [AH];have:=AF size (show l<=c by omega);omega
   .rw [<-ht,AS,List.drop_drop,AH]
end
end Go.Proofs.YtlpkbfjcdaanmaaGreatDoor
namespace Go.Proofs.YtlpkbfjcdaanmaaGreatDoor
section
open Go.RowKit
def Zlp (n:Int):Prop:=-9223372036854775808<=n/\n<=9223372036854775807
structure Yh (α:Type) where
 size:Nat
 rep:World->List Value->α->List Nat->Prop
 len:∀{w cs x L},rep w cs x L->cs.length=size
 keep:∀{w w' cs x L},rep w cs x L->(∀b∈L,w'.heap[b]?=w.heap[b]?)->rep w' cs x L
 lt:∀{w cs x L},rep w cs x L->∀b∈L,b<w.heap.size
 one:∀{w cs x L},rep w cs x L->∀u∈cs,u.oneCell'=true
 pos:0<size
def ZGg:Yh Int where
 size:=1
 rep:=fun _ cs x L=>cs=[.int .i64 x]/\L=[]
 len:=fun h=>by simp [h.1]
 keep:=fun h _=>h
 lt:=fun h=>by simp [h.2]
 one:=fun h=>by simp [h.1,Value.oneCell']
 pos:=by omega
def Zde:Yh ByteArray where
 size:=1
 rep:=fun _ cs x L=>cs=[.string x]/\L=[]/\x.size<=9223372036854775807
 len:=fun h=>by simp [h.1]
 keep:=fun h _=>h
 lt:=fun h=>by simp [h.2.1]
 one:=fun h=>by simp [h.1,Value.oneCell']
 pos:=by omega
def ZLY:Yh Bool where
 size:=1
 rep:=fun _ cs x L=>cs=[.bool x]/\L=[]
 len:=fun h=>by simp [h.1]
 keep:=fun h _=>h
 lt:=fun h=>by simp [h.2]
 one:=fun h=>by simp [h.1,Value.oneCell']
 pos:=by omega
def ZPt:Yh Int where
 size:=1
 rep:=fun _ cs x L=>cs=[.int .u8 x]/\L=[]
 len:=fun h=>by simp [h.1]
 keep:=fun h _=>h
 lt:=fun h=>by simp [h.2]
 one:=fun h=>by simp [h.1,Value.oneCell']
 pos:=by omega
section
variable {α:Type} (c:Yh α)
def Yh.reps (w:World):List Value->List α->List Nat->Prop
 |xs,[],L=>xs=[]/\L=[]
 |xs,d::ds,L=>∃a b L1 L2,xs=a++b/\L=L1++L2/\c.rep w a d L1/\Yh.reps w b ds L2
variable {c}
theorem ZhJ {w:World}:∀{ds:List α}{xs:List Value}{L:List Nat},c.reps w xs ds L->xs.length=ds.length*c.size
 | [],_,_,h=>by simp [h.1]
 |d::ds,_,_,⟨c1,c2,L1,L2,rfl,rfl,h1,h2⟩=>by
  have:=ZhJ h2;simp [c.len h1,this,AA];omega
theorem Xd {w w':World}:∀{ds:List α}{xs:List Value}{L:List Nat},c.reps w xs ds L->(∀b∈L,w'.heap[b]?=w.heap[b]?)->c.reps w' xs ds L
 | [],_,_,h,_=>h
 |d::ds,_,_,⟨c1,c2,L1,L2,rfl,rfl,h1,h2⟩,hk=>
  ⟨c1,c2,L1,L2,rfl,rfl,c.keep h1 (fun b m=>hk b (by simp [m])),Xd h2 (fun b m=>hk b (by simp [m]))⟩
theorem ZuV {w:World}:∀{ds:List α}{xs:List Value}{L:List Nat},c.reps w xs ds L->∀b∈L,b<w.heap.size
 | [],_,_,h=>by simp [h.2]
 |d::ds,_,_,⟨c1,c2,L1,L2,rfl,rfl,h1,h2⟩=>by
  intro b m;rcases A3.1 m with m|m
  .exact c.lt h1 b m
  .exact ZuV h2 b m
theorem Zbv {w:World}:∀{ds es:List α}{xs ys:List Value}{L M:List Nat},c.reps w xs ds L->c.reps w ys es M->c.reps w (xs++ys) (ds++es) (L++M)
 | [],es,_,ys,_,M,h,h'=>by obtain ⟨rfl,rfl⟩:=h;simpa using h'
 |d::ds,es,_,ys,_,M,⟨c1,c2,L1,L2,rfl,rfl,h1,h2⟩,h'=>
  ⟨c1,c2++ys,L1,L2++M,yG,yG,h1,Zbv h2 h'⟩
theorem ZcK {w:World}{d:α}{cs:List Value}{L:List Nat}(h:c.rep w cs d L):c.reps w cs [d] L:=⟨cs,[],L,[],yG,yG,h,rfl,rfl⟩
theorem Znd {w:World}:∀{ds es:List α}{xs:List Value}{L:List Nat},c.reps w xs (ds++es) L->
  ∃x1 x2 L1 L2,xs=x1++x2/\L=L1++L2/\c.reps w x1 ds L1/\c.reps w x2 es L2
 | [],es,xs,L,h=>⟨[],xs,[],L,rfl,rfl,⟨rfl,rfl⟩,h⟩
 |d::ds,es,_,_,⟨c1,c2,L1,L2,rfl,rfl,h1,h2⟩=>by
  obtain ⟨x1,x2,M1,M2,rfl,rfl,h3,h4⟩:=Znd h2;exact ⟨c1++x1,x2,L1++M1,M2,yG,yG,⟨c1,x1,L1,M1,rfl,rfl,h1,h3⟩,h4⟩
theorem ZuB {w:World}{ds:List α}{xs:List Value}{L:List Nat}(h:c.reps w xs ds L) {k:Nat}(hk:k<ds.length):
  ∃x1 cs x2 L1 Lk L2,xs=x1++(cs++x2)/\x1.length=k*c.size/\L=L1++(Lk++L2)/\c.reps w x1 (ds.take k) L1/\c.rep w cs ds[k] Lk/\c.reps w x2 (ds.drop (k+1)) L2:=by
 have e:ds=ds.take k++(ds[k]::ds.drop (k+1)):=by rw [<-AY hk,List.take_append_drop]
 rw [e]at h;obtain ⟨x1,x2,L1,L2,rfl,rfl,h1,c1,c2,M1,M2,rfl,rfl,h2,h3⟩:=Znd h;refine ⟨x1,c1,c2,L1,M1,M2,rfl,?_,rfl,h1,h2,h3⟩;have:=ZhJ h1;rw [this,AQ,Nat.min_eq_left yE]
def Sli (c:Yh α) (w:World) (A:Option Addr) (ds:List α) (L:List Nat):Prop:=
 ∃xs L0 L1,L=L0++L1/\Sl w c.size A ds.length xs L0/\c.reps w xs ds L1
theorem Sli.nil (w:World) (A:Option Addr):Sli c w A [] []:=⟨[],[],[],rfl,Sl.zero,rfl,rfl⟩
theorem Sli.keep {w w':World}{A:Option Addr}{ds:List α}{L:List Nat}(h:Sli c w A ds L) (hk:∀b∈L,w'.heap[b]?=w.heap[b]?):Sli c w' A ds L:=by
 obtain ⟨xs,L0,L1,rfl,h1,h2⟩:=h;exact ⟨xs,L0,L1,rfl,h1.keep (fun b m=>hk b (by simp [m])),Xd h2 (fun b m=>hk b (by simp [m]))⟩
theorem Sli.lt {w:World}{A:Option Addr}{ds:List α}{L:List Nat}(h:Sli c w A ds L):∀b∈L,b<w.heap.size:=by
 obtain ⟨xs,L0,L1,rfl,h1,h2⟩:=h;intro b m;rcases A3.1 m with m|m
 .exact h1.lt c.pos b m
 .exact ZuV h2 b m
theorem Sli.at_ {w:World}{A:Option Addr}{ds:List α}{L:List Nat}(h:Sli c w A ds L) {k:Nat}(hk:k<ds.length):
  ∃b off cs Lk,A=some ⟨b,off,none⟩/\b∈L/\(∀x∈Lk,x∈L)/\c.rep w cs ds[k] Lk/\∀j u,cs[j]?=some u->w.cell? ⟨b,off+(k*c.size+j),none⟩=some u:=by
 obtain ⟨xs,L0,L1,rfl,h1,h2⟩:=h;obtain ⟨x1,cs,x2,M1,Mk,M2,rfl,hx,rfl,_,h3,_⟩:=ZuB h2 hk;obtain ⟨b,off,hA,hL,hc⟩:=h1.at_ yE;subst hL;refine ⟨b,off,cs,Mk,hA,yG,fun x m=>by simp [m],h3,fun j u hu=>hc _ u ?_⟩;rw [List.getElem?_append_right yE,hx,AT,List.getElem?_append_left (A6.1 hu).1];exact hu
def Zw (c:Yh α):Yh (List α) where
 size:=1
 rep:=fun w cs ds L=>∃A cap,cs=[.slice A ds.length cap]/\ds.length<=cap/\cap<=maxLen/\Sli c w A ds L
 len:=fun ⟨_,_,h,_⟩=>by simp [h]
 keep:=fun ⟨A,cap,h,b,d,a⟩ hk=>⟨A,cap,h,b,d,a.keep hk⟩
 lt:=fun ⟨_,_,_,_,_,a⟩=>a.lt
 one:=fun ⟨_,_,h,_⟩=>by simp [h,Value.oneCell']
 pos:=by omega
theorem Own.sub {w:World}{base:Nat}{L M:List Nat}(h:Own w base L) (hs:M.Sublist L):Own w base M:=
 ⟨h.nodup.sublist hs,fun b m=>h.ge b (hs.subset m),fun b m=>h.plain b (hs.subset m)⟩
structure Got (c:Yh α) (base:Nat) (cs:List Value) (x:α) (L:List Nat) (w:World):Prop where
 rep:c.rep w cs x L
 own:Own w base L
section
variable {c:Yh α} {base:Nat} {cs:List Value} {x:α} {L M:List Nat} {w w':World}
end
structure ZeC (c:Yh α) (E:TypeId) (W:World) (v:Value) (ds:List α) (w:World):Prop where
 ex:∃xs L1,w.ownsV W.heap.size E c.size v ds.length xs/\c.reps w xs ds L1/\Own w W.heap.size (v.ownBlock.toList++L1)
 below:Below W.heap.size W w
def Zi7 (c:Yh α) (E:TypeId) (w:World) (ds:List α) (e:Ending) (w':World):Prop:=∃v,e=.returned v/\ZeC c E w v ds w'
theorem ZeC.shape {c:Yh α}{E:TypeId}{W w:World}{v:Value}{ds:List α}(h:ZeC c E W v ds w):∃A cap,v=.slice A ds.length cap:=by
 obtain ⟨xs,L1,h1,_⟩:=h.ex;obtain ⟨A,cap,hv,_⟩:=QP h1;exact ⟨A,cap,hv⟩
theorem ZeC.got {c:Yh α}{E:TypeId}{W w:World}{v:Value}{ds:List α}(h:ZeC c E W v ds w):∃L,Got (Zw c) W.heap.size [v] ds L w:=by
 obtain ⟨xs,L1,h1,h2,h3⟩:=h.ex;obtain ⟨A,cap,rfl,hn,hm⟩:=QP h1;obtain ⟨L0,hs,ho,hb⟩:=Sl.of_ownV h1;refine ⟨L0++L1,⟨A,cap,rfl,hn,hm,xs,L0,L1,rfl,hs,h2⟩,h3.sub ?_⟩;refine List.Sublist.append ?_ (List.Sublist.refl _);rcases hs.2 with ⟨_,h0⟩|⟨_,b,off,rfl,h0,_⟩
 .subst h0;exact List.nil_sublist _
 .subst h0;simp [Value.ownBlock]
end
section
variable {α:Type} {c:Yh α} {E:TypeId} {W:World} {n:Nat} {ds:List α} {k:Nat} {w w':World}
end
def XD (l:List ByteArray):Nat:=l.length+(l.map AC).sum
def Blk (w:World) (g:Nat) (t:TypeId) (cs:Array Value):Prop:=w.heap[g]?=some (.cells cs t (0,0))
section
variable {w w':World} {g:Nat} {t:TypeId} {cs:Array Value}
theorem Blk.lt (h:Blk w g t cs):g<w.heap.size:=(AD.1 h).1
theorem Blk.at {i:Nat}{v:Value}(h:Blk w g t cs) (hv:cs[i]?=some v):w.cell? ⟨g,i,none⟩=some v:=(cell_of_row w g i cs t (0,0) h).trans hv
theorem Blk.new (w:World) (t:TypeId) (cs:Array Value):Blk (w.alloc (.cells cs t)) w.heap.size t cs:=heap_alloc_new w _
theorem Blk.far (h:Blk w g t cs) {p:Addr}(hp:g≠p.block) (u:Value):Blk (w.setCell p u) g t cs:=(Below.heap_setCell w p u g hp).trans h
theorem Blk.later (h:Blk w g t cs) (hb:Below w.heap.size w w'):Blk w' g t cs:=(hb.block g h.lt).trans h
end
section
variable {w0:World} {base b lo m:Nat} {Lk M:List Nat} {cs:List Value} {w w':World}
end
end
section
open Go.RowKit
inductive PK where
 |int (k:IntKind)
 |bool
 |str
def Zie:PK->Value->Prop
 |.int k,.int k' _=>k=k'
 |.bool,.bool _=>True
 |.str,.string s=>s.size<=9223372036854775807
 |_,_=>False
def Zjp (kk vk:PK) (kv:List (Value×Value)):Prop:=∀p∈kv,Zie kk p.1/\Zie vk p.2
inductive CT where
 | int (k:IntKind) (n:Int)
 | bool (b:Bool)
 | str (s:ByteArray)
 | sl (e m:Nat) (xs:List (List CT))
 /-- a pointer to cells that are only read -/
 | pt (es:List CT)
 /-- a function value with what it has captured -/
 | fn (f:Nat) (cs:List CT)
 /-- a map of plain keys and plain values that is only read -/
 | mp (kk vk:PK) (kv:List (Value × Value))
 /-- an interface value: nil or not -/
 | ifc (isNil:Bool)
 /-- a cell of which nothing is known -/
 | any
 /-- the nil slice -/
 | nl (e m:Nat)
def ZdP (es:Array MapEntry):List (Value×Value):=es.toList.map fun e=>(e.key,e.val)
mutual
def RC (w:World):CT->Value->List Nat->Prop
 |.int k n,v,L=>v=.int k n/\L=[]
 |.bool b,v,L=>v=.bool b/\L=[]
 |.str s,v,L=>v=.string s/\L=[]/\s.size<=9223372036854775807
 |.sl _ m xs,v,L=>∃A cap cs L0 L1,v=.slice A xs.length cap/\xs.length<=cap/\cap<=maxLen/\L=L0++L1/\0<m/\Sl w m A xs.length cs L0/\REs w m xs cs L1
 |.pt es,v,L=>∃b cs L1,v=.pointer (some ⟨b,0,none⟩)/\b<w.heap.size/\L=b::L1/\Qh w b 0 cs/\RCs w es cs L1
 |.fn f es,v,L=>∃vs:List Value,v=.func (.func f) #[] vs.toArray/\RCs w es vs L
 |.mp kk vk kv,v,L=>∃b es c,v=.map (some b)/\w.heap[b]?=some (.map es c)/\ZdP es=kv/\Zjp kk vk kv/\L=[b]
 |.ifc b,v,L=>L=[]/\v.oneCell'=true/\(match b with|true=>v=.nilIface|false=>∃t x,v=.iface t x)
 |.any,v,L=>L=[]/\v.oneCell'=true
 |.nl _ _,v,L=>v=.slice none 0 0/\L=[]
def RCs (w:World):List CT->List Value->List Nat->Prop
 | [],cs,L=>cs=[]/\L=[]
 |x::r,cs,L=>∃v cs' L1 L2,cs=v::cs'/\L=L1++L2/\RC w x v L1/\RCs w r cs' L2
def REs (w:World) (m:Nat):List (List CT)->List Value->List Nat->Prop
 | [],cs,L=>cs=[]/\L=[]
 |e::r,cs,L=>∃a b L1 L2,cs=a++b/\L=L1++L2/\(RCs w e a L1/\a.length=m)/\REs w m r b L2
end
mutual
theorem RC.keep {w w':World}:∀{x:CT}{v:Value}{L:List Nat},RC w x v L->(∀b∈L,w'.heap[b]?=w.heap[b]?)->RC w' x v L
 |.int _ _,_,_,h,_=>h
 |.bool _,_,_,h,_=>h
 |.str _,_,_,h,_=>h
 |.sl _ _ _,_,_,⟨A,cap,cs,L0,L1,h1,h2,h3,h4,h5,h6,h7⟩,hk=>⟨A,cap,cs,L0,L1,h1,h2,h3,h4,h5,h6.keep fun b m=>hk b (by simp [h4,m]),h7.keep fun b m=>hk b (by simp [h4,m])⟩
 |.pt _,_,_,⟨b,cs,L1,h1,h2,h3,h4,h5⟩,hk=>⟨b,cs,L1,h1,by
   have e:=hk b (by simp [h3]);rcases Nat.lt_or_ge b w'.heap.size with h|h
   .exact h
   .rw [Array.getElem?_eq_none h]at e;have:=Array.getElem?_eq_none_iff.1 e.symm;omega,h3,fun j u hu=>by rw [<-h4 j u hu];exact World.cell?_of_block (hk b (by simp [h3])),h5.keep fun b m=>hk b (by simp [h3,m])⟩
 |.fn _ _,_,_,⟨vs,h1,h2⟩,hk=>⟨vs,h1,h2.keep hk⟩
 |.mp _ _ _,_,_,⟨b,es,c,h1,h2,h3,a,h4⟩,hk=>⟨b,es,c,h1,by rw [hk b (by simp [h4])];exact h2,h3,a,h4⟩
 |.ifc _,_,_,h,_=>h
 |.any,_,_,h,_=>h
 |.nl _ _,_,_,h,_=>h
theorem RCs.keep {w w':World}:∀{x:List CT}{v:List Value}{L:List Nat},RCs w x v L->(∀b∈L,w'.heap[b]?=w.heap[b]?)->RCs w' x v L
 | [],_,_,h,_=>h
 |_::_,_,_,⟨v,cs,L1,L2,h1,h2,h3,h4⟩,hk=>⟨v,cs,L1,L2,h1,h2,h3.keep fun b m=>hk b (by simp [h2,m]),h4.keep fun b m=>hk b (by simp [h2,m])⟩
theorem REs.keep {w w':World}{m:Nat}:∀{x:List (List CT)}{v:List Value}{L:List Nat},REs w m x v L->(∀b∈L,w'.heap[b]?=w.heap[b]?)->REs w' m x v L
 | [],_,_,h,_=>h
 |_::_,_,_,⟨c1,c2,L1,L2,h1,h2,h3,h4⟩,hk=>⟨c1,c2,L1,L2,h1,h2,⟨h3.1.keep fun b m=>hk b (by simp [h2,m]),h3.2⟩,h4.keep fun b m=>hk b (by simp [h2,m])⟩
end
mutual
theorem RC.lt {w:World}:∀{x:CT}{v:Value}{L:List Nat},RC w x v L->∀b∈L,b<w.heap.size
 |.int _ _,_,_,h=>by simp [h.2]
 |.bool _,_,_,h=>by simp [h.2]
 |.str _,_,_,h=>by simp [h.2.1]
 |.sl _ _ _,_,_,⟨A,cap,cs,L0,L1,h1,h2,h3,h4,h5,h6,h7⟩=>fun b m=>by
  rw [h4]at m;rcases A3.1 m with m|m
  .exact h6.lt h5 b m
  .exact h7.lt b m
 |.pt _,_,_,⟨b,cs,L1,h1,h2,h3,h4,h5⟩=>fun x m=>by
  rw [h3]at m;rcases A0.1 m with rfl|m
  .exact h2
  .exact h5.lt x m
 |.fn _ _,_,_,⟨vs,h1,h2⟩=>h2.lt
 |.mp _ _ _,_,_,⟨b,es,c,h1,h2,h3,h3',h4⟩=>fun x m=>by
  rw [h4]at m;simp at m;subst m;exact (AD.1 h2).1
 |.ifc _,_,_,h=>by simp [h.1]
 |.any,_,_,h=>by simp [h.1]
 |.nl _ _,_,_,h=>by simp [h.2]
theorem RCs.lt {w:World}:∀{x:List CT}{v:List Value}{L:List Nat},RCs w x v L->∀b∈L,b<w.heap.size
 | [],_,_,h=>by simp [h.2]
 |_::_,_,_,⟨v,cs,L1,L2,h1,h2,h3,h4⟩=>fun b m=>by
  rw [h2]at m;rcases A3.1 m with m|m
  .exact h3.lt b m
  .exact h4.lt b m
theorem REs.lt {w:World}{m:Nat}:∀{x:List (List CT)}{v:List Value}{L:List Nat},REs w m x v L->∀b∈L,b<w.heap.size
 | [],_,_,h=>by simp [h.2]
 |_::_,_,_,⟨c1,c2,L1,L2,h1,h2,h3,h4⟩=>fun b m=>by
  rw [h2]at m;rcases A3.1 m with m|m
  .exact h3.1.lt b m
  .exact h4.lt b m
end
theorem RC.one {w:World}:∀{x:CT}{v:Value}{L:List Nat},RC w x v L->v.oneCell'=true
 |.int _ _,_,_,h=>by simp [h.1,Value.oneCell']
 |.bool _,_,_,h=>by simp [h.1,Value.oneCell']
 |.str _,_,_,h=>by simp [h.1,Value.oneCell']
 |.sl _ _ _,_,_,⟨A,cap,cs,L0,L1,h1,_⟩=>by simp [h1,Value.oneCell']
 |.pt _,_,_,⟨b,cs,L1,h1,_⟩=>by simp [h1,Value.oneCell']
 |.fn _ _,_,_,⟨vs,h1,_⟩=>by simp [h1,Value.oneCell']
 |.mp _ _ _,_,_,⟨b,es,c,h1,_⟩=>by simp [h1,Value.oneCell']
 |.ifc _,_,_,h=>h.2.1
 |.any,_,_,h=>h.2
 |.nl _ _,_,_,h=>by simp [h.1,Value.oneCell']
theorem RCs.one {w:World}:∀{x:List CT}{v:List Value}{L:List Nat},RCs w x v L->∀u∈v,u.oneCell'=true
 | [],_,_,h=>by simp [h.1]
 |_::_,_,_,⟨v,cs,L1,L2,h1,h2,h3,h4⟩=>fun u m=>by
  rw [h1]at m;rcases A0.1 m with rfl|m
  .exact h3.one
  .exact h4.one u m
theorem RCs.len {w:World}:∀{x:List CT}{v:List Value}{L:List Nat},RCs w x v L->v.length=x.length
 | [],_,_,h=>by simp [h.1]
 |_::_,_,_,⟨v,cs,L1,L2,h1,h2,h3,h4⟩=>by simp [h1,h4.len]
theorem RCs.append {w:World}:∀{xs ys:List CT}{us vs:List Value}{L M:List Nat},RCs w xs us L->RCs w ys vs M->RCs w (xs++ys) (us++vs) (L++M)
 | [],_,_,_,_,_,h,h'=>by obtain ⟨rfl,rfl⟩:=h;simpa using h'
 |_::_,_,_,_,_,_,⟨v,cs,L1,L2,h1,h2,h3,h4⟩,h'=>⟨v,cs++_,L1,L2++_,by simp [h1],by simp [h2],h3,h4.append h'⟩
end
section
open Go.RowKit
inductive AV where
 | c (x:CT)
 /-- a row that the call has made with all that it leads to,from now on only read,maybe through others too -/
 | n (x:CT)
 | row (k:Nat)
 | nil (e m:Nat)
 | dead
inductive SV where
 |any
 |und
 |p (agg:Bool) (cs:List AV)
 |tup (xs:List (Bool×List AV))
 |bp (k off:Nat)
 |rp (k m i off:Nat)
 |ep (e:List CT) (off:Nat)
 |fn (f:FuncId)
inductive Ob where
 |gone
 |box (t:TypeId) (cs:List AV)
 |row (e m:Nat) (xs:List (List CT)) (deep:Nat)
 |map (kk vk:PK) (kv:List (Value×Value))
def upd {α:Type}(f:Nat->α) (k:Nat) (v:α):Nat->α:=fun j=>if j=k then v else f j
def Zge (a b:Nat):Nat:=if a<=b then a else b
structure St where
 sl:Nat->SV
 ob:Nat->Ob
 n:Nat
def St.put (st:St) (d:Option Nat) (v:SV):St:=match d with|none=>st|some t=>{st with sl:=upd st.sl t v}
def Zn (ob:Nat->Ob):List (Nat×Ob)->Nat->Ob
 | []=>ob
 |p::r=>Zn (upd ob p.1 p.2) r
def St.app (st:St) (u:List (Nat×Ob)):St:={st with ob:=Zn st.ob u}
structure FI where
 off:Nat
 size:Nat
 agg:Bool
inductive TI where
 |atom (z:AV)
 |strct (fs:List FI) (n:Nat) (z:List AV)
 |slice (e m bytes:Nat) (z:List AV)
 |map (kk vk:PK)
 |eqs (ks:List PK)
 |ifc
def ZxJ:Option TI->Bool
 |some .ifc=>true
 |_=>false
def Zns:Option TI->Option (List AV)
 |some (.atom z)=>some [z]
 |some (.strct _ _ z)=>some z
 |some (.slice e m _ _)=>some [.nil e m]
 |_=>none
def ZbS (s:ByteArray):Bool:=Nat.ble s.data.toList.length 9223372036854775807
def cvT (ti:Option TI):Value->SV
 |.int k n=>.p false [.c (.int k n)]
 |.bool b=>.p false [.c (.bool b)]
 |.string s=>if ZbS s then .p false [.c (.str s)] else .any
 |.slice none 0 0=>match ti with|some (.slice e m _ _)=>.p false [.nil e m]|_=>.any
 |_=>.any
section
variable (tt:Nat->Option TI)
def St.ev (st:St) (t:Nat):Operand->SV
 |.tmp s=>st.sl s
 |.const v=>cvT (tt t) v
 |.func f=>.fn f
 |.global _=>.any
def ZFE (k:IntKind) (x y:Int):Int:=k.wrap (BitVec.ofInt k.bits x &&& BitVec.ofInt k.bits y).toNat
def orI (k:IntKind) (x y:Int):Int:=k.wrap (BitVec.ofInt k.bits x ||| BitVec.ofInt k.bits y).toNat
def ZEC (k:IntKind) (x y:Int):Int:=k.wrap (BitVec.ofInt k.bits x ^^^ BitVec.ofInt k.bits y).toNat
def Zu7 (k:IntKind) (x y:Int):Int:=k.wrap (BitVec.ofInt k.bits x &&& ~~~ BitVec.ofInt k.bits y).toNat
def ZET (k:IntKind) (x y:Int):Int:=k.wrap (x*2 ^ (min y.toNat k.bits))
def ZER (k:IntKind) (x y:Int):Int:=x.fdiv (2 ^ (min y.toNat k.bits))
def ZAz (op:BinOp) (k:IntKind) (x y:Int):Option Int:=
 match op with
 |.and=>some (ZFE k x y)
 |.or=>some (orI k x y)
 |.xor=>some (ZEC k x y)
 |.andNot=>some (Zu7 k x y)
 |_=>none
def Zzz (op:BinOp) (k:IntKind) (x y:Int):Option CT:=
 match op with
 |.add=>some (.int k (k.wrap (x+y)))
 |.sub=>some (.int k (k.wrap (x-y)))
 |.mul=>some (.int k (k.wrap (x*y)))
 |.quo=>if y=0 then none else some (.int k (k.wrap (x.tdiv y)))
 |.rem=>if y=0 then none else some (.int k (x.tmod y))
 |.eql=>some (.bool (x==y))
 |.neq=>some (.bool (x != y))
 |.lss=>some (.bool (decide (x<y)))
 |.leq=>some (.bool (decide (x<=y)))
 |.gtr=>some (.bool (decide (y<x)))
 |.geq=>some (.bool (decide (y<=x)))
 |.shl=>if y<0 then none else some (.int k (ZET k x y))
 |.shr=>if y<0 then none else some (.int k (ZER k x y))
 |op=>(ZAz op k x y).map (.int k)
def sLt (x y:ByteArray):Bool:=Op.bytesLess x.toList y.toList
def sEq (x y:ByteArray):Bool:=decide (x=y)
def Zyn (op:BinOp) (x y:ByteArray):Option CT:=
 match op with
 |.add=>if x.size+y.size<=9223372036854775807 then some (.str (x++y)) else none
 |.eql=>some (.bool (sEq x y))
 |.neq=>some (.bool (!sEq x y))
 |.lss=>some (.bool (sLt x y))
 |.leq=>some (.bool (sLt x y||sEq x y))
 |.gtr=>some (.bool (!(sLt x y||sEq x y)))
 |.geq=>some (.bool (!sLt x y))
 |_=>none
def eqC:PK->AV->AV->Option Bool
 |.int _,.c (.int k x),.c (.int k' y)=>if k=k' then some (x==y) else none
 |.str,.c (.str x),.c (.str y)=>some (sEq x y)
 |.bool,.c (.bool x),.c (.bool y)=>some (x==y)
 |_,_,_=>none
def ZnZ:List PK->List AV->List AV->Option Bool
 | [],[],[]=>some true
 |k::ks,x::r,y::q=>(eqC k x y).bind fun a=>(ZnZ ks r q).map fun b=>a&&b
 |_,_,_=>none
def Zx0:Option TI->Option (List PK)
 |some (.eqs ks)=>some ks
 |_=>none
def ZsH (op:BinOp) (b:Bool):Option SV:=
 match op with
 |.eql=>some (.p false [.c (.bool b)])
 |.neq=>some (.p false [.c (.bool (!b))])
 |_=>none
def Zzm (t:Option TI) (op:BinOp):SV->SV->Option SV
 |.p true xs,.p true ys=>(Zx0 t).bind fun ks=>(ZnZ ks xs ys).bind (ZsH op)
 |_,_=>none
def Zub:Value->Bool
 |.nilIface=>true
 |.int _ _=>false
 |.string _=>false
 |.bool _=>false
 |.slice _ _ _=>false
 |_=>false
def ZkC:Operand->Bool
 |.const v=>Zub v
 |.tmp _=>false
 |.func _=>false
 |.global _=>false
def ZCl (op:BinOp):SV->Option SV
 |.p false [.c (.ifc b)]=>ZsH op b
 |_=>none
def Zwo:SV->Bool
 |.p ag _=>ag
 |_=>false
def Zyz (t:Option TI) (op:BinOp):SV->SV->Option SV
 |.p false [.c (.int k x)],.p false [.c (.int k' y)]=>if k=k'\/op=.shl\/op=.shr then (Zzz op k x y).map fun z=>.p false [.c z] else none
 |.p false [.c (.str x)],.p false [.c (.str y)]=>(Zyn op x y).map fun z=>.p false [.c z]
 |.p false [.c (.bool x)],.p false [.c (.bool y)]=>
  match t,op with
  |some (.atom (.c (.bool _))),.eql=>some (.p false [.c (.bool (x==y))])
  |some (.atom (.c (.bool _))),.neq=>some (.p false [.c (.bool (!(x==y)))])
  |_,_=>none
 |_,_=>none
def unV (op:UnOp):SV->Option SV
 |.p false [.c (.bool b)]=>match op with | .not=>some (.p false [.c (.bool (!b))])|_=>none
 |.p false [.c (.int k n)]=>match op with | .neg=>some (.p false [.c (.int k (k.wrap (0-n)))])|_=>none
 |_=>none
def Zx6 (tt:Nat->Option TI) (t:Nat) (n:Bool) (op:BinOp) (x y:SV):Option SV:=
 if n=true then (if ZxJ (tt t)=true then ZCl op x else none) else if Zwo x=true then Zzm (tt (t+4000)) op x y else Zyz (tt t) op x y
def Ze6:List (List CT)->Option (List Int)
 | []=>some []
 | [.int .u8 n]::r=>(Ze6 r).map fun l=>n::l
 |_::_=>none
def Xn (l:List Int):ByteArray:=⟨(l.map fun n=>UInt8.ofNat n.toNat).toArray⟩
def Zni:Option TI->Bool
 |some (.atom (.c (.int .u8 _)))=>true
 |_=>false
def ZrI (s t:Option TI):SV->Option SV
 |.p false [.c (.int _ n)]=>match s,t with|some (.atom _),some (.atom (.c (.int k _)))=>some (.p false [.c (.int k (k.wrap n))])|_,_=>none
 |_=>none
def Zb4:Option TI->Bool
 |some (.slice _ _ _ _)=>true
 |_=>false
def ZcV:Option TI->Bool
 |some (.atom (.c (.str _)))=>true
 |_=>false
def Zn4 (st:St) (t:Option TI):SV->Option SV
 |.p false [.c (.sl _ _ xs)]=>if Zb4 t=true then some (.p false [.c (.int .i64 xs.length)]) else none
 |.p false [.n (.sl _ _ xs)]=>if Zb4 t=true then some (.p false [.c (.int .i64 xs.length)]) else none
 |.p false [.c (.str s)]=>if ZcV t=true then some (.p false [.c (.int .i64 s.size)]) else none
 |.p false [.nil _ _]=>if Zb4 t=true then some (.p false [.c (.int .i64 0)]) else none
 |.p false [.row k]=>match st.ob k with | .row _ _ xs _=>if Zb4 t=true then some (.p false [.c (.int .i64 xs.length)]) else none|_=>none
 |_=>none
def ZbC (st:St) (m:Nat):SV->SV->Option SV
 |.p false [.c (.sl _ m' xs)],.p false [.c (.int _ i)]=>if 0<=i/\m=m' then (xs[i.toNat]?).map fun e=>.ep e 0 else none
 |.p false [.row k],.p false [.c (.int _ i)]=>match st.ob k with
  |.row _ m' xs _=>if 0<=i/\i<xs.length/\m=m' then some (.rp k m i.toNat 0) else none
  |_=>none
 |_,_=>none
def ZmC (t:Option TI):SV->SV->Option SV
 |.p false [.c (.str s)],.p false [.c (.int _ i)]=>if 0<=i/\ZcV t=true then (s[i.toNat]?).map fun b=>.p false [.c (.int .u8 b.toNat)] else none
 |_,_=>none
def cut (t:Option TI) (cs:List AV) (off:Nat):Option SV:=
 match t with
 |some (.strct _ n _)=>if off+n<=cs.length then some (.p true ((cs.drop off).take n)) else none
 |some (.eqs _)=>none
 |some _=>(cs[off]?).map fun x=>.p false [x]
 |none=>none
def QZ (st:St) (t:Option TI):SV->Option SV
 |.bp k off=>match st.ob k with | .box _ cs=>cut t cs off|_=>none
 |.rp k m i off=>match st.ob k with | .row _ m' xs _=>(xs[i]?).bind fun e=>if m=m' then cut t (e.map .c) off else none|_=>none
 |.ep e off=>cut t (e.map .c) off
 |.p false [.c (.pt e)]=>cut t (e.map .c) 0
 |_=>none
def splice {α:Type}(cs:List α) (off:Nat) (vs:List α):List α:=cs.take off++(vs++cs.drop (off+vs.length))
def Zut:AV->Option CT
 |.c (.int k n)=>some (.int k n)
 |.c (.bool b)=>some (.bool b)
 |.c (.str s)=>some (.str s)
 |_=>none
def Zjl:List AV->Option (List CT)
 | []=>some []
 |x::r=>(Zut x).bind fun a=>(Zjl r).map fun b=>a::b
def ZiO:Option TI->Nat
 |some (.strct _ n _)=>n
 |some (.atom _)=>1
 |some (.slice _ _ _ _)=>1
 |_=>0
def Zng (st:St) (t:Option TI):SV->SV->Option (List (Nat×Ob))
 |.bp k off,.p _ vs=>match st.ob k with
  |.box tb cs=>if vs.length=ZiO t/\0<vs.length/\off+vs.length<=cs.length then some [(k,.box tb (splice cs off vs))] else none
  |_=>none
 |.rp k m i off,.p _ vs=>match st.ob k with
  |.row e m' xs d=>(xs[i]?).bind fun x=>(Zjl vs).bind fun ys=>if m=m'/\vs.length=ZiO t/\0<vs.length/\off+vs.length<=m/\0<d then some [(k,.row e m (xs.set i (splice x off ys)) d)] else none
  |_=>none
 |_,_=>none
def ZkQ (d:Nat):SV->Option SV
 |.bp k off=>some (.bp k (off+d))
 |.rp k m i off=>some (.rp k m i (off+d))
 |.ep e off=>some (.ep e (off+d))
 |.p false [.c (.pt e)]=>some (.ep e d)
 |_=>none
def ZmF (fs:List FI) (f:Nat):SV->Option SV
 |.p true cs=>(fs[f]?).bind fun i=>if i.agg then (if i.off+i.size<=cs.length then some (.p true ((cs.drop i.off).take i.size)) else none) else (cs[i.off]?).map fun x=>.p false [x]
 |_=>none
def Zj2 (fs:List FI) (cs:List AV):List (Nat×SV)->Option (List AV)
 | []=>some cs
 |(i,.p _ vs)::r=>(fs[i]?).bind fun f=>if vs.length=f.size/\f.off+vs.length<=cs.length then Zj2 fs (splice cs f.off vs) r else none
 |_::_=>none
def ZgA (st:St) (fs:List FI) (z:List AV) (p:Nat×Operand):Nat×SV:=
 match p.2 with
 |.const (.slice none 0 0)=>(p.1,match (fs[p.1]?).bind fun f=>z[f.off]? with|some (.nil e m)=>.p false [.nil e m]|_=>.any)
 |x=>(p.1,st.ev tt 0 x)
def avT (st:St):AV->Option (CT×List Nat×Nat)
 |.c (.int k n)=>some (.int k n,[],2)
 |.c (.bool b)=>some (.bool b,[],2)
 |.c (.str s)=>some (.str s,[],2)
 |.c x=>some (x,[],1)
 |.nil e m=>if 0<m then some (.sl e m [],[],2) else none
 |.row k=>match st.ob k with | .row e m xs d=>(if d=0 then some (.sl e m xs,[],1) else some (.sl e m xs,[k],d))|_=>none
 |.n _=>none
 |.dead=>none
def ZgE (st:St):List AV->Option (List CT×List Nat×Nat)
 | []=>some ([],[],2)
 |x::r=>(avT st x).bind fun a=>(ZgE st r).map fun b=>(a.1::b.1,a.2.1++b.2.1,Zge a.2.2 b.2.2)
def Xi (st:St) (m:Nat):List SV->Option (List (List CT)×List Nat×Nat)
 | []=>some ([],[],2)
 |.p _ cs::r=>if cs.length=m then (ZgE st cs).bind fun a=>(Xi st m r).map fun b=>(a.1::b.1,a.2.1++b.2.1,Zge a.2.2 b.2.2) else none
 |_::_=>none
def Zkq:AV->Bool
 |.c _=>true
 |_=>false
def Yc:Ob->Ob
 |.row e m xs _=>.row e m xs 0
 |o=>o
def ZU (st:St):List Nat->List (Nat×Ob)
 | []=>[]
 |k::r=>(k,Yc (st.ob k))::ZU st r
def Za8 (ks:List Nat):List (Nat×Ob):=ks.map fun k=>(k,Ob.gone)
def CT.flat:CT->Bool
 |.int _ _=>true
 |.bool _=>true
 |.str _=>true
 |_=>false
def ZaN (xs:List (List CT)):Bool:=xs.all fun e=>e.all CT.flat
def Zj5 (fl:Bool) (xs:List (List CT)):Nat:=if (fl&&ZaN xs)=true then 2 else 1
def Zgh (st:St) (fl:Bool):SV->Option (List (List CT)×List Nat×Nat)
 |.p false [.c (.sl _ _ ys)]=>some (ys,[],Zj5 fl ys)
 |.p false [.nil _ _]=>some ([],[],2)
 |.p false [.row j]=>match st.ob j with | .row _ _ ys d=>(if d=0 then some (ys,[],Zj5 fl ys) else some (ys,[j],d))|_=>none
 |_=>none
def Zgk (st:St):SV->Option (List (List CT)×List Nat×Nat)
 |.p false [.nil _ _]=>some ([],[],2)
 |.p false [.row k]=>match st.ob k with | .row _ _ xs d=>(if d=0 then none else some (xs,[k],d))|_=>none
 |_=>none
def Zmi (st:St) (e m:Nat):SV->Bool
 |.p false [.row k]=>match st.ob k with | .row e' m' _ _=>e==e'&&m==m'|_=>false
 |.p false [.nil _ _]=>true
 |_=>false
def Zk2 (st:St) (m:Nat):SV->Bool
 |.p false [.row k]=>match st.ob k with | .row _ m' _ _=>m==m'|_=>false
 |.p false [.c (.sl _ m' _)]=>m==m'
 |.p false [.nil _ _]=>true
 |_=>false
def Zor (st:St) (key:Nat) (t:Option TI) (s x:SV):Option (SV×List (Nat×Ob)):=
 match t with
 |some (.slice e m _ z)=>
  (Zgk st s).bind fun a=>(Zgh st (z.all Zkq) x).bind fun b=>
   if Zmi st e m s=true/\Zk2 st m x=true/\(a.2.1++b.2.1).Nodup/\a.1.length+b.1.length<=1073741824 then
    some (.p false [.row key],Za8 (a.2.1++b.2.1)++[(key,.row e m (a.1++b.1) (Zge a.2.2 b.2.2))]) else none
 |_=>none
def Zwn (lo:Bool):SV->SV->Option SV
 |.p false [.c (.int k x)],.p false [.c (.int _ y)]=>some (.p false [.c (.int k (if lo then (if y<x then y else x) else (if x<y then y else x)))])
 |_,_=>none
def Zky:Option TI->Nat
 |some (.slice _ m _ _)=>m
 |_=>0
def hiB (n:Nat):Option SV->Option Nat
 |none=>some n
 |some (.p false [.c (.int _ h)])=>if 0<=h/\h<=n then some h.toNat else none
 |_=>none
def loB (n:Nat):Option SV->Option Nat
 |none=>some 0
 |some (.p false [.c (.int _ l)])=>if 0<=l/\l<=n then some l.toNat else none
 |_=>none
def Zl8 (t:Option TI) (lo hi:Option SV):SV->Option SV
 |.p false [.c (.str s)]=>if ZcV t=true then (hiB s.size hi).bind fun h=>(loB h lo).map fun l=>.p false [.c (.str (s.extract l h))] else none
 |.p false [.c (.sl e m xs)]=>if Zky t=m then (hiB xs.length hi).bind fun h=>(loB h lo).map fun l=>.p false [.c (.sl e m ((xs.take h).drop l))] else none
 |_=>none
def mvS (d:Nat):Option SV->Option SV->Bool
 |some _,none=>if d=0 then false else true
 |_,_=>false
def Zaf (st:St) (key:Nat) (t:Option TI) (lo hi:Option SV):SV->Option (SV×List (Nat×Ob))
 |.p false [.row k]=>if Zb4 t=true then (match st.ob k with
  |.row e m xs d=>if Zky t=m then if mvS d lo hi=true then (loB xs.length lo).map fun l=>(.p false [.row key],[(k,.gone),(key,.row e m (xs.drop l) d)]) else (hiB xs.length hi).bind fun h=>(loB h lo).map fun l=>(.p false [.c (.sl e m ((xs.take h).drop l))],[(k,.row e m xs 0)]) else none
  |_=>none) else none
 |.p false [.c x]=>(Zl8 t lo hi (.p false [.c x])).map fun v=>(v,[])
 |_=>none
def vEq:Value->Value->Bool
 |.int k a,.int k' b=>k==k'&&a==b
 |.string a,.string b=>sEq a b
 |.bool a,.bool b=>a==b
 |_,_=>false
def ZlP:List (Value×Value)->Value->Option Value
 | [],_=>none
 |p::r,k=>if vEq k p.1=true then some p.2 else ZlP r k
def ZfP:List (Value×Value)->Value->Value->List (Value×Value)
 | [],k,v=>[(k,v)]
 |p::r,k,v=>if vEq k p.1=true then (k,v)::r else p::ZfP r k v
def avV:Value->AV
 |.int k n=>.c (.int k n)
 |.bool b=>.c (.bool b)
 |.string s=>.c (.str s)
 |_=>.dead
def ZbO (kv:List (Value×Value)) (k:Value) (z:AV):AV:=match ZlP kv k with|some v=>avV v|none=>z
def Zfb (kv:List (Value×Value)) (k:Value):Bool:=(ZlP kv k).isSome
def Zfc:PK->AV
 |.int k=>.c (.int k 0)
 |.bool=>.c (.bool false)
 |.str=>.c (.str ⟨#[]⟩)
def Zvf:PK->SV->Option Value
 |.int k,.p false [.c (.int k' n)]=>if k=k' then some (.int k' n) else none
 |.str,.p false [.c (.str s)]=>some (.string s)
 |.bool,.p false [.c (.bool b)]=>some (.bool b)
 |_,_=>none
def Zr8 (kk vk:PK) (kv:List (Value×Value)) (i:SV) (ok:Bool):Option SV:=
 (Zvf kk i).map fun k=>match ok with
  |true=>.tup [(false,[ZbO kv k (Zfc vk)]),(false,[.c (.bool (Zfb kv k))])]
  |false=>.p false [ZbO kv k (Zfc vk)]
instance pkDec:DecidableEq PK:=fun a b=>match a,b with
 |.int k,.int k'=>if h:k=k' then isTrue (h ▸ rfl) else isFalse (fun e=>h (PK.int.inj e))
 |.bool,.bool=>isTrue rfl
 |.str,.str=>isTrue rfl
 |.int _,.bool=>isFalse (fun e=>by cases e)
 |.int _,.str=>isFalse (fun e=>by cases e)
 |.bool,.int _=>isFalse (fun e=>by cases e)
 |.bool,.str=>isFalse (fun e=>by cases e)
 |.str,.int _=>isFalse (fun e=>by cases e)
 |.str,.bool=>isFalse (fun e=>by cases e)
def Ze3 (kk vk:PK):Option TI->Bool
 |some (.map a b)=>decide (a=kk)&&decide (b=vk)
 |_=>false
def Zhf (st:St) (t:Option TI) (x i:SV) (ok:Bool):Option SV:=
 match x with
 |.p false [.row k]=>match st.ob k with | .map kk vk kv=>if Ze3 kk vk t=true then Zr8 kk vk kv i ok else none|_=>none
 |.p false [.c (.mp kk vk kv)]=>if Ze3 kk vk t=true then Zr8 kk vk kv i ok else none
 |_=>none
def ZvR (st:St) (t:Option TI) (x i v:SV):Option (List (Nat×Ob)):=
 match x with
 |.p false [.row k]=>match st.ob k with | .map kk vk kv=>if Ze3 kk vk t=true then (Zvf kk i).bind fun a=>(Zvf vk v).map fun b=>[(k,.map kk vk (ZfP kv a b))] else none|_=>none
 |_=>none
def Zo7 (key:Nat):Option TI->Option (SV×List (Nat×Ob))
 |some (.map kk vk)=>some (.p false [.row key],[(key,.map kk vk [])])
 |_=>none
def ZjZ (st:St):SV->Option (CT×List (Nat×Ob))
 |.bp k 0=>match st.ob k with | .box _ cs=>(zBox cs).map fun l=>(.pt l,[(k,.gone)])|_=>none
 |.p false [.c (.pt e)]=>some (.pt e,[])
 |_=>none
where zBox:List AV->Option (List CT)
 | []=>some []
 |.c x::r=>(zBox r).map fun b=>x::b
 |_::_=>none
def ZeM (st:St):List SV->Option (List CT×List (Nat×Ob))
 | []=>some ([],[])
 |x::r=>(ZjZ st x).bind fun a=>(ZeM st r).map fun b=>(a.1::b.1,a.2++b.2)
def ZlO:List AV->Option (List CT)
 | []=>some []
 |.c x::r=>(ZlO r).map fun b=>x::b
 |.nil e m::r=>if 0<m then (ZlO r).map fun b=>.sl e m []::b else none
 |_::_=>none
def Zso (key:Nat) (t:Option TI):SV->SV->Option (SV×List (Nat×Ob))
 |.p false [.c (.int .i64 n)],.p false [.c (.int .i64 c)]=>
  match t with
  |some (.slice e m _ z)=>(ZlO z).bind fun ze=>if 0<=n/\n=c/\n<=1073741824 then some (.p false [.row key],[(key,.row e m (List.replicate n.toNat ze) 2)]) else none
  |_=>none
 |_,_=>none
def Zw4 (i:Nat):SV->Option SV
 |.tup xs=>(xs[i]?).map fun x=>.p x.1 x.2
 |_=>none
def Zbo (v:Option SV):Option (SV×List (Nat×Ob)):=v.map fun v=>(v,[])
def ZiG (st:St):SV->Option SV
 |.p false [.row k]=>match st.ob k with | .row _ _ xs _=>(Ze6 xs).map fun l=>.p false [.c (.str (Xn l))]|_=>none
 |.p false [.c (.sl _ _ xs)]=>(Ze6 xs).map fun l=>.p false [.c (.str (Xn l))]
 |_=>none
def Zqi (tt:Nat->Option TI):Option TI->Option TI
 |some (.slice e _ _ _)=>tt e
 |_=>none
def ZgN (tt:Nat->Option TI) (st:St) (s t:Nat) (x:SV):Option SV:=
 if (ZcV (tt t)&&Zni (Zqi tt (tt s)))=true then ZiG st x else ZrI (tt s) (tt t) x
def ZjB:List TypeId->List Operand->List (TypeId×Operand)
 |t::ts,x::xs=>(t,x)::ZjB ts xs
 | [],x::xs=>(0,x)::ZjB [] xs
 |_,[]=>[]
def evs (st:St) (ts:List TypeId) (xs:List Operand):List SV:=(ZjB ts xs).map fun p=>st.ev tt p.1 p.2
def Zf7 (st:St) (key:Nat) (b:Builtin) (ts:List TypeId) (vs:List SV):Option (SV×List (Nat×Ob)):=
 match b,ts,vs with
 |.len,t::_,[x]=>Zbo (Zn4 st (tt t) x)
 |.append,[t,u],[s,x]=>if t=u then Zor st key (tt t) s x else none
 |.max,_,[x,y]=>Zbo (Zwn false x y)
 |.min,_,[x,y]=>Zbo (Zwn true x y)
 |_,_,_=>none
def opE (key:Nat) (o:Oper) (st:St):Option (SV×List (Nat×Ob)):=
 match o.op with
 |.move x=>some (st.ev tt o.type x,[])
 |.assign x=>some (st.ev tt o.type x,[])
 |.pick c a b=>match st.ev tt 0 c with | .p false [.c (.bool t)]=>some (if t=true then st.ev tt o.type a else st.ev tt o.type b,[])|_=>none
 |.alloc t=>(Zns (tt t)).map fun z=>(.bp key 0,[(key,.box t z)])
 |.box t x=>match st.ev tt t x with | .p _ cs=>some (.bp key 0,[(key,.box t cs)])|_=>none
 |.build t parts=>match tt t with|some (.strct fs _ z)=>(Zj2 fs z (parts.toList.map (ZgA tt st fs z))).map fun cs=>(.p true cs,[])|_=>none
 |.buildSlice t len parts=>match tt t with
  |some (.slice e m _ z)=>(Xi st m (parts.toList.map fun p=>st.ev tt e p.2)).bind fun a=>
   if parts.toList.map (·.1)=List.range len/\len*m<=16777216/\a.2.1.Nodup/\(!z.all Zkq||a.2.1.isEmpty)=true then some (.p false [.row key],ZU st a.2.1++[(key,.row e m a.1 a.2.2)]) else none
  |_=>none
 |.load t x=>Zbo (QZ st (tt t) (st.ev tt 0 x))
 |.store t x v=>(Zng st (tt t) (st.ev tt 0 x) (st.ev tt t v)).map fun u=>(.und,u)
 |.nilCheck x=>match st.ev tt 0 x with | .bp k i=>some (.bp k i,[]) | .rp k m i j=>some (.rp k m i j,[]) | .ep e i=>some (.ep e i,[]) | .p false [.c (.pt e)]=>some (.p false [.c (.pt e)],[])|_=>none
 |.makeFunc (.func f) first caps=>if first.size=0 then (ZeM st (caps.toList.map (st.ev tt 0))).bind fun r=>if (r.2.map (·.1)).Nodup then some (.p false [.c (.fn f r.1)],r.2) else none else none
 |.makeMap t none=>Zo7 key (tt t)
 |.lookup t x i ok=>Zbo (Zhf st (tt t) (st.ev tt 0 x) (st.ev tt 0 i) ok)
 |.mapUpdate t x i v=>(ZvR st (tt t) (st.ev tt 0 x) (st.ev tt 0 i) (st.ev tt 0 v)).map fun u=>(.und,u)
 |.binOp op t x y _=>Zbo (Zx6 tt t (ZkC y) op (st.ev tt t x) (st.ev tt t y))
 |.unOp op _ x=>Zbo (unV op (st.ev tt 0 x))
 |.convert s t x=>Zbo (ZgN tt st s t (st.ev tt 0 x))
 |.makeSlice t n c=>Zso key (tt t) (st.ev tt 0 n) (st.ev tt 0 c)
 |.slice t x lo hi none=>Zaf st key (tt t) (lo.map (st.ev tt 0)) (hi.map (st.ev tt 0)) (st.ev tt 0 x)
 |.fieldAddr t x f=>match tt t with|some (.strct fs _ _)=>Zbo ((fs[f]?).bind fun i=>ZkQ i.off (st.ev tt 0 x))|_=>none
 |.field t x f=>match tt t with|some (.strct fs _ _)=>Zbo (ZmF fs f (st.ev tt 0 x))|_=>none
 |.indexAddr t x i=>match tt t with|some (.slice _ m _ _)=>Zbo (ZbC st m (st.ev tt 0 x) (st.ev tt 0 i))|_=>none
 |.index t x i=>Zbo (ZmC (tt t) (st.ev tt 0 x) (st.ev tt 0 i))
 |.extract x i=>Zbo (Zw4 i (st.ev tt 0 x))
 |.call c=>match c.callee with
  |.builtin b=>Zf7 tt st key b c.argTypes.toList (evs tt st c.argTypes.toList c.args.toList)
  |_=>none
 |_=>none
end
def Zb9 (st:St):AV->Option CT
 |.c x=>some x
 |.nil e m=>if 0<m then some (.sl e m []) else none
 |.row k=>match st.ob k with | .row e m xs _=>some (.sl e m xs)|_=>none
 |.n x=>some x
 |.dead=>none
def Y0 (st:St):List AV->Option (List CT)
 | []=>some []
 |x::r=>(Zb9 st x).bind fun a=>(Y0 st r).map fun b=>a::b
def Zdh (st:St):SV->Option (Bool×List CT)
 |.p a cs=>(Y0 st cs).map fun l=>(a,l)
 |_=>none
def Z1 (st:St):List SV->Option (List (Bool×List CT))
 | []=>some []
 |x::r=>(Zdh st x).bind fun a=>(Z1 st r).map fun b=>a::b
def nlA:AV->AV
 |.nil e m=>.c (.nl e m)
 |.c x=>.c x
 |.n x=>.n x
 |.row k=>.row k
 |.dead=>.dead
def nlS:SV->SV
 |.p a cs=>.p a (cs.map nlA)
 |x=>x
def Zjj:CT->AV
 |.nl e m=>.nil e m
 |.int k n=>.c (.int k n)
 |.bool b=>.c (.bool b)
 |.str s=>.c (.str s)
 |.sl e m xs=>.c (.sl e m xs)
 |.pt es=>.c (.pt es)
 |.fn f es=>.c (.fn f es)
 |.mp k v kv=>.c (.mp k v kv)
 |.ifc b=>.c (.ifc b)
 |.any=>.c .any
abbrev RT:=Bool×List (Bool×CT)
def ZGI (l:List CT):List (Bool×CT):=l.map fun x=>(false,x)
def ZEP (l:List CT):List (Bool×CT):=l.map fun x=>(true,x)
def Ya (key:Nat):List (Bool×CT)->List AV×List (Nat×Ob)×Nat
 | []=>([],[],key)
 |(false,.sl e m xs)::r=>let b:=Ya (key+1) r;(.row key::b.1,(key,.row e m xs 2)::b.2.1,b.2.2)
 |(false,.int k n)::r=>let b:=Ya key r;(.c (.int k n)::b.1,b.2.1,b.2.2)
 |(false,.bool k)::r=>let b:=Ya key r;(.c (.bool k)::b.1,b.2.1,b.2.2)
 |(false,.str s)::r=>let b:=Ya key r;(.c (.str s)::b.1,b.2.1,b.2.2)
 |(false,.ifc x)::r=>let b:=Ya key r;(.c (.ifc x)::b.1,b.2.1,b.2.2)
 |(false,.any)::r=>let b:=Ya key r;(.c .any::b.1,b.2.1,b.2.2)
 |(false,.nl e m)::r=>let b:=Ya key r;(.c (.nl e m)::b.1,b.2.1,b.2.2)
 |(false,.pt x)::r=>let b:=Ya key r;(.c (.pt x)::b.1,b.2.1,b.2.2)
 |(false,.fn f x)::r=>let b:=Ya key r;(.c (.fn f x)::b.1,b.2.1,b.2.2)
 |(false,.mp k v x)::r=>let b:=Ya key r;(.c (.mp k v x)::b.1,b.2.1,b.2.2)
 |(true,x)::r=>let b:=Ya key r;(.c x::b.1,b.2.1,b.2.2)
def ZK (key:Nat):List RT->List (Bool×List AV)×List (Nat×Ob)×Nat
 | []=>([],[],key)
 |x::r=>let a:=Ya key x.2;let b:=ZK a.2.2 r;((x.1,a.1)::b.1,a.2.1++b.2.1,b.2.2)
def Zdg:List (Bool×List AV)->SV
 | [x]=>.p x.1 x.2
 |xs=>.tup xs
inductive Zme where
 |row (e m:Nat) (xs:List (List CT))
 |box (t:Nat) (cs:List CT)
inductive NB where
 |box (t:Nat) (cs:List CT)
 |map (kk vk:PK) (kv:List (Value×Value))
def ZEY (key:Nat):NB->SV
 |.box _ _=>.bp key 0
 |.map _ _ _=>.p false [.row key]
def ZxU:NB->Ob
 |.box t cs=>.box t (cs.map .c)
 |.map kk vk kv=>.map kk vk kv
structure Ctx where
 r:FuncId->List (Bool×List CT)->List RT->Prop
 h:FuncId->Zme->List (Bool×List CT)->List RT->Zme->Prop
 hd:FuncId->Nat
 b:FuncId->List (Bool×List CT)->NB->Prop
def ZbX:AV->Bool
 |.row _=>false
 |.dead=>false
 |_=>true
def Zia:SV->Bool
 |.p _ cs=>cs.all ZbX
 |_=>true
def Zcr:List (Bool×CT)->Bool
 | []=>false
 |p::r=>p.1||Zcr r
def Zdi:List RT->Bool
 | []=>false
 |x::r=>Zcr x.2||Zdi r
def ZiP:List AV->List Nat
 | []=>[]
 |.row k::r=>k::ZiP r
 |_::r=>ZiP r
def Yb:List SV->List Nat
 | []=>[]
 |.p _ cs::r=>ZiP cs++Yb r
 |_::r=>Yb r
def Zf1 (st:St):SV->Option (Nat×Zme)
 |.bp k 0=>match st.ob k with | .box t cs=>(if cs.all ZbX=true then (Y0 st cs).map fun l=>(k,.box t l) else none)|_=>none
 |.p false [.row k]=>match st.ob k with | .row e m xs d=>(if d=2/\ZaN xs=true then some (k,.row e m xs) else none)|_=>none
 |_=>none
def Zef:Zme->Ob
 |.row e m xs=>.row e m xs 2
 |.box t cs=>.box t (cs.map .c)
inductive Ex where
 |normal
 |exit (id:Nat)
 |ret
section
variable (tt:Nat->Option TI) (S:Ctx)
def YZ {α:Type}(r:Option α) (K:α->Prop):Prop:=match r with|some v=>K v|none=>False
def Zib (dst:Option Nat) (K:St->Prop) (st:St) (v:SV):Prop:=K (st.put dst v)
def ZlC (dst:Option Nat) (K:St->Prop) (st:St) (r:SV×List (Nat×Ob)):Prop:=K ((st.put dst r.1).app r.2)
def ZsM (f:FuncId) (key:Nat) (dst:Option Nat) (K:St->Prop) (st:St) (vs:List SV) (l:List (Bool×List CT)):Prop:=
 ∃res,S.r f l res/\(!Zdi res||vs.all Zia)=true/\(ZK key res).2.2<=key+16/\K ((st.put dst (Zdg (ZK key res).1)).app (ZK key res).2.1)
def Zzi (f:FuncId) (key:Nat) (dst:Option Nat) (K:St->Prop) (st:St) (vs:List SV) (l:List (Bool×List CT)):Prop:=
 ∃res,S.r f l res/\(ZK key res).2.2<=key+16/\K ((st.put dst (Zdg (ZK key res).1)).app (ZU st (Yb vs)++(ZK key res).2.1))
def ZxW (f:FuncId) (key:Nat) (dst:Option Nat) (K:St->Prop) (st:St) (vs:List SV) (kh:Nat×Zme) (l:List (Bool×List CT)):Prop:=
 ∃res h',S.h f kh.2 l res h'/\(Yb vs).all (fun j=>j != kh.1)=true/\(ZK key res).2.2<=key+16/\K ((st.put dst (Zdg (ZK key res).1)).app (ZU st (Yb vs)++((kh.1,Zef h')::(ZK key res).2.1)))
def ZB0 (f:FuncId) (key:Nat) (dst:Option Nat) (K:St->Prop) (st:St) (vs:List SV) (l:List (Bool×List CT)):Prop:=
 ∃nb,S.b f l nb/\K ((st.put dst (ZEY key nb)).app (ZU st (Yb vs)++[(key,ZxU nb)]))
def ZuJ (f:FuncId) (key:Nat) (dst:Option Nat) (K:St->Prop) (st:St):List SV->Prop
 | []=>False
 |v::r=>YZ (Zf1 st v) fun kh=>YZ (Z1 st r) (ZxW S f key dst K st r kh)
def spK (f:FuncId) (n key:Nat) (dst:Option Nat) (K:St->Prop) (st:St) (vs:List SV):Prop:=
 match n with
 |0=>YZ (Z1 st vs) (ZsM S f key dst K st vs)
 |1=>ZuJ S f key dst K st vs
 |3=>YZ (Z1 st vs) (ZB0 S f key dst K st vs)
 |4=>YZ (Z1 st (vs.map nlS)) (ZsM S f key dst K st (vs.map nlS))
 |_=>YZ (Z1 st vs) (Zzi S f key dst K st vs)
def Y7:Op->Option (FuncId×List TypeId×List Operand)
 |.call ⟨.value (.func f),args,ts⟩=>some (f,ts.toList,args.toList)
 |_=>none
def Xl:Op->Option (Nat×List TypeId×List Operand)
 |.call ⟨.value (.tmp s),args,ts⟩=>some (s,ts.toList,args.toList)
 |_=>none
def Zo2:SV->Option (FuncId×List CT)
 |.p false [.c (.fn f es)]=>some (f,es)
 |.fn f=>some (f,[])
 |_=>none
def Zk9 (c:CT):SV:=.p false [.c c]
def ZD5 (key:Nat) (dst:Option Nat) (K:St->Prop) (st:St) (vs:List SV) (fc:FuncId×List CT):Prop:=S.hd fc.1=0/\spK S fc.1 0 key dst K st (vs++fc.2.map Zk9)
def opS (key:Nat) (o:Oper) (K:St->Prop) (st:St):Prop:=
 match Y7 o.op with
 |some c=>spK S c.1 (S.hd c.1) key o.dst K st (evs tt st c.2.1 c.2.2)
 |none=>match Xl o.op with
  |some c=>YZ (Zo2 (st.sl c.1)) (ZD5 S key o.dst K st (evs tt st c.2.1 c.2.2))
  |none=>YZ (opE tt key o st) (ZlC o.dst K st)
def ZaO (all:List Oper) (o:Oper):Option (Option Nat×Bool):=
 match o.guard with
 |none=>none
 |some g=>some ((all[g.1]?).bind (·.dst),g.2)
def Zav:SV->Bool
 |.p false [.c (.bool _)]=>true
 |_=>false
def Qg:SV->Bool
 |.p false [.c (.bool b)]=>b
 |_=>false
def ZrT:SV->Bool
 |.und=>true
 |_=>false
def gK (v:SV) (want:Bool) (A B:Prop):Prop:=if Zav v=true then (if (Qg v==want)=true then A else B) else (if ZrT v=true then B else False)
def opG (all:List Oper) (key:Nat) (o:Oper) (K:St->Prop) (st:St):Prop:=
 match ZaO all o with
 |none=>opS tt S key o K st
 |some (none,_)=>K (st.put o.dst .und)
 |some (some t,want)=>gK (st.sl t) want (opS tt S key o K st) (K (st.put o.dst .und))
def Z7 (all:List Oper) (key:Nat):List Oper->(St->Prop)->St->Prop
 | [],K,st=>K st
 |o::r,K,st=>opG tt S all key o (Z7 all (key+16) r K) st
def Zqd (n:Nat) (K:St->Prop) (st:St):Prop:=K {st with n:=n}
def Zzh (ops:List Oper) (K:St->Prop) (st:St):Prop:=Z7 tt S ops st.n ops (Zqd (st.n+16*ops.length) K) st
def ZgR (k:St->Prop) (Q:Ex->St->Prop):Ex->St->Prop
 |.normal,st=>k st
 |e,st=>Q e st
def Zhd (id:Nat) (Q:Ex->St->Prop):Ex->St->Prop
 |.exit j,st=>if j=id then Q .normal st else Q (.exit j) st
 |e,st=>Q e st
def ZpB (v:SV) (a b:Prop):Prop:=if Zav v=true then (if Qg v=true then a else b) else False
def ZqU:List Nat->Nat->Nat->Option Nat
 | [],_,_=>none
 |x::r,k,i=>if x=k then some i else ZqU r k (i+1)
def rAV (ρ:List Nat):AV->AV
 |.row k=>match ZqU ρ k 0 with|some j=>.row j|none=>.dead
 |x=>x
def rSV (ρ:List Nat):SV->SV
 |.p a cs=>.p a (cs.map (rAV ρ))
 |.tup xs=>.tup (xs.map fun x=>(x.1,x.2.map (rAV ρ)))
 |.bp k off=>match ZqU ρ k 0 with|some j=>.bp j off|none=>.any
 |.rp k m i off=>match ZqU ρ k 0 with|some j=>.rp j m i off|none=>.any
 |x=>x
def rOb (ρ:List Nat):Ob->Ob
 |.box t cs=>.box t (cs.map (rAV ρ))
 |x=>x
def St.ren (st:St) (ρ:List Nat):St:=⟨fun t=>rSV ρ (st.sl t),fun j=>match ρ[j]? with|some k=>rOb ρ (st.ob k)|none=>.gone,ρ.length⟩
def St.mat (st:St) (m:Bool×Nat×Nat):St:=
 match m.1 with
 |false=>match st.sl m.2.1 with
  |.p ag cs=>match cs[m.2.2]? with
   |some (.nil e q)=>if 0<q then ⟨upd st.sl m.2.1 (.p ag (cs.set m.2.2 (.row st.n))),upd st.ob st.n (.row e q [] 2),st.n+1⟩ else st
   |some (.row k)=>match st.ob k with
    |.row e q xs _=>⟨upd st.sl m.2.1 (.p ag (cs.set m.2.2 (.c (.sl e q xs)))),upd st.ob k (.row e q xs 0),st.n⟩
    |_=>st
   |_=>st
  |_=>st
 |true=>match st.ob m.2.1 with
  |.box ty cs=>match cs[m.2.2]? with
   |some (.nil e q)=>if 0<q then ⟨st.sl,upd (upd st.ob m.2.1 (.box ty (cs.set m.2.2 (.row st.n)))) st.n (.row e q [] 2),st.n+1⟩ else st
   |some (.row k)=>match st.ob k with
    |.row e q xs _=>⟨st.sl,upd (upd st.ob k (.row e q xs 0)) m.2.1 (.box ty (cs.set m.2.2 (.c (.sl e q xs)))),st.n⟩
    |_=>st
   |_=>st
  |.row e q xs d=>if m.2.2<d then ⟨st.sl,upd st.ob m.2.1 (.row e q xs m.2.2),st.n⟩ else st
  |_=>st
def St.matN (st:St) (m:Bool×Nat×Nat):St:=
 match st.sl m.2.1 with
 |.p ag cs=>match cs[m.2.2-4096]? with
  |some (.row k)=>match st.ob k with
   |.row e q xs d=>if d=2 then ⟨upd st.sl m.2.1 (.p ag (cs.set (m.2.2-4096) (.n (.sl e q xs)))),upd st.ob k (.row e q xs 0),st.n⟩ else st
   |_=>st
  |_=>st
 |_=>st
def St.mats (st:St):List (Bool×Nat×Nat)->St
 | []=>st
 |m::r=>(if m.1=false/\4096<=m.2.2 then st.matN m else st.mat m).mats r
/- no slice and no text is longer than Go allows, at any depth -/
mutual
def ctD:CT->Prop
 |.sl _ _ xs=>xs.length<=9223372036854775807/\essD xs
 |.pt es=>ctsD es
 |.fn _ es=>ctsD es
 |.str s=>s.size<=9223372036854775807
 |_=>True
def ctsD:List CT->Prop
 | []=>True
 |x::r=>ctD x/\ctsD r
def essD:List (List CT)->Prop
 | []=>True
 |e::r=>ctsD e/\essD r
end
def avD:AV->Prop
 |.c x=>ctD x
 |.n x=>ctD x
 |_=>True
def ZwH:List AV->Prop
 | []=>True
 |x::r=>avD x/\ZwH r
structure WF (st:St):Prop where
 sl:∀t a cs,st.sl t=.p a cs->ZwH cs
 box:∀k t cs,st.ob k=.box t cs->ZwH cs
 row:∀k e m xs d,st.ob k=.row e m xs d->xs.length<=9223372036854775807/\essD xs
theorem Zuo {α:Type}{g:α->List CT}:∀{l:List α}{i:Nat}{x:α},essD (l.map g)->l[i]?=some x->ctsD (g x)
 | [],_,_,_,h=>by simp at h
 |_::_,0,_,h,e=>by simp at e;subst e;exact h.1
 |_::_,i+1,_,h,e=>Zuo h.2 (by simpa using e)
def Zlo (F:(Ex->St->Prop)->St->Prop) (Q:Ex->St->Prop):Nat->St->Prop
 |0,_=>False
 |n+1,st=>∃(ms:List (Bool×Nat×Nat)) (ρ:List Nat),ρ.Nodup/\(WF ((st.mats ms).ren ρ)->F (ZgR (Zlo F Q n) Q) ((st.mats ms).ren ρ))
def ldB:SV->Bool
 |.bp k _=>!decide (k=0)
 |.rp k _ _ _=>!decide (k=0)
 |_=>true
def hdB:SV->Bool
 |.bp k _=>decide (k=0)
 |_=>false
def hdC (n:Nat) (x:Option Operand) (st:St):Bool:=match n with
 |1=>match x with|some x=>hdB (st.ev tt 0 x)|none=>false
 |_=>true
def slB:SV->Bool
 |.p false [.c _]=>true
 |_=>false
def stk (o:Op) (st:St):Bool:=match o with
 |.load _ x=>ldB (st.ev tt 0 x)
 |.slice _ x _ _ _=>slB (st.ev tt 0 x)
 |o=>match Y7 o with|some c=>hdC tt (S.hd c.1) c.2.2.head? st|none=>true
def ifB (b:Bool) (c:Bool) (P:Prop):Prop:=match b with
 |true=>c=true/\P
 |false=>P
def Zf3 (b:Bool) (all:List Oper) (base:Nat):List Nat->(St->Prop)->St->Prop
 | [],K,st=>K st
 |i::r,K,st=>match all[i]? with
  |some o=>ifB b (stk tt S o.op st) (opG tt S all (base+16*i) o (Zf3 b all base r K) st)
  |none=>Zf3 b all base r K st
def Zvi (od:Option (List Nat×Bool)) (ops:List Oper) (K:St->Prop) (st:St):Prop:=match od with
 |none=>Zzh tt S ops K st
 |some l=>Zf3 tt S l.2 ops st.n l.1 (Zqd (st.n+16*ops.length) K) st
abbrev OD:=Nat->Option (List Nat×Bool)
def swp (od:OD):Code->(Ex->St->Prop)->St->Prop
 |.skip,Q,st=>Q .normal st
 |.region id ops _,Q,st=>Zvi tt S (od id) ops.toList (Q .normal) st
 |.seq a b,Q,st=>swp od a (ZgR (swp od b Q) Q) st
 |.cond c a b,Q,st=>ZpB (st.ev tt 0 c) (swp od a Q st) (swp od b Q st)
 |.block id b,Q,st=>swp od b (Zhd id Q) st
 |.loop b,Q,st=>∃n,Zlo (swp od b) Q n st
 |.exit id,Q,st=>Q (.exit id) st
 |.ret,Q,st=>Q .ret st
 |_,_,_=>False
end
def ZfT (st:St):AV->Option ((Bool×CT)×List Nat)
 |.c (.sl e m xs)=>some ((true,.sl e m xs),[])
 |.c (.int k n)=>some ((false,.int k n),[])
 |.c (.bool b)=>some ((false,.bool b),[])
 |.c (.str s)=>some ((false,.str s),[])
 |.nil e m=>if 0<m then some ((false,.sl e m []),[]) else none
 |.c (.ifc x)=>some ((false,.ifc x),[])
 |.c x=>some ((true,x),[])
 |.row k=>match st.ob k with | .row e m xs d=>(if d=2 then some ((false,.sl e m xs),[k]) else some ((true,.sl e m xs),[])) | .map kk vk kv=>some ((true,.mp kk vk kv),[])|_=>none
 |.n x=>some ((true,x),[])
 |.dead=>some ((true,.any),[])
def Zdc (st:St):List AV->Option (List (Bool×CT)×List Nat)
 | []=>some ([],[])
 |x::r=>(ZfT st x).bind fun a=>(Zdc st r).map fun b=>(a.1::b.1,a.2++b.2)
def Zc3 (tt:Nat->Option TI) (st:St):List ResultVar->Option (List RT×List Nat)
 | []=>some ([],[])
 |.tmp t::r=>match st.sl t with
  |.p a cs=>(Zdc st cs).bind fun x=>(Zc3 tt st r).map fun b=>((a,x.1)::b.1,x.2++b.2)
  |_=>none
 |.cell t ty::r=>match QZ st (tt ty) (st.sl t) with
  |some (.p a cs)=>(Zdc st cs).bind fun x=>(Zc3 tt st r).map fun b=>((a,x.1)::b.1,x.2++b.2)
  |_=>none
def ZuL:CT->Bool
 |.any=>true
 |.int _ _=>false
 |.bool _=>false
 |.str _=>false
 |.sl _ _ _=>false
 |.pt _=>false
 |.fn _ _=>false
 |.mp _ _ _=>false
 |.ifc _=>false
 |.nl _ _=>false
def wk1 (x y:Bool×CT) (R:Prop):Prop:=if ZuL y.2=true then R else x.2=y.2/\(x.1=y.1\/y.1=true)/\R
def wkC:List (Bool×CT)->List (Bool×CT)->Prop
 | [],[]=>True
 |x::r,y::q=>wk1 x y (wkC r q)
 |_,_=>False
def wkR:List RT->List RT->Prop
 | [],[]=>True
 |x::r,y::q=>x.1=y.1/\wkC x.2 y.2/\wkR r q
 |_,_=>False
def Zo (args:List (Bool×List CT)):St:=⟨fun t=>match args[t]? with|some x=>.p x.1 (x.2.map Zjj)|none=>.und,fun _=>.gone,0⟩
def ZMz:Zme->SV
 |.row _ _ _=>.p false [.row 0]
 |.box _ _=>.bp 0 0
def ZMA (h:Zme) (args:List (Bool×List CT)):St:=⟨fun t=>match t with|0=>ZMz h|t+1=>(match args[t]? with|some x=>.p x.1 (x.2.map .c)|none=>.und),fun k=>if k=0 then Zef h else .gone,1⟩
def ZvT (tt:Nat->Option TI) (rs:List ResultVar) (R:St->List RT->List Nat->Prop):Ex->St->Prop
 |.exit _,_=>False
 |_,st=>match Zc3 tt st rs with|some x=>x.2.Nodup/\R st x.1 x.2|none=>False
def fnS (od:OD) (tt:Nat->Option TI) (S:Ctx) (rs:List ResultVar) (body:Code) (args:List (Bool×List CT)) (res:List RT):Prop:=swp tt S od body (ZvT tt rs fun _ r _=>wkR r res) (Zo args)
def ZxE (st:St) (ks:List Nat) (h':Zme):Prop:=
 match h' with
 |.row e m xs=>∃k,st.sl 0=.p false [.row k]/\st.ob k=.row e m xs 2/\ZaN xs=true/\k∉ks
 |.box t cs=>∃k ds,st.sl 0=.bp k 0/\st.ob k=.box t ds/\ds.all ZbX=true/\Y0 st ds=some cs
def fnH (od:OD) (tt:Nat->Option TI) (S:Ctx) (rs:List ResultVar) (body:Code) (h:Zme) (args:List (Bool×List CT)) (res:List RT) (h':Zme):Prop:=swp tt S od body (ZvT tt rs fun st r ks=>wkR r res/\ZxE st ks h') (ZMA h args)
def Zf6 (st:St) (rs:List ResultVar) (nb:NB):Prop:=
 match rs with
 | [.tmp s]=>(match nb with
  |.box t cs=>∃k ds,st.sl s=.bp k 0/\st.ob k=.box t ds/\ds.all ZbX=true/\Y0 st ds=some cs
  |.map kk vk kv=>∃k,st.sl s=.p false [.row k]/\st.ob k=.map kk vk kv)
 |_=>False
def Zzf (rs:List ResultVar) (nb:NB):Ex->St->Prop
 |.exit _,_=>False
 |_,st=>Zf6 st rs nb
def hbO (st:St) (t:Nat) (cs:List CT):Ob->Prop
 |.box t' ds=>t'=t/\ds.all ZbX=true/\Y0 st ds=some cs
 |_=>False
def hbS (st:St) (t:Nat) (cs:List CT):SV->Prop
 |.bp k 0=>hbO st t cs (st.ob k)
 |_=>False
theorem Zup {st:St}{t:Nat}{cs:List CT}{v:SV}:hbS st t cs v↔∃k ds,v=.bp k 0/\st.ob k=.box t ds/\ds.all ZbX=true/\Y0 st ds=some cs:=by
 constructor
 .intro h;unfold hbS at h;split at h
  .rename_i k;unfold hbO at h;split at h
   .rename_i t' ds hk;obtain ⟨rfl,h2,h3⟩:=h;exact ⟨k,ds,rfl,hk,h2,h3⟩
   .exact h.elim
  .exact h.elim
 .rintro ⟨k,ds,rfl,h1,h2,h3⟩;show hbO st t cs (st.ob k)
  rw [h1];exact ⟨rfl,h2,h3⟩
theorem Zp8 {st:St}{ks:List Nat}{t:Nat}{cs:List CT}:ZxE st ks (.box t cs)=hbS st t cs (st.sl 0):=propext Zup.symm
theorem Zrr {st:St}{s t:Nat}{cs:List CT}:Zf6 st [.tmp s] (.box t cs)=hbS st t cs (st.sl s):=propext Zup.symm
def mbO (kk vk:PK) (kv:List (Value×Value)):Ob->Prop
 |.map kk' vk' kv'=>kk'=kk/\vk'=vk/\kv'=kv
 |_=>False
def mbS (st:St) (kk vk:PK) (kv:List (Value×Value)):SV->Prop
 |.p false [.row k]=>mbO kk vk kv (st.ob k)
 |_=>False
theorem Zzw {st:St}{kk vk:PK}{kv:List (Value×Value)}{v:SV}:mbS st kk vk kv v↔∃k,v=.p false [.row k]/\st.ob k=.map kk vk kv:=by
 constructor
 .intro h;unfold mbS at h;split at h
  .rename_i k;unfold mbO at h;split at h
   .rename_i a b c hk;obtain ⟨rfl,rfl,rfl⟩:=h;exact ⟨k,rfl,hk⟩
   .exact h.elim
  .exact h.elim
 .rintro ⟨k,rfl,h1⟩;show mbO kk vk kv (st.ob k)
  rw [h1];exact ⟨rfl,rfl,rfl⟩
theorem ZsA {st:St}{s:Nat}{kk vk:PK}{kv:List (Value×Value)}:Zf6 st [.tmp s] (.map kk vk kv)=mbS st kk vk kv (st.sl s):=propext Zzw.symm
theorem Zyv {st:St}{k:Nat}{kk vk:PK}{kv:List (Value×Value)}:mbS st kk vk kv (.p false [.row k])=mbO kk vk kv (st.ob k):=yi rfl
theorem Zy0 {kk vk a b:PK}{kv c:List (Value×Value)}:mbO kk vk kv (.map a b c)=(a=kk/\b=vk/\c=kv):=yi rfl
theorem ZAA {st:St}{t k:Nat}{cs:List CT}:hbS st t cs (.bp k 0)=hbO st t cs (st.ob k):=yi rfl
theorem ZyA {st:St}{t t':Nat}{cs:List CT}{ds:List AV}:hbO st t cs (.box t' ds)=(t'=t/\ds.all ZbX=true/\Y0 st ds=some cs):=yi rfl
theorem ZwJ {rs:List ResultVar}{nb:NB}{st:St}:Zzf rs nb .ret st=Zf6 st rs nb:=yi rfl
theorem ZvE {rs:List ResultVar}{nb:NB}{st:St}:Zzf rs nb .normal st=Zf6 st rs nb:=yi rfl
def fnB (od:OD) (tt:Nat->Option TI) (S:Ctx) (rs:List ResultVar) (body:Code) (args:List (Bool×List CT)) (nb:NB):Prop:=swp tt S od body (Zzf rs nb) (Zo args)
def Zus (k:Nat):Ob->AV
 |.row _ _ _ d=>if d=2 then .row k else .dead
 |.gone=>.dead
 |.box _ _=>.dead
 |.map _ _ _=>.dead
def ZjS (st:St):AV->AV
 |.c (.int k n)=>.c (.int k n)
 |.c (.bool b)=>.c (.bool b)
 |.c (.str s)=>.c (.str s)
 |.row k=>Zus k (st.ob k)
 |_=>.dead
def ZoV (st:St):SV->SV
 |.p ag cs=>.p ag (cs.map (ZjS st))
 |.bp k off=>.bp k off
 |_=>.any
def ZaX (st:St):Ob->Ob
 |.row e m xs d=>if d=2 then .row e m xs d else .gone
 |.gone=>.gone
 |.box t cs=>.box t (cs.map (ZjS st))
 |.map _ _ _=>.gone
def ZrO (st:St) (t:Nat):SV->St
 |.p false [.n (.sl e m xs)]=>⟨fun s=>if s=t then .p false [.row st.n] else ZoV st (st.sl s),fun k=>if k=st.n then .row e m xs 2 else ZaX st (st.ob k),st.n+1⟩
 |_=>st
def St.thaw (st:St) (t:Nat):St:=ZrO st t (st.sl t)
def Zzu (t:Nat) (Q:Ex->St->Prop):Ex->St->Prop
 |e,st=>Q e (st.thaw t)
def fnN (od:OD) (tt:Nat->Option TI) (S:Ctx) (rs:List ResultVar) (t:Nat) (body:Code) (args:List (Bool×List CT)) (res:List RT):Prop:=swp tt S od body (Zzu t (ZvT tt rs fun _ r _=>wkR r res)) (Zo args)
theorem ZyC (sl:Nat->SV) (ob:Nat->Ob) (n t:Nat):St.thaw ⟨sl,ob,n⟩ t=ZrO ⟨sl,ob,n⟩ t (sl t):=yi rfl
theorem Zzl (t:Nat) (Q:Ex->St->Prop) (e:Ex) (st:St):Zzu t Q e st=Q e (st.thaw t):=yi rfl
end
section
section
variable {tt:Nat->Option TI} {S:Ctx} {all:List Oper} {key:Nat} {d:Option Nat} {ty:TypeId} {pos:String} {af:Array Edge} {r:List Oper} {K:St->Prop} {st:St}
theorem ZAv:Z7 tt S all key [] K st=K st:=yi rfl
theorem Zyy (x:Operand):Z7 tt S all key (⟨d,.move x,ty,pos,af,none⟩::r) K st=Z7 tt S all (key+16) r K (st.put d (st.ev tt ty x)):=yi rfl
theorem Zv8 (x:Operand):Z7 tt S all key (⟨d,.assign x,ty,pos,af,none⟩::r) K st=Z7 tt S all (key+16) r K (st.put d (st.ev tt ty x)):=yi rfl
def ZpI (v a b:SV) (K:SV->Prop):Prop:=if Zav v=true then (if Qg v=true then K a else K b) else False
theorem ZGA (a b:SV) (K:SV->Prop):ZpI (.p false [.c (.bool true)]) a b K=K a:=by simp [ZpI,Zav,Qg]
theorem ZGc (a b:SV) (K:SV->Prop):ZpI (.p false [.c (.bool false)]) a b K=K b:=by simp [ZpI,Zav,Qg]
theorem Zy8 (c a b:Operand):Z7 tt S all key (⟨d,.pick c a b,ty,pos,af,none⟩::r) K st=ZpI (st.ev tt 0 c) (st.ev tt ty a) (st.ev tt ty b) (Zib d (Z7 tt S all (key+16) r K) st):=by
 simp only[Z7,opG,ZaO,opS,Y7,Xl,opE,ZpI];generalize st.ev tt 0 c=v
 unfold Zav;split
 .simp only[Qg,YZ,if_true];split<;>simp [ZlC,Zib,St.app,Zn, *]
 .simp [YZ]
theorem ZxD (t:TypeId):Z7 tt S all key (⟨d,.alloc t,ty,pos,af,none⟩::r) K st=YZ ((Zns (tt t)).map fun z=>(SV.bp key 0,[(key,Ob.box t z)])) (ZlC d (Z7 tt S all (key+16) r K) st):=yi rfl
def ZEy (key:Nat) (t:TypeId):SV->Option (SV×List (Nat×Ob))
 |.p _ cs=>some (.bp key 0,[(key,.box t cs)])
 |_=>none
theorem ZzQ (t:TypeId) (x:Operand):Z7 tt S all key (⟨d,.box t x,ty,pos,af,none⟩::r) K st=YZ (ZEy key t (st.ev tt t x)) (ZlC d (Z7 tt S all (key+16) r K) st):=yi rfl
def ZtC (tt:Nat->Option TI) (st:St) (parts:List (Nat×Operand)):Option TI->Option SV
 |some (.strct fs _ z)=>(Zj2 fs z (parts.map (ZgA tt st fs z))).map (.p true)
 |_=>none
theorem Za9 (v:Option SV):YZ (Zbo v) (ZlC d K st)=YZ v (Zib d K st):=by cases v<;>rfl
theorem Zxc (t:TypeId) (a:Array (Nat×Operand)):Z7 tt S all key (⟨d,.build t a,ty,pos,af,none⟩::r) K st=YZ (ZtC tt st a.toList (tt t)) (Zib d (Z7 tt S all (key+16) r K) st):=by
 rw [<-Za9];simp only[Z7,opG,ZaO,opS,Y7,Xl,opE,ZtC];cases tt t with
 |none=>rfl
 |some ti=>cases ti<;>first|rfl|(simp [Zbo,Option.map_map];rfl)
def ZC8 (st:St) (key len:Nat) (is:List Nat) (xs:List SV) (e:Nat):Option TI->Option (SV×List (Nat×Ob))
 |some (.slice _ m _ z)=>(Xi st m xs).bind fun a=>if is=List.range len/\len*m<=16777216/\a.2.1.Nodup/\(!z.all Zkq||a.2.1.isEmpty)=true then some (.p false [.row key],ZU st a.2.1++[(key,.row e m a.1 a.2.2)]) else none
 |_=>none
def Zqt:Option TI->Nat
 |some (.slice e _ _ _)=>e
 |_=>0
theorem ZCr (t:TypeId) (len:Nat) (a:Array (Nat×Operand)):Z7 tt S all key (⟨d,.buildSlice t len a,ty,pos,af,none⟩::r) K st=YZ (ZC8 st key len (a.toList.map (·.1)) (a.toList.map fun p=>st.ev tt (Zqt (tt t)) p.2) (Zqt (tt t)) (tt t)) (ZlC d (Z7 tt S all (key+16) r K) st):=by
 simp only[Z7,opG,ZaO,opS,Y7,Xl,opE,ZC8,Zqt];cases tt t with
 |none=>rfl
 |some ti=>cases ti<;>rfl
theorem ZyP (t:TypeId) (x:Operand):Z7 tt S all key (⟨d,.load t x,ty,pos,af,none⟩::r) K st=YZ (QZ st (tt t) (st.ev tt 0 x)) (Zib d (Z7 tt S all (key+16) r K) st):=Za9 _
def ZDX (d:Option Nat) (K:St->Prop) (st:St) (u:List (Nat×Ob)):Prop:=K ((st.put d .und).app u)
theorem ZwE (t:TypeId) (x v:Operand):Z7 tt S all key (⟨d,.store t x v,ty,pos,af,none⟩::r) K st=YZ (Zng st (tt t) (st.ev tt 0 x) (st.ev tt t v)) (ZDX d (Z7 tt S all (key+16) r K) st):=by
 simp only[Z7,opG,ZaO,opS,Y7,Xl,opE];cases Zng st (tt t) (st.ev tt 0 x) (st.ev tt t v)<;>rfl
def ZCy:SV->Option SV
 |.bp k i=>some (.bp k i)
 |.rp k m i j=>some (.rp k m i j)
 |.ep e i=>some (.ep e i)
 |.p false [.c (.pt e)]=>some (.p false [.c (.pt e)])
 |_=>none
theorem ZBP (x:Operand):Z7 tt S all key (⟨d,.nilCheck x,ty,pos,af,none⟩::r) K st=YZ (ZCy (st.ev tt 0 x)) (Zib d (Z7 tt S all (key+16) r K) st):=by
 simp only[Z7,opG,ZaO,opS,Y7,Xl,opE,<-Za9,ZCy];generalize st.ev tt 0 x=v
 cases v with
 |p ag cs=>cases ag with
  |true=>rfl
  |false=>cases cs with
   |nil=>rfl
   |cons y r=>cases r<;>cases y<;>first|rfl|(rename_i z;cases z<;>rfl)|(rename_i z _ _;cases z<;>rfl)
 |_=>rfl
theorem ZAq (op:BinOp) (t u:TypeId) (x y:Operand):Z7 tt S all key (⟨d,.binOp op t x y u,ty,pos,af,none⟩::r) K st=YZ (Zx6 tt t (ZkC y) op (st.ev tt t x) (st.ev tt t y)) (Zib d (Z7 tt S all (key+16) r K) st):=Za9 _
theorem ZF8 (op:UnOp) (t:TypeId) (x:Operand):Z7 tt S all key (⟨d,.unOp op t x,ty,pos,af,none⟩::r) K st=YZ (unV op (st.ev tt 0 x)) (Zib d (Z7 tt S all (key+16) r K) st):=Za9 _
theorem Zyd (s t:TypeId) (x:Operand):Z7 tt S all key (⟨d,.convert s t x,ty,pos,af,none⟩::r) K st=YZ (ZgN tt st s t (st.ev tt 0 x)) (Zib d (Z7 tt S all (key+16) r K) st):=Za9 _
theorem Zyt (t:TypeId) (n c:Operand):Z7 tt S all key (⟨d,.makeSlice t n c,ty,pos,af,none⟩::r) K st=YZ (Zso key (tt t) (st.ev tt 0 n) (st.ev tt 0 c)) (ZlC d (Z7 tt S all (key+16) r K) st):=yi rfl
theorem Zxl (t:TypeId) (x:Operand) (lo hi:Option Operand):Z7 tt S all key (⟨d,.slice t x lo hi none,ty,pos,af,none⟩::r) K st=YZ (Zaf st key (tt t) (lo.map (st.ev tt 0)) (hi.map (st.ev tt 0)) (st.ev tt 0 x)) (ZlC d (Z7 tt S all (key+16) r K) st):=yi rfl
def ZAQ (fs:Option TI) (f:Nat):Option Nat:=match fs with|some (.strct fs _ _)=>(fs[f]?).map FI.off|_=>none
def ZBj (fs:Option TI) (f:Nat) (v:SV):Option SV:=(ZAQ fs f).bind fun o=>ZkQ o v
theorem ZCx (t:TypeId) (x:Operand) (f:Nat):Z7 tt S all key (⟨d,.fieldAddr t x f,ty,pos,af,none⟩::r) K st=YZ (ZBj (tt t) f (st.ev tt 0 x)) (Zib d (Z7 tt S all (key+16) r K) st):=by
 rw [<-Za9];simp only[Z7,opG,ZaO,opS,Y7,Xl,opE,ZBj,ZAQ];cases tt t with
 |none=>rfl
 |some ti=>cases ti<;>first|rfl|(simp only[Option.bind_map];rfl)
def ZDk (fs:Option TI) (f:Nat) (v:SV):Option SV:=match fs with|some (.strct fs _ _)=>ZmF fs f v|_=>none
theorem ZDw (t:TypeId) (x:Operand) (f:Nat):Z7 tt S all key (⟨d,.field t x f,ty,pos,af,none⟩::r) K st=YZ (ZDk (tt t) f (st.ev tt 0 x)) (Zib d (Z7 tt S all (key+16) r K) st):=by
 rw [<-Za9];simp only[Z7,opG,ZaO,opS,Y7,Xl,opE,ZDk];cases tt t with
 |none=>rfl
 |some ti=>cases ti<;>rfl
def ZCe (st:St) (t:Option TI) (x i:SV):Option SV:=match t with|some (.slice _ m _ _)=>ZbC st m x i|_=>none
theorem ZAe (t:TypeId) (x i:Operand):Z7 tt S all key (⟨d,.indexAddr t x i,ty,pos,af,none⟩::r) K st=YZ (ZCe st (tt t) (st.ev tt 0 x) (st.ev tt 0 i)) (Zib d (Z7 tt S all (key+16) r K) st):=by
 rw [<-Za9];simp only[Z7,opG,ZaO,opS,Y7,Xl,opE,ZCe];cases tt t with
 |none=>rfl
 |some ti=>cases ti<;>rfl
theorem ZDS (t:TypeId) (x i:Operand):Z7 tt S all key (⟨d,.index t x i,ty,pos,af,none⟩::r) K st=YZ (ZmC (tt t) (st.ev tt 0 x) (st.ev tt 0 i)) (Zib d (Z7 tt S all (key+16) r K) st):=Za9 _
theorem ZAB (x:Operand) (i:Nat):Z7 tt S all key (⟨d,.extract x i,ty,pos,af,none⟩::r) K st=YZ (Zw4 i (st.ev tt 0 x)) (Zib d (Z7 tt S all (key+16) r K) st):=Za9 _
theorem ZC5 (b:Builtin) (args:Array Operand) (ts:Array TypeId):Z7 tt S all key (⟨d,.call ⟨.builtin b,args,ts⟩,ty,pos,af,none⟩::r) K st=YZ (Zf7 tt st key b ts.toList (evs tt st ts.toList args.toList)) (ZlC d (Z7 tt S all (key+16) r K) st):=yi rfl
def ZEr (f:FuncId) (n:Nat) (st:St) (vs:List SV):Option (SV×List (Nat×Ob)):=if n=0 then (ZeM st vs).bind fun r=>if (r.2.map (·.1)).Nodup then some (.p false [.c (.fn f r.1)],r.2) else none else none
theorem ZzJ (f:FuncId) (first a:Array Operand):Z7 tt S all key (⟨d,.makeFunc (.func f) first a,ty,pos,af,none⟩::r) K st=YZ (ZEr f first.size st (a.toList.map (st.ev tt 0))) (ZlC d (Z7 tt S all (key+16) r K) st):=yi rfl
theorem ZAu (t:TypeId):Z7 tt S all key (⟨d,.makeMap t none,ty,pos,af,none⟩::r) K st=YZ (Zo7 key (tt t)) (ZlC d (Z7 tt S all (key+16) r K) st):=yi rfl
theorem Zzb (t:TypeId) (x i:Operand) (ok:Bool):Z7 tt S all key (⟨d,.lookup t x i ok,ty,pos,af,none⟩::r) K st=YZ (Zhf st (tt t) (st.ev tt 0 x) (st.ev tt 0 i) ok) (Zib d (Z7 tt S all (key+16) r K) st):=Za9 _
theorem ZDr (t:TypeId) (x i v:Operand):Z7 tt S all key (⟨d,.mapUpdate t x i v,ty,pos,af,none⟩::r) K st=YZ (ZvR st (tt t) (st.ev tt 0 x) (st.ev tt 0 i) (st.ev tt 0 v)) (ZDX d (Z7 tt S all (key+16) r K) st):=by
 simp only[Z7,opG,ZaO,opS,Y7,Xl,opE];cases ZvR st (tt t) (st.ev tt 0 x) (st.ev tt 0 i) (st.ev tt 0 v)<;>rfl
theorem ZBA (s:Nat) (args:Array Operand) (ts:Array TypeId):Z7 tt S all key (⟨d,.call ⟨.value (.tmp s),args,ts⟩,ty,pos,af,none⟩::r) K st=YZ (Zo2 (st.sl s)) (ZD5 S key d (Z7 tt S all (key+16) r K) st (evs tt st ts.toList args.toList)):=yi rfl
theorem Zyk (vs:List SV) (f:FuncId) (es:List CT):ZD5 S key d K st vs (f,es)=(S.hd f=0/\spK S f 0 key d K st (vs++es.map Zk9)):=yi rfl
theorem Zya (f:FuncId) (args:Array Operand) (ts:Array TypeId):Z7 tt S all key (⟨d,.call ⟨.value (.func f),args,ts⟩,ty,pos,af,none⟩::r) K st=spK S f (S.hd f) key d (Z7 tt S all (key+16) r K) st (evs tt st ts.toList args.toList):=yi rfl
theorem ZGa (f:FuncId) (vs:List SV):spK S f 0 key d K st vs=YZ (Z1 st vs) (ZsM S f key d K st vs):=yi rfl
theorem ZGR (f:FuncId) (v:SV) (vs:List SV):spK S f 1 key d K st (v::vs)=YZ (Zf1 st v) fun kh=>YZ (Z1 st vs) (ZxW S f key d K st vs kh):=yi rfl
theorem ZGQ (f:FuncId) (vs:List SV):spK S f 3 key d K st vs=YZ (Z1 st vs) (ZB0 S f key d K st vs):=yi rfl
theorem ZGC (f:FuncId) (vs:List SV):spK S f 4 key d K st vs=YZ (Z1 st (vs.map nlS)) (ZsM S f key d K st (vs.map nlS)):=yi rfl
theorem ZGF (f:FuncId) (vs:List SV):spK S f 2 key d K st vs=YZ (Z1 st vs) (Zzi S f key d K st vs):=yi rfl
def gOf (all:List Oper) (j:Nat):Option Nat:=(all[j]?).bind (·.dst)
def gL (tt:Nat->Option TI) (S:Ctx) (all:List Oper) (key:Nat) (v:SV) (w:Bool) (o:Oper) (r:List Oper) (K:St->Prop) (st:St):Prop:=gK v w (Z7 tt S all key (o::r) K st) (Z7 tt S all (key+16) r K (st.put o.dst .und))
def ZsD (st:St):Option Nat->SV
 |some t=>st.sl t
 |none=>.und
theorem Zud (sl:Nat->SV) (ob:Nat->Ob) (n t:Nat):ZsD ⟨sl,ob,n⟩ (some t)=sl t:=yi rfl
theorem Zue:ZsD st none=.und:=yi rfl
theorem Zxx (op:Op) (j:Nat) (w:Bool):Z7 tt S all key (⟨d,op,ty,pos,af,some (j,w)⟩::r) K st=gL tt S all key (ZsD st (gOf all j)) w ⟨d,op,ty,pos,af,none⟩ r K st:=by
 cases hg:gOf all j with
 |none=>
  have h:ZaO all ⟨d,op,ty,pos,af,some (j,w)⟩=some (none,w):=by simp only[ZaO];rw [show (all[j]?).bind (·.dst)=none from hg]
  simp only[Z7,opG,h,gL,ZsD];simp [gK,Zav,ZrT]
 |some t=>
  have h:ZaO all ⟨d,op,ty,pos,af,some (j,w)⟩=some (some t,w):=by simp only[ZaO];rw [show (all[j]?).bind (·.dst)=some t from hg]
  simp only[Z7,opG,h,gL,ZsD];rfl
theorem ZFV (o:Oper):gL tt S all key (.p false [.c (.bool true)]) true o r K st=Z7 tt S all key (o::r) K st:=by simp [gL,gK,Zav,Qg]
theorem ZEZ (o:Oper):gL tt S all key (.p false [.c (.bool false)]) false o r K st=Z7 tt S all key (o::r) K st:=by simp [gL,gK,Zav,Qg]
theorem ZEv (o:Oper):gL tt S all key (.p false [.c (.bool true)]) false o r K st=Z7 tt S all (key+16) r K (st.put o.dst .und):=by simp [gL,gK,Zav,Qg]
theorem ZE0 (o:Oper):gL tt S all key (.p false [.c (.bool false)]) true o r K st=Z7 tt S all (key+16) r K (st.put o.dst .und):=by simp [gL,gK,Zav,Qg]
theorem ZDx (o:Oper) (w:Bool):gL tt S all key .und w o r K st=Z7 tt S all (key+16) r K (st.put o.dst .und):=by simp [gL,gK,Zav,ZrT]
theorem Zyu (v:SV):Zib d K st v=K (st.put d v):=yi rfl
theorem Zyi (v:SV) (u:List (Nat×Ob)):ZlC d K st (v,u)=K ((st.put d v).app u):=yi rfl
theorem ZyX (u:List (Nat×Ob)):ZDX d K st u=K ((st.put d .und).app u):=yi rfl
theorem ZvW {α:Type}(v:α) (K:α->Prop):YZ (some v) K=K v:=yi rfl
theorem Zvq {α:Type}(K:α->Prop):YZ none K=False:=yi rfl
theorem Zzk (n m:Nat) (sl:Nat->SV) (ob:Nat->Ob):Zqd n K ⟨sl,ob,m⟩=K ⟨sl,ob,n⟩:=yi rfl
theorem Zzr (a:List Oper) (sl:Nat->SV) (ob:Nat->Ob) (n:Nat):Zzh tt S a K ⟨sl,ob,n⟩=Z7 tt S a n a (Zqd (n+16*a.length) K) ⟨sl,ob,n⟩:=yi rfl
theorem ZwU (sl:Nat->SV) (ob:Nat->Ob) (n t:Nat) (v:SV):St.put ⟨sl,ob,n⟩ (some t) v=⟨upd sl t v,ob,n⟩:=yi rfl
theorem Zxy (v:SV):St.put st none v=st:=yi rfl
theorem ZyY (sl:Nat->SV) (ob:Nat->Ob) (n:Nat):St.app ⟨sl,ob,n⟩ []=⟨sl,ob,n⟩:=yi rfl
theorem Zx3 (sl:Nat->SV) (ob:Nat->Ob) (n:Nat) (p:Nat×Ob) (u:List (Nat×Ob)):St.app ⟨sl,ob,n⟩ (p::u)=St.app ⟨sl,upd ob p.1 p.2,n⟩ u:=yi rfl
theorem ZDM {α:Type}(f:Nat->α) (k j:Nat) (v:α):upd f k v j=if j=k then v else f j:=yi rfl
end
section
variable {od:OD} {tt:Nat->Option TI} {S:Ctx} {Q:Ex->St->Prop} {st:St}
theorem Zzn:swp tt S od .skip Q st=Q .normal st:=yi rfl
theorem ZvD (id:Nat) (a:Array Oper) (dr:Bool):swp tt S (fun _=>none) (.region id a dr) Q st=Zzh tt S a.toList (Q .normal) st:=yi rfl
def Zyb:List (Nat×List Nat×Bool)->OD
 | [],_=>none
 |p::r,i=>if i=p.1 then some p.2 else Zyb r i
theorem ZMu (m:List (Nat×List Nat×Bool)) (id:Nat) (a:Array Oper) (dr:Bool):swp tt S (Zyb m) (.region id a dr) Q st=Zvi tt S (Zyb m id) a.toList (Q .normal) st:=yi rfl
theorem ZCT (i:Nat):Zyb [] i=none:=yi rfl
theorem ZyQ (p:Nat×List Nat×Bool) (m:List (Nat×List Nat×Bool)) (i:Nat):Zyb (p::m) i=if i=p.1 then some p.2 else Zyb m i:=yi rfl
theorem Zzc (a:List Oper) (K:St->Prop):Zvi tt S none a K st=Zzh tt S a K st:=yi rfl
theorem ZyF (l:List Nat) (b:Bool) (a:List Oper) (K:St->Prop) (sl:Nat->SV) (ob:Nat->Ob) (n:Nat):Zvi tt S (some (l,b)) a K ⟨sl,ob,n⟩=Zf3 tt S b a n l (Zqd (n+16*a.length) K) ⟨sl,ob,n⟩:=yi rfl
def ZF6 (tt:Nat->Option TI) (S:Ctx) (b:Bool) (all:List Oper) (key:Nat) (K:St->Prop) (st:St):Option Oper->Prop
 |some o=>ifB b (stk tt S o.op st) (Z7 tt S all key [o] K st)
 |none=>K st
theorem ZDv (b:Bool) (all:List Oper) (base:Nat) (K:St->Prop):Zf3 tt S b all base [] K st=K st:=yi rfl
theorem ZyW (b:Bool) (all:List Oper) (base i:Nat) (r:List Nat) (K:St->Prop):Zf3 tt S b all base (i::r) K st=ZF6 tt S b all (base+16*i) (Zf3 tt S b all base r K) st (all[i]?):=by
 simp only[Zf3];cases all[i]?<;>rfl
theorem ZAd (b:Bool) (all:List Oper) (key:Nat) (K:St->Prop) (o:Oper):ZF6 tt S b all key K st (some o)=ifB b (stk tt S o.op st) (Z7 tt S all key [o] K st):=yi rfl
theorem ZFz (c:Bool) (P:Prop):ifB true c P=(c=true/\P):=yi rfl
theorem ZFs (c:Bool) (P:Prop):ifB false c P=P:=yi rfl
theorem ZzS (a b:Code):swp tt S od (.seq a b) Q st=swp tt S od a (ZgR (swp tt S od b Q) Q) st:=yi rfl
def ZsQ (tt:Nat->Option TI) (S:Ctx) (od:OD) (v:SV) (a b:Code) (Q:Ex->St->Prop) (st:St):Prop:=ZpB v (swp tt S od a Q st) (swp tt S od b Q st)
theorem ZyS (c:Operand) (a b:Code):swp tt S od (.cond c a b) Q st=ZsQ tt S od (st.ev tt 0 c) a b Q st:=yi rfl
theorem ZGu (a b:Code):ZsQ tt S od (.p false [.c (.bool true)]) a b Q st=swp tt S od a Q st:=by simp [ZsQ,ZpB,Zav,Qg]
theorem ZGk (a b:Code):ZsQ tt S od (.p false [.c (.bool false)]) a b Q st=swp tt S od b Q st:=by simp [ZsQ,ZpB,Zav,Qg]
theorem Zxv (id:Nat) (b:Code):swp tt S od (.block id b) Q st=swp tt S od b (Zhd id Q) st:=yi rfl
theorem Zyq (id:Nat):swp tt S od (.exit id) Q st=Q (.exit id) st:=yi rfl
theorem ZCk:swp tt S od .ret Q st=Q .ret st:=yi rfl
theorem ZGs (k:St->Prop):ZgR k Q .normal st=k st:=yi rfl
theorem ZGT (k:St->Prop) (i:Nat):ZgR k Q (.exit i) st=Q (.exit i) st:=yi rfl
theorem ZGL (k:St->Prop):ZgR k Q .ret st=Q .ret st:=yi rfl
theorem ZGN (i:Nat):Zhd i Q .normal st=Q .normal st:=yi rfl
theorem ZGi (i:Nat):Zhd i Q .ret st=Q .ret st:=yi rfl
theorem ZGW (i j:Nat):Zhd i Q (.exit j) st=if j=i then Q .normal st else Q (.exit j) st:=yi rfl
theorem ZCm (sl:Nat->SV) (ob:Nat->Ob) (n t s:Nat):St.ev tt ⟨sl,ob,n⟩ t (.tmp s)=sl s:=yi rfl
theorem ZxB (t:Nat) (v:Value):St.ev tt st t (.const v)=cvT (tt t) v:=yi rfl
theorem ZyH (t f:Nat):St.ev tt st t (.func f)=.fn f:=yi rfl
theorem ZGM (rs:List ResultVar) (R:St->List RT->List Nat->Prop):ZvT tt rs R .ret st=match Zc3 tt st rs with|some x=>x.2.Nodup/\R st x.1 x.2|none=>False:=yi rfl
theorem ZGS (rs:List ResultVar) (R:St->List RT->List Nat->Prop):ZvT tt rs R .normal st=match Zc3 tt st rs with|some x=>x.2.Nodup/\R st x.1 x.2|none=>False:=yi rfl
end
attribute [go_sem] ZAv Zyy Zv8 Zy8 ZxD ZzQ Zxc ZCr ZyP ZwE ZBP ZAq ZF8 Zyd Zyt Zxl ZCx ZDw ZAe ZDS ZAB ZC5 Zya ZzJ ZAu Zzb ZDr ZBA Zyk ZEr Zo7 Zhf Zr8 ZvR Zvf Ze3 Zfc ZeM ZjZ ZjZ.zBox Zo2 Zk9 eqC ZnZ Zzm Zx0 ZsH Zub ZkC ZCl Zwo ZxJ Zx6 Ze6 Zni ZiG Zqi ZgN Zxx Zyu Zyi ZyX ZvW Zvq Zzk Zzr ZwU Zxy ZyY Zx3 ZDM Zzn ZvD Zzc ZyF ZDv ZyW ZAd ZCT ZyQ ZFz ZFs stk hdC ldB hdB Y7 List.head?_cons ZzS ZyS Zxv Zyq ZCk ZGs ZGT ZGL ZGN ZGi ZGW ZCm ZxB ZyH ZGM ZGS ZGA ZGc ZGu ZGk ZFV ZEZ ZEv ZE0 ZDx Zud Zue ZEy ZtC ZC8 Zqt Zkq List.all_cons List.all_nil List.isEmpty_nil Bool.true_or Bool.false_or Bool.or_true Bool.or_false Bool.false_and ZCy ZAQ ZBj ZDk ZCe gOf cvT Zns Zyz Zzz Zyn unV ZrI Zn4 ZbC ZmC cut QZ splice ZiO Zng ZkQ ZmF Zj2 ZgA avT Zge Zj5 ZgE Xi Za8 Zgh Zgk Zmi Zk2 Zor Zwn Zl8 Zaf mvS hiB loB Zky Zb4 ZcV Zso Zw4 Zbo Zf7 evs Zb9 Y0 Zdh Z1 ZjB ZGa ZGR ZGF Zf1 Zef ZbX Zia Zdi Zcr ZiP Yb Yc ZU ZGI ZEP wkC wkR Zp8 Zrr ZsA Zyv Zy0 ZAA ZyA ZwJ ZvE ZGQ ZGC nlA nlS Zjj Zzl ZyC ZrO ZoV ZjS Zus ZaX ZuL wk1 ZfT Zdc Zc3 ZK Ya Zdg AZ List.length_nil A8 List.length_replicate List.getElem?_cons_zero List.getElem?_cons_succ List.getElem?_nil A5 AN AI Option.bind_none AB Option.map_none Aa List.nil_append List.append_nil AM AW List.drop_succ_cons List.drop_nil List.take_succ_cons AX List.take_nil List.set_cons_zero List.set_cons_succ List.range_zero Bool.and_true Bool.true_and Bool.and_self and_true true_and and_self Nat.zero_le Nat.le_refl beq_self_eq_true Option.getD_some ite_true ite_false Nat.zero_add Nat.lt_add_one Nat.zero_lt_succ eq_self or_false false_or and_false false_and or_self Nat.lt_irrefl true_or or_true List.not_mem_nil List.nodup_cons A0 Bool.false_eq_true if_true if_false decide_true decide_false Bool.not_true Bool.not_false Ab ne_eq not_true_eq_false not_false_eq_true
end
section
open Go.RowKit
section
variable {od:OD} {tt:Nat->Option TI} {S:Ctx}
theorem ZaH {α:Type}{r:Option α}{K K':α->Prop}(h:∀x,K x->K' x) (hh:YZ r K):YZ r K':=by
 cases r with
 |none=>exact hh
 |some v=>exact h v hh
theorem ZrC {key:Nat}{o:Oper}{K K':St->Prop}{st:St}(h:∀st,K st->K' st) (hh:opS tt S key o K st):opS tt S key o K' st:=by
 unfold opS at hh ⊢;split
 .rename_i c hc;rw [hc]at hh;simp only[spK]at hh ⊢;split
  .rename_i e;rw [e]at hh;exact ZaH (fun l ⟨f,h1,h2,h3,h4⟩=>⟨f,h1,h2,h3,h _ h4⟩) hh
  .rename_i e;rw [e]at hh;simp only[ZuJ]at hh ⊢;split
   .rename_i e2;rw [e2]at hh;exact hh
   .rename_i e2;rw [e2]at hh;exact ZaH (fun kh=>ZaH fun l ⟨f,h',h1,h2,h3,h4⟩=>⟨f,h',h1,h2,h3,h _ h4⟩) hh
  .rename_i e;rw [e]at hh;exact ZaH (fun l ⟨nb,h1,h4⟩=>⟨nb,h1,h _ h4⟩) hh
  .rename_i e;rw [e]at hh;exact ZaH (fun l ⟨f,h1,h2,h3,h4⟩=>⟨f,h1,h2,h3,h _ h4⟩) hh
  .rename_i n0 n1 n3 n4;have g:YZ (Z1 st (evs tt st c.2.1 c.2.2)) (Zzi S c.1 key o.dst K st (evs tt st c.2.1 c.2.2)):=by
    revert hh
    split
    .rename_i e;exact absurd e n0
    .rename_i e;exact absurd e n1
    .rename_i e;exact absurd e n3
    .rename_i e;exact absurd e n4
    .exact id
   exact ZaH (fun l ⟨f,h1,h2,h3⟩=>⟨f,h1,h2,h _ h3⟩) g
 .rename_i hc;rw [hc]at hh;simp only at hh;split
  .rename_i c hd;rw [hd]at hh;simp only at hh;exact ZaH (fun fc ⟨h0,h1⟩=>⟨h0,ZaH (fun l ⟨f,a,b,c,d⟩=>⟨f,a,b,c,h _ d⟩) h1⟩) hh
  .rename_i hd;rw [hd]at hh;simp only at hh;exact ZaH (fun r hr=>h _ hr) hh
theorem ZmU {all:List Oper}{key:Nat}{o:Oper}{K K':St->Prop}{st:St}(h:∀st,K st->K' st) (hh:opG tt S all key o K st):opG tt S all key o K' st:=by
 unfold opG at hh ⊢;split
 .rename_i hg;rw [hg]at hh;exact ZrC h hh
 .rename_i hg;rw [hg]at hh;exact h _ hh
 .rename_i hg;rw [hg]at hh;simp only[gK]at hh ⊢;split
  .rename_i h1;rw [if_pos h1]at hh;split
   .rename_i h2;rw [if_pos h2]at hh;exact ZrC h hh
   .rename_i h2;rw [if_neg h2]at hh;exact h _ hh
  .rename_i h1;rw [if_neg h1]at hh;split
   .rename_i h2;rw [if_pos h2]at hh;exact h _ hh
   .rename_i h2;rw [if_neg h2]at hh;exact hh
theorem ZoY {all:List Oper}{K K':St->Prop}(h:∀st,K st->K' st):∀(r:List Oper) (key:Nat) (st:St),Z7 tt S all key r K st->Z7 tt S all key r K' st
 | [],_,st,hh=>h st hh
 |o::r,key,st,hh=>ZmU (fun st' h'=>ZoY h r (key+16) st' h') hh
theorem Znh {F:(Ex->St->Prop)->St->Prop}(hF:∀Q Q' st,(∀e st,Q e st->Q' e st)->F Q st->F Q' st) {Q Q':Ex->St->Prop}(h:∀e st,Q e st->Q' e st):∀(n:Nat) (st:St),Zlo F Q n st->Zlo F Q' n st
 |0,_,hh=>hh
 |n+1,st,⟨ms,ρ,h1,h2⟩=>⟨ms,ρ,h1,fun hw=>hF _ _ _ (fun e st' h'=>by cases e<;>first|exact Znh hF h n st' h'|exact h _ _ h') (h2 hw)⟩
theorem Zh5 {b:Bool}{all:List Oper}{base:Nat}{K K':St->Prop}(h:∀st,K st->K' st):∀(l:List Nat) (st:St),Zf3 tt S b all base l K st->Zf3 tt S b all base l K' st
 | [],st,hh=>h st hh
 |i::r,st,hh=>by
  simp only[Zf3]at hh ⊢;split
  .rename_i o ho;rw [ho]at hh;cases b with
   |true=>exact ⟨hh.1,ZmU (fun st' h'=>Zh5 h r st' h') hh.2⟩
   |false=>exact ZmU (fun st' h'=>Zh5 h r st' h') hh
  .rename_i ho;rw [ho]at hh;exact Zh5 h r st hh
theorem Zak:∀(c:Code) (Q Q':Ex->St->Prop) (st:St),(∀e st,Q e st->Q' e st)->swp tt S od c Q st->swp tt S od c Q' st
 |.skip,Q,Q',st,h,hh=>h _ _ hh
 |.exit _,Q,Q',st,h,hh=>h _ _ hh
 |.ret,Q,Q',st,h,hh=>h _ _ hh
 |.region id d _,Q,Q',st,h,hh=>by
  simp only[swp,Zvi]at hh ⊢;split
  .rename_i e;rw [e]at hh;exact ZoY (fun st' h'=>h _ _ h') d.toList st.n st hh
  .rename_i l e;rw [e]at hh;exact Zh5 (fun st' h'=>h _ _ h') l.1 st hh
 |.seq a b,Q,Q',st,h,hh=>Zak a _ _ st (fun e st' h'=>by cases e<;>first|exact Zak b Q Q' st' h h'|exact h _ _ h') hh
 |.cond c a b,Q,Q',st,h,hh=>by
  simp only[swp,ZpB]at hh ⊢;split
  .rename_i h1;rw [if_pos h1]at hh;split
   .rename_i h2;rw [if_pos h2]at hh;exact Zak a Q Q' st h hh
   .rename_i h2;rw [if_neg h2]at hh;exact Zak b Q Q' st h hh
  .rename_i h1;rw [if_neg h1]at hh;exact hh
 |.block id b,Q,Q',st,h,hh=>Zak b _ _ st (fun e st' h'=>by
   cases e with
   |normal=>exact h _ _ h'
   |ret=>exact h _ _ h'
   |exit j=>
    simp only[Zhd]at h' ⊢;split
    .rename_i e;rw [if_pos e]at h';exact h _ _ h'
    .rename_i e;rw [if_neg e]at h';exact h _ _ h') hh
 |.loop b,Q,Q',st,h,⟨n,hh⟩=>⟨n,Znh (fun Q Q' st hq hs=>Zak b Q Q' st hq hs) h n st hh⟩
 |.rangeFunc _ _ _ _,_,_,_,_,hh=>hh.elim
 |.scope _,_,_,_,_,hh=>hh.elim
 |.label _,_,_,_,_,hh=>hh.elim
 |.goto _,_,_,_,_,hh=>hh.elim
 |.refuse _,_,_,_,_,hh=>hh.elim
end
theorem ZeT {x:Int}(h0:-9223372036854775808<=x) (h1:x<=9223372036854775807):IntKind.i64.wrap x=x:=IntWalk.i64_in _ ⟨h0,h1⟩
theorem ZBo (sl:Nat->SV) (ob:Nat->Ob) (n:Nat) (ρ:List Nat) (t:Nat):(St.ren ⟨sl,ob,n⟩ ρ).sl t=rSV ρ (sl t):=yi rfl
theorem ZA9 (sl:Nat->SV) (ob:Nat->Ob) (n:Nat) (ρ:List Nat) (j:Nat):(St.ren ⟨sl,ob,n⟩ ρ).ob j=match ρ[j]? with|some k=>rOb ρ (ob k)|none=>.gone:=yi rfl
theorem ZEB (st:St) (ρ:List Nat):(st.ren ρ).n=ρ.length:=yi rfl
theorem ZxO (st:St):st.mats []=st:=yi rfl
theorem Zwk (sl:Nat->SV) (ob:Nat->Ob) (n t j:Nat) (r:List (Bool×Nat×Nat)):St.mats ⟨sl,ob,n⟩ ((false,t,j)::r)=if 4096<=j then St.mats (match sl t with
  |.p ag cs=>(match cs[j-4096]? with
   |some (.row k)=>(match ob k with
    |.row e q xs d=>if d=2 then ⟨upd sl t (.p ag (cs.set (j-4096) (.n (.sl e q xs)))),upd ob k (.row e q xs 0),n⟩ else ⟨sl,ob,n⟩
    |_=>⟨sl,ob,n⟩)
   |_=>⟨sl,ob,n⟩)
  |_=>⟨sl,ob,n⟩) r else St.mats (match sl t with
  |.p ag cs=>(match cs[j]? with
   |some (.nil e q)=>if 0<q then ⟨upd sl t (.p ag (cs.set j (.row n))),upd ob n (.row e q [] 2),n+1⟩ else ⟨sl,ob,n⟩
   |some (.row k)=>(match ob k with
    |.row e q xs _=>⟨upd sl t (.p ag (cs.set j (.c (.sl e q xs)))),upd ob k (.row e q xs 0),n⟩
    |_=>⟨sl,ob,n⟩)
   |_=>⟨sl,ob,n⟩)
  |_=>⟨sl,ob,n⟩) r:=by
 by_cases h:4096<=j
 .rw [if_pos h,St.mats,if_pos ⟨rfl,h⟩];rfl
 .rw [if_neg h,St.mats,if_neg (fun e=>h e.2)];rfl
theorem Zxs (sl:Nat->SV) (ob:Nat->Ob) (n k i:Nat) (r:List (Bool×Nat×Nat)):St.mats ⟨sl,ob,n⟩ ((true,k,i)::r)=St.mats (match ob k with
  |.box ty cs=>(match cs[i]? with
   |some (.nil e q)=>if 0<q then ⟨sl,upd (upd ob k (.box ty (cs.set i (.row n)))) n (.row e q [] 2),n+1⟩ else ⟨sl,ob,n⟩
   |some (.row j)=>(match ob j with
    |.row e q xs _=>⟨sl,upd (upd ob j (.row e q xs 0)) k (.box ty (cs.set i (.c (.sl e q xs)))),n⟩
    |_=>⟨sl,ob,n⟩)
   |_=>⟨sl,ob,n⟩)
  |.row e q xs d=>(if i<d then ⟨sl,upd ob k (.row e q xs i),n⟩ else ⟨sl,ob,n⟩)
  |_=>⟨sl,ob,n⟩) r:=yi rfl
theorem nn (k:Nat):(0<=(k:Int))=True:=by simp
theorem ZEp:(true==true)=true:=yi rfl
theorem ZEJ:(false==true)=false:=yi rfl
theorem ZEF:(true==false)=false:=yi rfl
theorem ZFR:(false==false)=true:=yi rfl
attribute [go_sem] Zut Zjl ZlO ZxO Zwk Zxs nn ZEp ZEJ ZEF ZFR ZBo ZA9 ZEB rSV rAV rOb ZqU
end
section
open Go.RowKit
def chk {α:Type}(c:Prop) [Decidable c] (x:Option α):Option α:=if c then x else none
def atI {α:Type}(l:List α) (i:Int):Option α:=if 0<=i then l[i.toNat]? else none
def forL {α σ ρ:Type}(body:Nat->α->σ->Option (σ ⊕ ρ)) (fin:σ->Option ρ):List α->Nat->σ->Option ρ
 | [],_,s=>fin s
 |x::l,i,s=>match body i x s with
  |none=>none
  |some (.inl s')=>forL body fin l (i+1) s'
  |some (.inr r)=>some r
def Zdj {σ ρ:Type}(body:σ->Option (σ ⊕ ρ)):Nat->σ->Option ρ
 |0,_=>none
 |n+1,s=>match body s with
  |none=>none
  |some (.inl s')=>Zdj body n s'
  |some (.inr r)=>some r
open Classical in
noncomputable def iter {σ ρ:Type} (body:σ->Option (σ ⊕ ρ)) (s:σ):Option ρ:=if h:∃n,(Zdj body n s).isSome=true then Zdj body (Classical.choose h) s else none
section
variable {α β σ ρ:Type} {r:ρ}
theorem Zi9 {body:σ->Option (σ ⊕ ρ)}:∀{n:Nat}(m:Nat) {s:σ}{r:ρ},Zdj body n s=some r->Zdj body (n+m) s=some r
 |0,_,_,_,h=>by simp [Zdj]at h
 |n+1,m,s,r,h=>by
  rw [show n+1+m=n+m+1 by omega];simp only[Zdj]at h ⊢;cases e:body s with
  |none=>rw [e]at h;simp at h
  |some y=>
   rw [e]at h;cases y with
   |inl s'=>exact Zi9 m h
   |inr r'=>exact h
theorem Zj3 {body:σ->Option (σ ⊕ ρ)}{s:σ}{r:ρ}:iter body s=some r↔∃n,Zdj body n s=some r:=by
 constructor
 .intro h;unfold iter at h;split at h
  .exact ⟨_,h⟩
  .simp at h
 .rintro ⟨n,hn⟩;have a:∃n,(Zdj body n s).isSome=true:=⟨n,by simp [hn]⟩
  unfold iter;rw [dif_pos a];have h2:=Classical.choose_spec a;obtain ⟨r',b⟩:=Option.isSome_iff_exists.1 h2;rw [b];have a1:=Zi9 n b;have a2:=Zi9 (Classical.choose a) hn;rw [Nat.add_comm]at a2;rw [a1]at a2;exact a2
theorem ZjL (body:σ->Option (σ ⊕ ρ)) (s:σ):iter body s=match body s with
  |none=>none
  |some (.inl s')=>iter body s'
  |some (.inr r)=>some r:=by
 apply Option.ext;intro r;rw [Zj3];constructor
 .rintro ⟨n,hn⟩;cases n with
  |zero=>simp [Zdj]at hn
  |succ n=>
   simp only[Zdj]at hn;cases e:body s with
   |none=>rw [e]at hn;simp at hn
   |some y=>
    rw [e]at hn;cases y with
    |inl s'=>exact Zj3.2 ⟨n,hn⟩
    |inr r'=>exact hn
 .intro h;cases e:body s with
  |none=>rw [e]at h;simp at h
  |some y=>
   rw [e]at h;cases y with
   |inl s'=>
    obtain ⟨n,hn⟩:=Zj3.1 h;exact ⟨n+1,by simp only[Zdj,e];exact hn⟩
   |inr r'=>exact ⟨1,by simp only[Zdj,e];exact h⟩
theorem Zv {c:Prop}[Decidable c] {x:Option α}{r:α}(h:chk c x=some r):c/\x=some r:=by
 unfold chk at h;split at h
 .rename_i hc;exact ⟨hc,h⟩
 .simp at h
theorem Zj {c:Prop}[Decidable c] (x:Option α) (h:c):chk c x=x:=if_pos h
theorem ZPO {α β:Type}{o:Option α}{f:α->Option β}{r:β}{G:Prop}(h:o.bind f=some r) (k:∀v,o=some v->f v=some r->G):G:=by
 cases o with
 |none=>simp at h
 |some v=>exact k v rfl h
theorem Za {o:Option α}{f:α->Option β}{r:β}(h:o.bind f=some r):∃x,o=some x/\f x=some r:=by
 cases o with
 |none=>simp at h
 |some x=>exact ⟨x,rfl,h⟩
theorem ZcM {l:List α}{i:Int}{f:α->Option β}{r:β}(h:(atI l i).bind f=some r):∃x,0<=i/\i<(l.length:Int)/\l[i.toNat]?=some x/\f x=some r:=by
 unfold atI at h;split at h
 .rename_i hi;obtain ⟨x,h1,h2⟩:=Za h;obtain ⟨h3,_⟩:=A6.1 h1;exact ⟨x,hi,yE,h1,h2⟩
 .simp at h
theorem Ze {G:Prop}{b:Bool}{x y:Option α}{r:α}(h:(if b=true then x else y)=some r) (h1:b=true->x=some r->G) (h2:b=false->y=some r->G):G:=by
 cases b with
 |true=>exact h1 rfl (by simpa using h)
 |false=>exact h2 rfl (by simpa using h)
theorem Zr {y:σ ⊕ ρ}{v r:ρ}(h:some (.inr v)=some y) (hy:y=.inr r\/∃s,y=.inl s):some v=some r:=by
 obtain rfl:=AJ h;rcases hy with h|⟨_,h⟩
 .rw [Sum.inr.inj h]
 .cases h
end
section
variable {od:OD} {tt:Nat->Option TI} {S:Ctx}
def ZzF {σ ρ:Type}(I:σ->St->Prop) (y:σ ⊕ ρ) (st:St):Prop:=∃s' ms ρk,y=.inl s'/\ρk.Nodup/\I s' ((st.mats ms).ren ρk)
theorem Xj {σ ρ:Type}{b:Code}{Q:Ex->St->Prop}{st:St}{body:σ->Option (σ ⊕ ρ)}{s0:σ}{r:ρ}(h:iter body s0=some r) (I:σ->St->Prop) (ms:List (Bool×Nat×Nat)) (ρk:List Nat) (hρ:ρk.Nodup) (h0:I s0 ((st.mats ms).ren ρk))
  (step:∀s st y,I s st->WF st->body s=some y->(y=.inr r\/∃s',y=.inl s')->swp tt S od b (ZgR (ZzF I y) Q) st):swp tt S od (.loop b) Q st:=by
 obtain ⟨n,hn⟩:=Zj3.1 h;have key:∀n s st,Zdj body n s=some r->(∃ms ρk,ρk.Nodup/\I s ((st.mats ms).ren ρk))->Zlo (swp tt S od b) Q n st:=by
  intro n;induction n with
  |zero=>intro s st h;simp [Zdj]at h
  |succ n ih=>
   rintro s st hn ⟨ms,ρk,h1,h2⟩;refine ⟨ms,ρk,h1,fun hw=>?_⟩;simp only[Zdj]at hn;split at hn
   .simp at hn
   .rename_i s' e;refine Zak b _ _ _ (fun ex st' h'=>?_) (step s _ _ h2 hw e (.inr ⟨_,rfl⟩));cases ex with
    |normal=>
     obtain ⟨s2,a,ρ',h3,h4,h5⟩:=h';obtain rfl:=Ac h3;exact ih _ st' hn ⟨a,ρ',h4,h5⟩
    |exit _=>exact h'
    |ret=>exact h'
   .rename_i r' e;obtain rfl:=AJ hn;refine Zak b _ _ _ (fun ex st' h'=>?_) (step s _ _ h2 hw e (.inl rfl));cases ex with
    |normal=>
     obtain ⟨s2,a,ρ',h3,h4,h5⟩:=h';cases h3
    |exit _=>exact h'
    |ret=>exact h'
 exact ⟨n,key n s0 st hn ⟨ms,ρk,hρ,h0⟩⟩
theorem Zh {α σ ρ:Type}{b:Code}{Q:Ex->St->Prop}{st:St}{body:Nat->α->σ->Option (σ ⊕ ρ)}{fin:σ->Option ρ}{l:List α}{s0:σ}{r:ρ}(h:forL body fin l 0 s0=some r) (I:Nat->σ->St->Prop) (ms:List (Bool×Nat×Nat)) (ρk:List Nat) (hρ:ρk.Nodup) (h0:I 0 s0 ((st.mats ms).ren ρk))
  (step:∀i x s st y,l[i]?=some x->I i s st->WF st->body i x s=some y->(y=.inr r\/∃s',y=.inl s')->swp tt S od b (ZgR (ZzF (I (i+1)) y) Q) st)
  (a:∀s st,I l.length s st->WF st->fin s=some r->swp tt S od b (ZgR (fun _=>False) Q) st):swp tt S od (.loop b) Q st:=by
 have key:∀n i s st,l.length-i<n->i<=l.length->forL body fin (l.drop i) i s=some r->(∃ms ρk,ρk.Nodup/\I i s ((st.mats ms).ren ρk))->Zlo (swp tt S od b) Q n st:=by
  intro n;induction n with
  |zero=>intro i s st h;omega
  |succ n ih=>
   rintro i s st hn hi hf ⟨ms,ρk,h1,h2⟩;refine ⟨ms,ρk,h1,fun hw=>?_⟩;by_cases c:i<l.length
   .have hx:l[i]?=some l[i]:=AL c;rw [AY c]at hf;simp only[forL]at hf;split at hf
    .simp at hf
    .rename_i s' e;refine Zak b _ _ _ (fun ex st' h'=>?_) (step i _ s _ _ hx h2 hw e (.inr ⟨_,rfl⟩));cases ex with
     |normal=>
      obtain ⟨s2,d,ρ',h3,h4,h5⟩:=h';obtain rfl:=Ac h3;exact ih (i+1) _ st' yE yE hf ⟨d,ρ',h4,h5⟩
     |exit _=>exact h'
     |ret=>exact h'
    .rename_i r' e;obtain rfl:=AJ hf;refine Zak b _ _ _ (fun ex st' h'=>?_) (step i _ s _ _ hx h2 hw e (.inl rfl));cases ex with
     |normal=>
      obtain ⟨s2,d,ρ',h3,h4,h5⟩:=h';cases h3
     |exit _=>exact h'
     |ret=>exact h'
   .obtain rfl:i=l.length:=by omega
    rw [List.drop_length]at hf;refine Zak b _ _ _ (fun ex st' h'=>?_) (a s _ h2 hw hf);cases ex with
    |normal=>exact h'.elim
    |exit _=>exact h'
    |ret=>exact h'
 exact ⟨l.length+1,key _ 0 s0 st yE yE (by simpa using h) ⟨ms,ρk,hρ,h0⟩⟩
theorem Zd {f:FuncId}{key:Nat}{d:Option Nat}{K:St->Prop}{st:St}{vs:List SV}{l:List (Bool×List CT)}{a:List RT}(hs:S.r f l a) (hk:(!Zdi a||vs.all Zia)=true/\(ZK key a).2.2<=key+16/\K ((st.put d (Zdg (ZK key a).1)).app (ZK key a).2.1)):ZsM S f key d K st vs l:=⟨a,hs,hk.1,hk.2.1,hk.2.2⟩
theorem ZnA {f:FuncId}{key:Nat}{d:Option Nat}{K:St->Prop}{st:St}{vs:List SV}{l:List (Bool×List CT)}{a:List RT}(hs:S.r f l a) (hk:(ZK key a).2.2<=key+16/\K ((st.put d (Zdg (ZK key a).1)).app (ZU st (Yb vs)++(ZK key a).2.1))):Zzi S f key d K st vs l:=⟨a,hs,hk.1,hk.2⟩
theorem ZPN {f:FuncId}{key:Nat}{d:Option Nat}{K:St->Prop}{st:St}{vs:List SV}{l:List (Bool×List CT)}{t:Nat}{cs:List CT}(hs:S.b f l (.box t cs)) (hk:K ((st.put d (.bp key 0)).app (ZU st (Yb vs)++[(key,.box t (cs.map .c))]))):ZB0 S f key d K st vs l:=⟨_,hs,hk⟩
theorem ZDu {f:FuncId}{key:Nat}{d:Option Nat}{K:St->Prop}{st:St}{vs:List SV}{l:List (Bool×List CT)}{kk vk:PK}{kv:List (Value×Value)}(hs:S.b f l (.map kk vk kv)) (hk:K ((st.put d (.p false [.row key])).app (ZU st (Yb vs)++[(key,.map kk vk kv)]))):ZB0 S f key d K st vs l:=⟨_,hs,hk⟩
theorem Zwm {f:FuncId}{key:Nat}{d:Option Nat}{K:St->Prop}{st:St}{vs:List SV}{kh:Nat×Zme}{l:List (Bool×List CT)}{a:List RT}{h':Zme}(hs:S.h f kh.2 l a h') (hk:(Yb vs).all (fun j=>j != kh.1)=true/\(ZK key a).2.2<=key+16/\K ((st.put d (Zdg (ZK key a).1)).app (ZU st (Yb vs)++((kh.1,Zef h')::(ZK key a).2.1)))):ZxW S f key d K st vs kh l:=⟨a,h',hs,hk.1,hk.2.1,hk.2.2⟩
end
def sts:List (Nat×SV)->St->Prop
 | [],_=>True
 |p::r,st=>st.sl p.1=p.2/\sts r st
def obs:List Ob->Nat->St->Prop
 | [],k,st=>st.n=k
 |o::r,k,st=>st.ob k=o/\obs r (k+1) st
def IV (s:List (Nat×SV)) (o:List Ob) (st:St):Prop:=sts s st/\obs o 0 st
theorem Zyh (st:St):sts [] st=True:=yi rfl
theorem Zx7 (st:St) (t:Nat) (v:SV) (r:List (Nat×SV)):sts ((t,v)::r) st=(st.sl t=v/\sts r st):=yi rfl
theorem Zzs (st:St) (k:Nat):obs [] k st=(st.n=k):=yi rfl
theorem Zxz (st:St) (o:Ob) (k:Nat) (r:List Ob):obs (o::r) k st=(st.ob k=o/\obs r (k+1) st):=yi rfl
attribute [go_sem] IV Zx7 Zyh Zxz Zzs
theorem Zbf {α:Type}{g:α->List CT}(h:∀x,(g x).all CT.flat=true) (l:List α):ZaN (l.map g)=true:=by
 simp only[ZaN,List.all_map,List.all_eq_true];exact fun x _=>h x
def ZA (s:ByteArray):List CT:=[.str s]
def ZO (n:Int):List CT:=[.int .i64 n]
def Ze4 (b:Bool):List CT:=[.bool b]
def Zs8 (n:Int):List CT:=[.int .u8 n]
theorem ZyN (s:ByteArray):ZA s=[.str s]:=yi rfl
theorem Zza (n:Int):ZO n=[.int .i64 n]:=yi rfl
theorem ZwS (b:Bool):Ze4 b=[.bool b]:=yi rfl
theorem ZsZ (n:Int):Zs8 n=[.int .u8 n]:=yi rfl
theorem Zv0 (l:List ByteArray):ZaN (l.map ZA)=true:=Zbf (fun _=>rfl) l
theorem Zpz (l:List Int):ZaN (l.map ZO)=true:=Zbf (fun _=>rfl) l
theorem Zt6 (l:List Bool):ZaN (l.map Ze4)=true:=Zbf (fun _=>rfl) l
theorem ZtZ (l:List Int):ZaN (l.map Zs8)=true:=Zbf (fun _=>rfl) l
theorem Zp3 {s:ByteArray}{i:Nat}{x:UInt8}(h:s.data.toList[i]?=some x):s[i]?=some x:=by
 obtain ⟨h1,h2⟩:=A6.1 h;have hs:i<s.size:=by rw [AC];simpa using h1
 rw [getElem?_pos s i hs,<-h2];rfl
theorem Zb (s:ByteArray):s.data.toList.length=s.size:=by rw [AC,AG]
theorem Zk {i n:Nat}(h:i<n) (hn:n<=9223372036854775807):IntKind.i64.wrap ((i:Int)+1)=((i+1:Nat):Int):=by
 rw [ZeT yE yE];omega
theorem ZC {α:Type}{l:List α}{i:Nat}{x:α}(h:l[i]?=some x):decide ((i:Int)<(l.length:Int))=true:=by
 obtain ⟨h1,_⟩:=A6.1 h;exact decide_eq_true yE
theorem ZE {α:Type}{l:List α}{i:Nat}{x:α}(h:l[i]?=some x):(i:Int)<(l.length:Int):=of_decide_eq_true (ZC h)
theorem ZD {α:Type}{l:List α}{i:Nat}{x:α}(h:l[i]?=some x):i<l.length:=(A6.1 h).1
theorem ZB (n:Nat):decide ((n:Int)<(n:Int))=false:=decide_eq_false yE
def sAt (s:ByteArray) (i:Int):Option UInt8:=if 0<=i then s[i.toNat]? else none
theorem ZuE {β:Type}{s:ByteArray}{i:Int}{f:UInt8->Option β}{r:β}(h:(sAt s i).bind f=some r):∃x,0<=i/\s[i.toNat]?=some x/\f x=some r:=by
 unfold sAt at h;split at h
 .rename_i hi;obtain ⟨x,h1,h2⟩:=Za h;exact ⟨x,hi,h1,h2⟩
 .simp at h
theorem ZuC {s:ByteArray}{i:Nat}{x:UInt8}(h:s.data.toList[i]?=some x):i<s.size:=by
 have:=ZD h
 rwa [Zb]at this
theorem Zxp {s:ByteArray}{i:Nat}{x:UInt8}(h:s.data.toList[i]?=some x):decide ((i:Int)<(s.size:Int))=true:=by
 have:=ZuC h;exact decide_eq_true yE
theorem ZhU:∀{cs:List AV}{j:Nat}{x:AV},ZwH cs->cs[j]?=some x->avD x
 | [],_,_,_,h=>by simp at h
 |_::_,0,_,h,e=>by simp at e;subst e;exact h.1
 |_::_,j+1,_,h,e=>ZhU h.2 (by simpa using e)
theorem ZuK:∀{cs:List CT}{j:Nat}{x:CT},ctsD cs->cs[j]?=some x->ctD x
 | [],_,_,_,h=>by simp at h
 |_::_,0,_,h,e=>by simp at e;subst e;exact h.1
 |_::_,j+1,_,h,e=>ZuK h.2 (by simpa using e)
section
variable {α:Type} {st:St} {t k j e m:Nat} {a:Bool} {d:Nat} {cs:List AV} {g:α->List CT} {l:List α} {s:ByteArray}
theorem WF.slotL (hW:WF st) (h:st.sl t=.p a cs) (hc:cs[j]?=some (.c (.sl e m (A4 g l)))):l.length<=9223372036854775807:=by
 have:=(ZhU (hW.sl _ _ _ h) hc).1;simpa only [A8]using this
theorem WF.slotD (hW:WF st) (h:st.sl t=.p a cs) (hc:cs[j]?=some (.c (.sl e m (A4 g l)))):essD (A4 g l):=(ZhU (hW.sl _ _ _ h) hc).2
theorem WF.slotS (hW:WF st) (h:st.sl t=.p a cs) (hc:cs[j]?=some (.c (.str s))):s.size<=9223372036854775807:=ZhU (hW.sl _ _ _ h) hc
theorem WF.boxL (hW:WF st) (h:st.ob k=.box t cs) (hc:cs[j]?=some (.c (.sl e m (A4 g l)))):l.length<=9223372036854775807:=by
 have:=(ZhU (hW.box _ _ _ h) hc).1;simpa only [A8]using this
theorem WF.boxD (hW:WF st) (h:st.ob k=.box t cs) (hc:cs[j]?=some (.c (.sl e m (A4 g l)))):essD (A4 g l):=(ZhU (hW.box _ _ _ h) hc).2
theorem WF.rowL (hW:WF st) (h:st.ob k=.row e m (A4 g l) d):l.length<=9223372036854775807:=by
 have:=(hW.row _ _ _ _ _ h).1;simpa only [A8]using this
theorem WF.elL {β:Type}{g':β->List CT}{l':List β}{i:Nat}{x:α}(h:essD (A4 g l)) (hx:l[i]?=some x) (hc:(g x)[j]?=some (.sl e m (A4 g' l'))):l'.length<=9223372036854775807:=by
 have:=(ZuK (Zuo h hx) hc).1;simpa only [A8]using this
end
/- maps of plain keys, as lists of pairs -/
def eSB (p:ByteArray×Bool):Value×Value:=(.string p.1,.bool p.2)
def eSS (p:ByteArray×ByteArray):Value×Value:=(.string p.1,.string p.2)
def eIB (p:Int×Bool):Value×Value:=(.int .i64 p.1,.bool p.2)
def ZgG {α β:Type}[DecidableEq α]:List (α×β)->α->Option β
 | [],_=>none
 |p::r,k=>if k=p.1 then some p.2 else ZgG r k
def Zf4 {α β:Type}[DecidableEq α]:List (α×β)->α->β->List (α×β)
 | [],k,v=>[(k,v)]
 |p::r,k,v=>if k=p.1 then (k,v)::r else p::Zf4 r k v
def ZaJ {α β:Type}[DecidableEq α] (l:List (α×β)) (k:α) (z:β):β:=(ZgG l k).getD z
def Zwc {α β:Type}[DecidableEq α] (l:List (α×β)) (k:α):Bool:=(ZgG l k).isSome
section
variable {α β:Type} [DecidableEq α] {e:α×β->Value×Value} {fk:α->Value} {fv:β->Value}
theorem Zeq (he:∀p,e p=(fk p.1,fv p.2)) (hk:∀a b,vEq (fk a) (fk b)=decide (a=b)):∀(l:List (α×β)) (k:α),ZlP (l.map e) (fk k)=(ZgG l k).map fv
 | [],_=>rfl
 |p::r,k=>by
  simp only[A5,ZlP,ZgG,he,hk,decide_eq_true_eq];split
  .rfl
  .exact Zeq he hk r k
theorem Zkm (he:∀p,e p=(fk p.1,fv p.2)) (hk:∀a b,vEq (fk a) (fk b)=decide (a=b)) (v:β):∀(l:List (α×β)) (k:α),ZfP (l.map e) (fk k) (fv v)=(Zf4 l k v).map e
 | [],k=>by simp [ZfP,Zf4,he]
 |p::r,k=>by
  simp only[A5,ZfP,Zf4,he,hk,decide_eq_true_eq];split
  .simp [he]
  .rw [Zkm he hk v r k];simp [he]
end
theorem Zo3 (a b:ByteArray):vEq (.string a) (.string b)=decide (a=b):=rfl
theorem Zxb (a b:Int):vEq (.int .i64 a) (.int .i64 b)=decide (a=b):=by simp [vEq,BEq.beq]
theorem ZyM (l:List (ByteArray×Bool)) (k:ByteArray):ZbO (l.map eSB) (.string k) (.c (.bool false))=.c (.bool (ZaJ l k false)):=by
 simp only[ZbO,Zeq (e:=eSB) (fk:=.string) (fv:=.bool) (fun _=>rfl) Zo3,ZaJ];cases ZgG l k<;>rfl
theorem Zys (l:List (ByteArray×ByteArray)) (k:ByteArray):ZbO (l.map eSS) (.string k) (.c (.str ⟨#[]⟩))=.c (.str (ZaJ l k ⟨#[]⟩)):=by
 simp only[ZbO,Zeq (e:=eSS) (fk:=.string) (fv:=.string) (fun _=>rfl) Zo3,ZaJ];cases ZgG l k<;>rfl
theorem ZyK (l:List (Int×Bool)) (k:Int):ZbO (l.map eIB) (.int .i64 k) (.c (.bool false))=.c (.bool (ZaJ l k false)):=by
 simp only[ZbO,Zeq (e:=eIB) (fk:=.int .i64) (fv:=.bool) (fun _=>rfl) Zxb,ZaJ];cases ZgG l k<;>rfl
theorem ZDH (l:List (ByteArray×Bool)) (k:ByteArray):Zfb (l.map eSB) (.string k)=Zwc l k:=by
 simp only[Zfb,Zeq (e:=eSB) (fk:=.string) (fv:=.bool) (fun _=>rfl) Zo3,Zwc];cases ZgG l k<;>rfl
theorem ZEb (l:List (ByteArray×ByteArray)) (k:ByteArray):Zfb (l.map eSS) (.string k)=Zwc l k:=by
 simp only[Zfb,Zeq (e:=eSS) (fk:=.string) (fv:=.string) (fun _=>rfl) Zo3,Zwc];cases ZgG l k<;>rfl
theorem ZAm (l:List (Int×Bool)) (k:Int):Zfb (l.map eIB) (.int .i64 k)=Zwc l k:=by
 simp only[Zfb,Zeq (e:=eIB) (fk:=.int .i64) (fv:=.bool) (fun _=>rfl) Zxb,Zwc];cases ZgG l k<;>rfl
theorem ZD0 (l:List (ByteArray×Bool)) (k:ByteArray) (v:Bool):ZfP (l.map eSB) (.string k) (.bool v)=(Zf4 l k v).map eSB:=Zkm (fk:=.string) (fv:=.bool) (fun _=>rfl) Zo3 v l k
theorem ZAl (l:List (ByteArray×ByteArray)) (k v:ByteArray):ZfP (l.map eSS) (.string k) (.string v)=(Zf4 l k v).map eSS:=Zkm (fk:=.string) (fv:=.string) (fun _=>rfl) Zo3 v l k
theorem ZA2 (l:List (Int×Bool)) (k:Int) (v:Bool):ZfP (l.map eIB) (.int .i64 k) (.bool v)=(Zf4 l k v).map eIB:=Zkm (fk:=.int .i64) (fv:=.bool) (fun _=>rfl) Zxb v l k
theorem Zm3:∀l:List Int,Ze6 (l.map Zs8)=some l
 | []=>rfl
 |n::r=>by simp only[A5,ZsZ,Ze6,Zm3 r,AB]
theorem Zlr (st:St):∀l:List CT,Z1 st (l.map Zk9)=some (l.map fun c=>(false,[c]))
 | []=>rfl
 |c::r=>by
  have h:=Zlr st r;simp only[A5,Z1,h,Zk9,Zdh,Y0,Zb9,AI,AB]
theorem ZFy:((0:Nat):Int)=0:=yi rfl
attribute [go_sem] Zlr ZyM Zys ZyK ZDH ZEb ZAm ZD0 ZAl ZA2 Zm3 ZFy ZAz List.map_replicate ZyN Zza ZwS ZsZ Zv0 Zpz Zt6 ZtZ List.map_append List.getElem?_map List.map_set List.map_take List.map_drop AE List.length_set Ab
end
def toL (s:ByteArray):List UInt8:=s.data.toList
def ofL (l:List UInt8):ByteArray:=⟨l.toArray⟩
theorem Zj7 (s:ByteArray):ofL (toL s)=s:=by cases s;simp [ofL,toL]
theorem Zcu (l:List UInt8):toL (ofL l)=l:=by simp [ofL,toL]
def ZfD (l:List ByteArray):List ByteArray:=((l.map toL).mergeSort fun x y=>decide (x<=y)).map ofL
def Zk4 (l:List Int):List Int:=l.mergeSort fun x y=>decide (x<=y)
def Zcw (l:List ByteArray):Option (List ByteArray):=chk (l.length<=4611686018427387903) (some (ZfD l))
def Zf8 (l:List Int):Option (List Int):=chk (l.length<=4611686018427387903) (some (Zk4 l))
section
section
variable {α σ ρ:Type} {body:Nat->α->σ->Option (σ ⊕ ρ)} {fin:σ->Option ρ}
theorem ZnV (i:Nat) (s:σ):forL body fin [] i s=fin s:=rfl
theorem Z4 {x:α}{l:List α}{i:Nat}{s s':σ}(h:body i x s=some (.inl s')):forL body fin (x::l) i s=forL body fin l (i+1) s':=by simp only[forL,h]
theorem YF {x:α}{l:List α}{i:Nat}{s:σ}{r:ρ}(h:body i x s=some (.inr r)):forL body fin (x::l) i s=some r:=by simp only[forL,h]
theorem Z0 {p:α->Bool}{r:ρ}:∀{l:List α}{i:Nat}{s:σ},(∀i x,x∈l->body i x s=some (bif p x then .inl s else .inr r))->forL body fin l i s=if l.all p=true then fin s else some r
 | [],_,_,_=>by simp [forL]
 |x::l,i,s,h=>by
  have hx:=h i x yG;by_cases hp:p x=true
  .rw [hp,cond_true]at hx;rw [Z4 hx,Z0 fun j y my=>h j y (by simp [my])];simp [hp]
  .rw [eq_false_of_ne_true hp,cond_false]at hx;rw [YF hx];simp [hp]
theorem ZcX {p:α->Bool}{r:ρ}:∀{l:List α}{i:Nat}{s:σ},(∀i x,x∈l->body i x s=some (bif p x then .inr r else .inl s))->forL body fin l i s=if l.any p=true then some r else fin s
 | [],_,_,_=>by simp [forL]
 |x::l,i,s,h=>by
  have hx:=h i x yG;by_cases hp:p x=true
  .rw [hp,cond_true]at hx;rw [YF hx];simp [hp]
  .rw [eq_false_of_ne_true hp,cond_false]at hx;rw [Z4 hx,ZcX fun j y my=>h j y (by simp [my])];simp [hp]
theorem Y9 {f:σ->α->σ}(I:Nat->σ->Prop):∀{l:List α}{i:Nat}{s:σ},I i s->(∀j x s,x∈l->i<=j->j<i+l.length->I j s->body j x s=some (.inl (f s x))/\I (j+1) (f s x))->forL body fin l i s=fin (l.foldl f s)
 | [],_,_,_,_=>rfl
 |x::l,i,s,h0,h=>by
  obtain ⟨h1,h2⟩:=h i x s yG yE yG h0;rw [Z4 h1,Y9 I h2 fun j y s my hj hl=>h j y s (by simp [my]) yE (by simp at hl ⊢;omega)];rfl
theorem ZiU {f:σ->α->σ}{l:List α}{i:Nat}{s:σ}(h:∀j x s,x∈l->body j x s=some (.inl (f s x))):forL body fin l i s=fin (l.foldl f s):=
 Y9 (fun _ _=>True) trivial fun j x s mx _ _ _=>⟨h j x s mx,trivial⟩
theorem ZaV (g:List α->Nat->σ->Option ρ) (I:List α->Nat->σ->Prop) (h0:∀i s,I [] i s->fin s=g [] i s)
  (h1:∀x l i s,I (x::l) i s->(∃s',body i x s=some (.inl s')/\I l (i+1) s'/\g (x::l) i s=g l (i+1) s')\/(∃r,body i x s=some (.inr r)/\g (x::l) i s=some r)):∀(l:List α) (i:Nat) (s:σ),I l i s->forL body fin l i s=g l i s
 | [],i,s,h=>h0 i s h
 |x::l,i,s,h=>by
  rcases h1 x l i s h with ⟨s',e1,e2,e3⟩|⟨r,e1,e2⟩
  .rw [Z4 e1,ZaV g I h0 h1 l (i+1) s' e2,e3]
  .rw [YF e1,e2]
end
def Q5 {α:Type}(p:Nat->α->Bool):List α->Nat->Bool
 | [],_=>true
 |x::l,i=>p i x&&Q5 p l (i+1)
theorem ZjG {α:Type}{p:Nat->α->Bool}:∀{l:List α}{i:Nat},Q5 p l i=true->∀j x,l[j]?=some x->p (i+j) x=true
 | [],_,_,j,x,hx=>by simp at hx
 |y::l,i,h,0,x,hx=>by simp only[Q5,Ad]at h;simp at hx;subst hx;exact h.1
 |y::l,i,h,j+1,x,hx=>by
  simp only[Q5,Ad]at h;have:=ZjG h.2 j x (by simpa using hx)
  rwa [show i+(j+1)=i+1+j by omega]
section
variable {α σ ρ:Type} {body:Nat->α->σ->Option (σ ⊕ ρ)} {fin:σ->Option ρ}
theorem Xu {p:Nat->α->Bool}{r:ρ}:∀{l:List α}{i:Nat}{s:σ},(∀j x,l[j]?=some x->body (i+j) x s=some (bif p (i+j) x then .inl s else .inr r))->forL body fin l i s=if Q5 p l i=true then fin s else some r
 | [],_,_,_=>by simp [forL,Q5]
 |x::l,i,s,h=>by
  have hx:=h 0 x yG;simp only[Nat.add_zero]at hx;by_cases hp:p i x=true
  .rw [hp,cond_true]at hx;rw [Z4 hx,Xu fun j y hy=>by have:=h (j+1) y (by simpa using hy);rwa [show i+(j+1)=i+1+j by omega]at this]
   simp [Q5,hp]
  .rw [eq_false_of_ne_true hp,cond_false]at hx;rw [YF hx];simp [Q5,hp]
theorem YT {β:Type}{g:α->Option β}{fin:List β->Option ρ}{body:Nat->α->List β->Option (List β ⊕ ρ)}:∀{l:List α}{i:Nat}{a:List β},(∀j x s,x∈l->s.length+1<=a.length+l.length->body j x s=some (.inl (s++(g x).toList)))->forL body fin l i a=fin (a++l.filterMap g)
 | [],_,a,_=>by simp [forL]
 |x::l,i,a,h=>by
  rw [Z4 (h i x a yG yG)];rw [YT fun j y s my hs=>h j y s (by simp [my]) (by cases hg:g x<;>simp [hg]at hs ⊢<;>omega)]
  congr 1
  cases hg:g x<;>simp [hg]
theorem ZhK {β:Type}{g:α->β}{fin:List β->Option ρ}{body:Nat->α->List β->Option (List β ⊕ ρ)}{l:List α}{i:Nat}{a:List β}(h:∀j x s,x∈l->s.length+1<=a.length+l.length->body j x s=some (.inl (s++[g x]))):forL body fin l i a=fin (a++l.map g):=by
 rw [YT (g:=fun x=>some (g x)) h,List.filterMap_eq_map']
theorem Ze1 {p:α->Bool}{fin:List α->Option ρ}{body:Nat->α->List α->Option (List α ⊕ ρ)}{l:List α}{i:Nat}{a:List α}(h:∀j x s,x∈l->s.length+1<=a.length+l.length->body j x s=some (.inl (if p x=true then s++[x] else s))):forL body fin l i a=fin (a++l.filter p):=by
 rw [YT (g:=fun x=>if p x=true then some x else none) fun j x s mx hs=>by rw [h j x s mx hs];split<;>simp]
 congr 2
 induction l with
 |nil=>rfl
 |cons x l ih=>
  have ih:=ih fun j y s my hs=>h j y s (by simp [my]) (by simp at hs ⊢;omega);by_cases hp:p x=true<;>simp [hp,ih]
end
/- texts -/
theorem ZQ {x y:ByteArray}:sEq x y=true↔x=y:=by simp [sEq]
theorem Zv7 {x y:ByteArray}:sEq x y=false↔¬x=y:=by simp [sEq]
theorem ZxA (x:ByteArray):sEq x x=true:=ZQ.2 rfl
theorem Zf2 {x y:ByteArray}(h:toL x=toL y):x=y:=by rw [<-Zj7 x,<-Zj7 y,h]
theorem Zds (x:ByteArray):(toL x).length=x.size:=by rw [toL,AC,AG]
theorem ZiA:∀(a b:List UInt8),Op.bytesLess a b=true↔a<b
 | [],[]=>by simp [Op.bytesLess]
 | [],_::_=>by simp [Op.bytesLess]
 |_::_,[]=>by simp [Op.bytesLess]
 |x::a,y::b=>by
  rw [List.cons_lt_cons_iff,<-ZiA a b];simp only[Op.bytesLess];by_cases h:x<y
  .simp [h]
  .by_cases h2:x=y
   .subst h2;simp [h]
   .simp [h,h2]
theorem Zgl {x y:ByteArray}:sLt x y=true↔toL x<toL y:=by
 unfold sLt toL;rw [ZiA,Ae,Ae]
theorem ZiT (x:ByteArray):sLt x x=false:=by
 cases h:sLt x x with
 |false=>rfl
 |true=>exact absurd (Zgl.1 h) (List.lt_irrefl _)
theorem ZfL {x y z:ByteArray}(h1:sLt x y=true) (h2:sLt y z=true):sLt x z=true:=Zgl.2 (List.lt_trans (Zgl.1 h1) (Zgl.1 h2))
theorem ZkU {x y:ByteArray}(h1:sLt x y=true):sLt y x=false:=by
 cases h:sLt y x with
 |false=>rfl
 |true=>have:=ZfL h1 h;rw [ZiT]at this;simp at this
theorem Zqp {x y:ByteArray}(h:sLt x y=true):¬x=y:=fun e=>by rw [e,ZiT]at h;simp at h
theorem ZfB {x y:ByteArray}(h1:sLt x y=false) (h2:¬x=y):sLt y x=true:=by
 rcases Std.lt_trichotomy (toL x) (toL y) with h|h|h
 .rw [Zgl.2 h]at h1;simp at h1
 .exact absurd (Zf2 h) h2
 .exact Zgl.2 h
def Asc (l:List ByteArray):Prop:=l.Pairwise fun x y=>sLt x y=true
theorem Zqn:∀{a b:List ByteArray},Asc a->Asc b->(∀x,x∈a↔x∈b)->a=b
 | [],[],_,_,_=>rfl
 | [],y::b,_,_,h=>by have:=(h y).2 yG;simp at this
 |x::a,[],_,_,h=>by have:=(h x).1 yG;simp at this
 |x::a,y::b,ha,hb,h=>by
  unfold Asc at ha hb;rw [A9]at ha hb;have c:x=y:=by
   have h1:=(h x).1 yG;have h2:=(h y).2 yG;rcases A0.1 h1 with h1|h1
   .exact h1
   .rcases A0.1 h2 with h2|h2
    .exact h2.symm
    .have:=ZkU (ha.1 y h2);rw [hb.1 x h1]at this;simp at this
  subst c;congr 1
  refine Zqn ha.2 hb.2 fun z=>?_;have hz:=h z;simp only[A0]at hz;constructor
  .intro m;rcases hz.1 (.inr m) with e|m'
   .exact absurd e.symm (Zqp (ha.1 z m))
   .exact m'
  .intro m;rcases hz.2 (.inr m) with e|m'
   .exact absurd e.symm (Zqp (hb.1 z m))
   .exact m'
def QO:List ByteArray->ByteArray->List ByteArray
 | [],s=>[s]
 |x::r,s=>if sLt x s=true then x::QO r s else if sEq x s=true then x::r else s::x::r
theorem Zkd {y s:ByteArray}:∀{l:List ByteArray},y∈QO l s↔y=s\/y∈l
 | []=>by simp [QO]
 |x::r=>by
  simp only[QO];split
  .simp only[A0,Zkd (l:=r)];constructor<;>(intro h;rcases h with h|h|h<;>simp [h])
  .split
   .rename_i h;have:=ZQ.1 h;subst this;simp
   .simp
theorem Zhx {s:ByteArray}:∀{l:List ByteArray},Asc l->Asc (QO l s)
 | [],_=>by simp [QO,Asc]
 |x::r,h=>by
  have h':=h;unfold Asc at h';rw [A9]at h';simp only[QO];split
  .rename_i hx;refine A9.2 ⟨fun y my=>?_,Zhx h'.2⟩;rcases Zkd.1 my with rfl|my
   .exact hx
   .exact h'.1 y my
  .split
   .exact h
   .rename_i hx b;have a:sLt s x=true:=ZfB (by simpa using hx) (fun e=>b (ZQ.2 e));refine A9.2 ⟨fun y my=>?_,h⟩;rcases A0.1 my with rfl|my
    .exact a
    .exact ZfL a (h'.1 y my)
theorem Zen (s:ByteArray):∀l:List ByteArray,(QO l s).length<=l.length+1
 | []=>by simp [QO]
 |x::r=>by
  have:=Zen s r;simp only[QO];split
  .simp;omega
  .split<;>simp
def ZV (l:List ByteArray):List ByteArray:=l.foldl QO []
theorem Qc:∀(l a:List ByteArray),Asc a->Asc (l.foldl QO a)/\(∀x,x∈l.foldl QO a↔x∈l\/x∈a)/\(l.foldl QO a).length<=l.length+a.length
 | [],a,h=>⟨h,fun x=>by simp,yG⟩
 |y::l,a,h=>by
  obtain ⟨h1,h2,h3⟩:=Qc l (QO a y) (Zhx h);refine ⟨h1,fun x=>?_,?_⟩
  .rw [Af,h2 x,Zkd];rw [A0];constructor
   .rintro (h|h|h)<;>simp [h]
   .rintro ((h|h)|h)<;>simp [h]
  .have:=Zen y a;rw [Af];simp only[AZ];omega
theorem Zda (l:List ByteArray):Asc (ZV l):=(Qc l [] AK).1
theorem ZX {x:ByteArray}{l:List ByteArray}:x∈ZV l↔x∈l:=by have:=(Qc l [] AK).2.1 x;rw [ZV,this];simp
theorem Ze0 (l:List ByteArray):(ZV l).length<=l.length:=(Qc l [] AK).2.2
theorem Zgd {a l:List ByteArray}(h:Asc a) (hm:∀x,x∈a↔x∈l):a=ZV l:=Zqn h (Zda l) fun x=>by rw [hm,ZX]
theorem Zow {a b:List ByteArray}(h:∀x,x∈a↔x∈b):ZV a=ZV b:=Zgd (Zda a) fun x=>by rw [ZX,h]
def YM (l:List ByteArray) (s:ByteArray):Bool:=l.any fun x=>sEq x s
theorem Qo {l:List ByteArray}{s:ByteArray}:YM l s=true↔s∈l:=by
 simp only[YM,List.any_eq_true,ZQ];constructor
 .rintro ⟨x,h,rfl⟩;exact h
 .exact fun h=>⟨s,h,rfl⟩
/- sorting -/
theorem ZvO {x:ByteArray}{l:List ByteArray}:x∈ZfD l↔x∈l:=by
 simp only[ZfD,List.mem_map,List.mem_mergeSort];constructor
 .rintro ⟨y,⟨z,hz,rfl⟩,rfl⟩;rw [Zj7];exact hz
 .exact fun h=>⟨toL x,⟨x,h,rfl⟩,Zj7 x⟩
theorem Zvw (l:List ByteArray):(ZfD l).length=l.length:=by simp [ZfD]
theorem ZxL (l:List ByteArray):(ZfD l).Pairwise fun x y=>sLt y x=false:=by
 unfold ZfD;rw [List.pairwise_map];have:=List.pairwise_mergeSort (le:=fun x y:List UInt8=>decide (x<=y)) (fun a b c h1 h2=>by simp at h1 h2 ⊢;exact List.le_trans h1 h2) (fun a b=>by simp;exact List.le_total a b) (l.map toL);refine this.imp fun {a b} h=>?_;cases hh:sLt (ofL b) (ofL a) with
 |false=>rfl
 |true=>
  have h1:=Zgl.1 hh;rw [Zcu,Zcu]at h1;have h2:a<=b:=by simpa using h
  exact absurd h1 (List.not_lt.2 h2)
end
def meets (a b:Nat):Prop:=a &&& b≠0
theorem Zsc:∀{a b:List Int},a.Pairwise (·<·)->b.Pairwise (·<·)->(∀x,x∈a↔x∈b)->a=b
 | [],[],_,_,_=>rfl
 | [],y::b,_,_,h=>by have:=(h y).2 yG;simp at this
 |x::a,[],_,_,h=>by have:=(h x).1 yG;simp at this
 |x::a,y::b,ha,hb,h=>by
  rw [A9]at ha hb;have d:x=y:=by
   have h1:=(h x).1 yG;have h2:=(h y).2 yG;rcases A0.1 h1 with e|h1
   .exact e
   .rcases A0.1 h2 with e|h2
    .exact e.symm
    .have:=hb.1 x h1;have:=ha.1 y h2;omega
  subst d;rw [Zsc ha.2 hb.2 fun z=>?_];constructor
  .intro hz;rcases A0.1 ((h z).1 (by simp [hz])) with e|c
   .subst e;have:=ha.1 z hz;omega
   .exact c
  .intro hz;rcases A0.1 ((h z).2 (by simp [hz])) with e|c
   .subst e;have:=hb.1 z hz;omega
   .exact c
section
def goP (f:Int->List Int->Option (List Int)):List Int->List Int->Option (List Int)
 | [],l=>some l
 |y::ys,l=>(f y l).bind (goP f ys)
noncomputable def ZJI (sup:Int->Int) (ins:Int->List Int):Nat->Int->List Int->Option (List Int)
 |0,_,_=>none
 |n+1,x,l=>if sup x<0\/sup x∈l then some l else (goP (ZJI sup ins n) (ins (sup x)) l).map (·++[sup x])
def ZLq (sup:Int->Int) (ins:Int->List Int) (r:List Int):Prop:=∀p s q,r=p++s::q->∀y∈ins s,0<=sup y->sup y∈p
theorem ZLq.nil (sup:Int->Int) (ins:Int->List Int):ZLq sup ins []:=by
 intro p s q h;simp at h
theorem ZLq.snoc {sup:Int->Int}{ins:Int->List Int}{r:List Int}{s:Int}(h:ZLq sup ins r) (hs:∀y∈ins s,0<=sup y->sup y∈r):ZLq sup ins (r++[s]):=by
 intro p t q e y hy h0;rcases List.eq_nil_or_concat q with rfl|⟨q',u,rfl⟩
 .obtain ⟨rfl,e2⟩:=Ag e rfl;obtain rfl:s=t:=by simpa using e2
  exact hs y hy h0
 .rw [List.concat_eq_append,<-Aa,<-A7]at e;obtain ⟨e1,-⟩:=Ag e rfl;exact h p t q' e1 y hy h0
structure ZJo (sup:Int->Int) (ins:Int->List Int) (rank:Int->Nat) (m:Nat) (l r:List Int):Prop where
 pre:l <+: r
 nodup:l.Nodup->r.Nodup
 ord:ZLq sup ins l->ZLq sup ins r
 new:∀s∈r,s∈l\/∃y,s=sup y/\0<=sup y/\rank y<m
theorem ZJo.refl (sup:Int->Int) (ins:Int->List Int) (rank:Int->Nat) (m:Nat) (l:List Int):ZJo sup ins rank m l l:=⟨List.prefix_refl _,id,id,fun _ h=>.inl h⟩
theorem ZJo.trans {sup:Int->Int}{ins:Int->List Int}{rank:Int->Nat}{m:Nat}{l r t:List Int}(h:ZJo sup ins rank m l r) (k:ZJo sup ins rank m r t):ZJo sup ins rank m l t:=
 ⟨h.pre.trans k.pre,fun hl=>k.nodup (h.nodup hl),fun hl=>k.ord (h.ord hl),fun s hs=>(k.new s hs).elim (fun a=>h.new s a) .inr⟩
theorem ZJo.mono {sup:Int->Int}{ins:Int->List Int}{rank:Int->Nat}{m m':Nat}{l r:List Int}(h:ZJo sup ins rank m l r) (hm:m<=m'):ZJo sup ins rank m' l r:=
 ⟨h.pre,h.nodup,h.ord,fun s hs=>(h.new s hs).imp id fun ⟨y,a,b,c⟩=>⟨y,a,b,Nat.lt_of_lt_of_le c hm⟩⟩
section
variable {sup:Int->Int} {ins:Int->List Int} {rank:Int->Nat} {back:Int->Int}
theorem ZKZ {f:Int->List Int->Option (List Int)}{m:Nat}:∀(ys l:List Int),(∀y∈ys,∀l,∃r,f y l=some r/\ZJo sup ins rank m l r/\(0<=sup y->sup y∈r))->
  ∃r,goP f ys l=some r/\ZJo sup ins rank m l r/\∀y∈ys,0<=sup y->sup y∈r
 | [],l,_=>⟨l,rfl,.refl ..,yG⟩
 |y::ys,l,h=>by
  obtain ⟨r,h1,h2,h3⟩:=h y yG l;obtain ⟨t,k1,k2,k3⟩:=ZKZ ys r (fun z hz=>h z (by simp [hz]));refine ⟨t,by simp only[goP,h1,AI,k1],h2.trans k2,fun z hz h0=>?_⟩;rcases A0.1 hz with rfl|hz
  .exact k2.pre.subset (h3 h0)
  .exact k3 z hz h0
theorem ZKg (hr:∀x,0<=sup x->∀y∈ins (sup x),rank y<rank x) (hb:∀x,0<=sup x->back (sup x)=x):∀(n:Nat) (x:Int) (l:List Int),rank x<n->
  ∃r,ZJI sup ins n x l=some r/\ZJo sup ins rank (rank x+1) l r/\(0<=sup x->sup x∈r)/\(0<=sup x->sup x∉l->∃t,r=t++[sup x])
 |0,_,_,h=>by omega
 |n+1,x,l,h=>by
  by_cases hs:sup x<0\/sup x∈l
  .refine ⟨l,by rw [ZJI,if_pos hs],.refl ..,fun h0=>hs.resolve_left yE,fun h0 h1=>absurd hs (by rintro (a|a);omega;exact h1 a)⟩
  .have h0:0<=sup x:=by have:¬sup x<0:=fun a=>hs (.inl a);omega
   have h1:sup x∉l:=fun a=>hs (.inr a);obtain ⟨r,k1,k2,k3⟩:=ZKZ (f:=ZJI sup ins n) (sup:=sup) (ins:=ins) (rank:=rank) (m:=rank x) (ins (sup x)) l (fun y hy l'=>by
    have hl:=hr x h0 y hy;obtain ⟨r,a1,a2,a3,_⟩:=ZKg hr hb n y l' yE;exact ⟨r,a1,a2.mono yE,a3⟩)
   have hn:sup x∉r:=fun hm=>by
    rcases k2.new _ hm with hm|⟨y,e,hy,hl⟩
    .exact h1 hm
    .have:x=y:=by rw [<-hb x h0,<-hb y hy,e]
     subst this;omega
   refine ⟨r++[sup x],by rw [ZJI,if_neg hs,k1];rfl,⟨k2.pre.trans (List.prefix_append _ _),fun hl=>?_,fun hl=>(k2.ord hl).snoc k3,fun s hm=>?_⟩,fun _=>by simp,fun _ _=>⟨r,rfl⟩⟩
   .exact List.nodup_append.2 ⟨k2.nodup hl,yG,fun a ha b d e=>by simp at d;subst d;subst e;exact hn ha⟩
   .rcases A3.1 hm with hm|hm
    .exact (k2.new s hm).imp id fun ⟨y,a,b,c⟩=>⟨y,a,b,yE⟩
    .obtain rfl:s=sup x:=by simpa using hm
     exact .inr ⟨x,rfl,h0,yE⟩
end
end
section
open Go.RowKit
structure Zc where
 rel:ByteArray
 args:List ByteArray
def Xx (x:Zc):Nat:=x.rel.size+XD x.args
def Zua (x:Zc):Prop:=(fun _=>True) x.rel/\(fun ds=>∀d∈ds,(fun _=>True) d) x.args
structure Zx where
 rel:ByteArray
 args:List ByteArray
def Qq:Yh Zx where
 size:=2
 rep:=fun w cs x L=>∃A1 a L1,cs=[.string x.rel,.slice A1 x.args.length a]/\L=L1/\x.rel.size<=9223372036854775807/\x.args.length<=a/\a<=maxLen/\Sli Zde w A1 x.args L1
 len:=fun ⟨A1,a,L1,h,hL,d,e,f,c⟩=>by simp [h]
 keep:=fun ⟨A1,a,L1,h,hL,d,e,f,c⟩ hk=>⟨A1,a,L1,h,hL,d,e,f,c.keep (fun b m=>hk b (by simp [hL,m]))⟩
 lt:=fun ⟨A1,a,L1,h,hL,d,e,f,c⟩=>by intro b m;simp only[hL,A3]at m;exact c.lt b m
 one:=fun ⟨A1,a,L1,h,hL,d,e,f,c⟩=>by simp [h,Value.oneCell']
 pos:=by omega
structure Zi where
 var:ByteArray
 value:ByteArray
structure Zl where
 kind:Int
 pattern:Zx
 left:ByteArray
 right:ByteArray
def YL:Yh Zl where
 size:=5
 rep:=fun w cs x L=>∃A1 a L1,cs=[.int .i64 x.kind,.string x.pattern.rel,.slice A1 x.pattern.args.length a,.string x.left,.string x.right]/\L=L1/\x.pattern.rel.size<=9223372036854775807/\x.left.size<=9223372036854775807/\x.right.size<=9223372036854775807/\x.pattern.args.length<=a/\a<=maxLen/\Sli Zde w A1 x.pattern.args L1
 len:=fun ⟨A1,a,L1,h,hL,d,e,f,g,i,c⟩=>by simp [h]
 keep:=fun ⟨A1,a,L1,h,hL,d,e,f,g,i,c⟩ hk=>⟨A1,a,L1,h,hL,d,e,f,g,i,c.keep (fun b m=>hk b (by simp [hL,m]))⟩
 lt:=fun ⟨A1,a,L1,h,hL,d,e,f,g,i,c⟩=>by intro b m;simp only[hL,A3]at m;exact c.lt b m
 one:=fun ⟨A1,a,L1,h,hL,d,e,f,g,i,c⟩=>by simp [h,Value.oneCell']
 pos:=by omega
structure Zu where
 kind:Int
 pattern:Zx
structure Zg where
 name:ByteArray
 priority:Int
 cond:List Zl
 thn:List Zu
structure Zq where
 facts:List Zc
 binding:List Zi
structure Zf where
 for_:Int
 inn:List Int
 outs:List Int
def ZLg:Yh Zf where
 size:=3
 rep:=fun w cs x L=>∃A1 a L1 A2 c L2,cs=[.int .i64 x.for_,.slice A1 x.inn.length a,.slice A2 x.outs.length c]/\L=L1++L2/\x.inn.length<=a/\a<=maxLen/\Sli ZGg w A1 x.inn L1/\x.outs.length<=c/\c<=maxLen/\Sli ZGg w A2 x.outs L2
 len:=fun ⟨A1,a,L1,A2,c,L2,h,hL,f,g,d,i,j,e⟩=>by simp [h]
 keep:=fun ⟨A1,a,L1,A2,c,L2,h,hL,f,g,d,i,j,e⟩ hk=>⟨A1,a,L1,A2,c,L2,h,hL,f,g,d.keep (fun b m=>hk b (by simp [hL,m])),i,j,e.keep (fun b m=>hk b (by simp [hL,m]))⟩
 lt:=fun ⟨A1,a,L1,A2,c,L2,h,hL,f,g,d,i,j,e⟩=>by intro b m;simp only[hL,A3]at m;rcases m with m|m<;>first|exact d.lt b m|exact e.lt b m
 one:=fun ⟨A1,a,L1,A2,c,L2,h,hL,f,g,d,i,j,e⟩=>by simp [h,Value.oneCell']
 pos:=by omega
structure Zt where
 nodes:Int
 reasons:List Zf
def Q1:Yh Zt where
 size:=2
 rep:=fun w cs x L=>∃A1 a L1,cs=[.int .i64 x.nodes,.slice A1 x.reasons.length a]/\L=L1/\x.reasons.length<=a/\a<=maxLen/\Sli ZLg w A1 x.reasons L1
 len:=fun ⟨A1,a,L1,h,hL,d,e,c⟩=>by simp [h]
 keep:=fun ⟨A1,a,L1,h,hL,d,e,c⟩ hk=>⟨A1,a,L1,h,hL,d,e,c.keep (fun b m=>hk b (by simp [hL,m]))⟩
 lt:=fun ⟨A1,a,L1,h,hL,d,e,c⟩=>by intro b m;simp only[hL,A3]at m;exact c.lt b m
 one:=fun ⟨A1,a,L1,h,hL,d,e,c⟩=>by simp [h,Value.oneCell']
 pos:=by omega
structure ZzC where
 fact:Zc
 rule:ByteArray
 uses:List Int
def ZJB (x:ZzC):Nat:=Xx x.fact+x.rule.size+x.uses.length
def ZLN (x:ZzC):Prop:=Zua x.fact/\(fun _=>True) x.rule/\(fun ds=>∀d∈ds,Zlp d) x.uses
structure Zwt where
 rule:ByteArray
 done:Int
 cond:ByteArray
end
noncomputable def ZqT (n:Int):Option ByteArray:=chk (-9223372036854775808<=n/\n<=9223372036854775807) (some (ofL (Lib.itoa n)))
def ZfS (a b:ByteArray):Option Int:=some (Lib.compareBytes (toL a) (toL b))
noncomputable def ZIa (l:List ByteArray) (sep:ByteArray):Option ByteArray:=chk (l.length<=140737488355328/\(Lib.join (l.map toL) (toL sep)).length<=140737488355328) (some (ofL (Lib.join (l.map toL) (toL sep))))
def ZmK (s:ByteArray):Option (Int×Bool):=chk (s.size<=18) (some (match Lib.atoi (toL s) with|some n=>(n,true)|none=>(0,false)))
end Go.Proofs.YtlpkbfjcdaanmaaGreatDoor
