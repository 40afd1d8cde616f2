/- Texts of this proof, joined: Base, Own, Codec, Types, BTree, BState, BSimp, BLoop, BDec, ExtD, ExtL. What each holds is said at its theorems. -/
import Derived.WalkKit
import Derived.Lib.Hide
import Derived.Deep.Draws
import Derived.Maps.AppendAt
import Derived.Deep.QuietTactic
import Derived.BigQuiet
import Derived.IntWalk
import Derived.Lib.ItoaNum
import Derived.Lib.Bytealg
import Derived.Lib.Join
import Derived.Lib.Atoi
open Array renaming getElem?_eq_some_iff→AI,length_toList→AZ
open ByteArray renaming size→AT
open Int renaming toNat_natCast→Aq
open List renaming mem_append→A0,map→AA,getElem?_eq_some_iff→AC,map_cons→AE,append_assoc→AG,length_map→AH,getElem?_eq_getElem→AK,eq_nil_of_length_eq_zero→AM,length_append→AN,length_take→AO,length_drop→AP,drop_eq_getElem_cons→AR,mem_cons→AU,nodup_nil→AX,size_toArray→AY,drop_take→Aa,take_left→Ad,drop_zero→Ae,take_zero→Ag,take_append_drop→Ah,set_cons_zero→Aj,nodup_cons→Ak,cons_append→Al,append_nil→Am,map_append→An
open Nat renaming le_trans→AB,add_mul→AD,mul_le_mul_right→AF,le_refl→AL,sub_mul→AQ,lt_of_lt_of_le→AS,add_sub_cancel_left→Ac,min_eq_left→Ai
open Option renaming map_some→AJ,bind_some→Ao
open Option.some renaming inj→AW
open Sum.inl renaming inj→Ar
set_option linter.unusedSimpArgs false
set_option linter.unusedVariables false
set_option maxRecDepth 1000000
set_option maxHeartbeats 4000000
namespace Go.Proofs.YtcaokdmjlknmmaaGreatDoor
theorem yE{p:Prop}(h:p:=by omega):p:=h
theorem yF{p:Prop}(h:p:=by decide):p:=h
theorem yG{p:Prop}(h:p:=by simp):p:=h
theorem yH{p:Prop}(h:p:=by rfl):p:=h
theorem yK{p:Prop}(h:p:=by first | (simp;done) | (simp;omega) | omega):p:=h
theorem yI{p:Prop}(h:p:=by repeat (first | refine Below.setCell ?_ (by dsimp only;omega) _ | refine Below.alloc ?_ (by first | (simp;done) | (simp;omega) | omega) _ | exact Below.refl _ _)):p:=h
theorem yi{p:Prop}(h:p):p:=h
section
open Go.RowKit
theorem ZcY (b off j:Nat):(⟨b,off,none⟩:Addr).add j=⟨b,off+j,none⟩:=by
 unfold Addr.add;split<;>simp_all
def Za9 (w:World) (b off:Nat) (xs:List Value):Prop:=∀j u,xs[j]?=some u->w.cell? ⟨b,off+j,none⟩=some u
def Sl (w:World) (size:Nat) (A:Option Addr) (n:Nat) (xs:List Value) (L:List Nat):Prop:=
 xs.length=n*size/\((n=0/\L=[])\/(0<n/\∃b off,A=some ⟨b,off,none⟩/\L=[b]/\Za9 w b off xs))
section
variable {w w':World} {size n:Nat} {A:Option Addr} {xs:List Value} {L:List Nat}
theorem Sl.zero:Sl w size A 0 [] []:=⟨yG,.inl ⟨rfl,rfl⟩⟩
theorem Sl.at_ (h:Sl w size A n xs L) (hn:0<n):∃b off,A=some ⟨b,off,none⟩/\L=[b]/\Za9 w b off xs:=by
 rcases h.2 with ⟨h0,_⟩|⟨_,h⟩
 .omega
 .exact h
theorem Sl.keep (h:Sl w size A n xs L) (hk:∀b∈L,w'.heap[b]?=w.heap[b]?):Sl w' size A n xs L:=by
 refine ⟨h.1,?_⟩
 rcases h.2 with h0|⟨hn,b,off,hA,hL,hc⟩
 .exact .inl h0
 .refine .inr ⟨hn,b,off,hA,hL,fun j u hu=>?_⟩
  rw [<-hc j u hu]
  exact World.cell?_of_block (hk b (by simp [hL]))
theorem Sl.lt (h:Sl w size A n xs L) (hs:0<size):∀b∈L,b<w.heap.size:=by
 rcases h.2 with h0|⟨hn,b,off,hA,hL,hc⟩
 .simp [h0.2]
 .intro x hx
  rw [hL]at hx
  simp at hx
  subst hx
  have hp:0<xs.length:=by rw [h.1];exact Nat.mul_pos hn hs
  exact World.block_lt_of_cell? w _ (hc 0 _ (AK hp))
end
structure Own (w:World) (base:Nat) (L:List Nat):Prop where
 nodup:L.Nodup
 ge:∀b∈L,base<=b
 plain:∀b∈L,∃cur e,w.heap[b]?=some (.cells cur e (0,0))
theorem Own.nil (w:World) (base:Nat):Own w base []:=⟨AX,yG,yG⟩
theorem Own.lt {w:World}{base:Nat}{L:List Nat}(h:Own w base L):∀b∈L,b<w.heap.size:=by
 intro b hb
 obtain ⟨cur,e,hc⟩:=h.plain b hb
 exact (AI.1 hc).1
theorem Own.keep {w w':World}{base:Nat}{L:List Nat}(h:Own w base L) (hk:∀b∈L,w'.heap[b]?=w.heap[b]?):Own w' base L:=
 ⟨h.nodup,h.ge,fun b hb=>by rw [hk b hb];exact h.plain b hb⟩
theorem Own.mono {w:World}{base a:Nat}{L:List Nat}(h:Own w base L) (hb:a<=base):Own w a L:=
 ⟨h.nodup,fun b m=>AB hb (h.ge b m),h.plain⟩
theorem Zo {B:Nat}{w w':World}{L:List Nat}(hb:Below B w w') (h:∀b∈L,b<B):∀b∈L,w'.heap[b]?=w.heap[b]?:=
 fun b m=>hb.block b (h b m)
theorem ZrL {B:Nat}{a w:World}(h:Below B a w) (n:Nat):Below B a (w.drewN n):=⟨h.os,h.tape,h.output,h.size,h.block⟩
theorem Zgv (B:Nat) (w:World) (n:Nat):Below B w (w.drewN n):=ZrL (Below.refl _ _) n
theorem ZtO (w:World) (q p:Nat):∃r,(w.drewN q).drewN p=w.drewN r:=⟨q+p,World.drewN_drewN w q p⟩
theorem ZqQ (w:World) (q:Nat):∃r,w.drewN q=w.drewN r:=⟨q,rfl⟩
theorem ZJ {k:IntKind}{a b:Int}(h:a=b):Ending.returned (.int k a)=.returned (.int k b):=by rw [h]
section
variable {w w':World} {n:Nat} {A:Option Addr} {zs:List Int} {L:List Nat}
end
section
variable {P:Program} {f:FuncId} {args:Array Value} {w:World} {a n:Nat} {v:Value}
end
end
end Go.Proofs.YtcaokdmjlknmmaaGreatDoor
namespace Go.Proofs.YtcaokdmjlknmmaaGreatDoor
open Go.RowKit
end Go.Proofs.YtcaokdmjlknmmaaGreatDoor
namespace Go
open Go.RowKit Go.Proofs.YtcaokdmjlknmmaaGreatDoor
def World.ownsV (w : World) (base : Nat) (e : TypeId) (size : Nat) (v : Value) (n : Nat) (xs : List Value) : Prop :=
  xs.length = n*size /\ ((v = .slice none 0 0 /\ n = 0) \/
   ∃ g o cap cur, v = .slice (some ⟨g, o, none⟩) n cap /\ base <= g /\ w.heap[g]? = some (.cells cur e (0, 0)) /\ n <= cap /\ cap <= maxLen /\ o + cap*size <= cur.size /\ (cur.toList.drop o).take (n*size) = xs)
end Go
namespace Go.Proofs.YtcaokdmjlknmmaaGreatDoor
open Go.RowKit
section
variable {w w':World} {base:Nat} {e:TypeId} {size n:Nat} {v:Value} {xs:List Value}
theorem Zhf (h:w.ownsRow base e size v n xs):w.ownsV base e size v n xs:=by
 refine ⟨h.1,?_⟩
 rcases h.2 with h0|⟨g,cap,a,h1,h2,h3,h4,h5,h6,h7⟩
 .exact .inl h0
 .exact .inr ⟨g,0,cap,a,h1,h2,h3,h4,h5,yE,by simpa using h7⟩
theorem Zfg (w:World) (base:Nat) (e:TypeId) (size:Nat):w.ownsV base e size (.slice none 0 0) 0 []:=Zhf (World.ownsRow_nil _ _ _ _)
theorem Zav (h:w.ownsV base e size v n xs):∃A c,v=.slice A n c/\n<=c/\c<=maxLen:=by
 rcases h.2 with ⟨rfl,rfl⟩|⟨g,o,cap,cur,rfl,hb,hg,a,hm,hs,ht⟩
 .exact ⟨none,0,rfl,AL _,Nat.zero_le _⟩
 .exact ⟨_,cap,rfl,a,hm⟩
theorem Zix {a:Nat}(h:w.ownsV base e size v n xs) (hb:a<=base):w.ownsV a e size v n xs:=by
 refine ⟨h.1,?_⟩
 rcases h.2 with h0|⟨g,o,cap,b,h1,h2,h3⟩
 .exact .inl h0
 .exact .inr ⟨g,o,cap,b,h1,AB hb h2,h3⟩
theorem Zip (h:w.ownsV base e size v n xs):∀b∈v.ownBlock.toList,b<w.heap.size:=by
 rcases h.2 with ⟨h0,_⟩|⟨g,o,cap,cur,hv,_,hc,_⟩
 .simp [h0,Value.ownBlock]
 .intro b mb
  simp [hv,Value.ownBlock]at mb
  subst mb
  exact (AI.1 hc).1
theorem Zcg (h:w.ownsV base e size v n xs) (hk:∀b∈v.ownBlock.toList,w'.heap[b]?=w.heap[b]?):w'.ownsV base e size v n xs:=by
 refine ⟨h.1,?_⟩
 rcases h.2 with h0|⟨g,o,cap,a,hv,hg,hc,r⟩
 .exact .inl h0
 .refine .inr ⟨g,o,cap,a,hv,hg,?_,r⟩
  rw [hk g (by simp [hv,Value.ownBlock])]
  exact hc
theorem ZiP {g o n' cap:Nat}(h:w.ownsV base e size v n xs) (a:v=.slice (some ⟨g,o,none⟩) n' cap):∀j u,xs[j]?=some u->w.cell? ⟨g,o+j,none⟩=some u:=by
 intro j u hj
 subst a
 rcases h.2 with ⟨h0,_⟩|⟨g',o',cap',b,hv,hb,hg,hnc,hm,hs,ht⟩
 .simp at h0
 .simp only[Value.slice.injEq,Option.some.injEq,Addr.mk.injEq,and_true,true_and]at hv
  obtain ⟨⟨rfl,rfl⟩,rfl,rfl⟩:=hv
  rw [cell_of_row w g (o+j) b e (0,0) hg]
  rw [<-ht]at hj
  have hl:j<n' * size:=by
   have:=(AC.1 hj).1
   simp at this
   omega
  rw [List.getElem?_take_of_lt hl,List.getElem?_drop]at hj
  simpa using hj
theorem Sl.of_ownV {c:Nat}{A:Option Addr}(h:w.ownsV base e size (.slice A n c) n xs):∃L,Sl w size A n xs L/\Own w base L/\∀b∈L,∃o,A=some ⟨b,o,none⟩:=by
 rcases h.2 with ⟨hv,hn⟩|⟨g,o,cap,a,hv,hb,hg,hnc,hm,hs,ht⟩
 .subst hn
  exact ⟨[],⟨h.1,.inl ⟨rfl,rfl⟩⟩,Own.nil _ _,yG⟩
 .injection hv with hA _ hc
  subst hA
  subst hc
  rcases Nat.eq_zero_or_pos n with h0|h0
  .subst h0
   exact ⟨[],⟨h.1,.inl ⟨rfl,rfl⟩⟩,Own.nil _ _,yG⟩
  .refine ⟨[g],⟨h.1,.inr ⟨h0,g,o,rfl,rfl,fun j u hu=>ZiP h rfl j u hu⟩⟩,⟨yG,by simpa using hb,fun b m=>?_⟩,yG⟩
   simp at m
   subst m
   exact ⟨a,e,hg⟩
end
section
variable {P:Program} (w:World)
theorem ZjI (t ty e:TypeId) (i:TypeInfo) (ht:P.underlying t=some (.slice e)) (hi:P.info? e=some i)
  (g o d f:Nat) (k:Array Value) (hg:w.heap[g]?=some (.cells k e (0,0)))
  (a:Addr) (m c:Nat) (b:List Value) (hl:b.length=m*i.size) (l:∀j u,b[j]?=some u->w.cell? (a.add j)=some u) (h1:∀u∈b,u.oneCell'=true)
  (p:d+m<=f) (q:o+d*i.size+b.length<=k.size):
  (Builtin.append_ #[t,t] ty #[.slice (some ⟨g,o,none⟩) d f,.slice (some a) m c]).run P w=
   .ok (.slice (some ⟨g,o,none⟩) (d+m) f) (w.setRow g (k.toList.take (o+d*i.size)++b++k.toList.drop (o+d*i.size+b.length)).toArray):=by
 have hf:=run_firstCells_some (P:=P) w i.size m a m c b hl l
 have v:=run_storeCells_at P g (o+d*i.size) e b 0 k w hg (by simpa using q) h1
 simp only[Nat.add_zero]at v
 simp [Builtin.append_,run_underlying ht,sizeOf,typeInfo,hi,Builtin.lenOf,p,hf,Addr.add_lit,v]
theorem Zge (base:Nat) (t ty e:TypeId) (i:TypeInfo) (z:Value) (size f:Nat) (ht:P.underlying t=some (.slice e)) (hi:P.info? e=some i) (hz:i.zero=some z)
  (A:i.size=size) (F:i.bytes=f) (G:z.cells.size=size) (J:0<size)
  (v:Value) (n:Nat) (xs:List Value) (d:w.ownsV base e size v n xs)
  (a:Addr) (m c:Nat) (b:List Value) (hl:b.length=m*size) (l:∀j u,b[j]?=some u->w.cell? (a.add j)=some u) (h1:∀u∈b,u.oneCell'=true)
  (C:n+m<=maxLen) (q:(n+m)*f<=140737488355328) (B:base<=w.heap.size):
  ∃v' w',(Builtin.append_ #[t,t] ty #[v,.slice (some a) m c]).run P w=.ok v' w'/\w'.ownsV base e size v' (n+m) (xs++b)/\w.grownBy w' v.ownBlock/\
   (v'.ownBlock=v.ownBlock\/v'.ownBlock=some w.heap.size):=by
 rcases d.2 with ⟨rfl,rfl⟩|⟨g,o,cap,y,rfl,K,hg,hnc,L,hcs,D⟩
 .have hx:xs=[]:=AM (by simpa using d.1)
  subst hx
  obtain ⟨v',w',r1,r2,r3,_,r5⟩:=run_append_own_at (P:=P) w base t ty e i z size f ht hi hz A F G J _ 0 [] (World.ownsRow_nil w base e size) a m c b hl l h1 C q B
  exact ⟨v',w',r1,Zhf r2,r3,r5⟩
 .subst A
  subst F
  have hsmall:n+m<=9223372036854775807:=by simp only[maxLen]at C;omega
  have x:(xs++b).length=(n+m)*i.size:=by rw [AN,d.1,hl,AD]
  by_cases p:n+m<=cap
  .have H:o+n*i.size+b.length<=y.size:=by
    have:=AF i.size p
    rw [AD]at this
    rw [hl];omega
   have hr:=ZjI (P:=P) w t ty e i ht hi g o n cap y hg a m c b hl l h1 p H
   refine ⟨_,_,hr,⟨x,.inr ⟨g,o,cap,_,rfl,K,setRow_heap w g y _ e _ hg,p,L,?_,?_⟩⟩,⟨rfl,rfl,rfl,yG,fun k _ hk=>setRow_other w g k _ (fun e=>hk (by simp [Value.ownBlock,e]))⟩,.inl rfl⟩
   .simp only[AY,AN,AO,AP,AZ]
    omega
   .show List.take _ (List.drop o (y.toList.take (o+n*i.size)++b++_))=_
    have hx:(y.toList.take (o+n*i.size)).drop o=xs:=by
     rw [Aa,Ac];exact D
    have ho:o<=(y.toList.take (o+n*i.size)).length:=by simp;omega
    rw [AG,List.drop_append_of_le_length ho,hx,<-AG,<-x]
    exact Ad
  .have E:∀j u,xs[j]?=some u->w.cell? ((⟨g,o,none⟩:Addr).add j)=some u:=fun j u hj=>by
    rw [Addr.add_lit];exact ZiP d rfl j u hj
   have hr:=run_append_grow (P:=P) w t ty e i z ht hi hz ⟨g,o,none⟩ n cap xs d.1 E a m c b hl l yE yE (growslice_fits yE q)
   have M:=grownCap_ge w (n+m) cap e
   have I:grownCap w (n+m) cap e<=maxLen:=grownCap_le_maxLen w (n+m) cap e C
   refine ⟨_,_,hr,⟨x,.inr ⟨w.heap.size,0,_,_,rfl,B,heap_alloc_new w.drew _,M,I,?_,?_⟩⟩,⟨rfl,rfl,rfl,yG,fun k hk _=>heap_alloc_old w.drew _ hk⟩,.inr rfl⟩
   .simp only[Array.size_append,AY,size_zeroCells,G,d.1,hl,<-AD]
    rw [Nat.zero_add]
    exact AF _ yE
   .rw [Ae]
    simp only[Array.toList_append,AG]
    rw [<-AG,<-x]
    exact Ad
theorem ZsK {w:World}{base:Nat}{e:TypeId}{size n l c:Nat}{A:Option Addr}{xs:List Value}(h:w.ownsV base e size (.slice A n c) n xs) (hl:l<=n):
  w.ownsV base e size (.slice (if c=l then A else A.map (·.add (l*size))) (n - l) (c - l)) (n - l) (xs.drop (l*size))/\(Value.slice (if c=l then A else A.map (·.add (l*size))) (n - l) (c - l)).ownBlock=(Value.slice A n c).ownBlock:=by
 have a:(xs.drop (l*size)).length=(n - l)*size:=by rw [AP,h.1,AQ]
 rcases h.2 with ⟨h0,hn⟩|⟨g,o,cap,b,hv,hb,hg,hnc,hm,hs,ht⟩
 .simp only[Value.slice.injEq]at h0
  obtain ⟨rfl,_,rfl⟩:=h0
  subst hn
  obtain rfl:l=0:=by omega
  exact ⟨⟨a,.inl ⟨yG,yE⟩⟩,yG⟩
 .simp only[Value.slice.injEq,true_and]at hv
  obtain ⟨rfl,rfl⟩:=hv
  by_cases d:c=l
  .subst d
   rw [if_pos rfl]
   refine ⟨⟨a,.inr ⟨g,o,c - c,b,rfl,hb,hg,yE,yE,?_,?_⟩⟩,rfl⟩
   .rw [Nat.sub_self,Nat.zero_mul];omega
   .have e0:(n - c)*size=0:=by rw [show n - c=0 by omega,Nat.zero_mul]
    rw [e0]at a ⊢
    rw [Ag]
    exact (AM a).symm
  .rw [if_neg d]
   refine ⟨⟨a,.inr ⟨g,o+l*size,c - l,b,by simp [Addr.add],hb,hg,yE,yE,?_,?_⟩⟩,by simp only[AJ,Value.ownBlock,Addr.add_lit]⟩
   .rw [AQ]
    have:=AF size (show l<=c by omega)
    omega
   .rw [<-ht,Aa,List.drop_drop,AQ]
end
end Go.Proofs.YtcaokdmjlknmmaaGreatDoor
namespace Go.Proofs.YtcaokdmjlknmmaaGreatDoor
section
open Go.RowKit
def Zbn (n:Int):Prop:=-9223372036854775808<=n/\n<=9223372036854775807
structure Z9 (α:Type) where
 size:Nat
 rep:World->List Value->α->List Nat->Prop
 len:∀{w cs x L},rep w cs x L->cs.length=size
 keep:∀{w w' cs x L},rep w cs x L->(∀b∈L,w'.heap[b]?=w.heap[b]?)->rep w' cs x L
 lt:∀{w cs x L},rep w cs x L->∀b∈L,b<w.heap.size
 one:∀{w cs x L},rep w cs x L->∀u∈cs,u.oneCell'=true
 pos:0<size
def ZgI:Z9 Int where
 size:=1
 rep:=fun _ cs x L=>cs=[.int .i64 x]/\L=[]
 len:=fun h=>by simp [h.1]
 keep:=fun h _=>h
 lt:=fun h=>by simp [h.2]
 one:=fun h=>by simp [h.1,Value.oneCell']
 pos:=by omega
def Zeu:Z9 ByteArray where
 size:=1
 rep:=fun _ cs x L=>cs=[.string x]/\L=[]/\x.size<=9223372036854775807
 len:=fun h=>by simp [h.1]
 keep:=fun h _=>h
 lt:=fun h=>by simp [h.2.1]
 one:=fun h=>by simp [h.1,Value.oneCell']
 pos:=by omega
def ZCj:Z9 Bool where
 size:=1
 rep:=fun _ cs x L=>cs=[.bool x]/\L=[]
 len:=fun h=>by simp [h.1]
 keep:=fun h _=>h
 lt:=fun h=>by simp [h.2]
 one:=fun h=>by simp [h.1,Value.oneCell']
 pos:=by omega
section
variable {α:Type} (c:Z9 α)
def Z9.reps (w:World):List Value->List α->List Nat->Prop
 |xs,[],L=>xs=[]/\L=[]
 |xs,d::ds,L=>∃c1 c2 L1 L2,xs=c1++c2/\L=L1++L2/\c.rep w c1 d L1/\Z9.reps w c2 ds L2
variable {c}
theorem Zgw {w:World}:∀{ds:List α}{xs:List Value}{L:List Nat},c.reps w xs ds L->xs.length=ds.length*c.size
 | [],_,_,h=>by simp [h.1]
 |d::ds,_,_,⟨c1,c2,L1,L2,rfl,rfl,h1,h2⟩=>by
  have:=Zgw h2
  simp [c.len h1,this,AD];omega
theorem QJ {w w':World}:∀{ds:List α}{xs:List Value}{L:List Nat},c.reps w xs ds L->(∀b∈L,w'.heap[b]?=w.heap[b]?)->c.reps w' xs ds L
 | [],_,_,h,_=>h
 |d::ds,_,_,⟨c1,c2,L1,L2,rfl,rfl,h1,h2⟩,hk=>
  ⟨c1,c2,L1,L2,rfl,rfl,c.keep h1 (fun b m=>hk b (by simp [m])),QJ h2 (fun b m=>hk b (by simp [m]))⟩
theorem Zua {w:World}:∀{ds:List α}{xs:List Value}{L:List Nat},c.reps w xs ds L->∀b∈L,b<w.heap.size
 | [],_,_,h=>by simp [h.2]
 |d::ds,_,_,⟨c1,c2,L1,L2,rfl,rfl,h1,h2⟩=>by
  intro b m
  rcases A0.1 m with m|m
  .exact c.lt h1 b m
  .exact Zua h2 b m
theorem Zc2 {w:World}:∀{ds es:List α}{xs ys:List Value}{L M:List Nat},c.reps w xs ds L->c.reps w ys es M->c.reps w (xs++ys) (ds++es) (L++M)
 | [],es,_,ys,_,M,h,h'=>by obtain ⟨rfl,rfl⟩:=h;simpa using h'
 |d::ds,es,_,ys,_,M,⟨c1,c2,L1,L2,rfl,rfl,h1,h2⟩,h'=>
  ⟨c1,c2++ys,L1,L2++M,yG,yG,h1,Zc2 h2 h'⟩
theorem ZcU {w:World}{d:α}{cs:List Value}{L:List Nat}(h:c.rep w cs d L):c.reps w cs [d] L:=⟨cs,[],L,[],yG,yG,h,rfl,rfl⟩
theorem ZmN {w:World}:∀{ds es:List α}{xs:List Value}{L:List Nat},c.reps w xs (ds++es) L->
  ∃x1 x2 L1 L2,xs=x1++x2/\L=L1++L2/\c.reps w x1 ds L1/\c.reps w x2 es L2
 | [],es,xs,L,h=>⟨[],xs,[],L,rfl,rfl,⟨rfl,rfl⟩,h⟩
 |d::ds,es,_,_,⟨c1,c2,L1,L2,rfl,rfl,h1,h2⟩=>by
  obtain ⟨x1,x2,M1,M2,rfl,rfl,h3,h4⟩:=ZmN h2
  exact ⟨c1++x1,x2,L1++M1,M2,yG,yG,⟨c1,x1,L1,M1,rfl,rfl,h1,h3⟩,h4⟩
theorem ZxS {w:World}{ds:List α}{xs:List Value}{L:List Nat}(h:c.reps w xs ds L) {k:Nat}(hk:k<ds.length):
  ∃x1 cs x2 L1 Lk L2,xs=x1++(cs++x2)/\x1.length=k*c.size/\L=L1++(Lk++L2)/\c.reps w x1 (ds.take k) L1/\c.rep w cs ds[k] Lk/\c.reps w x2 (ds.drop (k+1)) L2:=by
 have e:ds=ds.take k++(ds[k]::ds.drop (k+1)):=by rw [<-AR hk,Ah]
 rw [e]at h
 obtain ⟨x1,x2,L1,L2,rfl,rfl,h1,c1,c2,M1,M2,rfl,rfl,h2,h3⟩:=ZmN h
 refine ⟨x1,c1,c2,L1,M1,M2,rfl,?_,rfl,h1,h2,h3⟩
 have:=Zgw h1
 rw [this,AO,Ai yE]
def Sli (c:Z9 α) (w:World) (A:Option Addr) (ds:List α) (L:List Nat):Prop:=
 ∃xs L0 L1,L=L0++L1/\Sl w c.size A ds.length xs L0/\c.reps w xs ds L1
theorem Sli.nil (w:World) (A:Option Addr):Sli c w A [] []:=⟨[],[],[],rfl,Sl.zero,rfl,rfl⟩
theorem Sli.keep {w w':World}{A:Option Addr}{ds:List α}{L:List Nat}(h:Sli c w A ds L) (hk:∀b∈L,w'.heap[b]?=w.heap[b]?):Sli c w' A ds L:=by
 obtain ⟨xs,L0,L1,rfl,h1,h2⟩:=h
 exact ⟨xs,L0,L1,rfl,h1.keep (fun b m=>hk b (by simp [m])),QJ h2 (fun b m=>hk b (by simp [m]))⟩
theorem Sli.lt {w:World}{A:Option Addr}{ds:List α}{L:List Nat}(h:Sli c w A ds L):∀b∈L,b<w.heap.size:=by
 obtain ⟨xs,L0,L1,rfl,h1,h2⟩:=h
 intro b m
 rcases A0.1 m with m|m
 .exact h1.lt c.pos b m
 .exact Zua h2 b m
theorem Sli.below {w w':World}{A:Option Addr}{ds:List α}{L:List Nat}(h:Sli c w A ds L) (hb:Below w.heap.size w w'):Sli c w' A ds L:=h.keep (Zo hb h.lt)
theorem Sli.at_ {w:World}{A:Option Addr}{ds:List α}{L:List Nat}(h:Sli c w A ds L) {k:Nat}(hk:k<ds.length):
  ∃b off cs Lk,A=some ⟨b,off,none⟩/\b∈L/\(∀x∈Lk,x∈L)/\c.rep w cs ds[k] Lk/\∀j u,cs[j]?=some u->w.cell? ⟨b,off+(k*c.size+j),none⟩=some u:=by
 obtain ⟨xs,L0,L1,rfl,h1,h2⟩:=h
 obtain ⟨x1,cs,x2,M1,Mk,M2,rfl,hx,rfl,_,h3,_⟩:=ZxS h2 hk
 obtain ⟨b,off,hA,hL,hc⟩:=h1.at_ yE
 subst hL
 refine ⟨b,off,cs,Mk,hA,yG,fun x m=>by simp [m],h3,fun j u hu=>hc _ u ?_⟩
 rw [List.getElem?_append_right yE,hx,Ac,List.getElem?_append_left (AC.1 hu).1]
 exact hu
def Yb (c:Z9 α):Z9 (List α) where
 size:=1
 rep:=fun w cs ds L=>∃A cap,cs=[.slice A ds.length cap]/\ds.length<=cap/\cap<=maxLen/\Sli c w A ds L
 len:=fun ⟨_,_,h,_⟩=>by simp [h]
 keep:=fun ⟨A,cap,h,h1,h2,h3⟩ hk=>⟨A,cap,h,h1,h2,h3.keep hk⟩
 lt:=fun ⟨_,_,_,_,_,h3⟩=>h3.lt
 one:=fun ⟨_,_,h,_⟩=>by simp [h,Value.oneCell']
 pos:=by omega
theorem Own.append {w:World}{base c:Nat}{L M:List Nat}(h:Own w base L) (k:Own w c M) (hb:base<=c) (hl:∀b∈L,b<c):Own w base (L++M):=by
 refine ⟨?_,?_,?_⟩
 .rw [List.nodup_append]
  refine ⟨h.nodup,k.nodup,fun a ha b d e=>?_⟩
  subst e
  have:=hl a ha
  have:=k.ge a d
  omega
 .intro b m
  rcases A0.1 m with m|m
  .exact h.ge b m
  .exact AB hb (k.ge b m)
 .intro b m
  rcases A0.1 m with m|m
  .exact h.plain b m
  .exact k.plain b m
theorem Own.sub {w:World}{base:Nat}{L M:List Nat}(h:Own w base L) (hs:M.Sublist L):Own w base M:=
 ⟨h.nodup.sublist hs,fun b m=>h.ge b (hs.subset m),fun b m=>h.plain b (hs.subset m)⟩
structure Got (c:Z9 α) (base:Nat) (cs:List Value) (x:α) (L:List Nat) (w:World):Prop where
 rep:c.rep w cs x L
 own:Own w base L
section
variable {c:Z9 α} {base:Nat} {cs:List Value} {x:α} {L M:List Nat} {w w':World}
theorem Got.keep (h:Got c base cs x L w) (hk:∀b∈L,w'.heap[b]?=w.heap[b]?):Got c base cs x L w':=⟨c.keep h.rep hk,h.own.keep hk⟩
theorem Got.later (h:Got c base cs x L w) (hb:Below w.heap.size w w'):Got c base cs x L w':=h.keep (Zo hb h.own.lt)
theorem Got.setCell (h:Got c base cs x L w) {p:Addr}(hp:p.block<base) (u:Value):Got c base cs x L (w.setCell p u):=
 h.keep fun b m=>Below.heap_setCell w p u b (by have:=h.own.ge b m;omega)
theorem Got.lt (h:Got c base cs x L w):∀b∈L,b<w.heap.size:=h.own.lt
theorem Got.mono {a:Nat}(h:Got c base cs x L w) (hb:a<=base):Got c a cs x L w:=⟨h.rep,h.own.mono hb⟩
end
def ZcM (c:Z9 α) (w:World) (x:α) (e:Ending) (w':World):Prop:=∃cs L,e=.returned (.agg cs.toArray)/\Got c w.heap.size cs x L w'/\Below w.heap.size w w'
theorem ZZ {c:Z9 α}{w:World}{A:Option Addr}{n cap:Nat}{ds:List α}{L:List Nat}(h:(Yb c).rep w [.slice A n cap] ds L):ds.length<=cap/\cap<=maxLen/\Sli c w A ds L:=by
 obtain ⟨A',cap',hv,h1,h2,h3⟩:=h
 cases hv
 exact ⟨h1,h2,h3⟩
structure Zfy (c:Z9 α) (E:TypeId) (W:World) (v:Value) (ds:List α) (w:World):Prop where
 ex:∃xs L1,w.ownsV W.heap.size E c.size v ds.length xs/\c.reps w xs ds L1/\Own w W.heap.size (v.ownBlock.toList++L1)
 below:Below W.heap.size W w
def Zbg (c:Z9 α) (E:TypeId) (w:World) (ds:List α) (e:Ending) (w':World):Prop:=∃v,e=.returned v/\Zfy c E w v ds w'
theorem Zfy.shape {c:Z9 α}{E:TypeId}{W w:World}{v:Value}{ds:List α}(h:Zfy c E W v ds w):∃A cap,v=.slice A ds.length cap:=by
 obtain ⟨xs,L1,h1,_⟩:=h.ex
 obtain ⟨A,cap,hv,_⟩:=Zav h1
 exact ⟨A,cap,hv⟩
theorem Zfy.got {c:Z9 α}{E:TypeId}{W w:World}{v:Value}{ds:List α}(h:Zfy c E W v ds w):∃L,Got (Yb c) W.heap.size [v] ds L w:=by
 obtain ⟨xs,L1,h1,h2,h3⟩:=h.ex
 obtain ⟨A,cap,rfl,hn,hm⟩:=Zav h1
 obtain ⟨L0,hs,ho,hb⟩:=Sl.of_ownV h1
 refine ⟨L0++L1,⟨A,cap,rfl,hn,hm,xs,L0,L1,rfl,hs,h2⟩,h3.sub ?_⟩
 refine List.Sublist.append ?_ (List.Sublist.refl _)
 rcases hs.2 with ⟨_,h0⟩|⟨_,b,off,rfl,h0,_⟩
 .subst h0;exact List.nil_sublist _
 .subst h0
  simp [Value.ownBlock]
end
def ZqL (w:World) (g p:Nat):List Value->World
 | []=>w
 |u::r=>ZqL (w.setCell ⟨g,p,none⟩ u) g (p+1) r
def ZiZ (xs:List Value) (p:Nat):List Value->List Value
 | []=>xs
 |u::r=>ZiZ (xs.set p u) (p+1) r
theorem Zg9 (x1:List Value):∀(cs x2:List Value),cs.length<=x2.length->ZiZ (x1++x2) x1.length cs=x1++(cs++x2.drop cs.length)
 | [],x2,_=>by simp [ZiZ]
 |u::r,[],h=>by simp at h
 |u::r,y::x2,h=>by
  rw [ZiZ,List.set_append_right _ _ (AL _),Nat.sub_self,Aj]
  have e:x1++u::x2=(x1++[u])++x2:=by simp
  have l:x1.length+1=(x1++[u]).length:=by simp
  rw [e,l,Zg9 (x1++[u]) r x2 (by simpa using h)]
  simp
theorem ZkB {base:Nat}{e:TypeId}{size g n cap:Nat}:∀(cs:List Value) (w:World) (xs:List Value) (p:Nat),w.ownsRow base e size (.slice (some ⟨g,0,none⟩) n cap) n xs->
  (ZqL w g p cs).ownsRow base e size (.slice (some ⟨g,0,none⟩) n cap) n (ZiZ xs p cs)/\w.grownBy (ZqL w g p cs) (some g)
 | [],w,xs,p,h=>⟨h,World.grownBy.refl _ _⟩
 |u::r,w,xs,p,h=>by
  obtain ⟨h1,h2⟩:=h.stored p u
  obtain ⟨h3,h4⟩:=ZkB r _ _ (p+1) h1
  exact ⟨h3,⟨h4.os.trans h2.os,h4.tape.trans h2.tape,h4.output.trans h2.output,AB h2.size h4.size,fun k hk hn=>(h4.block k (AS hk h2.size) hn).trans (h2.block k hk hn)⟩⟩
structure ZG {α:Type}(c:Z9 α) (E:TypeId) (W:World) (n:Nat) (ds:List α) (k:Nat) (w:World):Prop where
 ex:∃x1 x2 L1,w.ownsRow W.heap.size E c.size (.slice (some ⟨W.heap.size,0,none⟩) n n) n (x1++x2)/\c.reps w x1 (ds.take k) L1/\x2.length=(n - k)*c.size/\Own w W.heap.size (W.heap.size::L1)
 below:Below W.heap.size W w
section
variable {α:Type} {c:Z9 α} {E:TypeId} {W:World} {n:Nat} {ds:List α} {k:Nat} {w w':World}
theorem ZG.start {ys:List Value}(h:w.ownsRow W.heap.size E c.size (.slice (some ⟨W.heap.size,0,none⟩) n n) n ys) (hb:Below W.heap.size W w):ZG c E W n ds 0 w:=by
 refine ⟨⟨[],ys,[],h,⟨rfl,rfl⟩,by simpa using h.1,yG,yG,?_⟩,hb⟩
 intro b m
 simp at m
 subst m
 rcases h.2 with ⟨h',_⟩|⟨g',cap',a,h',_,hg,_⟩
 .simp at h'
 .simp at h';obtain ⟨h',_⟩:=h';subst h';exact ⟨a,E,hg⟩
theorem ZG.later (h:ZG c E W n ds k w) (hb:Below w.heap.size w w'):ZG c E W n ds k w':=by
 obtain ⟨⟨x1,x2,L1,h1,h2,h3,h4⟩,hB⟩:=h
 have hk:=Zo hb h4.lt
 refine ⟨⟨x1,x2,L1,?_,QJ h2 (fun b m=>hk b (by simp [m])),h3,h4.keep hk⟩,hB.trans (hb.mono hB.size)⟩
 exact h1.kept (row:=none) ⟨hb.os,hb.tape,hb.output,hb.size,fun k hk _=>hb.block k hk⟩ (by simp [Value.ownBlock])
theorem ZG.cell (h:ZG c E W n ds k w) (hk:k<n) {j:Nat}(hj:j<c.size):∃d,w.cell? ⟨W.heap.size,k*c.size+j,none⟩=some d:=by
 obtain ⟨⟨x1,x2,L1,h1,h2,h3,h4⟩,hB⟩:=h
 have a:k*c.size+j<n*c.size:=by
  have:=AF c.size (show k+1<=n from hk)
  rw [AD]at this
  omega
 rw [h1.cellAt _ a]
 exact ⟨_,AK (by rw [h1.1];exact a)⟩
theorem ZG.frozen (h:ZG c E W n ds k w) (j:Nat):w.frozen? ⟨W.heap.size,j,none⟩=false:=by
 obtain ⟨⟨x1,x2,L1,h1,h2,h3,h4⟩,hB⟩:=h
 exact h1.frozenAt j
theorem ZG.store {cs:List Value}{x:α}{M:List Nat}{w2:World}(h:ZG c E W n ds k w) (hk:k<n) (hn:n=ds.length) (hx:∀hl:k<ds.length,x=ds[k]) (hb:Below w.heap.size w w2) (hg:Got c w.heap.size cs x M w2):
  ZG c E W n ds (k+1) (ZqL w2 W.heap.size (k*c.size) cs):=by
 have g:=h
 obtain ⟨⟨x1,x2,L1,h1,h2,h3,h4⟩,hB⟩:=h
 have a:=Zo hb h4.lt
 have o:=(ZG.later g hb).ex
 clear o
 have o1:w2.ownsRow W.heap.size E c.size (.slice (some ⟨W.heap.size,0,none⟩) n n) n (x1++x2):=h1.kept (row:=none) ⟨hb.os,hb.tape,hb.output,hb.size,fun k hk _=>hb.block k hk⟩ (by simp [Value.ownBlock])
 obtain ⟨o2,o3⟩:=ZkB cs w2 (x1++x2) (k*c.size) o1
 have d:x1.length=k*c.size:=by rw [Zgw h2,AO,Ai yE]
 have p:cs.length=c.size:=c.len hg.rep
 have h3':c.size<=x2.length:=by
  rw [h3]
  have:=AF c.size (show 1<=n - k by omega)
  omega
 rw [<-d,Zg9 x1 cs x2 yE]at o2
 have j:∀b∈M,b≠W.heap.size:=fun b m e=>by have:=hg.own.ge b m;have:=hB.size;have:=h4.lt W.heap.size yG;omega
 have q:∀b∈L1,b≠W.heap.size:=fun b m e=>by
  have:=h4.nodup
  rw [Ak]at this
  exact this.1 (e ▸ m)
 have f:∀b,b<w2.heap.size->b≠W.heap.size->(ZqL w2 W.heap.size x1.length cs).heap[b]?=w2.heap[b]?:=fun b hl t=>by
  rw [d];exact o3.block b hl (fun e=>t (by injection e))
 rw [<-d]
 refine ⟨⟨x1++cs,x2.drop cs.length,L1++M,by rw [AG];exact o2,?_,?_,?_⟩,?_⟩
 .rw [List.take_succ_eq_append_getElem yE]
  refine Zc2 (QJ h2 (fun b m=>?_)) (ZcU ?_)
  .rw [f b (AS (h4.lt b (by simp [m])) hb.size) (q b m)]
   exact a b (by simp [m])
  .rw [<-hx yE]
   exact c.keep hg.rep (fun b m=>f b (hg.own.lt b m) (j b m))
 .rw [AP,h3,p,show n - k=(n - (k+1))+1 by omega,AD];omega
 .have hO:Own w2 W.heap.size ((W.heap.size::L1)++M):=Own.append (h4.keep a) hg.own hB.size h4.lt
  rw [Al]at hO
  refine ⟨hO.nodup,hO.ge,fun b m=>?_⟩
  by_cases e:b=W.heap.size
  .subst e
   rcases o2.2 with ⟨h',_⟩|⟨g',cap',u,h',_,l,_⟩
   .simp at h'
   .simp at h';obtain ⟨h',_⟩:=h';rw [<-h']at l;exact ⟨u,E,l⟩
  .rw [f b (hO.lt b m) e]
   exact hO.plain b m
 .rw [d]
  refine (hB.trans (hb.mono hB.size)).trans ⟨o3.os,o3.tape,o3.output,o3.size,fun i hi=>o3.block i (AS hi (AB hB.size hb.size)) (fun e=>by injection e with e;omega)⟩
theorem ZG.done (h:ZG c E W n ds n w) (hn:n=ds.length):Zfy c E W (.slice (some ⟨W.heap.size,0,none⟩) n n) ds w:=by
 obtain ⟨⟨x1,x2,L1,h1,h2,h3,h4⟩,hB⟩:=h
 have e:x2=[]:=AM (by simpa using h3)
 subst e
 rw [Am]at h1
 rw [List.take_of_length_le yE]at h2
 subst hn
 exact ⟨⟨x1,L1,Zhf h1,h2,by simpa [Value.ownBlock]using h4⟩,hB⟩
end
theorem Zb0 {α:Type}(f:α->Nat) (ds:List α) (k:Nat) (hk:k<ds.length) {B:Nat}(h:(ds.map f).sum<=B):f ds[k]<=B:=by
 refine AB ?_ h
 have e:ds=ds.take k++(ds[k]::ds.drop (k+1)):=by rw [<-AR hk,Ah]
 have:(ds.map f).sum=((ds.take k).map f).sum+(f ds[k]+((ds.drop (k+1)).map f).sum):=by
  have h1:=congrArg (fun l=>(AA f l).sum) e
  simp only[An,AE,List.sum_append_nat,List.sum_cons]at h1
  exact h1
 omega
theorem XT {α:Type}{c:Z9 α}{w wr WF:World}{x:α}{cs:List Value}(L:List Nat) (hg:Got c (w.heap.size+3) cs x L wr) (hk:∀b,w.heap.size+3<=b->WF.heap[b]?=wr.heap[b]?) (hb:Below w.heap.size w WF):
 ZcM c w x (.returned (.agg cs.toArray)) WF:=⟨cs,L,rfl,(hg.keep (fun b m=>hk b (hg.own.ge b m))).mono yE,hb⟩
def szR (c:Nat) (l:Int):Int:=if (c:Int)<=l then l - c else -1
theorem ZC {c:Nat}{l:Int}(h:(c:Int)<=l):szR c l=l - c:=if_pos h
theorem Zn {c:Nat}{l:Int}(h:¬(c:Int)<=l):szR c l=-1:=if_neg h
theorem Yf (a b c:Nat) (l:Int) (ha:(a:Int)<=l) (hc:c=a+b):szR b (l - a)=szR c l:=by
 subst hc
 by_cases h:(b:Int)<=l - a
 .rw [ZC h,ZC yE];omega
 .rw [Zn h,Zn yE]
def XU (l:List ByteArray):Nat:=l.length+(l.map AT).sum
theorem Zys {w:World}{cs:List Value}{x:ByteArray}{L:List Nat}(h:Zeu.rep w cs x L):cs=[.string x]/\L=[]/\x.size<=9223372036854775807:=h
def YH (c:Nat) (left:Int) (w:World) (e:Ending) (w':World):Prop:=e=.returned (.int .i64 (szR c left))/\Below w.heap.size w w'
def Blk (w:World) (g:Nat) (t:TypeId) (cs:Array Value):Prop:=w.heap[g]?=some (.cells cs t (0,0))
section
variable {w w':World} {g:Nat} {t:TypeId} {cs:Array Value}
theorem Blk.lt (h:Blk w g t cs):g<w.heap.size:=(AI.1 h).1
theorem Blk.at {i:Nat}{v:Value}(h:Blk w g t cs) (hv:cs[i]?=some v):w.cell? ⟨g,i,none⟩=some v:=(cell_of_row w g i cs t (0,0) h).trans hv
theorem Blk.frozen (h:Blk w g t cs) (i:Nat):w.frozen? ⟨g,i,none⟩=false:=by
 unfold Blk at h
 simp [World.frozen?,h]
theorem Blk.new (w:World) (t:TypeId) (cs:Array Value):Blk (w.alloc (.cells cs t)) w.heap.size t cs:=heap_alloc_new w _
theorem Blk.new_at {w:World}{t:TypeId}{cs:Array Value}{g:Nat}(hg:g=w.heap.size):Blk (w.alloc (.cells cs t)) g t cs:=by subst hg;exact heap_alloc_new w _
theorem Blk.alloc (h:Blk w g t cs) (o:Obj):Blk (w.alloc o) g t cs:=(Below.heap_alloc w o g h.lt).trans h
theorem Blk.set_ (h:Blk w g t cs) (i:Nat) (u:Value):Blk (w.setCell ⟨g,i,none⟩ u) g t (cs.setIfInBounds i u):=by
 unfold Blk at h ⊢
 simp [World.setCell,Array.getElem?_modify,h]
theorem Blk.far (h:Blk w g t cs) {p:Addr}(hp:g≠p.block) (u:Value):Blk (w.setCell p u) g t cs:=(Below.heap_setCell w p u g hp).trans h
theorem Blk.later (h:Blk w g t cs) (hb:Below w.heap.size w w'):Blk w' g t cs:=(hb.block g h.lt).trans h
end
section
variable {w0:World} {base b lo m:Nat} {Lk M:List Nat} {cs:List Value} {w w':World}
end
end
section
open Go.RowKit
structure Zk where
 rel:ByteArray
 args:List ByteArray
def Yh:Z9 Zk where
 size:=2
 rep:=fun w cs x L=>∃A1 c1 L1,cs=[.string x.rel,.slice A1 x.args.length c1]/\L=L1/\x.rel.size<=9223372036854775807/\x.args.length<=c1/\c1<=maxLen/\Sli Zeu w A1 x.args L1
 len:=fun ⟨A1,c1,L1,h,hL,t0,n1,m1,s1⟩=>by simp [h]
 keep:=fun ⟨A1,c1,L1,h,hL,t0,n1,m1,s1⟩ hk=>⟨A1,c1,L1,h,hL,t0,n1,m1,s1.keep (fun b m=>hk b (by simp [hL,m]))⟩
 lt:=fun ⟨A1,c1,L1,h,hL,t0,n1,m1,s1⟩=>by intro b m;simp only[hL,A0]at m;exact s1.lt b m
 one:=fun ⟨A1,c1,L1,h,hL,t0,n1,m1,s1⟩=>by simp [h,Value.oneCell']
 pos:=by omega
theorem Zaz {w:World}{cs:List Value}{x:Zk}{L:List Nat}(h:Yh.rep w cs x L):∃A1 c1,cs=[.string x.rel,.slice A1 x.args.length c1]:=by
 obtain ⟨A1,c1,L1,h,hL,t0,n1,m1,s1⟩:=h
 exact ⟨A1,c1,h⟩
def YL (x:Zk):Nat:=x.rel.size+XU x.args
def YQ (l:List Zk):Nat:=l.length+(l.map YL).sum
def Zj2 (x:Zk):Prop:=(fun _=>True) x.rel/\(fun ds=>∀d∈ds,(fun _=>True) d) x.args
structure Zj where
 rel:ByteArray
 args:List ByteArray
def XP:Z9 Zj where
 size:=2
 rep:=fun w cs x L=>∃A1 c1 L1,cs=[.string x.rel,.slice A1 x.args.length c1]/\L=L1/\x.rel.size<=9223372036854775807/\x.args.length<=c1/\c1<=maxLen/\Sli Zeu w A1 x.args L1
 len:=fun ⟨A1,c1,L1,h,hL,t0,n1,m1,s1⟩=>by simp [h]
 keep:=fun ⟨A1,c1,L1,h,hL,t0,n1,m1,s1⟩ hk=>⟨A1,c1,L1,h,hL,t0,n1,m1,s1.keep (fun b m=>hk b (by simp [hL,m]))⟩
 lt:=fun ⟨A1,c1,L1,h,hL,t0,n1,m1,s1⟩=>by intro b m;simp only[hL,A0]at m;exact s1.lt b m
 one:=fun ⟨A1,c1,L1,h,hL,t0,n1,m1,s1⟩=>by simp [h,Value.oneCell']
 pos:=by omega
theorem ZdP {w:World}{cs:List Value}{x:Zj}{L:List Nat}(h:XP.rep w cs x L):∃A1 c1,cs=[.string x.rel,.slice A1 x.args.length c1]:=by
 obtain ⟨A1,c1,L1,h,hL,t0,n1,m1,s1⟩:=h
 exact ⟨A1,c1,h⟩
def Z1 (x:Zj):Nat:=x.rel.size+XU x.args
def ZhC (x:Zj):Prop:=(fun _=>True) x.rel/\(fun ds=>∀d∈ds,(fun _=>True) d) x.args
structure Zg where
 var:ByteArray
 value:ByteArray
def XA:Z9 Zg where
 size:=2
 rep:=fun w cs x L=>cs=[.string x.var,.string x.value]/\L=[]/\x.var.size<=9223372036854775807/\x.value.size<=9223372036854775807
 len:=fun h=>by simp [h.1]
 keep:=fun h _=>h
 lt:=fun h=>by simp [h.2.1]
 one:=fun h=>by simp [h.1,Value.oneCell']
 pos:=by omega
theorem Zc0 {w:World}{cs:List Value}{x:Zg}{L:List Nat}(h:XA.rep w cs x L):cs=[.string x.var,.string x.value]:=by
 exact h.1
def Qe (x:Zg):Nat:=x.var.size+x.value.size
def ZaI (l:List Zg):Nat:=l.length+(l.map Qe).sum
def ZwV (x:Zg):Prop:=(fun _=>True) x.var/\(fun _=>True) x.value
structure Zf where
 kind:Int
 pattern:Zj
 left:ByteArray
 right:ByteArray
def X6:Z9 Zf where
 size:=5
 rep:=fun w cs x L=>∃A1 c1 L1,cs=[.int .i64 x.kind,.string x.pattern.rel,.slice A1 x.pattern.args.length c1,.string x.left,.string x.right]/\L=L1/\x.pattern.rel.size<=9223372036854775807/\x.left.size<=9223372036854775807/\x.right.size<=9223372036854775807/\x.pattern.args.length<=c1/\c1<=maxLen/\Sli Zeu w A1 x.pattern.args L1
 len:=fun ⟨A1,c1,L1,h,hL,t0,t1,t2,n1,m1,s1⟩=>by simp [h]
 keep:=fun ⟨A1,c1,L1,h,hL,t0,t1,t2,n1,m1,s1⟩ hk=>⟨A1,c1,L1,h,hL,t0,t1,t2,n1,m1,s1.keep (fun b m=>hk b (by simp [hL,m]))⟩
 lt:=fun ⟨A1,c1,L1,h,hL,t0,t1,t2,n1,m1,s1⟩=>by intro b m;simp only[hL,A0]at m;exact s1.lt b m
 one:=fun ⟨A1,c1,L1,h,hL,t0,t1,t2,n1,m1,s1⟩=>by simp [h,Value.oneCell']
 pos:=by omega
theorem Zbu {w:World}{cs:List Value}{x:Zf}{L:List Nat}(h:X6.rep w cs x L):∃A1 c1,cs=[.int .i64 x.kind,.string x.pattern.rel,.slice A1 x.pattern.args.length c1,.string x.left,.string x.right]:=by
 obtain ⟨A1,c1,L1,h,hL,t0,t1,t2,n1,m1,s1⟩:=h
 exact ⟨A1,c1,h⟩
def Yo (x:Zf):Nat:=Z1 x.pattern+x.left.size+x.right.size
def Y1 (l:List Zf):Nat:=l.length+(l.map Yo).sum
def Zta (x:Zf):Prop:=Zbn x.kind/\ZhC x.pattern/\(fun _=>True) x.left/\(fun _=>True) x.right
structure ZY where
 kind:Int
 pattern:Zj
def YJ:Z9 ZY where
 size:=3
 rep:=fun w cs x L=>∃A1 c1 L1,cs=[.int .i64 x.kind,.string x.pattern.rel,.slice A1 x.pattern.args.length c1]/\L=L1/\x.pattern.rel.size<=9223372036854775807/\x.pattern.args.length<=c1/\c1<=maxLen/\Sli Zeu w A1 x.pattern.args L1
 len:=fun ⟨A1,c1,L1,h,hL,t0,n1,m1,s1⟩=>by simp [h]
 keep:=fun ⟨A1,c1,L1,h,hL,t0,n1,m1,s1⟩ hk=>⟨A1,c1,L1,h,hL,t0,n1,m1,s1.keep (fun b m=>hk b (by simp [hL,m]))⟩
 lt:=fun ⟨A1,c1,L1,h,hL,t0,n1,m1,s1⟩=>by intro b m;simp only[hL,A0]at m;exact s1.lt b m
 one:=fun ⟨A1,c1,L1,h,hL,t0,n1,m1,s1⟩=>by simp [h,Value.oneCell']
 pos:=by omega
theorem Za1 {w:World}{cs:List Value}{x:ZY}{L:List Nat}(h:YJ.rep w cs x L):∃A1 c1,cs=[.int .i64 x.kind,.string x.pattern.rel,.slice A1 x.pattern.args.length c1]:=by
 obtain ⟨A1,c1,L1,h,hL,t0,n1,m1,s1⟩:=h
 exact ⟨A1,c1,h⟩
def YB (x:ZY):Nat:=Z1 x.pattern
def Yv (l:List ZY):Nat:=l.length+(l.map YB).sum
def ZpX (x:ZY):Prop:=Zbn x.kind/\ZhC x.pattern
structure Zl where
 name:ByteArray
 priority:Int
 cond:List Zf
 thn:List ZY
def Xj:Z9 Zl where
 size:=4
 rep:=fun w cs x L=>∃A1 c1 L1 A2 c2 L2,cs=[.string x.name,.int .i64 x.priority,.slice A1 x.cond.length c1,.slice A2 x.thn.length c2]/\L=L1++L2/\x.name.size<=9223372036854775807/\x.cond.length<=c1/\c1<=maxLen/\Sli X6 w A1 x.cond L1/\x.thn.length<=c2/\c2<=maxLen/\Sli YJ w A2 x.thn L2
 len:=fun ⟨A1,c1,L1,A2,c2,L2,h,hL,t0,n1,m1,s1,n2,m2,s2⟩=>by simp [h]
 keep:=fun ⟨A1,c1,L1,A2,c2,L2,h,hL,t0,n1,m1,s1,n2,m2,s2⟩ hk=>⟨A1,c1,L1,A2,c2,L2,h,hL,t0,n1,m1,s1.keep (fun b m=>hk b (by simp [hL,m])),n2,m2,s2.keep (fun b m=>hk b (by simp [hL,m]))⟩
 lt:=fun ⟨A1,c1,L1,A2,c2,L2,h,hL,t0,n1,m1,s1,n2,m2,s2⟩=>by intro b m;simp only[hL,A0]at m;rcases m with m|m<;>first|exact s1.lt b m|exact s2.lt b m
 one:=fun ⟨A1,c1,L1,A2,c2,L2,h,hL,t0,n1,m1,s1,n2,m2,s2⟩=>by simp [h,Value.oneCell']
 pos:=by omega
theorem ZcZ {w:World}{cs:List Value}{x:Zl}{L:List Nat}(h:Xj.rep w cs x L):∃A1 c1 A2 c2,cs=[.string x.name,.int .i64 x.priority,.slice A1 x.cond.length c1,.slice A2 x.thn.length c2]:=by
 obtain ⟨A1,c1,L1,A2,c2,L2,h,hL,t0,n1,m1,s1,n2,m2,s2⟩:=h
 exact ⟨A1,c1,A2,c2,h⟩
def Yl (x:Zl):Nat:=x.name.size+Y1 x.cond+Yv x.thn
def Yi (l:List Zl):Nat:=l.length+(l.map Yl).sum
def Zsz (x:Zl):Prop:=(fun _=>True) x.name/\Zbn x.priority/\(fun ds=>∀d∈ds,Zta d) x.cond/\(fun ds=>∀d∈ds,ZpX d) x.thn
structure Zs where
 facts:List Zk
 binding:List Zg
def Yg:Z9 Zs where
 size:=2
 rep:=fun w cs x L=>∃A1 c1 L1 A2 c2 L2,cs=[.slice A1 x.facts.length c1,.slice A2 x.binding.length c2]/\L=L1++L2/\x.facts.length<=c1/\c1<=maxLen/\Sli Yh w A1 x.facts L1/\x.binding.length<=c2/\c2<=maxLen/\Sli XA w A2 x.binding L2
 len:=fun ⟨A1,c1,L1,A2,c2,L2,h,hL,n1,m1,s1,n2,m2,s2⟩=>by simp [h]
 keep:=fun ⟨A1,c1,L1,A2,c2,L2,h,hL,n1,m1,s1,n2,m2,s2⟩ hk=>⟨A1,c1,L1,A2,c2,L2,h,hL,n1,m1,s1.keep (fun b m=>hk b (by simp [hL,m])),n2,m2,s2.keep (fun b m=>hk b (by simp [hL,m]))⟩
 lt:=fun ⟨A1,c1,L1,A2,c2,L2,h,hL,n1,m1,s1,n2,m2,s2⟩=>by intro b m;simp only[hL,A0]at m;rcases m with m|m<;>first|exact s1.lt b m|exact s2.lt b m
 one:=fun ⟨A1,c1,L1,A2,c2,L2,h,hL,n1,m1,s1,n2,m2,s2⟩=>by simp [h,Value.oneCell']
 pos:=by omega
theorem ZbH {w:World}{cs:List Value}{x:Zs}{L:List Nat}(h:Yg.rep w cs x L):∃A1 c1 A2 c2,cs=[.slice A1 x.facts.length c1,.slice A2 x.binding.length c2]:=by
 obtain ⟨A1,c1,L1,A2,c2,L2,h,hL,n1,m1,s1,n2,m2,s2⟩:=h
 exact ⟨A1,c1,A2,c2,h⟩
def Xr (x:Zs):Nat:=YQ x.facts+ZaI x.binding
def Qw (l:List Zs):Nat:=l.length+(l.map Xr).sum
def ZtM (x:Zs):Prop:=(fun ds=>∀d∈ds,Zj2 d) x.facts/\(fun ds=>∀d∈ds,ZwV d) x.binding
structure Zo6 where
 rule:ByteArray
 facts:List Zk
 binding:List Zg
structure Z7 where
 shape:Zj
 facts:List Zk
def Y2:Z9 Z7 where
 size:=3
 rep:=fun w cs x L=>∃A1 c1 L1 A2 c2 L2,cs=[.string x.shape.rel,.slice A1 x.shape.args.length c1,.slice A2 x.facts.length c2]/\L=L1++L2/\x.shape.rel.size<=9223372036854775807/\x.shape.args.length<=c1/\c1<=maxLen/\Sli Zeu w A1 x.shape.args L1/\x.facts.length<=c2/\c2<=maxLen/\Sli Yh w A2 x.facts L2
 len:=fun ⟨A1,c1,L1,A2,c2,L2,h,hL,t0,n1,m1,s1,n2,m2,s2⟩=>by simp [h]
 keep:=fun ⟨A1,c1,L1,A2,c2,L2,h,hL,t0,n1,m1,s1,n2,m2,s2⟩ hk=>⟨A1,c1,L1,A2,c2,L2,h,hL,t0,n1,m1,s1.keep (fun b m=>hk b (by simp [hL,m])),n2,m2,s2.keep (fun b m=>hk b (by simp [hL,m]))⟩
 lt:=fun ⟨A1,c1,L1,A2,c2,L2,h,hL,t0,n1,m1,s1,n2,m2,s2⟩=>by intro b m;simp only[hL,A0]at m;rcases m with m|m<;>first|exact s1.lt b m|exact s2.lt b m
 one:=fun ⟨A1,c1,L1,A2,c2,L2,h,hL,t0,n1,m1,s1,n2,m2,s2⟩=>by simp [h,Value.oneCell']
 pos:=by omega
theorem Zca {w:World}{cs:List Value}{x:Z7}{L:List Nat}(h:Y2.rep w cs x L):∃A1 c1 A2 c2,cs=[.string x.shape.rel,.slice A1 x.shape.args.length c1,.slice A2 x.facts.length c2]:=by
 obtain ⟨A1,c1,L1,A2,c2,L2,h,hL,t0,n1,m1,s1,n2,m2,s2⟩:=h
 exact ⟨A1,c1,A2,c2,h⟩
def Xq (x:Z7):Nat:=Z1 x.shape+YQ x.facts
def Xu (l:List Z7):Nat:=l.length+(l.map Xq).sum
def Zt1 (x:Z7):Prop:=ZhC x.shape/\(fun ds=>∀d∈ds,Zj2 d) x.facts
structure ZL where
 parent:Int
 cond:Zf
 alpha:Int
 tokens:List Zs
def QX:Z9 ZL where
 size:=8
 rep:=fun w cs x L=>∃A1 c1 L1 A2 c2 L2,cs=[.int .i64 x.parent,.int .i64 x.cond.kind,.string x.cond.pattern.rel,.slice A1 x.cond.pattern.args.length c1,.string x.cond.left,.string x.cond.right,.int .i64 x.alpha,.slice A2 x.tokens.length c2]/\L=L1++L2/\x.cond.pattern.rel.size<=9223372036854775807/\x.cond.left.size<=9223372036854775807/\x.cond.right.size<=9223372036854775807/\x.cond.pattern.args.length<=c1/\c1<=maxLen/\Sli Zeu w A1 x.cond.pattern.args L1/\x.tokens.length<=c2/\c2<=maxLen/\Sli Yg w A2 x.tokens L2
 len:=fun ⟨A1,c1,L1,A2,c2,L2,h,hL,t0,t1,t2,n1,m1,s1,n2,m2,s2⟩=>by simp [h]
 keep:=fun ⟨A1,c1,L1,A2,c2,L2,h,hL,t0,t1,t2,n1,m1,s1,n2,m2,s2⟩ hk=>⟨A1,c1,L1,A2,c2,L2,h,hL,t0,t1,t2,n1,m1,s1.keep (fun b m=>hk b (by simp [hL,m])),n2,m2,s2.keep (fun b m=>hk b (by simp [hL,m]))⟩
 lt:=fun ⟨A1,c1,L1,A2,c2,L2,h,hL,t0,t1,t2,n1,m1,s1,n2,m2,s2⟩=>by intro b m;simp only[hL,A0]at m;rcases m with m|m<;>first|exact s1.lt b m|exact s2.lt b m
 one:=fun ⟨A1,c1,L1,A2,c2,L2,h,hL,t0,t1,t2,n1,m1,s1,n2,m2,s2⟩=>by simp [h,Value.oneCell']
 pos:=by omega
theorem Zc1 {w:World}{cs:List Value}{x:ZL}{L:List Nat}(h:QX.rep w cs x L):∃A1 c1 A2 c2,cs=[.int .i64 x.parent,.int .i64 x.cond.kind,.string x.cond.pattern.rel,.slice A1 x.cond.pattern.args.length c1,.string x.cond.left,.string x.cond.right,.int .i64 x.alpha,.slice A2 x.tokens.length c2]:=by
 obtain ⟨A1,c1,L1,A2,c2,L2,h,hL,t0,t1,t2,n1,m1,s1,n2,m2,s2⟩:=h
 exact ⟨A1,c1,A2,c2,h⟩
def Qa (x:ZL):Nat:=Yo x.cond+Qw x.tokens
def QK (l:List ZL):Nat:=l.length+(l.map Qa).sum
def Zxm (x:ZL):Prop:=Zbn x.parent/\Zta x.cond/\Zbn x.alpha/\(fun ds=>∀d∈ds,ZtM d) x.tokens
structure Ze where
 rules:List Zl
 ends:List Int
 alphas:List Z7
 nodes:List ZL
 facts:List Zk
 tries:Int
def ZdS:Z9 Ze where
 size:=6
 rep:=fun w cs x L=>∃A1 c1 L1 A2 c2 L2 A3 c3 L3 A4 c4 L4 A5 c5 L5,cs=[.slice A1 x.rules.length c1,.slice A2 x.ends.length c2,.slice A3 x.alphas.length c3,.slice A4 x.nodes.length c4,.slice A5 x.facts.length c5,.int .i64 x.tries]/\L=L1++(L2++(L3++(L4++L5)))/\x.rules.length<=c1/\c1<=maxLen/\Sli Xj w A1 x.rules L1/\x.ends.length<=c2/\c2<=maxLen/\Sli ZgI w A2 x.ends L2/\x.alphas.length<=c3/\c3<=maxLen/\Sli Y2 w A3 x.alphas L3/\x.nodes.length<=c4/\c4<=maxLen/\Sli QX w A4 x.nodes L4/\x.facts.length<=c5/\c5<=maxLen/\Sli Yh w A5 x.facts L5
 len:=fun ⟨A1,c1,L1,A2,c2,L2,A3,c3,L3,A4,c4,L4,A5,c5,L5,h,hL,n1,m1,s1,n2,m2,s2,n3,m3,s3,n4,m4,s4,n5,m5,s5⟩=>by simp [h]
 keep:=fun ⟨A1,c1,L1,A2,c2,L2,A3,c3,L3,A4,c4,L4,A5,c5,L5,h,hL,n1,m1,s1,n2,m2,s2,n3,m3,s3,n4,m4,s4,n5,m5,s5⟩ hk=>⟨A1,c1,L1,A2,c2,L2,A3,c3,L3,A4,c4,L4,A5,c5,L5,h,hL,n1,m1,s1.keep (fun b m=>hk b (by simp [hL,m])),n2,m2,s2.keep (fun b m=>hk b (by simp [hL,m])),n3,m3,s3.keep (fun b m=>hk b (by simp [hL,m])),n4,m4,s4.keep (fun b m=>hk b (by simp [hL,m])),n5,m5,s5.keep (fun b m=>hk b (by simp [hL,m]))⟩
 lt:=fun ⟨A1,c1,L1,A2,c2,L2,A3,c3,L3,A4,c4,L4,A5,c5,L5,h,hL,n1,m1,s1,n2,m2,s2,n3,m3,s3,n4,m4,s4,n5,m5,s5⟩=>by intro b m;simp only[hL,A0]at m;rcases m with m|m|m|m|m<;>first|exact s1.lt b m|exact s2.lt b m|exact s3.lt b m|exact s4.lt b m|exact s5.lt b m
 one:=fun ⟨A1,c1,L1,A2,c2,L2,A3,c3,L3,A4,c4,L4,A5,c5,L5,h,hL,n1,m1,s1,n2,m2,s2,n3,m3,s3,n4,m4,s4,n5,m5,s5⟩=>by simp [h,Value.oneCell']
 pos:=by omega
theorem ZmV {w:World}{cs:List Value}{x:Ze}{L:List Nat}(h:ZdS.rep w cs x L):∃A1 c1 A2 c2 A3 c3 A4 c4 A5 c5,cs=[.slice A1 x.rules.length c1,.slice A2 x.ends.length c2,.slice A3 x.alphas.length c3,.slice A4 x.nodes.length c4,.slice A5 x.facts.length c5,.int .i64 x.tries]:=by
 obtain ⟨A1,c1,L1,A2,c2,L2,A3,c3,L3,A4,c4,L4,A5,c5,L5,h,hL,n1,m1,s1,n2,m2,s2,n3,m3,s3,n4,m4,s4,n5,m5,s5⟩:=h
 exact ⟨A1,c1,A2,c2,A3,c3,A4,c4,A5,c5,h⟩
def Yw (x:Ze):Nat:=Yi x.rules+x.ends.length+Xu x.alphas+QK x.nodes+YQ x.facts
def Zot (x:Ze):Prop:=(fun ds=>∀d∈ds,Zsz d) x.rules/\(fun ds=>∀d∈ds,Zbn d) x.ends/\(fun ds=>∀d∈ds,Zt1 d) x.alphas/\(fun ds=>∀d∈ds,Zxm d) x.nodes/\(fun ds=>∀d∈ds,Zj2 d) x.facts/\Zbn x.tries
structure Z2 where
 fact:Zk
 time:Int
def Y8:Z9 Z2 where
 size:=3
 rep:=fun w cs x L=>∃A1 c1 L1,cs=[.string x.fact.rel,.slice A1 x.fact.args.length c1,.int .i64 x.time]/\L=L1/\x.fact.rel.size<=9223372036854775807/\x.fact.args.length<=c1/\c1<=maxLen/\Sli Zeu w A1 x.fact.args L1
 len:=fun ⟨A1,c1,L1,h,hL,t0,n1,m1,s1⟩=>by simp [h]
 keep:=fun ⟨A1,c1,L1,h,hL,t0,n1,m1,s1⟩ hk=>⟨A1,c1,L1,h,hL,t0,n1,m1,s1.keep (fun b m=>hk b (by simp [hL,m]))⟩
 lt:=fun ⟨A1,c1,L1,h,hL,t0,n1,m1,s1⟩=>by intro b m;simp only[hL,A0]at m;exact s1.lt b m
 one:=fun ⟨A1,c1,L1,h,hL,t0,n1,m1,s1⟩=>by simp [h,Value.oneCell']
 pos:=by omega
theorem Zb4 {w:World}{cs:List Value}{x:Z2}{L:List Nat}(h:Y8.rep w cs x L):∃A1 c1,cs=[.string x.fact.rel,.slice A1 x.fact.args.length c1,.int .i64 x.time]:=by
 obtain ⟨A1,c1,L1,h,hL,t0,n1,m1,s1⟩:=h
 exact ⟨A1,c1,h⟩
def YR (x:Z2):Nat:=YL x.fact
def Y5 (l:List Z2):Nat:=l.length+(l.map YR).sum
def Zt9 (x:Z2):Prop:=Zj2 x.fact/\Zbn x.time
structure Zht where
 mtch:Zo6
 priority:Int
 times:List Int
 specific:Int
 ordr:Int
structure ZX where
 rule:ByteArray
 times:List Int
def Yz:Z9 ZX where
 size:=2
 rep:=fun w cs x L=>∃A1 c1 L1,cs=[.string x.rule,.slice A1 x.times.length c1]/\L=L1/\x.rule.size<=9223372036854775807/\x.times.length<=c1/\c1<=maxLen/\Sli ZgI w A1 x.times L1
 len:=fun ⟨A1,c1,L1,h,hL,t0,n1,m1,s1⟩=>by simp [h]
 keep:=fun ⟨A1,c1,L1,h,hL,t0,n1,m1,s1⟩ hk=>⟨A1,c1,L1,h,hL,t0,n1,m1,s1.keep (fun b m=>hk b (by simp [hL,m]))⟩
 lt:=fun ⟨A1,c1,L1,h,hL,t0,n1,m1,s1⟩=>by intro b m;simp only[hL,A0]at m;exact s1.lt b m
 one:=fun ⟨A1,c1,L1,h,hL,t0,n1,m1,s1⟩=>by simp [h,Value.oneCell']
 pos:=by omega
theorem Za5 {w:World}{cs:List Value}{x:ZX}{L:List Nat}(h:Yz.rep w cs x L):∃A1 c1,cs=[.string x.rule,.slice A1 x.times.length c1]:=by
 obtain ⟨A1,c1,L1,h,hL,t0,n1,m1,s1⟩:=h
 exact ⟨A1,c1,h⟩
def YS (x:ZX):Nat:=x.rule.size+x.times.length
def Xk (l:List ZX):Nat:=l.length+(l.map YS).sum
def ZpV (x:ZX):Prop:=(fun _=>True) x.rule/\(fun ds=>∀d∈ds,Zbn d) x.times
structure Y3 where
 kind:Int
 rule:ByteArray
 fact:Zk
def Xz:Z9 Y3 where
 size:=4
 rep:=fun w cs x L=>∃A1 c1 L1,cs=[.int .i64 x.kind,.string x.rule,.string x.fact.rel,.slice A1 x.fact.args.length c1]/\L=L1/\x.rule.size<=9223372036854775807/\x.fact.rel.size<=9223372036854775807/\x.fact.args.length<=c1/\c1<=maxLen/\Sli Zeu w A1 x.fact.args L1
 len:=fun ⟨A1,c1,L1,h,hL,t0,t1,n1,m1,s1⟩=>by simp [h]
 keep:=fun ⟨A1,c1,L1,h,hL,t0,t1,n1,m1,s1⟩ hk=>⟨A1,c1,L1,h,hL,t0,t1,n1,m1,s1.keep (fun b m=>hk b (by simp [hL,m]))⟩
 lt:=fun ⟨A1,c1,L1,h,hL,t0,t1,n1,m1,s1⟩=>by intro b m;simp only[hL,A0]at m;exact s1.lt b m
 one:=fun ⟨A1,c1,L1,h,hL,t0,t1,n1,m1,s1⟩=>by simp [h,Value.oneCell']
 pos:=by omega
theorem ZbF {w:World}{cs:List Value}{x:Y3}{L:List Nat}(h:Xz.rep w cs x L):∃A1 c1,cs=[.int .i64 x.kind,.string x.rule,.string x.fact.rel,.slice A1 x.fact.args.length c1]:=by
 obtain ⟨A1,c1,L1,h,hL,t0,t1,n1,m1,s1⟩:=h
 exact ⟨A1,c1,h⟩
def Xo (x:Y3):Nat:=x.rule.size+YL x.fact
def QC (l:List Y3):Nat:=l.length+(l.map Xo).sum
def Zuc (x:Y3):Prop:=Zbn x.kind/\(fun _=>True) x.rule/\Zj2 x.fact
structure Yq where
 rules:List Zl
 memory:List Z2
 clock:Int
 fired:List ZX
 halted:Bool
 log:List Y3
def ZeO:Z9 Yq where
 size:=6
 rep:=fun w cs x L=>∃A1 c1 L1 A2 c2 L2 A3 c3 L3 A4 c4 L4,cs=[.slice A1 x.rules.length c1,.slice A2 x.memory.length c2,.int .i64 x.clock,.slice A3 x.fired.length c3,.bool x.halted,.slice A4 x.log.length c4]/\L=L1++(L2++(L3++L4))/\x.rules.length<=c1/\c1<=maxLen/\Sli Xj w A1 x.rules L1/\x.memory.length<=c2/\c2<=maxLen/\Sli Y8 w A2 x.memory L2/\x.fired.length<=c3/\c3<=maxLen/\Sli Yz w A3 x.fired L3/\x.log.length<=c4/\c4<=maxLen/\Sli Xz w A4 x.log L4
 len:=fun ⟨A1,c1,L1,A2,c2,L2,A3,c3,L3,A4,c4,L4,h,hL,n1,m1,s1,n2,m2,s2,n3,m3,s3,n4,m4,s4⟩=>by simp [h]
 keep:=fun ⟨A1,c1,L1,A2,c2,L2,A3,c3,L3,A4,c4,L4,h,hL,n1,m1,s1,n2,m2,s2,n3,m3,s3,n4,m4,s4⟩ hk=>⟨A1,c1,L1,A2,c2,L2,A3,c3,L3,A4,c4,L4,h,hL,n1,m1,s1.keep (fun b m=>hk b (by simp [hL,m])),n2,m2,s2.keep (fun b m=>hk b (by simp [hL,m])),n3,m3,s3.keep (fun b m=>hk b (by simp [hL,m])),n4,m4,s4.keep (fun b m=>hk b (by simp [hL,m]))⟩
 lt:=fun ⟨A1,c1,L1,A2,c2,L2,A3,c3,L3,A4,c4,L4,h,hL,n1,m1,s1,n2,m2,s2,n3,m3,s3,n4,m4,s4⟩=>by intro b m;simp only[hL,A0]at m;rcases m with m|m|m|m<;>first|exact s1.lt b m|exact s2.lt b m|exact s3.lt b m|exact s4.lt b m
 one:=fun ⟨A1,c1,L1,A2,c2,L2,A3,c3,L3,A4,c4,L4,h,hL,n1,m1,s1,n2,m2,s2,n3,m3,s3,n4,m4,s4⟩=>by simp [h,Value.oneCell']
 pos:=by omega
theorem ZnQ {w:World}{cs:List Value}{x:Yq}{L:List Nat}(h:ZeO.rep w cs x L):∃A1 c1 A2 c2 A3 c3 A4 c4,cs=[.slice A1 x.rules.length c1,.slice A2 x.memory.length c2,.int .i64 x.clock,.slice A3 x.fired.length c3,.bool x.halted,.slice A4 x.log.length c4]:=by
 obtain ⟨A1,c1,L1,A2,c2,L2,A3,c3,L3,A4,c4,L4,h,hL,n1,m1,s1,n2,m2,s2,n3,m3,s3,n4,m4,s4⟩:=h
 exact ⟨A1,c1,A2,c2,A3,c3,A4,c4,h⟩
def YP (x:Yq):Nat:=Yi x.rules+Y5 x.memory+Xk x.fired+QC x.log
def Zrp (x:Yq):Prop:=(fun ds=>∀d∈ds,Zsz d) x.rules/\(fun ds=>∀d∈ds,Zt9 d) x.memory/\Zbn x.clock/\(fun ds=>∀d∈ds,ZpV d) x.fired/\(fun _=>True) x.halted/\(fun ds=>∀d∈ds,Zuc d) x.log
structure ZaQ where
 engine:Yq
 network:Ze
def ZbQ:Z9 ZaQ where
 size:=12
 rep:=fun w cs x L=>∃A1 c1 L1 A2 c2 L2 A3 c3 L3 A4 c4 L4 A5 c5 L5 A6 c6 L6 A7 c7 L7 A8 c8 L8 A9 c9 L9,cs=[.slice A1 x.engine.rules.length c1,.slice A2 x.engine.memory.length c2,.int .i64 x.engine.clock,.slice A3 x.engine.fired.length c3,.bool x.engine.halted,.slice A4 x.engine.log.length c4,.slice A5 x.network.rules.length c5,.slice A6 x.network.ends.length c6,.slice A7 x.network.alphas.length c7,.slice A8 x.network.nodes.length c8,.slice A9 x.network.facts.length c9,.int .i64 x.network.tries]/\L=L1++(L2++(L3++(L4++(L5++(L6++(L7++(L8++L9)))))))/\x.engine.rules.length<=c1/\c1<=maxLen/\Sli Xj w A1 x.engine.rules L1/\x.engine.memory.length<=c2/\c2<=maxLen/\Sli Y8 w A2 x.engine.memory L2/\x.engine.fired.length<=c3/\c3<=maxLen/\Sli Yz w A3 x.engine.fired L3/\x.engine.log.length<=c4/\c4<=maxLen/\Sli Xz w A4 x.engine.log L4/\x.network.rules.length<=c5/\c5<=maxLen/\Sli Xj w A5 x.network.rules L5/\x.network.ends.length<=c6/\c6<=maxLen/\Sli ZgI w A6 x.network.ends L6/\x.network.alphas.length<=c7/\c7<=maxLen/\Sli Y2 w A7 x.network.alphas L7/\x.network.nodes.length<=c8/\c8<=maxLen/\Sli QX w A8 x.network.nodes L8/\x.network.facts.length<=c9/\c9<=maxLen/\Sli Yh w A9 x.network.facts L9
 len:=fun ⟨A1,c1,L1,A2,c2,L2,A3,c3,L3,A4,c4,L4,A5,c5,L5,A6,c6,L6,A7,c7,L7,A8,c8,L8,A9,c9,L9,h,hL,n1,m1,s1,n2,m2,s2,n3,m3,s3,n4,m4,s4,n5,m5,s5,n6,m6,s6,n7,m7,s7,n8,m8,s8,n9,m9,s9⟩=>by simp [h]
 keep:=fun ⟨A1,c1,L1,A2,c2,L2,A3,c3,L3,A4,c4,L4,A5,c5,L5,A6,c6,L6,A7,c7,L7,A8,c8,L8,A9,c9,L9,h,hL,n1,m1,s1,n2,m2,s2,n3,m3,s3,n4,m4,s4,n5,m5,s5,n6,m6,s6,n7,m7,s7,n8,m8,s8,n9,m9,s9⟩ hk=>⟨A1,c1,L1,A2,c2,L2,A3,c3,L3,A4,c4,L4,A5,c5,L5,A6,c6,L6,A7,c7,L7,A8,c8,L8,A9,c9,L9,h,hL,n1,m1,s1.keep (fun b m=>hk b (by simp [hL,m])),n2,m2,s2.keep (fun b m=>hk b (by simp [hL,m])),n3,m3,s3.keep (fun b m=>hk b (by simp [hL,m])),n4,m4,s4.keep (fun b m=>hk b (by simp [hL,m])),n5,m5,s5.keep (fun b m=>hk b (by simp [hL,m])),n6,m6,s6.keep (fun b m=>hk b (by simp [hL,m])),n7,m7,s7.keep (fun b m=>hk b (by simp [hL,m])),n8,m8,s8.keep (fun b m=>hk b (by simp [hL,m])),n9,m9,s9.keep (fun b m=>hk b (by simp [hL,m]))⟩
 lt:=fun ⟨A1,c1,L1,A2,c2,L2,A3,c3,L3,A4,c4,L4,A5,c5,L5,A6,c6,L6,A7,c7,L7,A8,c8,L8,A9,c9,L9,h,hL,n1,m1,s1,n2,m2,s2,n3,m3,s3,n4,m4,s4,n5,m5,s5,n6,m6,s6,n7,m7,s7,n8,m8,s8,n9,m9,s9⟩=>by intro b m;simp only[hL,A0]at m;rcases m with m|m|m|m|m|m|m|m|m<;>first|exact s1.lt b m|exact s2.lt b m|exact s3.lt b m|exact s4.lt b m|exact s5.lt b m|exact s6.lt b m|exact s7.lt b m|exact s8.lt b m|exact s9.lt b m
 one:=fun ⟨A1,c1,L1,A2,c2,L2,A3,c3,L3,A4,c4,L4,A5,c5,L5,A6,c6,L6,A7,c7,L7,A8,c8,L8,A9,c9,L9,h,hL,n1,m1,s1,n2,m2,s2,n3,m3,s3,n4,m4,s4,n5,m5,s5,n6,m6,s6,n7,m7,s7,n8,m8,s8,n9,m9,s9⟩=>by simp [h,Value.oneCell']
 pos:=by omega
theorem ZeD {w:World}{cs:List Value}{x:ZaQ}{L:List Nat}(h:ZbQ.rep w cs x L):∃A1 c1 A2 c2 A3 c3 A4 c4 A5 c5 A6 c6 A7 c7 A8 c8 A9 c9,cs=[.slice A1 x.engine.rules.length c1,.slice A2 x.engine.memory.length c2,.int .i64 x.engine.clock,.slice A3 x.engine.fired.length c3,.bool x.engine.halted,.slice A4 x.engine.log.length c4,.slice A5 x.network.rules.length c5,.slice A6 x.network.ends.length c6,.slice A7 x.network.alphas.length c7,.slice A8 x.network.nodes.length c8,.slice A9 x.network.facts.length c9,.int .i64 x.network.tries]:=by
 obtain ⟨A1,c1,L1,A2,c2,L2,A3,c3,L3,A4,c4,L4,A5,c5,L5,A6,c6,L6,A7,c7,L7,A8,c8,L8,A9,c9,L9,h,hL,n1,m1,s1,n2,m2,s2,n3,m3,s3,n4,m4,s4,n5,m5,s5,n6,m6,s6,n7,m7,s7,n8,m8,s8,n9,m9,s9⟩:=h
 exact ⟨A1,c1,A2,c2,A3,c3,A4,c4,A5,c5,A6,c6,A7,c7,A8,c8,A9,c9,h⟩
def Qf (x:ZaQ):Nat:=YP x.engine+Yw x.network
def Zsu (x:ZaQ):Prop:=Zrp x.engine/\Zot x.network
end
section
open Go.RowKit
inductive PK where
 |int (k:IntKind)
 |bool
 |str
def ZhH:PK->Value->Prop
 |.int k,.int k' _=>k=k'
 |.bool,.bool _=>True
 |.str,.string s=>s.size<=9223372036854775807
 |_,_=>False
def ZjC (kk vk:PK) (kv:List (Value×Value)):Prop:=∀p∈kv,ZhH kk p.1/\ZhH vk p.2
inductive CT where
 | int (k:IntKind) (n:Int)
 | bool (b:Bool)
 | str (s:ByteArray)
 | sl (e m:Nat) (xs:List (List CT))
 /-- a pointer to cells that are only read -/
 | pt (es:List CT)
 /-- a function value with what it has captured -/
 | fn (f:Nat) (cs:List CT)
 /-- a map of plain keys and plain values that is only read -/
 | mp (kk vk:PK) (kv:List (Value × Value))
 /-- an interface value: nil or not -/
 | ifc (isNil:Bool)
 /-- a cell of which nothing is known -/
 | any
 /-- the nil slice -/
 | nl (e m:Nat)
def Zd8 (es:Array MapEntry):List (Value×Value):=es.toList.map fun e=>(e.key,e.val)
mutual
def RC (w:World):CT->Value->List Nat->Prop
 |.int k n,v,L=>v=.int k n/\L=[]
 |.bool b,v,L=>v=.bool b/\L=[]
 |.str s,v,L=>v=.string s/\L=[]/\s.size<=9223372036854775807
 |.sl _ m xs,v,L=>∃A cap cs L0 L1,v=.slice A xs.length cap/\xs.length<=cap/\cap<=maxLen/\L=L0++L1/\0<m/\Sl w m A xs.length cs L0/\REs w m xs cs L1
 |.pt es,v,L=>∃b cs L1,v=.pointer (some ⟨b,0,none⟩)/\b<w.heap.size/\L=b::L1/\Za9 w b 0 cs/\RCs w es cs L1
 |.fn f es,v,L=>∃vs:List Value,v=.func (.func f) #[] vs.toArray/\RCs w es vs L
 |.mp kk vk kv,v,L=>∃b es c,v=.map (some b)/\w.heap[b]?=some (.map es c)/\Zd8 es=kv/\ZjC kk vk kv/\L=[b]
 |.ifc b,v,L=>L=[]/\v.oneCell'=true/\(match b with|true=>v=.nilIface|false=>∃t x,v=.iface t x)
 |.any,v,L=>L=[]/\v.oneCell'=true
 |.nl _ _,v,L=>v=.slice none 0 0/\L=[]
def RCs (w:World):List CT->List Value->List Nat->Prop
 | [],cs,L=>cs=[]/\L=[]
 |x::r,cs,L=>∃v cs' L1 L2,cs=v::cs'/\L=L1++L2/\RC w x v L1/\RCs w r cs' L2
def REs (w:World) (m:Nat):List (List CT)->List Value->List Nat->Prop
 | [],cs,L=>cs=[]/\L=[]
 |e::r,cs,L=>∃c1 c2 L1 L2,cs=c1++c2/\L=L1++L2/\(RCs w e c1 L1/\c1.length=m)/\REs w m r c2 L2
end
mutual
theorem RC.keep {w w':World}:∀{x:CT}{v:Value}{L:List Nat},RC w x v L->(∀b∈L,w'.heap[b]?=w.heap[b]?)->RC w' x v L
 |.int _ _,_,_,h,_=>h
 |.bool _,_,_,h,_=>h
 |.str _,_,_,h,_=>h
 |.sl _ _ _,_,_,⟨A,cap,cs,L0,L1,h1,h2,h3,h4,h5,h6,h7⟩,hk=>⟨A,cap,cs,L0,L1,h1,h2,h3,h4,h5,h6.keep fun b m=>hk b (by simp [h4,m]),h7.keep fun b m=>hk b (by simp [h4,m])⟩
 |.pt _,_,_,⟨b,cs,L1,h1,h2,h3,h4,h5⟩,hk=>⟨b,cs,L1,h1,by
   have e:=hk b (by simp [h3])
   rcases Nat.lt_or_ge b w'.heap.size with h|h
   .exact h
   .rw [Array.getElem?_eq_none h]at e
    have:=Array.getElem?_eq_none_iff.1 e.symm
    omega,h3,fun j u hu=>by rw [<-h4 j u hu];exact World.cell?_of_block (hk b (by simp [h3])),h5.keep fun b m=>hk b (by simp [h3,m])⟩
 |.fn _ _,_,_,⟨vs,h1,h2⟩,hk=>⟨vs,h1,h2.keep hk⟩
 |.mp _ _ _,_,_,⟨b,es,c,h1,h2,h3,a,h4⟩,hk=>⟨b,es,c,h1,by rw [hk b (by simp [h4])];exact h2,h3,a,h4⟩
 |.ifc _,_,_,h,_=>h
 |.any,_,_,h,_=>h
 |.nl _ _,_,_,h,_=>h
theorem RCs.keep {w w':World}:∀{x:List CT}{v:List Value}{L:List Nat},RCs w x v L->(∀b∈L,w'.heap[b]?=w.heap[b]?)->RCs w' x v L
 | [],_,_,h,_=>h
 |_::_,_,_,⟨v,cs,L1,L2,h1,h2,h3,h4⟩,hk=>⟨v,cs,L1,L2,h1,h2,h3.keep fun b m=>hk b (by simp [h2,m]),h4.keep fun b m=>hk b (by simp [h2,m])⟩
theorem REs.keep {w w':World}{m:Nat}:∀{x:List (List CT)}{v:List Value}{L:List Nat},REs w m x v L->(∀b∈L,w'.heap[b]?=w.heap[b]?)->REs w' m x v L
 | [],_,_,h,_=>h
 |_::_,_,_,⟨c1,c2,L1,L2,h1,h2,h3,h4⟩,hk=>⟨c1,c2,L1,L2,h1,h2,⟨h3.1.keep fun b m=>hk b (by simp [h2,m]),h3.2⟩,h4.keep fun b m=>hk b (by simp [h2,m])⟩
end
mutual
theorem RC.lt {w:World}:∀{x:CT}{v:Value}{L:List Nat},RC w x v L->∀b∈L,b<w.heap.size
 |.int _ _,_,_,h=>by simp [h.2]
 |.bool _,_,_,h=>by simp [h.2]
 |.str _,_,_,h=>by simp [h.2.1]
 |.sl _ _ _,_,_,⟨A,cap,cs,L0,L1,h1,h2,h3,h4,h5,h6,h7⟩=>fun b m=>by
  rw [h4]at m
  rcases A0.1 m with m|m
  .exact h6.lt h5 b m
  .exact h7.lt b m
 |.pt _,_,_,⟨b,cs,L1,h1,h2,h3,h4,h5⟩=>fun x m=>by
  rw [h3]at m
  rcases AU.1 m with rfl|m
  .exact h2
  .exact h5.lt x m
 |.fn _ _,_,_,⟨vs,h1,h2⟩=>h2.lt
 |.mp _ _ _,_,_,⟨b,es,c,h1,h2,h3,h3',h4⟩=>fun x m=>by
  rw [h4]at m
  simp at m;subst m
  exact (AI.1 h2).1
 |.ifc _,_,_,h=>by simp [h.1]
 |.any,_,_,h=>by simp [h.1]
 |.nl _ _,_,_,h=>by simp [h.2]
theorem RCs.lt {w:World}:∀{x:List CT}{v:List Value}{L:List Nat},RCs w x v L->∀b∈L,b<w.heap.size
 | [],_,_,h=>by simp [h.2]
 |_::_,_,_,⟨v,cs,L1,L2,h1,h2,h3,h4⟩=>fun b m=>by
  rw [h2]at m
  rcases A0.1 m with m|m
  .exact h3.lt b m
  .exact h4.lt b m
theorem REs.lt {w:World}{m:Nat}:∀{x:List (List CT)}{v:List Value}{L:List Nat},REs w m x v L->∀b∈L,b<w.heap.size
 | [],_,_,h=>by simp [h.2]
 |_::_,_,_,⟨c1,c2,L1,L2,h1,h2,h3,h4⟩=>fun b m=>by
  rw [h2]at m
  rcases A0.1 m with m|m
  .exact h3.1.lt b m
  .exact h4.lt b m
end
theorem RC.one {w:World}:∀{x:CT}{v:Value}{L:List Nat},RC w x v L->v.oneCell'=true
 |.int _ _,_,_,h=>by simp [h.1,Value.oneCell']
 |.bool _,_,_,h=>by simp [h.1,Value.oneCell']
 |.str _,_,_,h=>by simp [h.1,Value.oneCell']
 |.sl _ _ _,_,_,⟨A,cap,cs,L0,L1,h1,_⟩=>by simp [h1,Value.oneCell']
 |.pt _,_,_,⟨b,cs,L1,h1,_⟩=>by simp [h1,Value.oneCell']
 |.fn _ _,_,_,⟨vs,h1,_⟩=>by simp [h1,Value.oneCell']
 |.mp _ _ _,_,_,⟨b,es,c,h1,_⟩=>by simp [h1,Value.oneCell']
 |.ifc _,_,_,h=>h.2.1
 |.any,_,_,h=>h.2
 |.nl _ _,_,_,h=>by simp [h.1,Value.oneCell']
theorem RCs.one {w:World}:∀{x:List CT}{v:List Value}{L:List Nat},RCs w x v L->∀u∈v,u.oneCell'=true
 | [],_,_,h=>by simp [h.1]
 |_::_,_,_,⟨v,cs,L1,L2,h1,h2,h3,h4⟩=>fun u m=>by
  rw [h1]at m
  rcases AU.1 m with rfl|m
  .exact h3.one
  .exact h4.one u m
theorem RCs.len {w:World}:∀{x:List CT}{v:List Value}{L:List Nat},RCs w x v L->v.length=x.length
 | [],_,_,h=>by simp [h.1]
 |_::_,_,_,⟨v,cs,L1,L2,h1,h2,h3,h4⟩=>by simp [h1,h4.len]
theorem RCs.append {w:World}:∀{xs ys:List CT}{us vs:List Value}{L M:List Nat},RCs w xs us L->RCs w ys vs M->RCs w (xs++ys) (us++vs) (L++M)
 | [],_,_,_,_,_,h,h'=>by obtain ⟨rfl,rfl⟩:=h;simpa using h'
 |_::_,_,_,_,_,_,⟨v,cs,L1,L2,h1,h2,h3,h4⟩,h'=>⟨v,cs++_,L1,L2++_,by simp [h1],by simp [h2],h3,h4.append h'⟩
end
section
open Go.RowKit
inductive AV where
 | c (x:CT)
 /-- a row that the call has made with all that it leads to,from now on only read,maybe through others too -/
 | n (x:CT)
 | row (k:Nat)
 | nil (e m:Nat)
 | dead
inductive SV where
 |any
 |und
 |p (agg:Bool) (cs:List AV)
 |tup (xs:List (Bool×List AV))
 |bp (k off:Nat)
 |rp (k m i off:Nat)
 |ep (e:List CT) (off:Nat)
 |fn (f:FuncId)
inductive Ob where
 |gone
 |box (t:TypeId) (cs:List AV)
 |row (e m:Nat) (xs:List (List CT)) (deep:Nat)
 |map (kk vk:PK) (kv:List (Value×Value))
def upd {α:Type}(f:Nat->α) (k:Nat) (v:α):Nat->α:=fun j=>if j=k then v else f j
def ZaU (a b:Nat):Nat:=if a<=b then a else b
structure St where
 sl:Nat->SV
 ob:Nat->Ob
 n:Nat
def St.put (st:St) (d:Option Nat) (v:SV):St:=match d with|none=>st|some t=>{ st with sl:=upd st.sl t v }
def Zh (ob:Nat->Ob):List (Nat×Ob)->Nat->Ob
 | []=>ob
 |p::r=>Zh (upd ob p.1 p.2) r
def St.app (st:St) (u:List (Nat×Ob)):St:={ st with ob:=Zh st.ob u }
structure FI where
 off:Nat
 size:Nat
 agg:Bool
inductive TI where
 |atom (z:AV)
 |strct (fs:List FI) (n:Nat) (z:List AV)
 |slice (e m bytes:Nat) (z:List AV)
 |map (kk vk:PK)
 |eqs (ks:List PK)
 |ifc
def Zv6:Option TI->Bool
 |some .ifc=>true
 |_=>false
def Zmy:Option TI->Option (List AV)
 |some (.atom z)=>some [z]
 |some (.strct _ _ z)=>some z
 |some (.slice e m _ _)=>some [.nil e m]
 |_=>none
def ZaR (s:ByteArray):Bool:=Nat.ble s.data.toList.length 9223372036854775807
def cvT (ti:Option TI):Value->SV
 |.int k n=>.p false [.c (.int k n)]
 |.bool b=>.p false [.c (.bool b)]
 |.string s=>if ZaR s then .p false [.c (.str s)] else .any
 |.slice none 0 0=>match ti with|some (.slice e m _ _)=>.p false [.nil e m]|_=>.any
 |_=>.any
section
variable (tt:Nat->Option TI)
def St.ev (st:St) (t:Nat):Operand->SV
 |.tmp s=>st.sl s
 |.const v=>cvT (tt t) v
 |.func f=>.fn f
 |.global _=>.any
def ZDZ (k:IntKind) (x y:Int):Int:=k.wrap (BitVec.ofInt k.bits x &&& BitVec.ofInt k.bits y).toNat
def orI (k:IntKind) (x y:Int):Int:=k.wrap (BitVec.ofInt k.bits x ||| BitVec.ofInt k.bits y).toNat
def ZCM (k:IntKind) (x y:Int):Int:=k.wrap (BitVec.ofInt k.bits x ^^^ BitVec.ofInt k.bits y).toNat
def Zt3 (k:IntKind) (x y:Int):Int:=k.wrap (BitVec.ofInt k.bits x &&& ~~~ BitVec.ofInt k.bits y).toNat
def ZDp (k:IntKind) (x y:Int):Int:=k.wrap (x*2 ^ (min y.toNat k.bits))
def ZDI (k:IntKind) (x y:Int):Int:=x.fdiv (2 ^ (min y.toNat k.bits))
def ZAP (op:BinOp) (k:IntKind) (x y:Int):Option Int:=
 match op with
 |.and=>some (ZDZ k x y)
 |.or=>some (orI k x y)
 |.xor=>some (ZCM k x y)
 |.andNot=>some (Zt3 k x y)
 |_=>none
def Zyp (op:BinOp) (k:IntKind) (x y:Int):Option CT:=
 match op with
 |.add=>some (.int k (k.wrap (x+y)))
 |.sub=>some (.int k (k.wrap (x - y)))
 |.mul=>some (.int k (k.wrap (x*y)))
 |.quo=>if y=0 then none else some (.int k (k.wrap (x.tdiv y)))
 |.rem=>if y=0 then none else some (.int k (x.tmod y))
 |.eql=>some (.bool (x==y))
 |.neq=>some (.bool (x != y))
 |.lss=>some (.bool (decide (x<y)))
 |.leq=>some (.bool (decide (x<=y)))
 |.gtr=>some (.bool (decide (y<x)))
 |.geq=>some (.bool (decide (y<=x)))
 |.shl=>if y<0 then none else some (.int k (ZDp k x y))
 |.shr=>if y<0 then none else some (.int k (ZDI k x y))
 |op=>(ZAP op k x y).map (.int k)
def sLt (x y:ByteArray):Bool:=Op.bytesLess x.toList y.toList
def sEq (x y:ByteArray):Bool:=decide (x=y)
def ZyD (op:BinOp) (x y:ByteArray):Option CT:=
 match op with
 |.add=>if x.size+y.size<=9223372036854775807 then some (.str (x++y)) else none
 |.eql=>some (.bool (sEq x y))
 |.neq=>some (.bool (!sEq x y))
 |.lss=>some (.bool (sLt x y))
 |.leq=>some (.bool (sLt x y||sEq x y))
 |.gtr=>some (.bool (!(sLt x y||sEq x y)))
 |.geq=>some (.bool (!sLt x y))
 |_=>none
def eqC:PK->AV->AV->Option Bool
 |.int _,.c (.int k x),.c (.int k' y)=>if k=k' then some (x==y) else none
 |.str,.c (.str x),.c (.str y)=>some (sEq x y)
 |.bool,.c (.bool x),.c (.bool y)=>some (x==y)
 |_,_,_=>none
def Znr:List PK->List AV->List AV->Option Bool
 | [],[],[]=>some true
 |k::ks,x::r,y::q=>(eqC k x y).bind fun a=>(Znr ks r q).map fun b=>a&&b
 |_,_,_=>none
def ZwO:Option TI->Option (List PK)
 |some (.eqs ks)=>some ks
 |_=>none
def ZqX (op:BinOp) (b:Bool):Option SV:=
 match op with
 |.eql=>some (.p false [.c (.bool b)])
 |.neq=>some (.p false [.c (.bool (!b))])
 |_=>none
def Zyq (t:Option TI) (op:BinOp):SV->SV->Option SV
 |.p true xs,.p true ys=>(ZwO t).bind fun ks=>(Znr ks xs ys).bind (ZqX op)
 |_,_=>none
def Zs2:Value->Bool
 |.nilIface=>true
 |.int _ _=>false
 |.string _=>false
 |.bool _=>false
 |.slice _ _ _=>false
 |_=>false
def ZjX:Operand->Bool
 |.const v=>Zs2 v
 |.tmp _=>false
 |.func _=>false
 |.global _=>false
def ZBa (op:BinOp):SV->Option SV
 |.p false [.c (.ifc b)]=>ZqX op b
 |_=>none
def Zxd:SV->Bool
 |.p ag _=>ag
 |_=>false
def Zyj (t:Option TI) (op:BinOp):SV->SV->Option SV
 |.p false [.c (.int k x)],.p false [.c (.int k' y)]=>if k=k'\/op=.shl\/op=.shr then (Zyp op k x y).map fun z=>.p false [.c z] else none
 |.p false [.c (.str x)],.p false [.c (.str y)]=>(ZyD op x y).map fun z=>.p false [.c z]
 |.p false [.c (.bool x)],.p false [.c (.bool y)]=>
  match t,op with
  |some (.atom (.c (.bool _))),.eql=>some (.p false [.c (.bool (x==y))])
  |some (.atom (.c (.bool _))),.neq=>some (.p false [.c (.bool (!(x==y)))])
  |_,_=>none
 |_,_=>none
def unV (op:UnOp):SV->Option SV
 |.p false [.c (.bool b)]=>match op with | .not=>some (.p false [.c (.bool (!b))])|_=>none
 |.p false [.c (.int k n)]=>match op with | .neg=>some (.p false [.c (.int k (k.wrap (0 - n)))])|_=>none
 |_=>none
def Zw1 (tt:Nat->Option TI) (t:Nat) (n:Bool) (op:BinOp) (x y:SV):Option SV:=
 if n=true then (if Zv6 (tt t)=true then ZBa op x else none) else if Zxd x=true then Zyq (tt (t+4000)) op x y else Zyj (tt t) op x y
def Ze0:List (List CT)->Option (List Int)
 | []=>some []
 | [.int .u8 n]::r=>(Ze0 r).map fun l=>n::l
 |_::_=>none
def Xd (l:List Int):ByteArray:=⟨(l.map fun n=>UInt8.ofNat n.toNat).toArray⟩
def Zmp:Option TI->Bool
 |some (.atom (.c (.int .u8 _)))=>true
 |_=>false
def ZqM (s t:Option TI):SV->Option SV
 |.p false [.c (.int _ n)]=>match s,t with|some (.atom _),some (.atom (.c (.int k _)))=>some (.p false [.c (.int k (k.wrap n))])|_,_=>none
 |_=>none
def Zb6:Option TI->Bool
 |some (.slice _ _ _ _)=>true
 |_=>false
def Zdh:Option TI->Bool
 |some (.atom (.c (.str _)))=>true
 |_=>false
def ZnR (st:St) (t:Option TI):SV->Option SV
 |.p false [.c (.sl _ _ xs)]=>if Zb6 t=true then some (.p false [.c (.int .i64 xs.length)]) else none
 |.p false [.n (.sl _ _ xs)]=>if Zb6 t=true then some (.p false [.c (.int .i64 xs.length)]) else none
 |.p false [.c (.str s)]=>if Zdh t=true then some (.p false [.c (.int .i64 s.size)]) else none
 |.p false [.nil _ _]=>if Zb6 t=true then some (.p false [.c (.int .i64 0)]) else none
 |.p false [.row k]=>match st.ob k with | .row _ _ xs _=>if Zb6 t=true then some (.p false [.c (.int .i64 xs.length)]) else none|_=>none
 |_=>none
def QT (st:St) (m:Nat):SV->SV->Option SV
 |.p false [.c (.sl _ m' xs)],.p false [.c (.int _ i)]=>if 0<=i/\m=m' then (xs[i.toNat]?).map fun e=>.ep e 0 else none
 |.p false [.row k],.p false [.c (.int _ i)]=>match st.ob k with
  |.row _ m' xs _=>if 0<=i/\i<xs.length/\m=m' then some (.rp k m i.toNat 0) else none
  |_=>none
 |_,_=>none
def ZlX (t:Option TI):SV->SV->Option SV
 |.p false [.c (.str s)],.p false [.c (.int _ i)]=>if 0<=i/\Zdh t=true then (s[i.toNat]?).map fun b=>.p false [.c (.int .u8 b.toNat)] else none
 |_,_=>none
def cut (t:Option TI) (cs:List AV) (off:Nat):Option SV:=
 match t with
 |some (.strct _ n _)=>if off+n<=cs.length then some (.p true ((cs.drop off).take n)) else none
 |some (.eqs _)=>none
 |some _=>(cs[off]?).map fun x=>.p false [x]
 |none=>none
def Qb (st:St) (t:Option TI):SV->Option SV
 |.bp k off=>match st.ob k with | .box _ cs=>cut t cs off|_=>none
 |.rp k m i off=>match st.ob k with | .row _ m' xs _=>(xs[i]?).bind fun e=>if m=m' then cut t (e.map .c) off else none|_=>none
 |.ep e off=>cut t (e.map .c) off
 |.p false [.c (.pt e)]=>cut t (e.map .c) 0
 |_=>none
def splice {α:Type}(cs:List α) (off:Nat) (vs:List α):List α:=cs.take off++(vs++cs.drop (off+vs.length))
def ZtC:AV->Option CT
 |.c (.int k n)=>some (.int k n)
 |.c (.bool b)=>some (.bool b)
 |.c (.str s)=>some (.str s)
 |_=>none
def ZfW:List AV->Option (List CT)
 | []=>some []
 |x::r=>(ZtC x).bind fun a=>(ZfW r).map fun b=>a::b
def ZfN:Option TI->Nat
 |some (.strct _ n _)=>n
 |some (.atom _)=>1
 |some (.slice _ _ _ _)=>1
 |_=>0
def Zke (d:Nat):SV->Option SV
 |.bp k off=>some (.bp k (off+d))
 |.rp k m i off=>some (.rp k m i (off+d))
 |.ep e off=>some (.ep e (off+d))
 |.p false [.c (.pt e)]=>some (.ep e d)
 |_=>none
def Zmx (fs:List FI) (f:Nat):SV->Option SV
 |.p true cs=>(fs[f]?).bind fun i=>if i.agg then (if i.off+i.size<=cs.length then some (.p true ((cs.drop i.off).take i.size)) else none) else (cs[i.off]?).map fun x=>.p false [x]
 |_=>none
def ZiV (fs:List FI) (cs:List AV):List (Nat×SV)->Option (List AV)
 | []=>some cs
 |(i,.p _ vs)::r=>(fs[i]?).bind fun f=>if vs.length=f.size/\f.off+vs.length<=cs.length then ZiV fs (splice cs f.off vs) r else none
 |_::_=>none
def Zgg (st:St) (fs:List FI) (z:List AV) (p:Nat×Operand):Nat×SV:=
 match p.2 with
 |.const (.slice none 0 0)=>(p.1,match (fs[p.1]?).bind fun f=>z[f.off]? with|some (.nil e m)=>.p false [.nil e m]|_=>.any)
 |x=>(p.1,st.ev tt 0 x)
def avT (st:St):AV->Option (CT×List Nat×Nat)
 |.c (.int k n)=>some (.int k n,[],2)
 |.c (.bool b)=>some (.bool b,[],2)
 |.c (.str s)=>some (.str s,[],2)
 |.c x=>some (x,[],1)
 |.nil e m=>if 0<m then some (.sl e m [],[],2) else none
 |.row k=>match st.ob k with | .row e m xs d=>(if d=0 then some (.sl e m xs,[],1) else some (.sl e m xs,[k],d))|_=>none
 |.n _=>none
 |.dead=>none
def Zdc (st:St):List AV->Option (List CT×List Nat×Nat)
 | []=>some ([],[],2)
 |x::r=>(avT st x).bind fun a=>(Zdc st r).map fun b=>(a.1::b.1,a.2.1++b.2.1,ZaU a.2.2 b.2.2)
def Y6 (st:St) (m:Nat):List SV->Option (List (List CT)×List Nat×Nat)
 | []=>some ([],[],2)
 |.p _ cs::r=>if cs.length=m then (Zdc st cs).bind fun a=>(Y6 st m r).map fun b=>(a.1::b.1,a.2.1++b.2.1,ZaU a.2.2 b.2.2) else none
 |_::_=>none
def ZjT:AV->Bool
 |.c _=>true
 |_=>false
def Z6:Ob->Ob
 |.row e m xs _=>.row e m xs 0
 |o=>o
def ZI (st:St):List Nat->List (Nat×Ob)
 | []=>[]
 |k::r=>(k,Z6 (st.ob k))::ZI st r
def Yc (ks:List Nat):List (Nat×Ob):=ks.map fun k=>(k,Ob.gone)
def Zmc (st:St) (k e m m':Nat) (xs:List (List CT)) (d i off:Nat) (x:List CT) (n:Nat) (vs:List AV):Option (List CT)->Option (List (Nat×Ob))
 |some ys=>if m=m'/\vs.length=n/\0<vs.length/\off+vs.length<=m/\0<d then some [(k,.row e m (xs.set i (splice x off ys)) d)] else none
 |none=>(Zdc st vs).bind fun a=>if m=m'/\vs.length=n/\0<vs.length/\off+vs.length<=m/\0<d/\(k::a.2.1).Nodup then some (Yc a.2.1++[(k,.row e m (xs.set i (splice x off a.1)) (ZaU d a.2.2))]) else none
def Zf6 (st:St) (t:Option TI):SV->SV->Option (List (Nat×Ob))
 |.bp k off,.p _ vs=>match st.ob k with
  |.box tb cs=>if vs.length=ZfN t/\0<vs.length/\off+vs.length<=cs.length then some [(k,.box tb (splice cs off vs))] else none
  |_=>none
 |.rp k m i off,.p _ vs=>match st.ob k with
  |.row e m' xs d=>(xs[i]?).bind fun x=>Zmc st k e m m' xs d i off x (ZfN t) vs (ZfW vs)
  |_=>none
 |_,_=>none
def CT.flat:CT->Bool
 |.int _ _=>true
 |.bool _=>true
 |.str _=>true
 |_=>false
def Zbj (xs:List (List CT)):Bool:=xs.all fun e=>e.all CT.flat
def ZiO (fl:Bool) (xs:List (List CT)):Nat:=if (fl&&Zbj xs)=true then 2 else 1
def ZfT (st:St) (fl:Bool):SV->Option (List (List CT)×List Nat×Nat)
 |.p false [.c (.sl _ _ ys)]=>some (ys,[],ZiO fl ys)
 |.p false [.nil _ _]=>some ([],[],2)
 |.p false [.row j]=>match st.ob j with | .row _ _ ys d=>(if d=0 then some (ys,[],ZiO fl ys) else some (ys,[j],d))|_=>none
 |_=>none
def ZfQ (st:St):SV->Option (List (List CT)×List Nat×Nat)
 |.p false [.nil _ _]=>some ([],[],2)
 |.p false [.row k]=>match st.ob k with | .row _ _ xs d=>(if d=0 then none else some (xs,[k],d))|_=>none
 |_=>none
def ZlK (st:St) (e m:Nat):SV->Bool
 |.p false [.row k]=>match st.ob k with | .row e' m' _ _=>e==e'&&m==m'|_=>false
 |.p false [.nil _ _]=>true
 |_=>false
def Zkm (st:St) (m:Nat):SV->Bool
 |.p false [.row k]=>match st.ob k with | .row _ m' _ _=>m==m'|_=>false
 |.p false [.c (.sl _ m' _)]=>m==m'
 |.p false [.nil _ _]=>true
 |_=>false
def Zng (st:St) (key:Nat) (t:Option TI) (s x:SV):Option (SV×List (Nat×Ob)):=
 match t with
 |some (.slice e m _ z)=>
  (ZfQ st s).bind fun a=>(ZfT st (z.all ZjT) x).bind fun b=>
   if ZlK st e m s=true/\Zkm st m x=true/\(a.2.1++b.2.1).Nodup/\a.1.length+b.1.length<=1073741824 then
    some (.p false [.row key],Yc (a.2.1++b.2.1)++[(key,.row e m (a.1++b.1) (ZaU a.2.2 b.2.2))]) else none
 |_=>none
def ZvY (lo:Bool):SV->SV->Option SV
 |.p false [.c (.int k x)],.p false [.c (.int _ y)]=>some (.p false [.c (.int k (if lo then (if y<x then y else x) else (if x<y then y else x)))])
 |_,_=>none
def Zkh:Option TI->Nat
 |some (.slice _ m _ _)=>m
 |_=>0
def hiB (n:Nat):Option SV->Option Nat
 |none=>some n
 |some (.p false [.c (.int _ h)])=>if 0<=h/\h<=n then some h.toNat else none
 |_=>none
def loB (n:Nat):Option SV->Option Nat
 |none=>some 0
 |some (.p false [.c (.int _ l)])=>if 0<=l/\l<=n then some l.toNat else none
 |_=>none
def ZlZ (t:Option TI) (lo hi:Option SV):SV->Option SV
 |.p false [.c (.str s)]=>if Zdh t=true then (hiB s.size hi).bind fun h=>(loB h lo).map fun l=>.p false [.c (.str (s.extract l h))] else none
 |.p false [.c (.sl e m xs)]=>if Zkh t=m then (hiB xs.length hi).bind fun h=>(loB h lo).map fun l=>.p false [.c (.sl e m ((xs.take h).drop l))] else none
 |_=>none
def mvS (d:Nat):Option SV->Option SV->Bool
 |some _,none=>if d=0 then false else true
 |_,_=>false
def Q7 (st:St) (key:Nat) (t:Option TI) (lo hi:Option SV):SV->Option (SV×List (Nat×Ob))
 |.p false [.row k]=>if Zb6 t=true then (match st.ob k with
  |.row e m xs d=>if Zkh t=m then if mvS d lo hi=true then (loB xs.length lo).map fun l=>(.p false [.row key],[(k,.gone),(key,.row e m (xs.drop l) d)]) else (hiB xs.length hi).bind fun h=>(loB h lo).map fun l=>(.p false [.c (.sl e m ((xs.take h).drop l))],[(k,.row e m xs 0)]) else none
  |_=>none) else none
 |.p false [.c x]=>(ZlZ t lo hi (.p false [.c x])).map fun v=>(v,[])
 |_=>none
def vEq:Value->Value->Bool
 |.int k a,.int k' b=>k==k'&&a==b
 |.string a,.string b=>sEq a b
 |.bool a,.bool b=>a==b
 |_,_=>false
def Zk8:List (Value×Value)->Value->Option Value
 | [],_=>none
 |p::r,k=>if vEq k p.1=true then some p.2 else Zk8 r k
def Zfb:List (Value×Value)->Value->Value->List (Value×Value)
 | [],k,v=>[(k,v)]
 |p::r,k,v=>if vEq k p.1=true then (k,v)::r else p::Zfb r k v
def avV:Value->AV
 |.int k n=>.c (.int k n)
 |.bool b=>.c (.bool b)
 |.string s=>.c (.str s)
 |_=>.dead
def ZbZ (kv:List (Value×Value)) (k:Value) (z:AV):AV:=match Zk8 kv k with|some v=>avV v|none=>z
def Ze4 (kv:List (Value×Value)) (k:Value):Bool:=(Zk8 kv k).isSome
def Ze3:PK->AV
 |.int k=>.c (.int k 0)
 |.bool=>.c (.bool false)
 |.str=>.c (.str ⟨#[]⟩)
def ZuL:PK->SV->Option Value
 |.int k,.p false [.c (.int k' n)]=>if k=k' then some (.int k' n) else none
 |.str,.p false [.c (.str s)]=>some (.string s)
 |.bool,.p false [.c (.bool b)]=>some (.bool b)
 |_,_=>none
def Zrb (kk vk:PK) (kv:List (Value×Value)) (i:SV) (ok:Bool):Option SV:=
 (ZuL kk i).map fun k=>match ok with
  |true=>.tup [(false,[ZbZ kv k (Ze3 vk)]),(false,[.c (.bool (Ze4 kv k))])]
  |false=>.p false [ZbZ kv k (Ze3 vk)]
instance pkDec:DecidableEq PK:=fun a b=>match a,b with
 |.int k,.int k'=>if h:k=k' then isTrue (h ▸ rfl) else isFalse (fun e=>h (PK.int.inj e))
 |.bool,.bool=>isTrue rfl
 |.str,.str=>isTrue rfl
 |.int _,.bool=>isFalse (fun e=>by cases e)
 |.int _,.str=>isFalse (fun e=>by cases e)
 |.bool,.int _=>isFalse (fun e=>by cases e)
 |.bool,.str=>isFalse (fun e=>by cases e)
 |.str,.int _=>isFalse (fun e=>by cases e)
 |.str,.bool=>isFalse (fun e=>by cases e)
def ZeG (kk vk:PK):Option TI->Bool
 |some (.map a b)=>decide (a=kk)&&decide (b=vk)
 |_=>false
def Zg0 (st:St) (t:Option TI) (x i:SV) (ok:Bool):Option SV:=
 match x with
 |.p false [.row k]=>match st.ob k with | .map kk vk kv=>if ZeG kk vk t=true then Zrb kk vk kv i ok else none|_=>none
 |.p false [.c (.mp kk vk kv)]=>if ZeG kk vk t=true then Zrb kk vk kv i ok else none
 |_=>none
def Zum (st:St) (t:Option TI) (x i v:SV):Option (List (Nat×Ob)):=
 match x with
 |.p false [.row k]=>match st.ob k with | .map kk vk kv=>if ZeG kk vk t=true then (ZuL kk i).bind fun a=>(ZuL vk v).map fun b=>[(k,.map kk vk (Zfb kv a b))] else none|_=>none
 |_=>none
def Zn4 (key:Nat):Option TI->Option (SV×List (Nat×Ob))
 |some (.map kk vk)=>some (.p false [.row key],[(key,.map kk vk [])])
 |_=>none
def Zjh (st:St):SV->Option (CT×List (Nat×Ob))
 |.bp k 0=>match st.ob k with | .box _ cs=>(zBox cs).map fun l=>(.pt l,[(k,.gone)])|_=>none
 |.p false [.c (.pt e)]=>some (.pt e,[])
 |_=>none
where zBox:List AV->Option (List CT)
 | []=>some []
 |.c x::r=>(zBox r).map fun b=>x::b
 |_::_=>none
def ZeI (st:St):List SV->Option (List CT×List (Nat×Ob))
 | []=>some ([],[])
 |x::r=>(Zjh st x).bind fun a=>(ZeI st r).map fun b=>(a.1::b.1,a.2++b.2)
def Zk4:List AV->Option (List CT)
 | []=>some []
 |.c x::r=>(Zk4 r).map fun b=>x::b
 |.nil e m::r=>if 0<m then (Zk4 r).map fun b=>.sl e m []::b else none
 |_::_=>none
def ZqA (key:Nat) (t:Option TI):SV->SV->Option (SV×List (Nat×Ob))
 |.p false [.c (.int .i64 n)],.p false [.c (.int .i64 c)]=>
  match t with
  |some (.slice e m _ z)=>(Zk4 z).bind fun ze=>if 0<=n/\n=c/\n<=1073741824 then some (.p false [.row key],[(key,.row e m (List.replicate n.toNat ze) 2)]) else none
  |_=>none
 |_,_=>none
def Zw3 (i:Nat):SV->Option SV
 |.tup xs=>(xs[i]?).map fun x=>.p x.1 x.2
 |_=>none
def Zbt (v:Option SV):Option (SV×List (Nat×Ob)):=v.map fun v=>(v,[])
def Zh5 (st:St):SV->Option SV
 |.p false [.row k]=>match st.ob k with | .row _ _ xs _=>(Ze0 xs).map fun l=>.p false [.c (.str (Xd l))]|_=>none
 |.p false [.c (.sl _ _ xs)]=>(Ze0 xs).map fun l=>.p false [.c (.str (Xd l))]
 |_=>none
def ZpH (tt:Nat->Option TI):Option TI->Option TI
 |some (.slice e _ _ _)=>tt e
 |_=>none
def ZgO (tt:Nat->Option TI) (st:St) (s t:Nat) (x:SV):Option SV:=
 if (Zdh (tt t)&&Zmp (ZpH tt (tt s)))=true then Zh5 st x else ZqM (tt s) (tt t) x
def ZiI:List TypeId->List Operand->List (TypeId×Operand)
 |t::ts,x::xs=>(t,x)::ZiI ts xs
 | [],x::xs=>(0,x)::ZiI [] xs
 |_,[]=>[]
def evs (st:St) (ts:List TypeId) (xs:List Operand):List SV:=(ZiI ts xs).map fun p=>st.ev tt p.1 p.2
def ZfU (st:St) (key:Nat) (b:Builtin) (ts:List TypeId) (vs:List SV):Option (SV×List (Nat×Ob)):=
 match b,ts,vs with
 |.len,t::_,[x]=>Zbt (ZnR st (tt t) x)
 |.append,[t,u],[s,x]=>if t=u then Zng st key (tt t) s x else none
 |.max,_,[x,y]=>Zbt (ZvY false x y)
 |.min,_,[x,y]=>Zbt (ZvY true x y)
 |_,_,_=>none
def opE (key:Nat) (o:Oper) (st:St):Option (SV×List (Nat×Ob)):=
 match o.op with
 |.move x=>some (st.ev tt o.type x,[])
 |.assign x=>some (st.ev tt o.type x,[])
 |.pick c a b=>match st.ev tt 0 c with | .p false [.c (.bool t)]=>some (if t=true then st.ev tt o.type a else st.ev tt o.type b,[])|_=>none
 |.alloc t=>(Zmy (tt t)).map fun z=>(.bp key 0,[(key,.box t z)])
 |.box t x=>match st.ev tt t x with | .p _ cs=>some (.bp key 0,[(key,.box t cs)])|_=>none
 |.build t parts=>match tt t with|some (.strct fs _ z)=>(ZiV fs z (parts.toList.map (Zgg tt st fs z))).map fun cs=>(.p true cs,[])|_=>none
 |.buildSlice t len parts=>match tt t with
  |some (.slice e m _ z)=>(Y6 st m (parts.toList.map fun p=>st.ev tt e p.2)).bind fun a=>
   if parts.toList.map (·.1)=List.range len/\len*m<=16777216/\a.2.1.Nodup/\(!z.all ZjT||a.2.1.isEmpty)=true then some (.p false [.row key],ZI st a.2.1++[(key,.row e m a.1 a.2.2)]) else none
  |_=>none
 |.load t x=>Zbt (Qb st (tt t) (st.ev tt 0 x))
 |.store t x v=>(Zf6 st (tt t) (st.ev tt 0 x) (st.ev tt t v)).map fun u=>(.und,u)
 |.nilCheck x=>match st.ev tt 0 x with | .bp k i=>some (.bp k i,[]) | .rp k m i j=>some (.rp k m i j,[]) | .ep e i=>some (.ep e i,[]) | .p false [.c (.pt e)]=>some (.p false [.c (.pt e)],[])|_=>none
 |.makeFunc (.func f) first caps=>if first.size=0 then (ZeI st (caps.toList.map (st.ev tt 0))).bind fun r=>if (r.2.map (·.1)).Nodup then some (.p false [.c (.fn f r.1)],r.2) else none else none
 |.makeMap t none=>Zn4 key (tt t)
 |.lookup t x i ok=>Zbt (Zg0 st (tt t) (st.ev tt 0 x) (st.ev tt 0 i) ok)
 |.mapUpdate t x i v=>(Zum st (tt t) (st.ev tt 0 x) (st.ev tt 0 i) (st.ev tt 0 v)).map fun u=>(.und,u)
 |.binOp op t x y _=>Zbt (Zw1 tt t (ZjX y) op (st.ev tt t x) (st.ev tt t y))
 |.unOp op _ x=>Zbt (unV op (st.ev tt 0 x))
 |.convert s t x=>Zbt (ZgO tt st s t (st.ev tt 0 x))
 |.makeSlice t n c=>ZqA key (tt t) (st.ev tt 0 n) (st.ev tt 0 c)
 |.slice t x lo hi none=>Q7 st key (tt t) (lo.map (st.ev tt 0)) (hi.map (st.ev tt 0)) (st.ev tt 0 x)
 |.fieldAddr t x f=>match tt t with|some (.strct fs _ _)=>Zbt ((fs[f]?).bind fun i=>Zke i.off (st.ev tt 0 x))|_=>none
 |.field t x f=>match tt t with|some (.strct fs _ _)=>Zbt (Zmx fs f (st.ev tt 0 x))|_=>none
 |.indexAddr t x i=>match tt t with|some (.slice _ m _ _)=>Zbt (QT st m (st.ev tt 0 x) (st.ev tt 0 i))|_=>none
 |.index t x i=>Zbt (ZlX (tt t) (st.ev tt 0 x) (st.ev tt 0 i))
 |.extract x i=>Zbt (Zw3 i (st.ev tt 0 x))
 |.call c=>match c.callee with
  |.builtin b=>ZfU tt st key b c.argTypes.toList (evs tt st c.argTypes.toList c.args.toList)
  |_=>none
 |_=>none
end
def Zcb (st:St):AV->Option CT
 |.c x=>some x
 |.nil e m=>if 0<m then some (.sl e m []) else none
 |.row k=>match st.ob k with | .row e m xs _=>some (.sl e m xs)|_=>none
 |.n x=>some x
 |.dead=>none
def YI (st:St):List AV->Option (List CT)
 | []=>some []
 |x::r=>(Zcb st x).bind fun a=>(YI st r).map fun b=>a::b
def Zdr (st:St):SV->Option (Bool×List CT)
 |.p a cs=>(YI st cs).map fun l=>(a,l)
 |_=>none
def ZU (st:St):List SV->Option (List (Bool×List CT))
 | []=>some []
 |x::r=>(Zdr st x).bind fun a=>(ZU st r).map fun b=>a::b
def nlA:AV->AV
 |.nil e m=>.c (.nl e m)
 |.c x=>.c x
 |.n x=>.n x
 |.row k=>.row k
 |.dead=>.dead
def nlS:SV->SV
 |.p a cs=>.p a (cs.map nlA)
 |x=>x
def Zpv:CT->AV
 |.nl e m=>.nil e m
 |.int k n=>.c (.int k n)
 |.bool b=>.c (.bool b)
 |.str s=>.c (.str s)
 |.sl e m xs=>.c (.sl e m xs)
 |.pt es=>.c (.pt es)
 |.fn f es=>.c (.fn f es)
 |.mp k v kv=>.c (.mp k v kv)
 |.ifc b=>.c (.ifc b)
 |.any=>.c .any
abbrev RT:=Bool×List (Bool×CT)
def ZE4 (l:List CT):List (Bool×CT):=l.map fun x=>(false,x)
def ZDg (l:List CT):List (Bool×CT):=l.map fun x=>(true,x)
def ZA (key:Nat):List (Bool×CT)->List AV×List (Nat×Ob)×Nat
 | []=>([],[],key)
 |(false,.sl e m xs)::r=>let b:=ZA (key+1) r;(.row key::b.1,(key,.row e m xs 2)::b.2.1,b.2.2)
 |(false,.int k n)::r=>let b:=ZA key r;(.c (.int k n)::b.1,b.2.1,b.2.2)
 |(false,.bool k)::r=>let b:=ZA key r;(.c (.bool k)::b.1,b.2.1,b.2.2)
 |(false,.str s)::r=>let b:=ZA key r;(.c (.str s)::b.1,b.2.1,b.2.2)
 |(false,.ifc x)::r=>let b:=ZA key r;(.c (.ifc x)::b.1,b.2.1,b.2.2)
 |(false,.any)::r=>let b:=ZA key r;(.c .any::b.1,b.2.1,b.2.2)
 |(false,.nl e m)::r=>let b:=ZA key r;(.c (.nl e m)::b.1,b.2.1,b.2.2)
 |(false,.pt x)::r=>let b:=ZA key r;(.c (.pt x)::b.1,b.2.1,b.2.2)
 |(false,.fn f x)::r=>let b:=ZA key r;(.c (.fn f x)::b.1,b.2.1,b.2.2)
 |(false,.mp k v x)::r=>let b:=ZA key r;(.c (.mp k v x)::b.1,b.2.1,b.2.2)
 |(true,x)::r=>let b:=ZA key r;(.c x::b.1,b.2.1,b.2.2)
def Zx (key:Nat):List RT->List (Bool×List AV)×List (Nat×Ob)×Nat
 | []=>([],[],key)
 |x::r=>let a:=ZA key x.2;let b:=Zx a.2.2 r;((x.1,a.1)::b.1,a.2.1++b.2.1,b.2.2)
def Qr:List (Bool×List AV)->SV
 | [x]=>.p x.1 x.2
 |xs=>.tup xs
inductive ZlT where
 |row (e m:Nat) (xs:List (List CT))
 |box (t:Nat) (cs:List CT)
inductive NB where
 |box (t:Nat) (cs:List CT)
 |map (kk vk:PK) (kv:List (Value×Value))
def ZCb (key:Nat):NB->SV
 |.box _ _=>.bp key 0
 |.map _ _ _=>.p false [.row key]
def ZvX:NB->Ob
 |.box t cs=>.box t (cs.map .c)
 |.map kk vk kv=>.map kk vk kv
structure Ctx where
 r:FuncId→List (Bool × List CT)→List RT→Prop
 h:FuncId→ZlT→List (Bool × List CT)→List RT→ZlT→Prop
 hd:FuncId→Nat
 b:FuncId→List (Bool × List CT)→NB→Prop
 /-- a box with rows of the call's own is handed in: its type and cells,what is given besides,and its cells behind the call -/
 o:FuncId→Nat→List (Bool × CT)→Option (Bool × List (Bool × CT))→List (Bool × List CT)→List RT→List (Bool × CT)→Prop
 /-- something is given,and what is made of it may be among the results -/
 g:FuncId→Bool × List (Bool × CT)→List (Bool × List CT)→List RT→Prop
def gvC:Option (Bool×List (Bool×CT))->List (Bool×CT)
 |none=>[]
 |some g=>g.2
def ZcD:AV->Bool
 |.row _=>false
 |.dead=>false
 |_=>true
def Zhy:SV->Bool
 |.p _ cs=>cs.all ZcD
 |_=>true
def Zcx:List (Bool×CT)->Bool
 | []=>false
 |p::r=>p.1||Zcx r
def Zdq:List RT->Bool
 | []=>false
 |x::r=>Zcx x.2||Zdq r
def Zii:List AV->List Nat
 | []=>[]
 |.row k::r=>k::Zii r
 |_::r=>Zii r
def ZF:List SV->List Nat
 | []=>[]
 |.p _ cs::r=>Zii cs++ZF r
 |_::r=>ZF r
def Zf8 (st:St):SV->Option (Nat×ZlT)
 |.bp k 0=>match st.ob k with | .box t cs=>(if cs.all ZcD=true then (YI st cs).map fun l=>(k,.box t l) else none)|_=>none
 |.p false [.row k]=>match st.ob k with | .row e m xs d=>(if d=2/\Zbj xs=true then some (k,.row e m xs) else none)|_=>none
 |_=>none
def Zfi (st:St):AV->Option ((Bool×CT)×List Nat)
 |.c (.sl e m xs)=>some ((true,.sl e m xs),[])
 |.c (.int k n)=>some ((false,.int k n),[])
 |.c (.bool b)=>some ((false,.bool b),[])
 |.c (.str s)=>some ((false,.str s),[])
 |.nil e m=>if 0<m then some ((false,.sl e m []),[]) else none
 |.row k=>match st.ob k with | .row e m xs d=>(if d=2 then some ((false,.sl e m xs),[k]) else none)|_=>none
 |_=>none
def YC (st:St):List AV->Option (List (Bool×CT)×List Nat)
 | []=>some ([],[])
 |x::r=>(Zfi st x).bind fun a=>(YC st r).map fun b=>(a.1::b.1,a.2++b.2)
def Zdn (st:St):SV->Option (Nat×Nat×List (Bool×CT)×List Nat)
 |.bp k 0=>match st.ob k with | .box t cs=>((YC st cs).bind fun x=>if x.2.Nodup then some (k,t,x.1,x.2) else none)|_=>none
 |_=>none
def ZdN:ZlT->Ob
 |.row e m xs=>.row e m xs 2
 |.box t cs=>.box t (cs.map .c)
inductive Ex where
 |normal
 |exit (id:Nat)
 |ret
section
variable (tt:Nat->Option TI) (S:Ctx)
def Ye {α:Type}(r:Option α) (K:α->Prop):Prop:=match r with|some v=>K v|none=>False
def ZhG (dst:Option Nat) (K:St->Prop) (st:St) (v:SV):Prop:=K (st.put dst v)
def ZkY (dst:Option Nat) (K:St->Prop) (st:St) (r:SV×List (Nat×Ob)):Prop:=K ((st.put dst r.1).app r.2)
def Zry (f:FuncId) (key:Nat) (dst:Option Nat) (K:St->Prop) (st:St) (vs:List SV) (l:List (Bool×List CT)):Prop:=
 ∃res,S.r f l res/\(!Zdq res||vs.all Zhy)=true/\(Zx key res).2.2<=key+16/\K ((st.put dst (Qr (Zx key res).1)).app (Zx key res).2.1)
def ZBm (f:FuncId) (key:Nat) (dst:Option Nat) (K:St->Prop) (st:St) (vs:List SV) (l:List (Bool×List CT)):Prop:=
 ∃res,S.r f l res/\(Zx key res).2.2<=key+16/\K ((st.put dst (Qr (Zx key res).1)).app (ZI st (ZF vs)++(Zx key res).2.1))
def ZvS (f:FuncId) (key:Nat) (dst:Option Nat) (K:St->Prop) (st:St) (vs:List SV) (kh:Nat×ZlT) (l:List (Bool×List CT)):Prop:=
 ∃res h',S.h f kh.2 l res h'/\(ZF vs).all (fun j=>j != kh.1)=true/\(Zx key res).2.2<=key+16/\K ((st.put dst (Qr (Zx key res).1)).app (ZI st (ZF vs)++((kh.1,ZdN h')::(Zx key res).2.1)))
def Zic (st:St):List SV->Option (Option (Bool×List (Bool×CT))×List Nat)
 | []=>some (none,[])
 | [.p a xs]=>(YC st xs).map fun x=>(some (a,x.1),x.2)
 |_=>none
def Zgm (ks:List Nat) (j:Nat):Bool:=!ks.contains j
def Zuk (f:FuncId) (key:Nat) (dst:Option Nat) (K:St->Prop) (st:St) (vs:List SV) (kh:Nat×Nat×List (Bool×CT)×List Nat) (gh:Option (Bool×List (Bool×CT))×List Nat) (l:List (Bool×List CT)):Prop:=
 ∃res cs',S.o f kh.2.1 kh.2.2.1 gh.1 l res cs'/\(kh.2.2.2++gh.2).Nodup/\(ZF vs).all (Zgm (kh.2.2.2++gh.2))=true/\(Zx key res).2.2=key/\(ZA key cs').2.2<=key+16/\K ((st.put dst (Qr (Zx key res).1)).app (ZI st (ZF vs)++(Yc (kh.2.2.2++gh.2)++((kh.1,.box kh.2.1 (ZA key cs').1)::(ZA key cs').2.1))))
def ZsY (f:FuncId) (key:Nat) (dst:Option Nat) (K:St->Prop) (st:St) (vs:List SV) (gh:Option (Bool×List (Bool×CT))×List Nat) (l:List (Bool×List CT)):Prop:=
 ∃gv res,gh.1=some gv/\S.g f gv l res/\gh.2.Nodup/\(ZF vs).all (Zgm gh.2)=true/\(Zx key res).2.2<=key+16/\K ((st.put dst (Qr (Zx key res).1)).app (ZI st (ZF vs)++(Yc gh.2++(Zx key res).2.1)))
def ZCW (f:FuncId) (key:Nat) (dst:Option Nat) (K:St->Prop) (st:St) (vs:List SV) (l:List (Bool×List CT)):Prop:=
 ∃nb,S.b f l nb/\K ((st.put dst (ZCb key nb)).app (ZI st (ZF vs)++[(key,ZvX nb)]))
def Ztn (f:FuncId) (key:Nat) (dst:Option Nat) (K:St->Prop) (st:St):List SV->Prop
 | []=>False
 |v::r=>Ye (Zf8 st v) fun kh=>Ye (ZU st r) (ZvS S f key dst K st r kh)
def ZkI (f:FuncId) (n key:Nat) (dst:Option Nat) (K:St->Prop) (st:St):List SV->Prop
 | []=>False
 |v::r=>Ye (Zdn st v) fun kh=>Ye (Zic st (r.take n)) fun gh=>Ye (ZU st (r.drop n)) (Zuk S f key dst K st (r.drop n) kh gh)
def Zts (f:FuncId) (key:Nat) (dst:Option Nat) (K:St->Prop) (st:St):List SV->Prop
 | []=>False
 |v::r=>Ye (Zic st [v]) fun gh=>Ye (ZU st r) (ZsY S f key dst K st r gh)
def spK (f:FuncId) (n key:Nat) (dst:Option Nat) (K:St->Prop) (st:St) (vs:List SV):Prop:=
 match n with
 |0=>Ye (ZU st vs) (Zry S f key dst K st vs)
 |1=>Ztn S f key dst K st vs
 |3=>Ye (ZU st vs) (ZCW S f key dst K st vs)
 |4=>Ye (ZU st (vs.map nlS)) (Zry S f key dst K st (vs.map nlS))
 |5=>ZkI S f 0 key dst K st vs
 |6=>ZkI S f 1 key dst K st vs
 |7=>Zts S f key dst K st vs
 |_=>Ye (ZU st vs) (ZBm S f key dst K st vs)
def YG:Op->Option (FuncId×List TypeId×List Operand)
 |.call ⟨.value (.func f),args,ts⟩=>some (f,ts.toList,args.toList)
 |_=>none
def Xf:Op->Option (Nat×List TypeId×List Operand)
 |.call ⟨.value (.tmp s),args,ts⟩=>some (s,ts.toList,args.toList)
 |_=>none
def Zon:SV->Option (FuncId×List CT)
 |.p false [.c (.fn f es)]=>some (f,es)
 |.fn f=>some (f,[])
 |_=>none
def ZkF (c:CT):SV:=.p false [.c c]
def ZBk (key:Nat) (dst:Option Nat) (K:St->Prop) (st:St) (vs:List SV) (fc:FuncId×List CT):Prop:=S.hd fc.1=0/\spK S fc.1 0 key dst K st (vs++fc.2.map ZkF)
def opS (key:Nat) (o:Oper) (K:St->Prop) (st:St):Prop:=
 match YG o.op with
 |some c=>spK S c.1 (S.hd c.1) key o.dst K st (evs tt st c.2.1 c.2.2)
 |none=>match Xf o.op with
  |some c=>Ye (Zon (st.sl c.1)) (ZBk S key o.dst K st (evs tt st c.2.1 c.2.2))
  |none=>Ye (opE tt key o st) (ZkY o.dst K st)
def ZaZ (all:List Oper) (o:Oper):Option (Option Nat×Bool):=
 match o.guard with
 |none=>none
 |some g=>some ((all[g.1]?).bind (·.dst),g.2)
def Zam:SV->Bool
 |.p false [.c (.bool _)]=>true
 |_=>false
def X8:SV->Bool
 |.p false [.c (.bool b)]=>b
 |_=>false
def Zp9:SV->Bool
 |.und=>true
 |_=>false
def gK (v:SV) (want:Bool) (A B:Prop):Prop:=if Zam v=true then (if (X8 v==want)=true then A else B) else (if Zp9 v=true then B else False)
def opG (all:List Oper) (key:Nat) (o:Oper) (K:St->Prop) (st:St):Prop:=
 match ZaZ all o with
 |none=>opS tt S key o K st
 |some (none,_)=>K (st.put o.dst .und)
 |some (some t,want)=>gK (st.sl t) want (opS tt S key o K st) (K (st.put o.dst .und))
def Z4 (all:List Oper) (key:Nat):List Oper->(St->Prop)->St->Prop
 | [],K,st=>K st
 |o::r,K,st=>opG tt S all key o (Z4 all (key+16) r K) st
def ZoX (n:Nat) (K:St->Prop) (st:St):Prop:=K { st with n:=n }
def Zx1 (ops:List Oper) (K:St->Prop) (st:St):Prop:=Z4 tt S ops st.n ops (ZoX (st.n+16*ops.length) K) st
def Zgy (k:St->Prop) (Q:Ex->St->Prop):Ex->St->Prop
 |.normal,st=>k st
 |e,st=>Q e st
def ZgP (id:Nat) (Q:Ex->St->Prop):Ex->St->Prop
 |.exit j,st=>if j=id then Q .normal st else Q (.exit j) st
 |e,st=>Q e st
def Zou (v:SV) (a b:Prop):Prop:=if Zam v=true then (if X8 v=true then a else b) else False
def ZpE:List Nat->Nat->Nat->Option Nat
 | [],_,_=>none
 |x::r,k,i=>if x=k then some i else ZpE r k (i+1)
def rAV (ρ:List Nat):AV->AV
 |.row k=>match ZpE ρ k 0 with|some j=>.row j|none=>.dead
 |x=>x
def rSV (ρ:List Nat):SV->SV
 |.p a cs=>.p a (cs.map (rAV ρ))
 |.tup xs=>.tup (xs.map fun x=>(x.1,x.2.map (rAV ρ)))
 |.bp k off=>match ZpE ρ k 0 with|some j=>.bp j off|none=>.any
 |.rp k m i off=>match ZpE ρ k 0 with|some j=>.rp j m i off|none=>.any
 |x=>x
def rOb (ρ:List Nat):Ob->Ob
 |.box t cs=>.box t (cs.map (rAV ρ))
 |x=>x
def St.ren (st:St) (ρ:List Nat):St:=⟨fun t=>rSV ρ (st.sl t),fun j=>match ρ[j]? with|some k=>rOb ρ (st.ob k)|none=>.gone,ρ.length⟩
def St.mat (st:St) (m:Bool×Nat×Nat):St:=
 match m.1 with
 |false=>match st.sl m.2.1 with
  |.p ag cs=>match cs[m.2.2]? with
   |some (.nil e q)=>if 0<q then ⟨upd st.sl m.2.1 (.p ag (cs.set m.2.2 (.row st.n))),upd st.ob st.n (.row e q [] 2),st.n+1⟩ else st
   |some (.row k)=>match st.ob k with
    |.row e q xs _=>⟨upd st.sl m.2.1 (.p ag (cs.set m.2.2 (.c (.sl e q xs)))),upd st.ob k (.row e q xs 0),st.n⟩
    |_=>st
   |_=>st
  |_=>st
 |true=>match st.ob m.2.1 with
  |.box ty cs=>match cs[m.2.2]? with
   |some (.nil e q)=>if 0<q then ⟨st.sl,upd (upd st.ob m.2.1 (.box ty (cs.set m.2.2 (.row st.n)))) st.n (.row e q [] 2),st.n+1⟩ else st
   |some (.row k)=>match st.ob k with
    |.row e q xs _=>⟨st.sl,upd (upd st.ob k (.row e q xs 0)) m.2.1 (.box ty (cs.set m.2.2 (.c (.sl e q xs)))),st.n⟩
    |_=>st
   |_=>st
  |.row e q xs d=>if m.2.2<d then ⟨st.sl,upd st.ob m.2.1 (.row e q xs m.2.2),st.n⟩ else st
  |_=>st
def St.matN (st:St) (m:Bool×Nat×Nat):St:=
 match st.sl m.2.1 with
 |.p ag cs=>match cs[m.2.2 - 4096]? with
  |some (.row k)=>match st.ob k with
   |.row e q xs d=>if d=2 then ⟨upd st.sl m.2.1 (.p ag (cs.set (m.2.2 - 4096) (.n (.sl e q xs)))),upd st.ob k (.row e q xs 0),st.n⟩ else st
   |_=>st
  |_=>st
 |_=>st
def St.mats (st:St):List (Bool×Nat×Nat)->St
 | []=>st
 |m::r=>(if m.1=false/\4096<=m.2.2 then st.matN m else st.mat m).mats r
/- no slice and no text is longer than Go allows, at any depth -/
mutual
def ctD:CT->Prop
 |.sl _ _ xs=>xs.length<=9223372036854775807/\essD xs
 |.pt es=>ctsD es
 |.fn _ es=>ctsD es
 |.str s=>s.size<=9223372036854775807
 |_=>True
def ctsD:List CT->Prop
 | []=>True
 |x::r=>ctD x/\ctsD r
def essD:List (List CT)->Prop
 | []=>True
 |e::r=>ctsD e/\essD r
end
def avD:AV->Prop
 |.c x=>ctD x
 |.n x=>ctD x
 |_=>True
def Zwe:List AV->Prop
 | []=>True
 |x::r=>avD x/\Zwe r
structure WF (st:St):Prop where
 sl:∀t a cs,st.sl t=.p a cs->Zwe cs
 box:∀k t cs,st.ob k=.box t cs->Zwe cs
 row:∀k e m xs d,st.ob k=.row e m xs d->xs.length<=9223372036854775807/\essD xs
theorem Ztq {α:Type}{g:α->List CT}:∀{l:List α}{i:Nat}{x:α},essD (l.map g)->l[i]?=some x->ctsD (g x)
 | [],_,_,_,h=>by simp at h
 |_::_,0,_,h,e=>by simp at e;subst e;exact h.1
 |_::_,i+1,_,h,e=>Ztq h.2 (by simpa using e)
def Zkr (F:(Ex->St->Prop)->St->Prop) (Q:Ex->St->Prop):Nat->St->Prop
 |0,_=>False
 |n+1,st=>∃(ms:List (Bool×Nat×Nat)) (ρ:List Nat),ρ.Nodup/\(WF ((st.mats ms).ren ρ)->F (Zgy (Zkr F Q n) Q) ((st.mats ms).ren ρ))
def ldB:SV->Bool
 |.bp k _=>!decide (k=0)
 |.rp k _ _ _=>!decide (k=0)
 |_=>true
def hdB:SV->Bool
 |.bp k _=>decide (k=0)
 |_=>false
def hdC (n:Nat) (x:Option Operand) (st:St):Bool:=match n with
 |1=>match x with|some x=>hdB (st.ev tt 0 x)|none=>false
 |_=>true
def slB:SV->Bool
 |.p false [.c _]=>true
 |_=>false
def orB:Bool->Bool->Bool
 |true,_=>true
 |false,b=>b
def alO (s:Nat):Op->Option Nat->Bool->Bool
 |.alloc _,some d,b=>orB (decide (d=s)) b
 |_,_,b=>b
def alN (s:Nat):List Oper->Bool
 | []=>false
 |o::r=>alO s o.op o.dst (alN s r)
def stX (all:List Oper):Operand->Bool
 |.tmp s=>alN s all
 |_=>false
def Yy (all:List Oper):Op->Bool
 |.store _ x _=>stX all x
 |_=>false
def Zmd (all:List Oper):List Oper->Bool
 | []=>false
 |o::r=>orB (Yy all o.op) (Zmd all r)
def ldN (n:Nat):SV->Bool
 |.bp k _=>decide (k<n)
 |_=>true
def stB (n:Nat):SV->Bool
 |.bp k _=>decide (n<=k)
 |_=>false
def ldX:Bool->Nat->SV->Bool
 |true,n,v=>ldN n v
 |false,_,v=>ldB v
def stY:Bool->Nat->SV->Bool
 |true,n,v=>stB n v
 |false,_,_=>true
def stk (all:List Oper) (o:Op) (st:St):Bool:=match o with
 |.load _ x=>ldX (Zmd all all) st.n (st.ev tt 0 x)
 |.store _ x _=>stY (stX all x) st.n (st.ev tt 0 x)
 |.slice _ x _ _ _=>slB (st.ev tt 0 x)
 |o=>match YG o with|some c=>hdC tt (S.hd c.1) c.2.2.head? st|none=>true
def ifB (b:Bool) (c:Bool) (P:Prop):Prop:=match b with
 |true=>c=true/\P
 |false=>P
def ZfP (b:Bool) (all:List Oper) (base:Nat):List Nat->(St->Prop)->St->Prop
 | [],K,st=>K st
 |i::r,K,st=>match all[i]? with
  |some o=>ifB b (stk tt S all o.op st) (opG tt S all (base+16*i) o (ZfP b all base r K) st)
  |none=>ZfP b all base r K st
def Zsg (od:Option (List Nat×Bool)) (ops:List Oper) (K:St->Prop) (st:St):Prop:=match od with
 |none=>Zx1 tt S ops K st
 |some l=>ZfP tt S l.2 ops st.n l.1 (ZoX (st.n+16*ops.length) K) st
abbrev OD:=Nat->Option (List Nat×Bool)
def swp (od:OD):Code->(Ex->St->Prop)->St->Prop
 |.skip,Q,st=>Q .normal st
 |.region id ops _,Q,st=>Zsg tt S (od id) ops.toList (Q .normal) st
 |.seq a b,Q,st=>swp od a (Zgy (swp od b Q) Q) st
 |.cond c a b,Q,st=>Zou (st.ev tt 0 c) (swp od a Q st) (swp od b Q st)
 |.block id b,Q,st=>swp od b (ZgP id Q) st
 |.loop b,Q,st=>∃n,Zkr (swp od b) Q n st
 |.exit id,Q,st=>Q (.exit id) st
 |.ret,Q,st=>Q .ret st
 |_,_,_=>False
end
def Zfz (st:St):AV->Option ((Bool×CT)×List Nat)
 |.c (.sl e m xs)=>some ((true,.sl e m xs),[])
 |.c (.int k n)=>some ((false,.int k n),[])
 |.c (.bool b)=>some ((false,.bool b),[])
 |.c (.str s)=>some ((false,.str s),[])
 |.nil e m=>if 0<m then some ((false,.sl e m []),[]) else none
 |.c (.ifc x)=>some ((false,.ifc x),[])
 |.c x=>some ((true,x),[])
 |.row k=>match st.ob k with | .row e m xs d=>(if d=2 then some ((false,.sl e m xs),[k]) else some ((true,.sl e m xs),[])) | .map kk vk kv=>some ((true,.mp kk vk kv),[])|_=>none
 |.n x=>some ((true,x),[])
 |.dead=>some ((true,.any),[])
def Zdj (st:St):List AV->Option (List (Bool×CT)×List Nat)
 | []=>some ([],[])
 |x::r=>(Zfz st x).bind fun a=>(Zdj st r).map fun b=>(a.1::b.1,a.2++b.2)
def Zb5 (tt:Nat->Option TI) (st:St):List ResultVar->Option (List RT×List Nat)
 | []=>some ([],[])
 |.tmp t::r=>match st.sl t with
  |.p a cs=>(Zdj st cs).bind fun x=>(Zb5 tt st r).map fun b=>((a,x.1)::b.1,x.2++b.2)
  |_=>none
 |.cell t ty::r=>match Qb st (tt ty) (st.sl t) with
  |some (.p a cs)=>(Zdj st cs).bind fun x=>(Zb5 tt st r).map fun b=>((a,x.1)::b.1,x.2++b.2)
  |_=>none
def Ztz:CT->Bool
 |.any=>true
 |.int _ _=>false
 |.bool _=>false
 |.str _=>false
 |.sl _ _ _=>false
 |.pt _=>false
 |.fn _ _=>false
 |.mp _ _ _=>false
 |.ifc _=>false
 |.nl _ _=>false
def wk1 (x y:Bool×CT) (R:Prop):Prop:=if Ztz y.2=true then R else x.2=y.2/\(x.1=y.1\/y.1=true)/\R
def wkC:List (Bool×CT)->List (Bool×CT)->Prop
 | [],[]=>True
 |x::r,y::q=>wk1 x y (wkC r q)
 |_,_=>False
def wkR:List RT->List RT->Prop
 | [],[]=>True
 |x::r,y::q=>x.1=y.1/\wkC x.2 y.2/\wkR r q
 |_,_=>False
def Zq (args:List (Bool×List CT)):St:=⟨fun t=>match args[t]? with|some x=>.p x.1 (x.2.map Zpv)|none=>.und,fun _=>.gone,0⟩
def Zp2 (tt:Nat->Option TI) (rs:List ResultVar) (R:St->List RT->List Nat->Prop):Ex->St->Prop
 |.exit _,_=>False
 |_,st=>match Zb5 tt st rs with|some x=>x.2.Nodup/\R st x.1 x.2|none=>False
def fnS (od:OD) (tt:Nat->Option TI) (S:Ctx) (rs:List ResultVar) (body:Code) (args:List (Bool×List CT)) (res:List RT):Prop:=swp tt S od body (Zp2 tt rs fun _ r _=>wkR r res) (Zq args)
def Zxp (st:St) (ks:List Nat) (h':ZlT):Prop:=
 match h' with
 |.row e m xs=>∃k,st.sl 0=.p false [.row k]/\st.ob k=.row e m xs 2/\Zbj xs=true/\k∉ks
 |.box t cs=>∃k ds,st.sl 0=.bp k 0/\st.ob k=.box t ds/\ds.all ZcD=true/\YI st ds=some cs
def Ze8 (t:Nat) (cs:List (Bool×CT)) (gv:Option (Bool×List (Bool×CT))) (args:List (Bool×List CT)):St:=⟨fun s=>match s with|0=>.bp 0 0|s+1=>(match gv with|none=>(match args[s]? with|some x=>.p x.1 (x.2.map .c)|none=>.und)|some g=>(match s with|0=>.p g.1 ((ZA 1 (cs++g.2)).1.drop cs.length)|s+1=>(match args[s]? with|some x=>.p x.1 (x.2.map .c)|none=>.und))),fun k=>if k=0 then .box t ((ZA 1 (cs++gvC gv)).1.take cs.length) else Zh (fun _=>.gone) (ZA 1 (cs++gvC gv)).2.1 k,(ZA 1 (cs++gvC gv)).2.2⟩
def ZoI (gv:Bool×List (Bool×CT)) (args:List (Bool×List CT)):St:=⟨fun s=>match s with|0=>.p gv.1 (ZA 0 gv.2).1|s+1=>(match args[s]? with|some x=>.p x.1 (x.2.map .c)|none=>.und),fun k=>Zh (fun _=>.gone) (ZA 0 gv.2).2.1 k,(ZA 0 gv.2).2.2⟩
def fnG (od:OD) (tt:Nat->Option TI) (S:Ctx) (rs:List ResultVar) (body:Code) (gv:Bool×List (Bool×CT)) (args:List (Bool×List CT)) (res:List RT):Prop:=swp tt S od body (Zp2 tt rs fun _ r _=>wkR r res) (ZoI gv args)
def opO (st:St) (t:Nat) (cs:List (Bool×CT)):Ob->Prop
 |.box t' ds=>t'=t/\(match YC st ds with|some x=>x.2.Nodup/\x.1=cs|none=>False)
 |_=>False
def opB (st:St) (t:Nat) (cs:List (Bool×CT)):SV->Prop
 |.bp k 0=>opO st t cs (st.ob k)
 |_=>False
def fnO (od:OD) (tt:Nat->Option TI) (S:Ctx) (rs:List ResultVar) (body:Code) (t:Nat) (cs:List (Bool×CT)) (gv:Option (Bool×List (Bool×CT))) (args:List (Bool×List CT)) (res:List RT) (cs':List (Bool×CT)):Prop:=swp tt S od body (Zp2 tt rs fun st r ks=>wkR r res/\ks=[]/\opB st t cs' (st.sl 0)) (Ze8 t cs gv args)
theorem Zzg {st:St}{t k:Nat}{cs:List (Bool×CT)}:opB st t cs (.bp k 0)=opO st t cs (st.ob k):=yi rfl
theorem ZxH {st:St}{t t':Nat}{cs:List (Bool×CT)}{ds:List AV}:opO st t cs (.box t' ds)=(t'=t/\(match YC st ds with|some x=>x.2.Nodup/\x.1=cs|none=>False)):=yi rfl
theorem ZyN {st:St}{t:Nat}{cs:List (Bool×CT)}{v:SV}(h:opB st t cs v):∃k ds ks,v=.bp k 0/\st.ob k=.box t ds/\YC st ds=some (cs,ks)/\ks.Nodup:=by
 unfold opB at h
 split at h
 .rename_i k
  unfold opO at h
  split at h
  .rename_i t' ds hk
   obtain ⟨rfl,h⟩:=h
   split at h
   .rename_i x hx
    obtain ⟨h1,h2⟩:=h
    exact ⟨k,ds,x.2,rfl,hk,by rw [hx,<-h2],h1⟩
   .exact h.elim
  .exact h.elim
 .exact h.elim
def ZiU (st:St) (rs:List ResultVar) (nb:NB):Prop:=
 match rs with
 | [.tmp s]=>(match nb with
  |.box t cs=>∃k ds,st.sl s=.bp k 0/\st.ob k=.box t ds/\ds.all ZcD=true/\YI st ds=some cs
  |.map kk vk kv=>∃k,st.sl s=.p false [.row k]/\st.ob k=.map kk vk kv)
 |_=>False
def ZC9 (rs:List ResultVar) (nb:NB):Ex->St->Prop
 |.exit _,_=>False
 |_,st=>ZiU st rs nb
def hbO (st:St) (t:Nat) (cs:List CT):Ob->Prop
 |.box t' ds=>t'=t/\ds.all ZcD=true/\YI st ds=some cs
 |_=>False
def hbS (st:St) (t:Nat) (cs:List CT):SV->Prop
 |.bp k 0=>hbO st t cs (st.ob k)
 |_=>False
theorem ZtN {st:St}{t:Nat}{cs:List CT}{v:SV}:hbS st t cs v↔∃k ds,v=.bp k 0/\st.ob k=.box t ds/\ds.all ZcD=true/\YI st ds=some cs:=by
 constructor
 .intro h
  unfold hbS at h
  split at h
  .rename_i k
   unfold hbO at h
   split at h
   .rename_i t' ds hk
    obtain ⟨rfl,h2,h3⟩:=h
    exact ⟨k,ds,rfl,hk,h2,h3⟩
   .exact h.elim
  .exact h.elim
 .rintro ⟨k,ds,rfl,h1,h2,h3⟩
  show hbO st t cs (st.ob k)
  rw [h1]
  exact ⟨rfl,h2,h3⟩
theorem Zps {st:St}{ks:List Nat}{t:Nat}{cs:List CT}:Zxp st ks (.box t cs)=hbS st t cs (st.sl 0):=propext ZtN.symm
theorem ZrE {st:St}{s t:Nat}{cs:List CT}:ZiU st [.tmp s] (.box t cs)=hbS st t cs (st.sl s):=propext ZtN.symm
def mbO (kk vk:PK) (kv:List (Value×Value)):Ob->Prop
 |.map kk' vk' kv'=>kk'=kk/\vk'=vk/\kv'=kv
 |_=>False
def mbS (st:St) (kk vk:PK) (kv:List (Value×Value)):SV->Prop
 |.p false [.row k]=>mbO kk vk kv (st.ob k)
 |_=>False
theorem Zx0 {st:St}{kk vk:PK}{kv:List (Value×Value)}{v:SV}:mbS st kk vk kv v↔∃k,v=.p false [.row k]/\st.ob k=.map kk vk kv:=by
 constructor
 .intro h
  unfold mbS at h
  split at h
  .rename_i k
   unfold mbO at h
   split at h
   .rename_i a b c hk
    obtain ⟨rfl,rfl,rfl⟩:=h
    exact ⟨k,rfl,hk⟩
   .exact h.elim
  .exact h.elim
 .rintro ⟨k,rfl,h1⟩
  show mbO kk vk kv (st.ob k)
  rw [h1]
  exact ⟨rfl,rfl,rfl⟩
theorem ZqE {st:St}{s:Nat}{kk vk:PK}{kv:List (Value×Value)}:ZiU st [.tmp s] (.map kk vk kv)=mbS st kk vk kv (st.sl s):=propext Zx0.symm
theorem ZxJ {st:St}{k:Nat}{kk vk:PK}{kv:List (Value×Value)}:mbS st kk vk kv (.p false [.row k])=mbO kk vk kv (st.ob k):=yi rfl
theorem Zyo {kk vk a b:PK}{kv c:List (Value×Value)}:mbO kk vk kv (.map a b c)=(a=kk/\b=vk/\c=kv):=yi rfl
theorem ZBF {st:St}{t k:Nat}{cs:List CT}:hbS st t cs (.bp k 0)=hbO st t cs (st.ob k):=yi rfl
theorem Zyb {st:St}{t t':Nat}{cs:List CT}{ds:List AV}:hbO st t cs (.box t' ds)=(t'=t/\ds.all ZcD=true/\YI st ds=some cs):=yi rfl
theorem ZvT {rs:List ResultVar}{nb:NB}{st:St}:ZC9 rs nb .ret st=ZiU st rs nb:=yi rfl
theorem Zu0 {rs:List ResultVar}{nb:NB}{st:St}:ZC9 rs nb .normal st=ZiU st rs nb:=yi rfl
def Zzb (k:Nat):Ob->AV
 |.row _ _ _ d=>if d=2 then .row k else .dead
 |.gone=>.dead
 |.box _ _=>.dead
 |.map _ _ _=>.dead
def ZvM (st:St):AV->AV
 |.c (.int k n)=>.c (.int k n)
 |.c (.bool b)=>.c (.bool b)
 |.c (.str s)=>.c (.str s)
 |.row k=>Zzb k (st.ob k)
 |_=>.dead
def Zy7 (st:St):SV->SV
 |.p ag cs=>.p ag (cs.map (ZvM st))
 |.bp k off=>.bp k off
 |_=>.any
def Zy4 (st:St):Ob->Ob
 |.row e m xs d=>if d=2 then .row e m xs d else .gone
 |.gone=>.gone
 |.box t cs=>.box t (cs.map (ZvM st))
 |.map _ _ _=>.gone
def ZwW (st:St) (t:Nat):SV->St
 |.p false [.n (.sl e m xs)]=>⟨fun s=>if s=t then .p false [.row st.n] else Zy7 st (st.sl s),fun k=>if k=st.n then .row e m xs 2 else Zy4 st (st.ob k),st.n+1⟩
 |_=>st
def St.thaw (st:St) (t:Nat):St:=ZwW st t (st.sl t)
def ZER (t:Nat) (Q:Ex->St->Prop):Ex->St->Prop
 |e,st=>Q e (st.thaw t)
theorem Zyu (sl:Nat->SV) (ob:Nat->Ob) (n t:Nat):St.thaw ⟨sl,ob,n⟩ t=ZwW ⟨sl,ob,n⟩ t (sl t):=yi rfl
theorem ZyO (t:Nat) (Q:Ex->St->Prop) (e:Ex) (st:St):ZER t Q e st=Q e (st.thaw t):=yi rfl
end
section
section
variable {tt:Nat->Option TI} {S:Ctx} {all:List Oper} {key:Nat} {d:Option Nat} {ty:TypeId} {pos:String} {af:Array Edge} {r:List Oper} {K:St->Prop} {st:St}
theorem ZAa:Z4 tt S all key [] K st=K st:=yi rfl
theorem Zyh (x:Operand):Z4 tt S all key (⟨d,.move x,ty,pos,af,none⟩::r) K st=Z4 tt S all (key+16) r K (st.put d (st.ev tt ty x)):=yi rfl
theorem Zu3 (x:Operand):Z4 tt S all key (⟨d,.assign x,ty,pos,af,none⟩::r) K st=Z4 tt S all (key+16) r K (st.put d (st.ev tt ty x)):=yi rfl
def ZoG (v a b:SV) (K:SV->Prop):Prop:=if Zam v=true then (if X8 v=true then K a else K b) else False
theorem ZEl (a b:SV) (K:SV->Prop):ZoG (.p false [.c (.bool true)]) a b K=K a:=by simp [ZoG,Zam,X8]
theorem ZEU (a b:SV) (K:SV->Prop):ZoG (.p false [.c (.bool false)]) a b K=K b:=by simp [ZoG,Zam,X8]
theorem ZyQ (c a b:Operand):Z4 tt S all key (⟨d,.pick c a b,ty,pos,af,none⟩::r) K st=ZoG (st.ev tt 0 c) (st.ev tt ty a) (st.ev tt ty b) (ZhG d (Z4 tt S all (key+16) r K) st):=by
 simp only[Z4,opG,ZaZ,opS,YG,Xf,opE,ZoG]
 generalize st.ev tt 0 c=v
 unfold Zam
 split
 .simp only[X8,Ye,if_true]
  split<;>simp [ZkY,ZhG,St.app,Zh, *]
 .simp [Ye]
theorem Zws (t:TypeId):Z4 tt S all key (⟨d,.alloc t,ty,pos,af,none⟩::r) K st=Ye ((Zmy (tt t)).map fun z=>(SV.bp key 0,[(key,Ob.box t z)])) (ZkY d (Z4 tt S all (key+16) r K) st):=yi rfl
def ZD2 (key:Nat) (t:TypeId):SV->Option (SV×List (Nat×Ob))
 |.p _ cs=>some (.bp key 0,[(key,.box t cs)])
 |_=>none
theorem ZAq (t:TypeId) (x:Operand):Z4 tt S all key (⟨d,.box t x,ty,pos,af,none⟩::r) K st=Ye (ZD2 key t (st.ev tt t x)) (ZkY d (Z4 tt S all (key+16) r K) st):=yi rfl
def Zsw (tt:Nat->Option TI) (st:St) (parts:List (Nat×Operand)):Option TI->Option SV
 |some (.strct fs _ z)=>(ZiV fs z (parts.map (Zgg tt st fs z))).map (.p true)
 |_=>none
theorem Zbc (v:Option SV):Ye (Zbt v) (ZkY d K st)=Ye v (ZhG d K st):=by cases v<;>rfl
theorem Zwq (t:TypeId) (a:Array (Nat×Operand)):Z4 tt S all key (⟨d,.build t a,ty,pos,af,none⟩::r) K st=Ye (Zsw tt st a.toList (tt t)) (ZhG d (Z4 tt S all (key+16) r K) st):=by
 rw [<-Zbc]
 simp only[Z4,opG,ZaZ,opS,YG,Xf,opE,Zsw]
 cases tt t with
 |none=>rfl
 |some ti=>cases ti<;>first|rfl|(simp [Zbt,Option.map_map];rfl)
def ZA7 (st:St) (key len:Nat) (is:List Nat) (xs:List SV) (e:Nat):Option TI->Option (SV×List (Nat×Ob))
 |some (.slice _ m _ z)=>(Y6 st m xs).bind fun a=>if is=List.range len/\len*m<=16777216/\a.2.1.Nodup/\(!z.all ZjT||a.2.1.isEmpty)=true then some (.p false [.row key],ZI st a.2.1++[(key,.row e m a.1 a.2.2)]) else none
 |_=>none
def Zpo:Option TI->Nat
 |some (.slice e _ _ _)=>e
 |_=>0
theorem ZAi (t:TypeId) (len:Nat) (a:Array (Nat×Operand)):Z4 tt S all key (⟨d,.buildSlice t len a,ty,pos,af,none⟩::r) K st=Ye (ZA7 st key len (a.toList.map (·.1)) (a.toList.map fun p=>st.ev tt (Zpo (tt t)) p.2) (Zpo (tt t)) (tt t)) (ZkY d (Z4 tt S all (key+16) r K) st):=by
 simp only[Z4,opG,ZaZ,opS,YG,Xf,opE,ZA7,Zpo]
 cases tt t with
 |none=>rfl
 |some ti=>cases ti<;>rfl
theorem Zx2 (t:TypeId) (x:Operand):Z4 tt S all key (⟨d,.load t x,ty,pos,af,none⟩::r) K st=Ye (Qb st (tt t) (st.ev tt 0 x)) (ZhG d (Z4 tt S all (key+16) r K) st):=Zbc _
def ZAr (d:Option Nat) (K:St->Prop) (st:St) (u:List (Nat×Ob)):Prop:=K ((st.put d .und).app u)
theorem Zv8 (t:TypeId) (x v:Operand):Z4 tt S all key (⟨d,.store t x v,ty,pos,af,none⟩::r) K st=Ye (Zf6 st (tt t) (st.ev tt 0 x) (st.ev tt t v)) (ZAr d (Z4 tt S all (key+16) r K) st):=by
 simp only[Z4,opG,ZaZ,opS,YG,Xf,opE]
 cases Zf6 st (tt t) (st.ev tt 0 x) (st.ev tt t v)<;>rfl
def ZBu:SV->Option SV
 |.bp k i=>some (.bp k i)
 |.rp k m i j=>some (.rp k m i j)
 |.ep e i=>some (.ep e i)
 |.p false [.c (.pt e)]=>some (.p false [.c (.pt e)])
 |_=>none
theorem ZAv (x:Operand):Z4 tt S all key (⟨d,.nilCheck x,ty,pos,af,none⟩::r) K st=Ye (ZBu (st.ev tt 0 x)) (ZhG d (Z4 tt S all (key+16) r K) st):=by
 simp only[Z4,opG,ZaZ,opS,YG,Xf,opE,<-Zbc,ZBu]
 generalize st.ev tt 0 x=v
 cases v with
 |p ag cs=>cases ag with
  |true=>rfl
  |false=>cases cs with
   |nil=>rfl
   |cons y r=>cases r<;>cases y<;>first|rfl|(rename_i z;cases z<;>rfl)|(rename_i z _ _;cases z<;>rfl)
 |_=>rfl
theorem Zzz (op:BinOp) (t u:TypeId) (x y:Operand):Z4 tt S all key (⟨d,.binOp op t x y u,ty,pos,af,none⟩::r) K st=Ye (Zw1 tt t (ZjX y) op (st.ev tt t x) (st.ev tt t y)) (ZhG d (Z4 tt S all (key+16) r K) st):=Zbc _
theorem ZCU (op:UnOp) (t:TypeId) (x:Operand):Z4 tt S all key (⟨d,.unOp op t x,ty,pos,af,none⟩::r) K st=Ye (unV op (st.ev tt 0 x)) (ZhG d (Z4 tt S all (key+16) r K) st):=Zbc _
theorem ZyJ (s t:TypeId) (x:Operand):Z4 tt S all key (⟨d,.convert s t x,ty,pos,af,none⟩::r) K st=Ye (ZgO tt st s t (st.ev tt 0 x)) (ZhG d (Z4 tt S all (key+16) r K) st):=Zbc _
theorem Zyt (t:TypeId) (n c:Operand):Z4 tt S all key (⟨d,.makeSlice t n c,ty,pos,af,none⟩::r) K st=Ye (ZqA key (tt t) (st.ev tt 0 n) (st.ev tt 0 c)) (ZkY d (Z4 tt S all (key+16) r K) st):=yi rfl
theorem ZwP (t:TypeId) (x:Operand) (lo hi:Option Operand):Z4 tt S all key (⟨d,.slice t x lo hi none,ty,pos,af,none⟩::r) K st=Ye (Q7 st key (tt t) (lo.map (st.ev tt 0)) (hi.map (st.ev tt 0)) (st.ev tt 0 x)) (ZkY d (Z4 tt S all (key+16) r K) st):=yi rfl
def ZBL (fs:Option TI) (f:Nat):Option Nat:=match fs with|some (.strct fs _ _)=>(fs[f]?).map FI.off|_=>none
def ZAZ (fs:Option TI) (f:Nat) (v:SV):Option SV:=(ZBL fs f).bind fun o=>Zke o v
theorem ZzS (t:TypeId) (x:Operand) (f:Nat):Z4 tt S all key (⟨d,.fieldAddr t x f,ty,pos,af,none⟩::r) K st=Ye (ZAZ (tt t) f (st.ev tt 0 x)) (ZhG d (Z4 tt S all (key+16) r K) st):=by
 rw [<-Zbc]
 simp only[Z4,opG,ZaZ,opS,YG,Xf,opE,ZAZ,ZBL]
 cases tt t with
 |none=>rfl
 |some ti=>cases ti<;>first|rfl|(simp only[Option.bind_map];rfl)
def ZAj (fs:Option TI) (f:Nat) (v:SV):Option SV:=match fs with|some (.strct fs _ _)=>Zmx fs f v|_=>none
theorem Zzt (t:TypeId) (x:Operand) (f:Nat):Z4 tt S all key (⟨d,.field t x f,ty,pos,af,none⟩::r) K st=Ye (ZAj (tt t) f (st.ev tt 0 x)) (ZhG d (Z4 tt S all (key+16) r K) st):=by
 rw [<-Zbc]
 simp only[Z4,opG,ZaZ,opS,YG,Xf,opE,ZAj]
 cases tt t with
 |none=>rfl
 |some ti=>cases ti<;>rfl
def Zzl (st:St) (t:Option TI) (x i:SV):Option SV:=match t with|some (.slice _ m _ _)=>QT st m x i|_=>none
theorem ZzR (t:TypeId) (x i:Operand):Z4 tt S all key (⟨d,.indexAddr t x i,ty,pos,af,none⟩::r) K st=Ye (Zzl st (tt t) (st.ev tt 0 x) (st.ev tt 0 i)) (ZhG d (Z4 tt S all (key+16) r K) st):=by
 rw [<-Zbc]
 simp only[Z4,opG,ZaZ,opS,YG,Xf,opE,Zzl]
 cases tt t with
 |none=>rfl
 |some ti=>cases ti<;>rfl
theorem Zzc (t:TypeId) (x i:Operand):Z4 tt S all key (⟨d,.index t x i,ty,pos,af,none⟩::r) K st=Ye (ZlX (tt t) (st.ev tt 0 x) (st.ev tt 0 i)) (ZhG d (Z4 tt S all (key+16) r K) st):=Zbc _
theorem ZBi (x:Operand) (i:Nat):Z4 tt S all key (⟨d,.extract x i,ty,pos,af,none⟩::r) K st=Ye (Zw3 i (st.ev tt 0 x)) (ZhG d (Z4 tt S all (key+16) r K) st):=Zbc _
theorem ZBO (b:Builtin) (args:Array Operand) (ts:Array TypeId):Z4 tt S all key (⟨d,.call ⟨.builtin b,args,ts⟩,ty,pos,af,none⟩::r) K st=Ye (ZfU tt st key b ts.toList (evs tt st ts.toList args.toList)) (ZkY d (Z4 tt S all (key+16) r K) st):=yi rfl
def ZDh (f:FuncId) (n:Nat) (st:St) (vs:List SV):Option (SV×List (Nat×Ob)):=if n=0 then (ZeI st vs).bind fun r=>if (r.2.map (·.1)).Nodup then some (.p false [.c (.fn f r.1)],r.2) else none else none
theorem ZAw (f:FuncId) (first a:Array Operand):Z4 tt S all key (⟨d,.makeFunc (.func f) first a,ty,pos,af,none⟩::r) K st=Ye (ZDh f first.size st (a.toList.map (st.ev tt 0))) (ZkY d (Z4 tt S all (key+16) r K) st):=yi rfl
theorem ZBH (t:TypeId):Z4 tt S all key (⟨d,.makeMap t none,ty,pos,af,none⟩::r) K st=Ye (Zn4 key (tt t)) (ZkY d (Z4 tt S all (key+16) r K) st):=yi rfl
theorem ZxY (t:TypeId) (x i:Operand) (ok:Bool):Z4 tt S all key (⟨d,.lookup t x i ok,ty,pos,af,none⟩::r) K st=Ye (Zg0 st (tt t) (st.ev tt 0 x) (st.ev tt 0 i) ok) (ZhG d (Z4 tt S all (key+16) r K) st):=Zbc _
theorem ZzY (t:TypeId) (x i v:Operand):Z4 tt S all key (⟨d,.mapUpdate t x i v,ty,pos,af,none⟩::r) K st=Ye (Zum st (tt t) (st.ev tt 0 x) (st.ev tt 0 i) (st.ev tt 0 v)) (ZAr d (Z4 tt S all (key+16) r K) st):=by
 simp only[Z4,opG,ZaZ,opS,YG,Xf,opE]
 cases Zum st (tt t) (st.ev tt 0 x) (st.ev tt 0 i) (st.ev tt 0 v)<;>rfl
theorem ZA1 (s:Nat) (args:Array Operand) (ts:Array TypeId):Z4 tt S all key (⟨d,.call ⟨.value (.tmp s),args,ts⟩,ty,pos,af,none⟩::r) K st=Ye (Zon (st.sl s)) (ZBk S key d (Z4 tt S all (key+16) r K) st (evs tt st ts.toList args.toList)):=yi rfl
theorem ZyP (vs:List SV) (f:FuncId) (es:List CT):ZBk S key d K st vs (f,es)=(S.hd f=0/\spK S f 0 key d K st (vs++es.map ZkF)):=yi rfl
theorem ZxN (f:FuncId) (args:Array Operand) (ts:Array TypeId):Z4 tt S all key (⟨d,.call ⟨.value (.func f),args,ts⟩,ty,pos,af,none⟩::r) K st=spK S f (S.hd f) key d (Z4 tt S all (key+16) r K) st (evs tt st ts.toList args.toList):=yi rfl
theorem ZEu (f:FuncId) (vs:List SV):spK S f 0 key d K st vs=Ye (ZU st vs) (Zry S f key d K st vs):=yi rfl
theorem ZE7 (f:FuncId) (v:SV) (vs:List SV):spK S f 1 key d K st (v::vs)=Ye (Zf8 st v) fun kh=>Ye (ZU st vs) (ZvS S f key d K st vs kh):=yi rfl
theorem ZD9 (f:FuncId) (vs:List SV):spK S f 3 key d K st vs=Ye (ZU st vs) (ZCW S f key d K st vs):=yi rfl
theorem ZEM (f:FuncId) (vs:List SV):spK S f 4 key d K st vs=Ye (ZU st (vs.map nlS)) (Zry S f key d K st (vs.map nlS)):=yi rfl
theorem ZEk (f:FuncId) (v:SV) (vs:List SV):spK S f 5 key d K st (v::vs)=Ye (Zdn st v) fun kh=>Ye (Zic st (vs.take 0)) fun gh=>Ye (ZU st (vs.drop 0)) (Zuk S f key d K st (vs.drop 0) kh gh):=yi rfl
theorem ZEG (f:FuncId) (v u:SV) (vs:List SV):spK S f 6 key d K st (v::u::vs)=Ye (Zdn st v) fun kh=>Ye (Zic st [u]) fun gh=>Ye (ZU st vs) (Zuk S f key d K st vs kh gh):=yi rfl
theorem ZD7 (f:FuncId) (v:SV) (vs:List SV):spK S f 7 key d K st (v::vs)=Ye (Zic st [v]) fun gh=>Ye (ZU st vs) (ZsY S f key d K st vs gh):=yi rfl
theorem ZEh (f:FuncId) (vs:List SV):spK S f 2 key d K st vs=Ye (ZU st vs) (ZBm S f key d K st vs):=yi rfl
def gOf (all:List Oper) (j:Nat):Option Nat:=(all[j]?).bind (·.dst)
def gL (tt:Nat->Option TI) (S:Ctx) (all:List Oper) (key:Nat) (v:SV) (w:Bool) (o:Oper) (r:List Oper) (K:St->Prop) (st:St):Prop:=gK v w (Z4 tt S all key (o::r) K st) (Z4 tt S all (key+16) r K (st.put o.dst .und))
def Zrz (st:St):Option Nat->SV
 |some t=>st.sl t
 |none=>.und
theorem Zsq (sl:Nat->SV) (ob:Nat->Ob) (n t:Nat):Zrz ⟨sl,ob,n⟩ (some t)=sl t:=yi rfl
theorem ZsS:Zrz st none=.und:=yi rfl
theorem ZvN (op:Op) (j:Nat) (w:Bool):Z4 tt S all key (⟨d,op,ty,pos,af,some (j,w)⟩::r) K st=gL tt S all key (Zrz st (gOf all j)) w ⟨d,op,ty,pos,af,none⟩ r K st:=by
 cases hg:gOf all j with
 |none=>
  have h:ZaZ all ⟨d,op,ty,pos,af,some (j,w)⟩=some (none,w):=by simp only[ZaZ];rw [show (all[j]?).bind (·.dst)=none from hg]
  simp only[Z4,opG,h,gL,Zrz]
  simp [gK,Zam,Zp9]
 |some t=>
  have h:ZaZ all ⟨d,op,ty,pos,af,some (j,w)⟩=some (some t,w):=by simp only[ZaZ];rw [show (all[j]?).bind (·.dst)=some t from hg]
  simp only[Z4,opG,h,gL,Zrz]
  rfl
theorem ZCk (o:Oper):gL tt S all key (.p false [.c (.bool true)]) true o r K st=Z4 tt S all key (o::r) K st:=by simp [gL,gK,Zam,X8]
theorem ZCB (o:Oper):gL tt S all key (.p false [.c (.bool false)]) false o r K st=Z4 tt S all key (o::r) K st:=by simp [gL,gK,Zam,X8]
theorem ZDt (o:Oper):gL tt S all key (.p false [.c (.bool true)]) false o r K st=Z4 tt S all (key+16) r K (st.put o.dst .und):=by simp [gL,gK,Zam,X8]
theorem ZCr (o:Oper):gL tt S all key (.p false [.c (.bool false)]) true o r K st=Z4 tt S all (key+16) r K (st.put o.dst .und):=by simp [gL,gK,Zam,X8]
theorem Zzk (o:Oper) (w:Bool):gL tt S all key .und w o r K st=Z4 tt S all (key+16) r K (st.put o.dst .und):=by simp [gL,gK,Zam,Zp9]
theorem ZyW (v:SV):ZhG d K st v=K (st.put d v):=yi rfl
theorem ZyB (v:SV) (u:List (Nat×Ob)):ZkY d K st (v,u)=K ((st.put d v).app u):=yi rfl
theorem Zx9 (u:List (Nat×Ob)):ZAr d K st u=K ((st.put d .und).app u):=yi rfl
theorem ZuY {α:Type}(v:α) (K:α->Prop):Ye (some v) K=K v:=yi rfl
theorem Zul {α:Type}(K:α->Prop):Ye none K=False:=yi rfl
theorem ZxL (n m:Nat) (sl:Nat->SV) (ob:Nat->Ob):ZoX n K ⟨sl,ob,m⟩=K ⟨sl,ob,n⟩:=yi rfl
theorem ZxT (a:List Oper) (sl:Nat->SV) (ob:Nat->Ob) (n:Nat):Zx1 tt S a K ⟨sl,ob,n⟩=Z4 tt S a n a (ZoX (n+16*a.length) K) ⟨sl,ob,n⟩:=yi rfl
theorem Zwc (sl:Nat->SV) (ob:Nat->Ob) (n t:Nat) (v:SV):St.put ⟨sl,ob,n⟩ (some t) v=⟨upd sl t v,ob,n⟩:=yi rfl
theorem ZwT (v:SV):St.put st none v=st:=yi rfl
theorem ZxX (sl:Nat->SV) (ob:Nat->Ob) (n:Nat):St.app ⟨sl,ob,n⟩ []=⟨sl,ob,n⟩:=yi rfl
theorem Zxa (sl:Nat->SV) (ob:Nat->Ob) (n:Nat) (p:Nat×Ob) (u:List (Nat×Ob)):St.app ⟨sl,ob,n⟩ (p::u)=St.app ⟨sl,upd ob p.1 p.2,n⟩ u:=yi rfl
theorem Zzo (ob:Nat->Ob):Zh ob []=ob:=yi rfl
theorem ZxI (ob:Nat->Ob) (p:Nat×Ob) (r:List (Nat×Ob)):Zh ob (p::r)=Zh (upd ob p.1 p.2) r:=yi rfl
theorem ZAl {α:Type}(f:Nat->α) (k j:Nat) (v:α):upd f k v j=if j=k then v else f j:=yi rfl
end
section
variable {od:OD} {tt:Nat->Option TI} {S:Ctx} {Q:Ex->St->Prop} {st:St}
theorem ZyI:swp tt S od .skip Q st=Q .normal st:=yi rfl
theorem ZuK (id:Nat) (a:Array Oper) (dr:Bool):swp tt S (fun _=>none) (.region id a dr) Q st=Zx1 tt S a.toList (Q .normal) st:=yi rfl
def ZrS:List (Nat×List Nat×Bool)->OD
 | [],_=>none
 |p::r,i=>if i=p.1 then some p.2 else ZrS r i
theorem Zu (m:List (Nat×List Nat×Bool)) (id:Nat) (a:Array Oper) (dr:Bool):swp tt S (ZrS m) (.region id a dr) Q st=Zsg tt S (ZrS m id) a.toList (Q .normal) st:=yi rfl
theorem ZBA (i:Nat):ZrS [] i=none:=yi rfl
theorem Zyx (p:Nat×List Nat×Bool) (m:List (Nat×List Nat×Bool)) (i:Nat):ZrS (p::m) i=if i=p.1 then some p.2 else ZrS m i:=yi rfl
theorem ZxK (a:List Oper) (K:St->Prop):Zsg tt S none a K st=Zx1 tt S a K st:=yi rfl
theorem Zyg (l:List Nat) (b:Bool) (a:List Oper) (K:St->Prop) (sl:Nat->SV) (ob:Nat->Ob) (n:Nat):Zsg tt S (some (l,b)) a K ⟨sl,ob,n⟩=ZfP tt S b a n l (ZoX (n+16*a.length) K) ⟨sl,ob,n⟩:=yi rfl
def ZBT (tt:Nat->Option TI) (S:Ctx) (b:Bool) (all:List Oper) (key:Nat) (K:St->Prop) (st:St):Option Oper->Prop
 |some o=>ifB b (stk tt S all o.op st) (Z4 tt S all key [o] K st)
 |none=>K st
theorem ZB3 (b:Bool) (all:List Oper) (base:Nat) (K:St->Prop):ZfP tt S b all base [] K st=K st:=yi rfl
theorem ZxZ (b:Bool) (all:List Oper) (base i:Nat) (r:List Nat) (K:St->Prop):ZfP tt S b all base (i::r) K st=ZBT tt S b all (base+16*i) (ZfP tt S b all base r K) st (all[i]?):=by
 simp only[ZfP]
 cases all[i]?<;>rfl
theorem Zx8 (all:List Oper) (key:Nat) (K:St->Prop) (o:Oper):ZBT tt S true all key K st (some o)=ifB true (stk tt S all o.op st) (Z4 tt S all key [o] K st):=yi rfl
theorem Zx3 (all:List Oper) (key:Nat) (K:St->Prop) (o:Oper):ZBT tt S false all key K st (some o)=Z4 tt S all key [o] K st:=yi rfl
theorem ZDW (c:Bool) (P:Prop):ifB true c P=(c=true/\P):=yi rfl
theorem ZDQ (c:Bool) (P:Prop):ifB false c P=P:=yi rfl
theorem ZBv (a b:Code):swp tt S od (.seq a b) Q st=swp tt S od a (Zgy (swp tt S od b Q) Q) st:=yi rfl
def Zqv (tt:Nat->Option TI) (S:Ctx) (od:OD) (v:SV) (a b:Code) (Q:Ex->St->Prop) (st:St):Prop:=Zou v (swp tt S od a Q st) (swp tt S od b Q st)
theorem Zym (c:Operand) (a b:Code):swp tt S od (.cond c a b) Q st=Zqv tt S od (st.ev tt 0 c) a b Q st:=yi rfl
theorem ZEm (a b:Code):Zqv tt S od (.p false [.c (.bool true)]) a b Q st=swp tt S od a Q st:=by simp [Zqv,Zou,Zam,X8]
theorem ZE2 (a b:Code):Zqv tt S od (.p false [.c (.bool false)]) a b Q st=swp tt S od b Q st:=by simp [Zqv,Zou,Zam,X8]
theorem ZvW (id:Nat) (b:Code):swp tt S od (.block id b) Q st=swp tt S od b (ZgP id Q) st:=yi rfl
theorem Zx5 (id:Nat):swp tt S od (.exit id) Q st=Q (.exit id) st:=yi rfl
theorem Zz0:swp tt S od .ret Q st=Q .ret st:=yi rfl
theorem ZEn (k:St->Prop):Zgy k Q .normal st=k st:=yi rfl
theorem ZEd (k:St->Prop) (i:Nat):Zgy k Q (.exit i) st=Q (.exit i) st:=yi rfl
theorem ZE6 (k:St->Prop):Zgy k Q .ret st=Q .ret st:=yi rfl
theorem ZEq (i:Nat):ZgP i Q .normal st=Q .normal st:=yi rfl
theorem ZEo (i:Nat):ZgP i Q .ret st=Q .ret st:=yi rfl
theorem ZEA (i j:Nat):ZgP i Q (.exit j) st=if j=i then Q .normal st else Q (.exit j) st:=yi rfl
theorem ZAY (sl:Nat->SV) (ob:Nat->Ob) (n t s:Nat):St.ev tt ⟨sl,ob,n⟩ t (.tmp s)=sl s:=yi rfl
theorem ZvH (t:Nat) (v:Value):St.ev tt st t (.const v)=cvT (tt t) v:=yi rfl
theorem ZxM (t f:Nat):St.ev tt st t (.func f)=.fn f:=yi rfl
theorem ZEI (rs:List ResultVar) (R:St->List RT->List Nat->Prop):Zp2 tt rs R .ret st=match Zb5 tt st rs with|some x=>x.2.Nodup/\R st x.1 x.2|none=>False:=yi rfl
theorem ZEO (rs:List ResultVar) (R:St->List RT->List Nat->Prop):Zp2 tt rs R .normal st=match Zb5 tt st rs with|some x=>x.2.Nodup/\R st x.1 x.2|none=>False:=yi rfl
end
section
theorem ZxD (all:List Oper):∀a,Yy all (.move a)=false:=by intros;rfl
theorem Zxf (s:Nat) (d:Option Nat) (b:Bool):∀a,alO s (.move a) d b=b:=by intros;rfl
theorem ZsJ (all:List Oper):∀a,Yy all (.assign a)=false:=by intros;rfl
theorem Zsn (s:Nat) (d:Option Nat) (b:Bool):∀a,alO s (.assign a) d b=b:=by intros;rfl
theorem Zxu (all:List Oper):∀a b c,Yy all (.pick a b c)=false:=by intros;rfl
theorem ZvI (s:Nat) (d:Option Nat) (b:Bool):∀a c e,alO s (.pick a c e) d b=b:=by intros;rfl
theorem ZxV (all:List Oper):∀a b,Yy all (.box a b)=false:=by intros;rfl
theorem ZyZ (s:Nat) (d:Option Nat) (b:Bool):∀a c,alO s (.box a c) d b=b:=by intros;rfl
theorem Zvb (all:List Oper):∀a b,Yy all (.build a b)=false:=by intros;rfl
theorem Zu6 (s:Nat) (d:Option Nat) (b:Bool):∀a c,alO s (.build a c) d b=b:=by intros;rfl
theorem Zln (all:List Oper):∀a b c,Yy all (.buildSlice a b c)=false:=by intros;rfl
theorem ZmY (s:Nat) (d:Option Nat) (b:Bool):∀a c e,alO s (.buildSlice a c e) d b=b:=by intros;rfl
theorem Zsk (all:List Oper):∀a b c d,Yy all (.insert a b c d)=false:=by intros;rfl
theorem ZsF (s:Nat) (d:Option Nat) (b:Bool):∀a c e f,alO s (.insert a c e f) d b=b:=by intros;rfl
theorem ZxA (all:List Oper):∀a b,Yy all (.load a b)=false:=by intros;rfl
theorem ZwL (s:Nat) (d:Option Nat) (b:Bool):∀a c,alO s (.load a c) d b=b:=by intros;rfl
theorem ZuQ (all:List Oper):∀a,Yy all (.ready a)=false:=by intros;rfl
theorem ZuO (s:Nat) (d:Option Nat) (b:Bool):∀a,alO s (.ready a) d b=b:=by intros;rfl
theorem ZuX (all:List Oper):∀a,Yy all (.waits a)=false:=by intros;rfl
theorem Zu4 (s:Nat) (d:Option Nat) (b:Bool):∀a,alO s (.waits a) d b=b:=by intros;rfl
theorem Zpb (all:List Oper):∀a,Yy all (.nilCheck a)=false:=by intros;rfl
theorem ZoV (s:Nat) (d:Option Nat) (b:Bool):∀a,alO s (.nilCheck a) d b=b:=by intros;rfl
theorem ZuP (all:List Oper):∀a b c d e,Yy all (.binOp a b c d e)=false:=by intros;rfl
theorem ZuT (s:Nat) (d:Option Nat) (b:Bool):∀a c e f g,alO s (.binOp a c e f g) d b=b:=by intros;rfl
theorem ZwN (all:List Oper):∀a b c,Yy all (.unOp a b c)=false:=by intros;rfl
theorem Zwl (s:Nat) (d:Option Nat) (b:Bool):∀a c e,alO s (.unOp a c e) d b=b:=by intros;rfl
theorem ZqR (all:List Oper):∀a b c,Yy all (.convert a b c)=false:=by intros;rfl
theorem ZqF (s:Nat) (d:Option Nat) (b:Bool):∀a c e,alO s (.convert a c e) d b=b:=by intros;rfl
theorem Zfx (all:List Oper):∀a b,Yy all (.sliceToArrayPointer a b)=false:=by intros;rfl
theorem Zfp (s:Nat) (d:Option Nat) (b:Bool):∀a c,alO s (.sliceToArrayPointer a c) d b=b:=by intros;rfl
theorem Zi1 (all:List Oper):∀a b,Yy all (.makeInterface a b)=false:=by intros;rfl
theorem Zjf (s:Nat) (d:Option Nat) (b:Bool):∀a c,alO s (.makeInterface a c) d b=b:=by intros;rfl
theorem Zpz (all:List Oper):∀a b c,Yy all (.makeFunc a b c)=false:=by intros;rfl
theorem Zpd (s:Nat) (d:Option Nat) (b:Bool):∀a c e,alO s (.makeFunc a c e) d b=b:=by intros;rfl
theorem Zqu (all:List Oper):∀a b,Yy all (.makeMap a b)=false:=by intros;rfl
theorem ZqG (s:Nat) (d:Option Nat) (b:Bool):∀a c,alO s (.makeMap a c) d b=b:=by intros;rfl
theorem ZpS (all:List Oper):∀a b,Yy all (.makeChan a b)=false:=by intros;rfl
theorem ZpQ (s:Nat) (d:Option Nat) (b:Bool):∀a c,alO s (.makeChan a c) d b=b:=by intros;rfl
theorem ZnN (all:List Oper):∀a b c,Yy all (.makeSlice a b c)=false:=by intros;rfl
theorem Znt (s:Nat) (d:Option Nat) (b:Bool):∀a c e,alO s (.makeSlice a c e) d b=b:=by intros;rfl
theorem Zux (all:List Oper):∀a b c d e,Yy all (.slice a b c d e)=false:=by intros;rfl
theorem Zvu (s:Nat) (d:Option Nat) (b:Bool):∀a c e f g,alO s (.slice a c e f g) d b=b:=by intros;rfl
theorem ZnJ (all:List Oper):∀a b c,Yy all (.fieldAddr a b c)=false:=by intros;rfl
theorem ZnS (s:Nat) (d:Option Nat) (b:Bool):∀a c e,alO s (.fieldAddr a c e) d b=b:=by intros;rfl
theorem ZuW (all:List Oper):∀a b c,Yy all (.field a b c)=false:=by intros;rfl
theorem Zu5 (s:Nat) (d:Option Nat) (b:Bool):∀a c e,alO s (.field a c e) d b=b:=by intros;rfl
theorem Znq (all:List Oper):∀a b c,Yy all (.indexAddr a b c)=false:=by intros;rfl
theorem Znl (s:Nat) (d:Option Nat) (b:Bool):∀a c e,alO s (.indexAddr a c e) d b=b:=by intros;rfl
theorem Zvp (all:List Oper):∀a b c,Yy all (.index a b c)=false:=by intros;rfl
theorem Zuw (s:Nat) (d:Option Nat) (b:Bool):∀a c e,alO s (.index a c e) d b=b:=by intros;rfl
theorem ZwY (all:List Oper):∀a,Yy all (.call a)=false:=by intros;rfl
theorem Zxw (s:Nat) (d:Option Nat) (b:Bool):∀a,alO s (.call a) d b=b:=by intros;rfl
theorem ZsQ (all:List Oper):∀a b c d,Yy all (.lookup a b c d)=false:=by intros;rfl
theorem ZsC (s:Nat) (d:Option Nat) (b:Bool):∀a c e f,alO s (.lookup a c e f) d b=b:=by intros;rfl
theorem ZnF (all:List Oper):∀a b c d,Yy all (.mapUpdate a b c d)=false:=by intros;rfl
theorem ZnM (s:Nat) (d:Option Nat) (b:Bool):∀a c e f,alO s (.mapUpdate a c e f) d b=b:=by intros;rfl
theorem Zrg (all:List Oper):∀a b,Yy all (.extract a b)=false:=by intros;rfl
theorem Zqj (s:Nat) (d:Option Nat) (b:Bool):∀a c,alO s (.extract a c) d b=b:=by intros;rfl
theorem ZuJ (all:List Oper) (t:TypeId):Yy all (.alloc t)=false:=yi rfl
theorem Zvd (all:List Oper) (t:TypeId) (x v:Operand):Yy all (.store t x v)=stX all x:=yi rfl
theorem ZuZ (s:Nat) (d:Option Nat) (b:Bool) (t:TypeId) (x v:Operand):alO s (.store t x v) d b=b:=yi rfl
theorem Zvz (s d:Nat) (b:Bool) (t:TypeId):alO s (.alloc t) (some d) b=orB (decide (d=s)) b:=yi rfl
end
attribute [go_sem] ZxD Zxf ZsJ Zsn Zxu ZvI ZxV ZyZ Zvb Zu6 Zln ZmY Zsk ZsF ZxA ZwL ZuQ ZuO ZuX Zu4 Zpb ZoV ZuP ZuT ZwN Zwl ZqR ZqF Zfx Zfp Zi1 Zjf Zpz Zpd Zqu ZqG ZpS ZpQ ZnN Znt Zux Zvu ZnJ ZnS ZuW Zu5 Znq Znl Zvp Zuw ZwY Zxw ZsQ ZsC ZnF ZnM Zrg Zqj ZuJ Zvd ZuZ Zvz alN stX Zmd ldN stB ldX stY orB
attribute [go_sem] ZAa Zyh Zu3 ZyQ Zws ZAq Zwq ZAi Zx2 Zv8 ZAv Zzz ZCU ZyJ Zyt ZwP ZzS Zzt ZzR Zzc ZBi ZBO ZxN ZAw ZBH ZxY ZzY ZA1 ZyP ZDh Zn4 Zg0 Zrb Zum ZuL ZeG Ze3 ZeI Zjh Zjh.zBox Zon ZkF eqC Znr Zyq ZwO ZqX Zs2 ZjX ZBa Zxd Zv6 Zw1 Ze0 Zmp Zh5 ZpH ZgO ZvN ZyW ZyB Zx9 ZuY Zul ZxL ZxT Zwc ZwT ZxX Zxa ZAl Zzo ZxI ZyI ZuK ZxK Zyg ZB3 ZxZ Zx8 Zx3 ZBA Zyx ZDW ZDQ stk hdC ldB hdB YG List.head?_cons ZBv Zym ZvW Zx5 Zz0 ZEn ZEd ZE6 ZEq ZEo ZEA ZAY ZvH ZxM ZEI ZEO ZEl ZEU ZEm ZE2 ZCk ZCB ZDt ZCr Zzk Zsq ZsS ZD2 Zsw ZA7 Zpo ZjT List.all_cons List.all_nil List.isEmpty_nil Bool.true_or Bool.false_or Bool.or_true Bool.or_false Bool.false_and ZBu ZBL ZAZ ZAj Zzl gOf cvT Zmy Zyj Zyp ZyD unV ZqM ZnR QT ZlX cut Qb splice ZfN Zf6 Zmc Zke Zmx ZiV Zgg avT ZaU ZiO Zdc Y6 Yc ZfT ZfQ ZlK Zkm Zng ZvY ZlZ Q7 mvS hiB loB Zkh Zb6 Zdh ZqA Zw3 Zbt ZfU evs Zcb YI Zdr ZU ZiI ZEu ZE7 ZEh Zf8 ZdN ZcD Zhy Zdq Zcx Zii ZF Z6 ZI ZE4 ZDg wkC wkR Zps ZrE ZqE ZxJ Zyo ZBF Zyb ZvT Zu0 ZD9 ZEM ZEk ZEG ZD7 Zic gvC Zfi YC Zdn Zzg ZxH Zgm List.contains_cons List.contains_nil List.contains_eq_mem nlA nlS Zpv ZyO Zyu ZwW Zy7 ZvM Zzb Zy4 Ztz wk1 Zfz Zdj Zb5 Zx ZA Qr List.length_cons List.length_nil AH List.length_replicate List.getElem?_cons_zero List.getElem?_cons_succ List.getElem?_nil AE List.map_nil Ao Option.bind_none AJ Option.map_none Al List.nil_append Am AX Ae List.drop_succ_cons List.drop_nil List.take_succ_cons Ag List.take_nil Aj List.set_cons_succ List.range_zero Bool.and_true Bool.true_and Bool.and_self and_true true_and and_self Nat.zero_le AL beq_self_eq_true Option.getD_some ite_true ite_false Nat.zero_add Nat.lt_add_one Nat.zero_lt_succ eq_self or_false false_or and_false false_and or_self Nat.lt_irrefl true_or or_true List.not_mem_nil Ak AU Bool.false_eq_true if_true if_false decide_true decide_false Bool.not_true Bool.not_false Aq ne_eq not_true_eq_false not_false_eq_true
end
section
open Go.RowKit
section
variable {od:OD} {tt:Nat->Option TI} {S:Ctx}
theorem Yx {α:Type}{r:Option α}{K K':α->Prop}(h:∀x,K x->K' x) (hh:Ye r K):Ye r K':=by
 cases r with
 |none=>exact hh
 |some v=>exact h v hh
theorem Zqw {key:Nat}{o:Oper}{K K':St->Prop}{st:St}(h:∀st,K st->K' st) (hh:opS tt S key o K st):opS tt S key o K' st:=by
 unfold opS at hh ⊢
 split
 .rename_i c hc
  rw [hc]at hh
  simp only[spK]at hh ⊢
  split
  .rename_i e
   rw [e]at hh
   exact Yx (fun l ⟨f,h1,h2,h3,h4⟩=>⟨f,h1,h2,h3,h _ h4⟩) hh
  .rename_i e
   rw [e]at hh
   simp only[Ztn]at hh ⊢
   split
   .rename_i e2;rw [e2]at hh;exact hh
   .rename_i e2
    rw [e2]at hh
    exact Yx (fun kh=>Yx fun l ⟨f,h',h1,h2,h3,h4⟩=>⟨f,h',h1,h2,h3,h _ h4⟩) hh
  .rename_i e
   rw [e]at hh
   exact Yx (fun l ⟨nb,h1,h4⟩=>⟨nb,h1,h _ h4⟩) hh
  .rename_i e
   rw [e]at hh
   exact Yx (fun l ⟨f,h1,h2,h3,h4⟩=>⟨f,h1,h2,h3,h _ h4⟩) hh
  .rename_i e
   rw [e]at hh
   simp only[ZkI]at hh ⊢
   split
   .rename_i e2;rw [e2]at hh;exact hh
   .rename_i e2
    rw [e2]at hh
    exact Yx (fun kh=>Yx fun gh=>Yx fun l ⟨f,g,h1,h2,h3,h4,h5,h6⟩=>⟨f,g,h1,h2,h3,h4,h5,h _ h6⟩) hh
  .rename_i e
   rw [e]at hh
   simp only[ZkI]at hh ⊢
   split
   .rename_i e2;rw [e2]at hh;exact hh
   .rename_i e2
    rw [e2]at hh
    exact Yx (fun kh=>Yx fun gh=>Yx fun l ⟨f,g,h1,h2,h3,h4,h5,h6⟩=>⟨f,g,h1,h2,h3,h4,h5,h _ h6⟩) hh
  .rename_i e
   rw [e]at hh
   simp only[Zts]at hh ⊢
   split
   .rename_i e2;rw [e2]at hh;exact hh
   .rename_i e2
    rw [e2]at hh
    exact Yx (fun gh=>Yx fun l ⟨gv,f,h1,h2,h3,h4,h5,h6⟩=>⟨gv,f,h1,h2,h3,h4,h5,h _ h6⟩) hh
  .rename_i n0 n1 n3 n4 n5 n6 n7
   have i:Ye (ZU st (evs tt st c.2.1 c.2.2)) (ZBm S c.1 key o.dst K st (evs tt st c.2.1 c.2.2)):=by
    revert hh
    split
    .rename_i e;exact absurd e n0
    .rename_i e;exact absurd e n1
    .rename_i e;exact absurd e n3
    .rename_i e;exact absurd e n4
    .rename_i e;exact absurd e n5
    .rename_i e;exact absurd e n6
    .rename_i e;exact absurd e n7
    .exact id
   exact Yx (fun l ⟨f,h1,h2,h3⟩=>⟨f,h1,h2,h _ h3⟩) i
 .rename_i hc
  rw [hc]at hh
  simp only at hh
  split
  .rename_i c hd
   rw [hd]at hh
   simp only at hh
   exact Yx (fun fc ⟨h0,h1⟩=>⟨h0,Yx (fun l ⟨f,a,b,c,d⟩=>⟨f,a,b,c,h _ d⟩) h1⟩) hh
  .rename_i hd
   rw [hd]at hh
   simp only at hh
   exact Yx (fun r hr=>h _ hr) hh
theorem ZmT {all:List Oper}{key:Nat}{o:Oper}{K K':St->Prop}{st:St}(h:∀st,K st->K' st) (hh:opG tt S all key o K st):opG tt S all key o K' st:=by
 unfold opG at hh ⊢
 split
 .rename_i hg;rw [hg]at hh;exact Zqw h hh
 .rename_i hg;rw [hg]at hh;exact h _ hh
 .rename_i hg
  rw [hg]at hh
  simp only[gK]at hh ⊢
  split
  .rename_i h1
   rw [if_pos h1]at hh
   split
   .rename_i h2;rw [if_pos h2]at hh;exact Zqw h hh
   .rename_i h2;rw [if_neg h2]at hh;exact h _ hh
  .rename_i h1
   rw [if_neg h1]at hh
   split
   .rename_i h2;rw [if_pos h2]at hh;exact h _ hh
   .rename_i h2;rw [if_neg h2]at hh;exact hh
theorem Zoc {all:List Oper}{K K':St->Prop}(h:∀st,K st->K' st):∀(r:List Oper) (key:Nat) (st:St),Z4 tt S all key r K st->Z4 tt S all key r K' st
 | [],_,st,hh=>h st hh
 |o::r,key,st,hh=>ZmT (fun st' h'=>Zoc h r (key+16) st' h') hh
theorem Zmz {F:(Ex->St->Prop)->St->Prop}(hF:∀Q Q' st,(∀e st,Q e st->Q' e st)->F Q st->F Q' st) {Q Q':Ex->St->Prop}(h:∀e st,Q e st->Q' e st):∀(n:Nat) (st:St),Zkr F Q n st->Zkr F Q' n st
 |0,_,hh=>hh
 |n+1,st,⟨ms,ρ,h1,h2⟩=>⟨ms,ρ,h1,fun hw=>hF _ _ _ (fun e st' h'=>by cases e<;>first|exact Zmz hF h n st' h'|exact h _ _ h') (h2 hw)⟩
theorem ZhD {b:Bool}{all:List Oper}{base:Nat}{K K':St->Prop}(h:∀st,K st->K' st):∀(l:List Nat) (st:St),ZfP tt S b all base l K st->ZfP tt S b all base l K' st
 | [],st,hh=>h st hh
 |i::r,st,hh=>by
  simp only[ZfP]at hh ⊢
  split
  .rename_i o ho
   rw [ho]at hh
   cases b with
   |true=>exact ⟨hh.1,ZmT (fun st' h'=>ZhD h r st' h') hh.2⟩
   |false=>exact ZmT (fun st' h'=>ZhD h r st' h') hh
  .rename_i ho
   rw [ho]at hh
   exact ZhD h r st hh
theorem Zat:∀(c:Code) (Q Q':Ex->St->Prop) (st:St),(∀e st,Q e st->Q' e st)->swp tt S od c Q st->swp tt S od c Q' st
 |.skip,Q,Q',st,h,hh=>h _ _ hh
 |.exit _,Q,Q',st,h,hh=>h _ _ hh
 |.ret,Q,Q',st,h,hh=>h _ _ hh
 |.region id d _,Q,Q',st,h,hh=>by
  simp only[swp,Zsg]at hh ⊢
  split
  .rename_i e
   rw [e]at hh
   exact Zoc (fun st' h'=>h _ _ h') d.toList st.n st hh
  .rename_i l e
   rw [e]at hh
   exact ZhD (fun st' h'=>h _ _ h') l.1 st hh
 |.seq a b,Q,Q',st,h,hh=>Zat a _ _ st (fun e st' h'=>by cases e<;>first|exact Zat b Q Q' st' h h'|exact h _ _ h') hh
 |.cond c a b,Q,Q',st,h,hh=>by
  simp only[swp,Zou]at hh ⊢
  split
  .rename_i h1
   rw [if_pos h1]at hh
   split
   .rename_i h2;rw [if_pos h2]at hh;exact Zat a Q Q' st h hh
   .rename_i h2;rw [if_neg h2]at hh;exact Zat b Q Q' st h hh
  .rename_i h1;rw [if_neg h1]at hh;exact hh
 |.block id b,Q,Q',st,h,hh=>Zat b _ _ st (fun e st' h'=>by
   cases e with
   |normal=>exact h _ _ h'
   |ret=>exact h _ _ h'
   |exit j=>
    simp only[ZgP]at h' ⊢
    split
    .rename_i e;rw [if_pos e]at h';exact h _ _ h'
    .rename_i e;rw [if_neg e]at h';exact h _ _ h') hh
 |.loop b,Q,Q',st,h,⟨n,hh⟩=>⟨n,Zmz (fun Q Q' st hq hs=>Zat b Q Q' st hq hs) h n st hh⟩
 |.rangeFunc _ _ _ _,_,_,_,_,hh=>hh.elim
 |.scope _,_,_,_,_,hh=>hh.elim
 |.label _,_,_,_,_,hh=>hh.elim
 |.goto _,_,_,_,_,hh=>hh.elim
 |.refuse _,_,_,_,_,hh=>hh.elim
end
theorem ZaL {x:Int}(h0:-9223372036854775808<=x) (h1:x<=9223372036854775807):IntKind.i64.wrap x=x:=IntWalk.i64_in _ ⟨h0,h1⟩
theorem ZBY (sl:Nat->SV) (ob:Nat->Ob) (n:Nat) (ρ:List Nat) (t:Nat):(St.ren ⟨sl,ob,n⟩ ρ).sl t=rSV ρ (sl t):=yi rfl
theorem ZzU (sl:Nat->SV) (ob:Nat->Ob) (n:Nat) (ρ:List Nat) (j:Nat):(St.ren ⟨sl,ob,n⟩ ρ).ob j=match ρ[j]? with|some k=>rOb ρ (ob k)|none=>.gone:=yi rfl
theorem ZCS (st:St) (ρ:List Nat):(st.ren ρ).n=ρ.length:=yi rfl
theorem ZwQ (st:St):st.mats []=st:=yi rfl
theorem Zvm (sl:Nat->SV) (ob:Nat->Ob) (n t j:Nat) (r:List (Bool×Nat×Nat)):St.mats ⟨sl,ob,n⟩ ((false,t,j)::r)=if 4096<=j then St.mats (match sl t with
  |.p ag cs=>(match cs[j - 4096]? with
   |some (.row k)=>(match ob k with
    |.row e q xs d=>if d=2 then ⟨upd sl t (.p ag (cs.set (j - 4096) (.n (.sl e q xs)))),upd ob k (.row e q xs 0),n⟩ else ⟨sl,ob,n⟩
    |_=>⟨sl,ob,n⟩)
   |_=>⟨sl,ob,n⟩)
  |_=>⟨sl,ob,n⟩) r else St.mats (match sl t with
  |.p ag cs=>(match cs[j]? with
   |some (.nil e q)=>if 0<q then ⟨upd sl t (.p ag (cs.set j (.row n))),upd ob n (.row e q [] 2),n+1⟩ else ⟨sl,ob,n⟩
   |some (.row k)=>(match ob k with
    |.row e q xs _=>⟨upd sl t (.p ag (cs.set j (.c (.sl e q xs)))),upd ob k (.row e q xs 0),n⟩
    |_=>⟨sl,ob,n⟩)
   |_=>⟨sl,ob,n⟩)
  |_=>⟨sl,ob,n⟩) r:=by
 by_cases h:4096<=j
 .rw [if_pos h,St.mats,if_pos ⟨rfl,h⟩];rfl
 .rw [if_neg h,St.mats,if_neg (fun e=>h e.2)];rfl
theorem Zxx (sl:Nat->SV) (ob:Nat->Ob) (n k i:Nat) (r:List (Bool×Nat×Nat)):St.mats ⟨sl,ob,n⟩ ((true,k,i)::r)=St.mats (match ob k with
  |.box ty cs=>(match cs[i]? with
   |some (.nil e q)=>if 0<q then ⟨sl,upd (upd ob k (.box ty (cs.set i (.row n)))) n (.row e q [] 2),n+1⟩ else ⟨sl,ob,n⟩
   |some (.row j)=>(match ob j with
    |.row e q xs _=>⟨sl,upd (upd ob j (.row e q xs 0)) k (.box ty (cs.set i (.c (.sl e q xs)))),n⟩
    |_=>⟨sl,ob,n⟩)
   |_=>⟨sl,ob,n⟩)
  |.row e q xs d=>(if i<d then ⟨sl,upd ob k (.row e q xs i),n⟩ else ⟨sl,ob,n⟩)
  |_=>⟨sl,ob,n⟩) r:=yi rfl
theorem nn (k:Nat):(0<=(k:Int))=True:=by simp
theorem ZCR:(true==true)=true:=yi rfl
theorem ZCg:(false==true)=false:=yi rfl
theorem ZCY:(true==false)=false:=yi rfl
theorem ZDM:(false==false)=true:=yi rfl
attribute [go_sem] ZtC ZfW Zk4 ZwQ Zvm Zxx nn ZCR ZCg ZCY ZDM ZBY ZzU ZCS rSV rAV rOb ZpE
end
section
open Go.RowKit
def chk {α:Type}(c:Prop) [Decidable c] (x:Option α):Option α:=if c then x else none
def atI {α:Type}(l:List α) (i:Int):Option α:=if 0<=i then l[i.toNat]? else none
def Zv {α σ ρ:Type}(body:Nat->α->σ->Option (σ ⊕ ρ)) (fin:σ->Option ρ):List α->Nat->σ->Option ρ
 | [],_,s=>fin s
 |x::l,i,s=>match body i x s with
  |none=>none
  |some (.inl s')=>Zv body fin l (i+1) s'
  |some (.inr r)=>some r
def Zdp {σ ρ:Type}(body:σ->Option (σ ⊕ ρ)):Nat->σ->Option ρ
 |0,_=>none
 |n+1,s=>match body s with
  |none=>none
  |some (.inl s')=>Zdp body n s'
  |some (.inr r)=>some r
open Classical in
noncomputable def ZaT {σ ρ:Type} (body:σ->Option (σ ⊕ ρ)) (s:σ):Option ρ:=if h:∃n,(Zdp body n s).isSome=true then Zdp body (Classical.choose h) s else none
section
variable {α β σ ρ:Type} {r:ρ}
theorem Zij {body:σ->Option (σ ⊕ ρ)}:∀{n:Nat}(m:Nat) {s:σ}{r:ρ},Zdp body n s=some r->Zdp body (n+m) s=some r
 |0,_,_,_,h=>by simp [Zdp]at h
 |n+1,m,s,r,h=>by
  rw [show n+1+m=n+m+1 by omega]
  simp only[Zdp]at h ⊢
  cases e:body s with
  |none=>rw [e]at h;simp at h
  |some y=>
   rw [e]at h
   cases y with
   |inl s'=>exact Zij m h
   |inr r'=>exact h
theorem Zjr {body:σ->Option (σ ⊕ ρ)}{s:σ}{r:ρ}:ZaT body s=some r↔∃n,Zdp body n s=some r:=by
 constructor
 .intro h
  unfold ZaT at h
  split at h
  .exact ⟨_,h⟩
  .simp at h
 .rintro ⟨n,hn⟩
  have a:∃n,(Zdp body n s).isSome=true:=⟨n,by simp [hn]⟩
  unfold ZaT
  rw [dif_pos a]
  have h2:=Classical.choose_spec a
  obtain ⟨r',b⟩:=Option.isSome_iff_exists.1 h2
  rw [b]
  have a1:=Zij n b
  have a2:=Zij (Classical.choose a) hn
  rw [Nat.add_comm]at a2
  rw [a1]at a2
  exact a2
theorem Zli (body:σ->Option (σ ⊕ ρ)) (s:σ):ZaT body s=match body s with
  |none=>none
  |some (.inl s')=>ZaT body s'
  |some (.inr r)=>some r:=by
 apply Option.ext
 intro r
 rw [Zjr]
 constructor
 .rintro ⟨n,hn⟩
  cases n with
  |zero=>simp [Zdp]at hn
  |succ n=>
   simp only[Zdp]at hn
   cases e:body s with
   |none=>rw [e]at hn;simp at hn
   |some y=>
    rw [e]at hn
    cases y with
    |inl s'=>exact Zjr.2 ⟨n,hn⟩
    |inr r'=>exact hn
 .intro h
  cases e:body s with
  |none=>rw [e]at h;simp at h
  |some y=>
   rw [e]at h
   cases y with
   |inl s'=>
    obtain ⟨n,hn⟩:=Zjr.1 h
    exact ⟨n+1,by simp only[Zdp,e];exact hn⟩
   |inr r'=>exact ⟨1,by simp only[Zdp,e];exact h⟩
theorem ZM {c:Prop}[Decidable c] {x:Option α}{r:α}(h:chk c x=some r):c/\x=some r:=by
 unfold chk at h
 split at h
 .rename_i hc;exact ⟨hc,h⟩
 .simp at h
theorem Zr {c:Prop}[Decidable c] (x:Option α) (h:c):chk c x=x:=if_pos h
theorem ZE9 {α β:Type}{o:Option α}{f:α->Option β}{r:β}{G:Prop}(h:o.bind f=some r) (k:∀v,o=some v->f v=some r->G):G:=by
 cases o with
 |none=>simp at h
 |some v=>exact k v rfl h
theorem Za {o:Option α}{f:α->Option β}{r:β}(h:o.bind f=some r):∃x,o=some x/\f x=some r:=by
 cases o with
 |none=>simp at h
 |some x=>exact ⟨x,rfl,h⟩
theorem Qj {l:List α}{i:Int}{f:α->Option β}{r:β}(h:(atI l i).bind f=some r):∃x,0<=i/\i<(l.length:Int)/\l[i.toNat]?=some x/\f x=some r:=by
 unfold atI at h
 split at h
 .rename_i hi
  obtain ⟨x,h1,h2⟩:=Za h
  obtain ⟨h3,_⟩:=AC.1 h1
  exact ⟨x,hi,yE,h1,h2⟩
 .simp at h
theorem Zc {G:Prop}{b:Bool}{x y:Option α}{r:α}(h:(if b=true then x else y)=some r) (h1:b=true->x=some r->G) (h2:b=false->y=some r->G):G:=by
 cases b with
 |true=>exact h1 rfl (by simpa using h)
 |false=>exact h2 rfl (by simpa using h)
theorem Zt {y:σ ⊕ ρ}{v r:ρ}(h:some (.inr v)=some y) (hy:y=.inr r\/∃s,y=.inl s):some v=some r:=by
 obtain rfl:=AW h
 rcases hy with h|⟨_,h⟩
 .rw [Sum.inr.inj h]
 .cases h
end
section
variable {od:OD} {tt:Nat->Option TI} {S:Ctx}
def Zy5 {σ ρ:Type}(I:σ->St->Prop) (y:σ ⊕ ρ) (st:St):Prop:=∃s' ms ρk,y=.inl s'/\ρk.Nodup/\I s' ((st.mats ms).ren ρk)
theorem Zaj {σ ρ:Type}{b:Code}{Q:Ex->St->Prop}{st:St}{body:σ->Option (σ ⊕ ρ)}{s0:σ}{r:ρ}(h:ZaT body s0=some r) (I:σ->St->Prop) (ms:List (Bool×Nat×Nat)) (ρk:List Nat) (hρ:ρk.Nodup) (h0:I s0 ((st.mats ms).ren ρk))
  (a:∀s st y,I s st->WF st->body s=some y->(y=.inr r\/∃s',y=.inl s')->swp tt S od b (Zgy (Zy5 I y) Q) st):swp tt S od (.loop b) Q st:=by
 obtain ⟨n,hn⟩:=Zjr.1 h
 have key:∀n s st,Zdp body n s=some r->(∃ms ρk,ρk.Nodup/\I s ((st.mats ms).ren ρk))->Zkr (swp tt S od b) Q n st:=by
  intro n
  induction n with
  |zero=>intro s st h;simp [Zdp]at h
  |succ n ih=>
   rintro s st hn ⟨ms,ρk,h1,h2⟩
   refine ⟨ms,ρk,h1,fun hw=>?_⟩
   simp only[Zdp]at hn
   split at hn
   .simp at hn
   .rename_i s' e
    refine Zat b _ _ _ (fun ex st' h'=>?_) (a s _ _ h2 hw e (.inr ⟨_,rfl⟩))
    cases ex with
    |normal=>
     obtain ⟨s2,c,ρ',h3,h4,h5⟩:=h'
     obtain rfl:=Ar h3
     exact ih _ st' hn ⟨c,ρ',h4,h5⟩
    |exit _=>exact h'
    |ret=>exact h'
   .rename_i r' e
    obtain rfl:=AW hn
    refine Zat b _ _ _ (fun ex st' h'=>?_) (a s _ _ h2 hw e (.inl rfl))
    cases ex with
    |normal=>
     obtain ⟨s2,c,ρ',h3,h4,h5⟩:=h'
     cases h3
    |exit _=>exact h'
    |ret=>exact h'
 exact ⟨n,key n s0 st hn ⟨ms,ρk,hρ,h0⟩⟩
theorem Zi {α σ ρ:Type}{b:Code}{Q:Ex->St->Prop}{st:St}{body:Nat->α->σ->Option (σ ⊕ ρ)}{fin:σ->Option ρ}{l:List α}{s0:σ}{r:ρ}(h:Zv body fin l 0 s0=some r) (I:Nat->σ->St->Prop) (ms:List (Bool×Nat×Nat)) (ρk:List Nat) (hρ:ρk.Nodup) (h0:I 0 s0 ((st.mats ms).ren ρk))
  (a:∀i x s st y,l[i]?=some x->I i s st->WF st->body i x s=some y->(y=.inr r\/∃s',y=.inl s')->swp tt S od b (Zgy (Zy5 (I (i+1)) y) Q) st)
  (c:∀s st,I l.length s st->WF st->fin s=some r->swp tt S od b (Zgy (fun _=>False) Q) st):swp tt S od (.loop b) Q st:=by
 have key:∀n i s st,l.length - i<n->i<=l.length->Zv body fin (l.drop i) i s=some r->(∃ms ρk,ρk.Nodup/\I i s ((st.mats ms).ren ρk))->Zkr (swp tt S od b) Q n st:=by
  intro n
  induction n with
  |zero=>intro i s st h;omega
  |succ n ih=>
   rintro i s st hn hi hf ⟨ms,ρk,h1,h2⟩
   refine ⟨ms,ρk,h1,fun hw=>?_⟩
   by_cases d:i<l.length
   .have hx:l[i]?=some l[i]:=AK d
    rw [AR d]at hf
    simp only[Zv]at hf
    split at hf
    .simp at hf
    .rename_i s' e
     refine Zat b _ _ _ (fun ex st' h'=>?_) (a i _ s _ _ hx h2 hw e (.inr ⟨_,rfl⟩))
     cases ex with
     |normal=>
      obtain ⟨s2,f,ρ',h3,h4,h5⟩:=h'
      obtain rfl:=Ar h3
      exact ih (i+1) _ st' yE yE hf ⟨f,ρ',h4,h5⟩
     |exit _=>exact h'
     |ret=>exact h'
    .rename_i r' e
     obtain rfl:=AW hf
     refine Zat b _ _ _ (fun ex st' h'=>?_) (a i _ s _ _ hx h2 hw e (.inl rfl))
     cases ex with
     |normal=>
      obtain ⟨s2,f,ρ',h3,h4,h5⟩:=h'
      cases h3
     |exit _=>exact h'
     |ret=>exact h'
   .obtain rfl:i=l.length:=by omega
    rw [List.drop_length]at hf
    refine Zat b _ _ _ (fun ex st' h'=>?_) (c s _ h2 hw hf)
    cases ex with
    |normal=>exact h'.elim
    |exit _=>exact h'
    |ret=>exact h'
 exact ⟨l.length+1,key _ 0 s0 st yE yE (by simpa using h) ⟨ms,ρk,hρ,h0⟩⟩
theorem Zb {f:FuncId}{key:Nat}{d:Option Nat}{K:St->Prop}{st:St}{vs:List SV}{l:List (Bool×List CT)}{a:List RT}(hs:S.r f l a) (hk:(!Zdq a||vs.all Zhy)=true/\(Zx key a).2.2<=key+16/\K ((st.put d (Qr (Zx key a).1)).app (Zx key a).2.1)):Zry S f key d K st vs l:=⟨a,hs,hk.1,hk.2.1,hk.2.2⟩
theorem Zle {f:FuncId}{key:Nat}{d:Option Nat}{K:St->Prop}{st:St}{vs:List SV}{gv:Bool×List (Bool×CT)}{ks:List Nat}{l:List (Bool×List CT)}{a:List RT}(hs:S.g f gv l a) (hk:ks.Nodup/\(ZF vs).all (Zgm ks)=true/\(Zx key a).2.2<=key+16/\K ((st.put d (Qr (Zx key a).1)).app (ZI st (ZF vs)++(Yc ks++(Zx key a).2.1)))):ZsY S f key d K st vs (some gv,ks) l:=⟨gv,a,rfl,hs,hk.1,hk.2.1,hk.2.2.1,hk.2.2.2⟩
theorem Zim {f:FuncId}{key:Nat}{d:Option Nat}{K:St->Prop}{st:St}{vs:List SV}{kh:Nat×Nat×List (Bool×CT)×List Nat}{gh:Option (Bool×List (Bool×CT))×List Nat}{l:List (Bool×List CT)}{b:List RT}{a:List (Bool×CT)}(hs:S.o f kh.2.1 kh.2.2.1 gh.1 l b a) (hk:(kh.2.2.2++gh.2).Nodup/\(ZF vs).all (Zgm (kh.2.2.2++gh.2))=true/\(Zx key b).2.2=key/\(ZA key a).2.2<=key+16/\K ((st.put d (Qr (Zx key b).1)).app (ZI st (ZF vs)++(Yc (kh.2.2.2++gh.2)++((kh.1,.box kh.2.1 (ZA key a).1)::(ZA key a).2.1))))):Zuk S f key d K st vs kh gh l:=⟨b,a,hs,hk.1,hk.2.1,hk.2.2.1,hk.2.2.2.1,hk.2.2.2.2⟩
theorem ZA6 {f:FuncId}{key:Nat}{d:Option Nat}{K:St->Prop}{st:St}{vs:List SV}{kh:Nat×ZlT}{l:List (Bool×List CT)}{a:List RT}{h':ZlT}(hs:S.h f kh.2 l a h') (hk:(ZF vs).all (fun j=>j != kh.1)=true/\(Zx key a).2.2<=key+16/\K ((st.put d (Qr (Zx key a).1)).app (ZI st (ZF vs)++((kh.1,ZdN h')::(Zx key a).2.1)))):ZvS S f key d K st vs kh l:=⟨a,h',hs,hk.1,hk.2.1,hk.2.2⟩
end
def sts:List (Nat×SV)->St->Prop
 | [],_=>True
 |p::r,st=>st.sl p.1=p.2/\sts r st
def obs:List Ob->Nat->St->Prop
 | [],k,st=>st.n=k
 |o::r,k,st=>st.ob k=o/\obs r (k+1) st
def IV (s:List (Nat×SV)) (o:List Ob) (st:St):Prop:=sts s st/\obs o 0 st
theorem Zyk (st:St):sts [] st=True:=yi rfl
theorem ZwR (st:St) (t:Nat) (v:SV) (r:List (Nat×SV)):sts ((t,v)::r) st=(st.sl t=v/\sts r st):=yi rfl
theorem ZyR (st:St) (k:Nat):obs [] k st=(st.n=k):=yi rfl
theorem Zxo (st:St) (o:Ob) (k:Nat) (r:List Ob):obs (o::r) k st=(st.ob k=o/\obs r (k+1) st):=yi rfl
attribute [go_sem] IV ZwR Zyk Zxo ZyR
theorem Zcq {α:Type}{g:α->List CT}(h:∀x,(g x).all CT.flat=true) (l:List α):Zbj (l.map g)=true:=by
 simp only[Zbj,List.all_map,List.all_eq_true]
 exact fun x _=>h x
def ZH (s:ByteArray):List CT:=[.str s]
def Z8 (n:Int):List CT:=[.int .i64 n]
def Zy2 (b:Bool):List CT:=[.bool b]
def ZwK (n:Int):List CT:=[.int .u8 n]
theorem Zyw (s:ByteArray):ZH s=[.str s]:=yi rfl
theorem ZpG (n:Int):Z8 n=[.int .i64 n]:=yi rfl
theorem ZvO (b:Bool):Zy2 b=[.bool b]:=yi rfl
theorem ZpZ (n:Int):ZwK n=[.int .u8 n]:=yi rfl
theorem ZuR (l:List ByteArray):Zbj (l.map ZH)=true:=Zcq (fun _=>rfl) l
theorem Zu9 (l:List Int):Zbj (l.map Z8)=true:=Zcq (fun _=>rfl) l
theorem Ztj (l:List Bool):Zbj (l.map Zy2)=true:=Zcq (fun _=>rfl) l
theorem Zs0 (l:List Int):Zbj (l.map ZwK)=true:=Zcq (fun _=>rfl) l
theorem ZpP {s:ByteArray}{i:Nat}{x:UInt8}(h:s.data.toList[i]?=some x):s[i]?=some x:=by
 obtain ⟨h1,h2⟩:=AC.1 h
 have hs:i<s.size:=by rw [AT];simpa using h1
 rw [getElem?_pos s i hs,<-h2]
 rfl
theorem Zd (s:ByteArray):s.data.toList.length=s.size:=by rw [AT,AZ]
theorem Zp {i n:Nat}(h:i<n) (hn:n<=9223372036854775807):IntKind.i64.wrap ((i:Int)+1)=((i+1:Nat):Int):=by
 rw [ZaL yE yE];omega
theorem ZR {α:Type}{l:List α}{i:Nat}{x:α}(h:l[i]?=some x):decide ((i:Int)<(l.length:Int))=true:=by
 obtain ⟨h1,_⟩:=AC.1 h
 exact decide_eq_true yE
theorem ZT {α:Type}{l:List α}{i:Nat}{x:α}(h:l[i]?=some x):(i:Int)<(l.length:Int):=of_decide_eq_true (ZR h)
theorem ZS {α:Type}{l:List α}{i:Nat}{x:α}(h:l[i]?=some x):i<l.length:=(AC.1 h).1
theorem ZN (n:Nat):decide ((n:Int)<(n:Int))=false:=decide_eq_false yE
def sAt (s:ByteArray) (i:Int):Option UInt8:=if 0<=i then s[i.toNat]? else none
theorem ZtL {β:Type}{s:ByteArray}{i:Int}{f:UInt8->Option β}{r:β}(h:(sAt s i).bind f=some r):∃x,0<=i/\s[i.toNat]?=some x/\f x=some r:=by
 unfold sAt at h
 split at h
 .rename_i hi
  obtain ⟨x,h1,h2⟩:=Za h
  exact ⟨x,hi,h1,h2⟩
 .simp at h
theorem ZtR {s:ByteArray}{i:Nat}{x:UInt8}(h:s.data.toList[i]?=some x):i<s.size:=by
 have:=ZS h
 rwa [Zd]at this
theorem Zxs {s:ByteArray}{i:Nat}{x:UInt8}(h:s.data.toList[i]?=some x):decide ((i:Int)<(s.size:Int))=true:=by
 have:=ZtR h
 exact decide_eq_true yE
theorem ZiH:∀{cs:List AV}{j:Nat}{x:AV},Zwe cs->cs[j]?=some x->avD x
 | [],_,_,_,h=>by simp at h
 |_::_,0,_,h,e=>by simp at e;subst e;exact h.1
 |_::_,j+1,_,h,e=>ZiH h.2 (by simpa using e)
theorem ZtB:∀{cs:List CT}{j:Nat}{x:CT},ctsD cs->cs[j]?=some x->ctD x
 | [],_,_,_,h=>by simp at h
 |_::_,0,_,h,e=>by simp at e;subst e;exact h.1
 |_::_,j+1,_,h,e=>ZtB h.2 (by simpa using e)
section
variable {α:Type} {st:St} {t k j e m:Nat} {a:Bool} {d:Nat} {cs:List AV} {g:α->List CT} {l:List α} {s:ByteArray}
theorem WF.slotL (hW:WF st) (h:st.sl t=.p a cs) (hc:cs[j]?=some (.c (.sl e m (AA g l)))):l.length<=9223372036854775807:=by
 have:=(ZiH (hW.sl _ _ _ h) hc).1
 simpa only [AH]using this
theorem WF.slotS (hW:WF st) (h:st.sl t=.p a cs) (hc:cs[j]?=some (.c (.str s))):s.size<=9223372036854775807:=ZiH (hW.sl _ _ _ h) hc
theorem WF.boxL (hW:WF st) (h:st.ob k=.box t cs) (hc:cs[j]?=some (.c (.sl e m (AA g l)))):l.length<=9223372036854775807:=by
 have:=(ZiH (hW.box _ _ _ h) hc).1
 simpa only [AH]using this
theorem WF.boxD (hW:WF st) (h:st.ob k=.box t cs) (hc:cs[j]?=some (.c (.sl e m (AA g l)))):essD (AA g l):=(ZiH (hW.box _ _ _ h) hc).2
theorem WF.rowL (hW:WF st) (h:st.ob k=.row e m (AA g l) d):l.length<=9223372036854775807:=by
 have:=(hW.row _ _ _ _ _ h).1
 simpa only [AH]using this
theorem WF.elL {β:Type}{g':β->List CT}{l':List β}{i:Nat}{x:α}(h:essD (AA g l)) (hx:l[i]?=some x) (hc:(g x)[j]?=some (.sl e m (AA g' l'))):l'.length<=9223372036854775807:=by
 have:=(ZtB (Ztq h hx) hc).1
 simpa only [AH]using this
end
/- maps of plain keys, as lists of pairs -/
def eSB (p:ByteArray×Bool):Value×Value:=(.string p.1,.bool p.2)
def eSS (p:ByteArray×ByteArray):Value×Value:=(.string p.1,.string p.2)
def eIB (p:Int×Bool):Value×Value:=(.int .i64 p.1,.bool p.2)
def Zd4 {α β:Type}[DecidableEq α]:List (α×β)->α->Option β
 | [],_=>none
 |p::r,k=>if k=p.1 then some p.2 else Zd4 r k
def Zft {α β:Type}[DecidableEq α]:List (α×β)->α->β->List (α×β)
 | [],k,v=>[(k,v)]
 |p::r,k,v=>if k=p.1 then (k,v)::r else p::Zft r k v
def Za2 {α β:Type}[DecidableEq α] (l:List (α×β)) (k:α) (z:β):β:=(Zd4 l k).getD z
def ZuI {α β:Type}[DecidableEq α] (l:List (α×β)) (k:α):Bool:=(Zd4 l k).isSome
section
variable {α β:Type} [DecidableEq α] {e:α×β->Value×Value} {fk:α->Value} {fv:β->Value}
theorem ZdY (he:∀p,e p=(fk p.1,fv p.2)) (hk:∀a b,vEq (fk a) (fk b)=decide (a=b)):∀(l:List (α×β)) (k:α),Zk8 (l.map e) (fk k)=(Zd4 l k).map fv
 | [],_=>rfl
 |p::r,k=>by
  simp only[AE,Zk8,Zd4,he,hk,decide_eq_true_eq]
  split
  .rfl
  .exact ZdY he hk r k
theorem Zi4 (he:∀p,e p=(fk p.1,fv p.2)) (hk:∀a b,vEq (fk a) (fk b)=decide (a=b)) (v:β):∀(l:List (α×β)) (k:α),Zfb (l.map e) (fk k) (fv v)=(Zft l k v).map e
 | [],k=>by simp [Zfb,Zft,he]
 |p::r,k=>by
  simp only[AE,Zfb,Zft,he,hk,decide_eq_true_eq]
  split
  .simp [he]
  .rw [Zi4 he hk v r k];simp [he]
end
theorem ZnZ (a b:ByteArray):vEq (.string a) (.string b)=decide (a=b):=rfl
theorem Zxc (a b:Int):vEq (.int .i64 a) (.int .i64 b)=decide (a=b):=by simp [vEq,BEq.beq]
theorem ZyL (l:List (ByteArray×Bool)) (k:ByteArray):ZbZ (l.map eSB) (.string k) (.c (.bool false))=.c (.bool (Za2 l k false)):=by
 simp only[ZbZ,ZdY (e:=eSB) (fk:=.string) (fv:=.bool) (fun _=>rfl) ZnZ,Za2]
 cases Zd4 l k<;>rfl
theorem ZyC (l:List (ByteArray×ByteArray)) (k:ByteArray):ZbZ (l.map eSS) (.string k) (.c (.str ⟨#[]⟩))=.c (.str (Za2 l k ⟨#[]⟩)):=by
 simp only[ZbZ,ZdY (e:=eSS) (fk:=.string) (fv:=.string) (fun _=>rfl) ZnZ,Za2]
 cases Zd4 l k<;>rfl
theorem ZyX (l:List (Int×Bool)) (k:Int):ZbZ (l.map eIB) (.int .i64 k) (.c (.bool false))=.c (.bool (Za2 l k false)):=by
 simp only[ZbZ,ZdY (e:=eIB) (fk:=.int .i64) (fv:=.bool) (fun _=>rfl) Zxc,Za2]
 cases Zd4 l k<;>rfl
theorem ZAf (l:List (ByteArray×Bool)) (k:ByteArray):Ze4 (l.map eSB) (.string k)=ZuI l k:=by
 simp only[Ze4,ZdY (e:=eSB) (fk:=.string) (fv:=.bool) (fun _=>rfl) ZnZ,ZuI]
 cases Zd4 l k<;>rfl
theorem ZAJ (l:List (ByteArray×ByteArray)) (k:ByteArray):Ze4 (l.map eSS) (.string k)=ZuI l k:=by
 simp only[Ze4,ZdY (e:=eSS) (fk:=.string) (fv:=.string) (fun _=>rfl) ZnZ,ZuI]
 cases Zd4 l k<;>rfl
theorem ZAn (l:List (Int×Bool)) (k:Int):Ze4 (l.map eIB) (.int .i64 k)=ZuI l k:=by
 simp only[Ze4,ZdY (e:=eIB) (fk:=.int .i64) (fv:=.bool) (fun _=>rfl) Zxc,ZuI]
 cases Zd4 l k<;>rfl
theorem ZA8 (l:List (ByteArray×Bool)) (k:ByteArray) (v:Bool):Zfb (l.map eSB) (.string k) (.bool v)=(Zft l k v).map eSB:=Zi4 (fk:=.string) (fv:=.bool) (fun _=>rfl) ZnZ v l k
theorem Zzd (l:List (ByteArray×ByteArray)) (k v:ByteArray):Zfb (l.map eSS) (.string k) (.string v)=(Zft l k v).map eSS:=Zi4 (fk:=.string) (fv:=.string) (fun _=>rfl) ZnZ v l k
theorem Zzw (l:List (Int×Bool)) (k:Int) (v:Bool):Zfb (l.map eIB) (.int .i64 k) (.bool v)=(Zft l k v).map eIB:=Zi4 (fk:=.int .i64) (fv:=.bool) (fun _=>rfl) Zxc v l k
theorem ZlJ:∀l:List Int,Ze0 (l.map ZwK)=some l
 | []=>rfl
 |n::r=>by simp only[AE,ZpZ,Ze0,ZlJ r,AJ]
theorem Zkv (st:St):∀l:List CT,ZU st (l.map ZkF)=some (l.map fun c=>(false,[c]))
 | []=>rfl
 |c::r=>by
  have h:=Zkv st r
  simp only[AE,ZU,h,ZkF,Zdr,YI,Zcb,Ao,AJ]
theorem ZDB:((0:Nat):Int)=0:=yi rfl
attribute [go_sem] Zkv ZyL ZyC ZyX ZAf ZAJ ZAn ZA8 Zzd Zzw ZlJ ZDB ZAP List.map_replicate Zyw ZpG ZvO ZpZ ZuR Zu9 Ztj Zs0 An List.getElem?_map List.map_set List.map_take List.map_drop AN List.length_set Aq
end
def toL (s:ByteArray):List UInt8:=s.data.toList
def ofL (l:List UInt8):ByteArray:=⟨l.toArray⟩
theorem Zjc (s:ByteArray):ofL (toL s)=s:=by cases s;simp [ofL,toL]
theorem ZcK (l:List UInt8):toL (ofL l)=l:=by simp [ofL,toL]
def Zfo (l:List ByteArray):List ByteArray:=((l.map toL).mergeSort fun x y=>decide (x<=y)).map ofL
def ZcI (l:List ByteArray):Option (List ByteArray):=chk (l.length<=4611686018427387903) (some (Zfo l))
noncomputable def Zph (n:Int):Option ByteArray:=chk (-9223372036854775808<=n/\n<=9223372036854775807) (some (ofL (Lib.itoa n)))
def Zfl (a b:ByteArray):Option Int:=some (Lib.compareBytes (toL a) (toL b))
def Zl2 (s:ByteArray):Option (Int×Bool):=chk (s.size<=18) (some (match Lib.atoi (toL s) with|some n=>(n,true)|none=>(0,false)))
end Go.Proofs.YtcaokdmjlknmmaaGreatDoor
