/- Texts of this proof, joined: Base, Own, Codec, BTree, BState, BSimp, BLoop, BDec, ExtD, PL, Sp, Types, ExtL. What each holds is said at its theorems. -/
import Derived.WalkKit
import Derived.Lib.Hide
import Derived.Deep.Draws
import Derived.Maps.AppendAt
import Derived.Deep.QuietTactic
import Derived.BigQuiet
import Derived.IntWalk
import Derived.Sort.LotA
import Derived.Lib.ItoaNum
import Derived.Lib.Bytealg
import Derived.Lib.Join
import Derived.Lib.Atoi
open Array renaming getElem?_eq_some_iff→AA,length_toList→AF,extract_size→An,range→Ao
open Bool renaming and_eq_true→Ak
open ByteArray renaming size→AI
open Go.ByteArray renaming toList_eq→Al
open Int renaming toNat_natCast→Ai
open List renaming mem_append→A0,mem_cons→A4,getElem?_eq_some_iff→A5,length_map→A6,map_cons→A9,append_assoc→AG,pairwise_cons→AJ,length_append→AK,map→AP,getElem?_eq_getElem→AR,nodup_nil→AS,eq_nil_of_length_eq_zero→AT,size_toArray→AU,length_take→AW,length_drop→AX,drop_take→AY,take_left→Aa,drop_zero→Ac,take_zero→Ad,drop_eq_getElem_cons→Ae,length_cons→Ag,foldl_cons→Am
open List.Pairwise renaming nil→AQ
open Nat renaming le_trans→AB,le_refl→AC,zero_le→AD,add_mul→AE,mul_le_mul_right→AL,sub_mul→AN,add_sub_cancel_left→AZ
open Option renaming map_some→AH,bind_some→Ah
open Option.some renaming inj→AO
open Sum.inl renaming inj→Aj
set_option linter.unusedSimpArgs false
set_option linter.unusedVariables false
set_option maxRecDepth 1000000
set_option maxHeartbeats 4000000
namespace Go.Proofs.YtaafhjecikjhbaaGreatDoor
theorem yE{p:Prop}(h:p:=by omega):p:=h
theorem yF{p:Prop}(h:p:=by decide):p:=h
theorem yG{p:Prop}(h:p:=by simp):p:=h
theorem yH{p:Prop}(h:p:=by rfl):p:=h
theorem yK{p:Prop}(h:p:=by first | (simp;done) | (simp;omega) | omega):p:=h
theorem yI{p:Prop}(h:p:=by repeat (first | refine Below.setCell ?_ (by dsimp only;omega) _ | refine Below.alloc ?_ (by first | (simp;done) | (simp;omega) | omega) _ | exact Below.refl _ _)):p:=h
theorem yi{p:Prop}(h:p):p:=h
section
open Go.RowKit
theorem ZdC (b off j:Nat):(⟨b,off,none⟩:Addr).add j=⟨b,off+j,none⟩:=by
 unfold Addr.add;split<;>simp_all
def ZbF (w:World) (b off:Nat) (xs:List Value):Prop:=∀j u,xs[j]?=some u->w.cell? ⟨b,off+j,none⟩=some u
def Sl (w:World) (size:Nat) (A:Option Addr) (n:Nat) (xs:List Value) (L:List Nat):Prop:=
 xs.length=n*size/\((n=0/\L=[])\/(0<n/\∃b off,A=some ⟨b,off,none⟩/\L=[b]/\ZbF w b off xs))
section
variable {w w':World} {size n:Nat} {A:Option Addr} {xs:List Value} {L:List Nat}
theorem Sl.zero:Sl w size A 0 [] []:=⟨yG,.inl ⟨rfl,rfl⟩⟩
theorem Sl.at_ (h:Sl w size A n xs L) (hn:0<n):∃b off,A=some ⟨b,off,none⟩/\L=[b]/\ZbF w b off xs:=by
 rcases h.2 with ⟨h0,_⟩|⟨_,h⟩
 .omega
 .exact h
theorem Sl.keep (h:Sl w size A n xs L) (hk:∀b∈L,w'.heap[b]?=w.heap[b]?):Sl w' size A n xs L:=by
 refine ⟨h.1,?_⟩
 rcases h.2 with h0|⟨hn,b,off,hA,hL,hc⟩
 .exact .inl h0
 .refine .inr ⟨hn,b,off,hA,hL,fun j u hu=>?_⟩
  rw [<-hc j u hu]
  exact World.cell?_of_block (hk b (by simp [hL]))
theorem Sl.lt (h:Sl w size A n xs L) (hs:0<size):∀b∈L,b<w.heap.size:=by
 rcases h.2 with h0|⟨hn,b,off,hA,hL,hc⟩
 .simp [h0.2]
 .intro x hx
  rw [hL]at hx
  simp at hx
  subst hx
  have hp:0<xs.length:=by rw [h.1];exact Nat.mul_pos hn hs
  exact World.block_lt_of_cell? w _ (hc 0 _ (AR hp))
end
structure Own (w:World) (base:Nat) (L:List Nat):Prop where
 nodup:L.Nodup
 ge:∀b∈L,base<=b
 plain:∀b∈L,∃cur e,w.heap[b]?=some (.cells cur e (0,0))
theorem Own.nil (w:World) (base:Nat):Own w base []:=⟨AS,yG,yG⟩
theorem Own.lt {w:World}{base:Nat}{L:List Nat}(h:Own w base L):∀b∈L,b<w.heap.size:=by
 intro b hb
 obtain ⟨cur,e,hc⟩:=h.plain b hb
 exact (AA.1 hc).1
theorem Own.keep {w w':World}{base:Nat}{L:List Nat}(h:Own w base L) (hk:∀b∈L,w'.heap[b]?=w.heap[b]?):Own w' base L:=
 ⟨h.nodup,h.ge,fun b hb=>by rw [hk b hb];exact h.plain b hb⟩
theorem Own.mono {w:World}{base a:Nat}{L:List Nat}(h:Own w base L) (hb:a<=base):Own w a L:=
 ⟨h.nodup,fun b m=>AB hb (h.ge b m),h.plain⟩
theorem Z5 {B:Nat}{w w':World}{L:List Nat}(hb:Below B w w') (h:∀b∈L,b<B):∀b∈L,w'.heap[b]?=w.heap[b]?:=
 fun b m=>hb.block b (h b m)
structure Y8 (L:List Nat) (w w':World):Prop where
 os:w'.os=w.os
 tape:w'.tape=w.tape
 output:w'.output=w.output
 size:w.heap.size<=w'.heap.size
 block:∀k,k<w.heap.size->k∉L->w'.heap[k]?=w.heap[k]?
theorem Y8.refl (L:List Nat) (w:World):Y8 L w w:=⟨rfl,rfl,rfl,AC _,fun _ _ _=>rfl⟩
theorem Y8.trans {L:List Nat}{a b c:World}(h:Y8 L a b) (k:Y8 L b c):Y8 L a c:=
 ⟨k.os.trans h.os,k.tape.trans h.tape,k.output.trans h.output,AB h.size k.size,fun i hi hn=>(k.block i (Nat.lt_of_lt_of_le hi h.size) hn).trans (h.block i hi hn)⟩
theorem Y8.below {L:List Nat}{B:Nat}{w w':World}(h:Y8 L w w') (hB:B<=w.heap.size) (hl:∀b∈L,B<=b):Below B w w':=
 ⟨h.os,h.tape,h.output,h.size,fun k hk=>h.block k yE (fun m=>by have:=hl k m;omega)⟩
theorem Y8.of_below {w w':World}(h:Below w.heap.size w w') (L:List Nat):Y8 L w w':=⟨h.os,h.tape,h.output,h.size,fun k hk _=>h.block k hk⟩
theorem Y8.setCell {L:List Nat}{a w:World}(h:Y8 L a w) {p:Addr}(hp:p.block∈L) (u:Value):Y8 L a (w.setCell p u):=
 h.trans ⟨rfl,rfl,rfl,by simp [World.setCell],fun k _ hn=>Below.heap_setCell _ _ _ _ (fun e=>hn (by rw [e];exact hp))⟩
theorem Y8.drewN {L:List Nat}{a w:World}(h:Y8 L a w) (n:Nat):Y8 L a (w.drewN n):=⟨h.os,h.tape,h.output,h.size,h.block⟩
section
variable {w w':World} {n:Nat} {A:Option Addr} {zs:List Int} {L:List Nat}
end
section
variable {P:Program} {f:FuncId} {args:Array Value} {w:World} {a n:Nat} {v:Value}
end
end
end Go.Proofs.YtaafhjecikjhbaaGreatDoor
namespace Go.Proofs.YtaafhjecikjhbaaGreatDoor
open Go.RowKit
end Go.Proofs.YtaafhjecikjhbaaGreatDoor
namespace Go
open Go.RowKit Go.Proofs.YtaafhjecikjhbaaGreatDoor
def World.ownsV (w : World) (base : Nat) (e : TypeId) (size : Nat) (v : Value) (n : Nat) (xs : List Value) : Prop :=
  xs.length = n*size /\ ((v = .slice none 0 0 /\ n = 0) \/
   ∃ g o cap cur, v = .slice (some ⟨g, o, none⟩) n cap /\ base <= g /\ w.heap[g]? = some (.cells cur e (0, 0)) /\ n <= cap /\ cap <= maxLen /\ o + cap*size <= cur.size /\ (cur.toList.drop o).take (n*size) = xs)
end Go
namespace Go.Proofs.YtaafhjecikjhbaaGreatDoor
open Go.RowKit
section
variable {w w':World} {base:Nat} {e:TypeId} {size n:Nat} {v:Value} {xs:List Value}
theorem ZjU (h:w.ownsRow base e size v n xs):w.ownsV base e size v n xs:=by
 refine ⟨h.1,?_⟩
 rcases h.2 with h0|⟨g,cap,a,h1,h2,h3,h4,h5,h6,h7⟩
 .exact .inl h0
 .exact .inr ⟨g,0,cap,a,h1,h2,h3,h4,h5,yE,by simpa using h7⟩
theorem ZfQ (w:World) (base:Nat) (e:TypeId) (size:Nat):w.ownsV base e size (.slice none 0 0) 0 []:=ZjU (World.ownsRow_nil _ _ _ _)
theorem Y2 (h:w.ownsV base e size v n xs):∃A c,v=.slice A n c/\n<=c/\c<=maxLen:=by
 rcases h.2 with ⟨rfl,rfl⟩|⟨g,o,cap,cur,rfl,hb,hg,a,hm,hs,ht⟩
 .exact ⟨none,0,rfl,AC _,AD _⟩
 .exact ⟨_,cap,rfl,a,hm⟩
theorem ZiX {a:Nat}(h:w.ownsV base e size v n xs) (hb:a<=base):w.ownsV a e size v n xs:=by
 refine ⟨h.1,?_⟩
 rcases h.2 with h0|⟨g,o,cap,b,h1,h2,h3⟩
 .exact .inl h0
 .exact .inr ⟨g,o,cap,b,h1,AB hb h2,h3⟩
theorem Zgh (h:w.ownsV base e size v n xs):∀b∈v.ownBlock.toList,b<w.heap.size:=by
 rcases h.2 with ⟨h0,_⟩|⟨g,o,cap,cur,hv,_,hc,_⟩
 .simp [h0,Value.ownBlock]
 .intro b mb
  simp [hv,Value.ownBlock]at mb
  subst mb
  exact (AA.1 hc).1
theorem XT (h:w.ownsV base e size v n xs) (hk:∀b∈v.ownBlock.toList,w'.heap[b]?=w.heap[b]?):w'.ownsV base e size v n xs:=by
 refine ⟨h.1,?_⟩
 rcases h.2 with h0|⟨g,o,cap,a,hv,hg,hc,r⟩
 .exact .inl h0
 .refine .inr ⟨g,o,cap,a,hv,hg,?_,r⟩
  rw [hk g (by simp [hv,Value.ownBlock])]
  exact hc
theorem Zg7 {g o n' cap:Nat}(h:w.ownsV base e size v n xs) (a:v=.slice (some ⟨g,o,none⟩) n' cap):∀j u,xs[j]?=some u->w.cell? ⟨g,o+j,none⟩=some u:=by
 intro j u hj
 subst a
 rcases h.2 with ⟨h0,_⟩|⟨g',o',cap',b,hv,hb,hg,hnc,hm,hs,ht⟩
 .simp at h0
 .simp only[Value.slice.injEq,Option.some.injEq,Addr.mk.injEq,and_true,true_and]at hv
  obtain ⟨⟨rfl,rfl⟩,rfl,rfl⟩:=hv
  rw [cell_of_row w g (o+j) b e (0,0) hg]
  rw [<-ht]at hj
  have hl:j<n' * size:=by
   have:=(A5.1 hj).1
   simp at this
   omega
  rw [List.getElem?_take_of_lt hl,List.getElem?_drop]at hj
  simpa using hj
theorem Sl.of_ownV {c:Nat}{A:Option Addr}(h:w.ownsV base e size (.slice A n c) n xs):∃L,Sl w size A n xs L/\Own w base L/\∀b∈L,∃o,A=some ⟨b,o,none⟩:=by
 rcases h.2 with ⟨hv,hn⟩|⟨g,o,cap,a,hv,hb,hg,hnc,hm,hs,ht⟩
 .subst hn
  exact ⟨[],⟨h.1,.inl ⟨rfl,rfl⟩⟩,Own.nil _ _,yG⟩
 .injection hv with hA _ hc
  subst hA
  subst hc
  rcases Nat.eq_zero_or_pos n with h0|h0
  .subst h0
   exact ⟨[],⟨h.1,.inl ⟨rfl,rfl⟩⟩,Own.nil _ _,yG⟩
  .refine ⟨[g],⟨h.1,.inr ⟨h0,g,o,rfl,rfl,fun j u hu=>Zg7 h rfl j u hu⟩⟩,⟨yG,by simpa using hb,fun b m=>?_⟩,yG⟩
   simp at m
   subst m
   exact ⟨a,e,hg⟩
end
section
variable {P:Program} (w:World)
theorem Zkp (t ty e:TypeId) (i:TypeInfo) (ht:P.underlying t=some (.slice e)) (hi:P.info? e=some i)
  (g o d f:Nat) (k:Array Value) (hg:w.heap[g]?=some (.cells k e (0,0)))
  (a:Addr) (m c:Nat) (b:List Value) (hl:b.length=m*i.size) (l:∀j u,b[j]?=some u->w.cell? (a.add j)=some u) (h1:∀u∈b,u.oneCell'=true)
  (p:d+m<=f) (q:o+d*i.size+b.length<=k.size):
  (Builtin.append_ #[t,t] ty #[.slice (some ⟨g,o,none⟩) d f,.slice (some a) m c]).run P w=
   .ok (.slice (some ⟨g,o,none⟩) (d+m) f) (w.setRow g (k.toList.take (o+d*i.size)++b++k.toList.drop (o+d*i.size+b.length)).toArray):=by
 have hf:=run_firstCells_some (P:=P) w i.size m a m c b hl l
 have v:=run_storeCells_at P g (o+d*i.size) e b 0 k w hg (by simpa using q) h1
 simp only[Nat.add_zero]at v
 simp [Builtin.append_,run_underlying ht,sizeOf,typeInfo,hi,Builtin.lenOf,p,hf,Addr.add_lit,v]
theorem ZgQ (base:Nat) (t ty e:TypeId) (i:TypeInfo) (z:Value) (size f:Nat) (ht:P.underlying t=some (.slice e)) (hi:P.info? e=some i) (hz:i.zero=some z)
  (A:i.size=size) (F:i.bytes=f) (G:z.cells.size=size) (J:0<size)
  (v:Value) (n:Nat) (xs:List Value) (d:w.ownsV base e size v n xs)
  (a:Addr) (m c:Nat) (b:List Value) (hl:b.length=m*size) (l:∀j u,b[j]?=some u->w.cell? (a.add j)=some u) (h1:∀u∈b,u.oneCell'=true)
  (C:n+m<=maxLen) (q:(n+m)*f<=140737488355328) (B:base<=w.heap.size):
  ∃v' w',(Builtin.append_ #[t,t] ty #[v,.slice (some a) m c]).run P w=.ok v' w'/\w'.ownsV base e size v' (n+m) (xs++b)/\w.grownBy w' v.ownBlock/\
   (v'.ownBlock=v.ownBlock\/v'.ownBlock=some w.heap.size):=by
 rcases d.2 with ⟨rfl,rfl⟩|⟨g,o,cap,y,rfl,K,hg,hnc,L,hcs,D⟩
 .have hx:xs=[]:=AT (by simpa using d.1)
  subst hx
  obtain ⟨v',w',r1,r2,r3,_,r5⟩:=run_append_own_at (P:=P) w base t ty e i z size f ht hi hz A F G J _ 0 [] (World.ownsRow_nil w base e size) a m c b hl l h1 C q B
  exact ⟨v',w',r1,ZjU r2,r3,r5⟩
 .subst A
  subst F
  have hsmall:n+m<=9223372036854775807:=by simp only[maxLen]at C;omega
  have x:(xs++b).length=(n+m)*i.size:=by rw [AK,d.1,hl,AE]
  by_cases p:n+m<=cap
  .have H:o+n*i.size+b.length<=y.size:=by
    have:=AL i.size p
    rw [AE]at this
    rw [hl];omega
   have hr:=Zkp (P:=P) w t ty e i ht hi g o n cap y hg a m c b hl l h1 p H
   refine ⟨_,_,hr,⟨x,.inr ⟨g,o,cap,_,rfl,K,setRow_heap w g y _ e _ hg,p,L,?_,?_⟩⟩,⟨rfl,rfl,rfl,yG,fun k _ hk=>setRow_other w g k _ (fun e=>hk (by simp [Value.ownBlock,e]))⟩,.inl rfl⟩
   .simp only[AU,AK,AW,AX,AF]
    omega
   .show List.take _ (List.drop o (y.toList.take (o+n*i.size)++b++_))=_
    have hx:(y.toList.take (o+n*i.size)).drop o=xs:=by
     rw [AY,AZ];exact D
    have ho:o<=(y.toList.take (o+n*i.size)).length:=by simp;omega
    rw [AG,List.drop_append_of_le_length ho,hx,<-AG,<-x]
    exact Aa
  .have E:∀j u,xs[j]?=some u->w.cell? ((⟨g,o,none⟩:Addr).add j)=some u:=fun j u hj=>by
    rw [Addr.add_lit];exact Zg7 d rfl j u hj
   have hr:=run_append_grow (P:=P) w t ty e i z ht hi hz ⟨g,o,none⟩ n cap xs d.1 E a m c b hl l yE yE (growslice_fits yE q)
   have M:=grownCap_ge w (n+m) cap e
   have I:grownCap w (n+m) cap e<=maxLen:=grownCap_le_maxLen w (n+m) cap e C
   refine ⟨_,_,hr,⟨x,.inr ⟨w.heap.size,0,_,_,rfl,B,heap_alloc_new w.drew _,M,I,?_,?_⟩⟩,⟨rfl,rfl,rfl,yG,fun k hk _=>heap_alloc_old w.drew _ hk⟩,.inr rfl⟩
   .simp only[Array.size_append,AU,size_zeroCells,G,d.1,hl,<-AE]
    rw [Nat.zero_add]
    exact AL _ yE
   .rw [Ac]
    simp only[Array.toList_append,AG]
    rw [<-AG,<-x]
    exact Aa
theorem Zug {w:World}{base:Nat}{e:TypeId}{size n l c:Nat}{A:Option Addr}{xs:List Value}(h:w.ownsV base e size (.slice A n c) n xs) (hl:l<=n):
  w.ownsV base e size (.slice (if c=l then A else A.map (·.add (l*size))) (n - l) (c - l)) (n - l) (xs.drop (l*size))/\(Value.slice (if c=l then A else A.map (·.add (l*size))) (n - l) (c - l)).ownBlock=(Value.slice A n c).ownBlock:=by
 have a:(xs.drop (l*size)).length=(n - l)*size:=by rw [AX,h.1,AN]
 rcases h.2 with ⟨h0,hn⟩|⟨g,o,cap,b,hv,hb,hg,hnc,hm,hs,ht⟩
 .simp only[Value.slice.injEq]at h0
  obtain ⟨rfl,_,rfl⟩:=h0
  subst hn
  obtain rfl:l=0:=by omega
  exact ⟨⟨a,.inl ⟨yG,yE⟩⟩,yG⟩
 .simp only[Value.slice.injEq,true_and]at hv
  obtain ⟨rfl,rfl⟩:=hv
  by_cases d:c=l
  .subst d
   rw [if_pos rfl]
   refine ⟨⟨a,.inr ⟨g,o,c - c,b,rfl,hb,hg,yE,yE,?_,?_⟩⟩,rfl⟩
   .rw [Nat.sub_self,Nat.zero_mul];omega
   .have e0:(n - c)*size=0:=by rw [show n - c=0 by omega,Nat.zero_mul]
    rw [e0]at a ⊢
    rw [Ad]
    exact (AT a).symm
  .rw [if_neg d]
   refine ⟨⟨a,.inr ⟨g,o+l*size,c - l,b,by simp [Addr.add],hb,hg,yE,yE,?_,?_⟩⟩,by simp only[AH,Value.ownBlock,Addr.add_lit]⟩
   .rw [AN]
    have:=AL size (show l<=c by omega)
    omega
   .rw [<-ht,AY,List.drop_drop,AN]
end
end Go.Proofs.YtaafhjecikjhbaaGreatDoor
namespace Go.Proofs.YtaafhjecikjhbaaGreatDoor
section
open Go.RowKit
def Znu (n:Int):Prop:=-9223372036854775808<=n/\n<=9223372036854775807
structure YK (α:Type) where
 size:Nat
 rep:World->List Value->α->List Nat->Prop
 len:∀{w cs x L},rep w cs x L->cs.length=size
 keep:∀{w w' cs x L},rep w cs x L->(∀b∈L,w'.heap[b]?=w.heap[b]?)->rep w' cs x L
 lt:∀{w cs x L},rep w cs x L->∀b∈L,b<w.heap.size
 one:∀{w cs x L},rep w cs x L->∀u∈cs,u.oneCell'=true
 pos:0<size
def ZFX:YK Int where
 size:=1
 rep:=fun _ cs x L=>cs=[.int .i64 x]/\L=[]
 len:=fun h=>by simp [h.1]
 keep:=fun h _=>h
 lt:=fun h=>by simp [h.2]
 one:=fun h=>by simp [h.1,Value.oneCell']
 pos:=by omega
def ZAo:YK ByteArray where
 size:=1
 rep:=fun _ cs x L=>cs=[.string x]/\L=[]/\x.size<=9223372036854775807
 len:=fun h=>by simp [h.1]
 keep:=fun h _=>h
 lt:=fun h=>by simp [h.2.1]
 one:=fun h=>by simp [h.1,Value.oneCell']
 pos:=by omega
def ZAm:YK Int where
 size:=1
 rep:=fun _ cs x L=>cs=[.int .u8 x]/\L=[]
 len:=fun h=>by simp [h.1]
 keep:=fun h _=>h
 lt:=fun h=>by simp [h.2]
 one:=fun h=>by simp [h.1,Value.oneCell']
 pos:=by omega
section
variable {α:Type} (c:YK α)
def YK.reps (w:World):List Value->List α->List Nat->Prop
 |xs,[],L=>xs=[]/\L=[]
 |xs,d::ds,L=>∃c1 c2 L1 L2,xs=c1++c2/\L=L1++L2/\c.rep w c1 d L1/\YK.reps w c2 ds L2
variable {c}
theorem ZjO {w:World}:∀{ds:List α}{xs:List Value}{L:List Nat},c.reps w xs ds L->xs.length=ds.length*c.size
 | [],_,_,h=>by simp [h.1]
 |d::ds,_,_,⟨c1,c2,L1,L2,rfl,rfl,h1,h2⟩=>by
  have:=ZjO h2
  simp [c.len h1,this,AE];omega
theorem X7 {w w':World}:∀{ds:List α}{xs:List Value}{L:List Nat},c.reps w xs ds L->(∀b∈L,w'.heap[b]?=w.heap[b]?)->c.reps w' xs ds L
 | [],_,_,h,_=>h
 |d::ds,_,_,⟨c1,c2,L1,L2,rfl,rfl,h1,h2⟩,hk=>
  ⟨c1,c2,L1,L2,rfl,rfl,c.keep h1 (fun b m=>hk b (by simp [m])),X7 h2 (fun b m=>hk b (by simp [m]))⟩
theorem ZvV {w:World}:∀{ds:List α}{xs:List Value}{L:List Nat},c.reps w xs ds L->∀b∈L,b<w.heap.size
 | [],_,_,h=>by simp [h.2]
 |d::ds,_,_,⟨c1,c2,L1,L2,rfl,rfl,h1,h2⟩=>by
  intro b m
  rcases A0.1 m with m|m
  .exact c.lt h1 b m
  .exact ZvV h2 b m
theorem Ze6 {w:World}:∀{ds es:List α}{xs ys:List Value}{L M:List Nat},c.reps w xs ds L->c.reps w ys es M->c.reps w (xs++ys) (ds++es) (L++M)
 | [],es,_,ys,_,M,h,h'=>by obtain ⟨rfl,rfl⟩:=h;simpa using h'
 |d::ds,es,_,ys,_,M,⟨c1,c2,L1,L2,rfl,rfl,h1,h2⟩,h'=>
  ⟨c1,c2++ys,L1,L2++M,yG,yG,h1,Ze6 h2 h'⟩
theorem Zfb {w:World}{d:α}{cs:List Value}{L:List Nat}(h:c.rep w cs d L):c.reps w cs [d] L:=⟨cs,[],L,[],yG,yG,h,rfl,rfl⟩
theorem ZmQ {w:World}:∀{ds es:List α}{xs:List Value}{L:List Nat},c.reps w xs (ds++es) L->
  ∃x1 x2 L1 L2,xs=x1++x2/\L=L1++L2/\c.reps w x1 ds L1/\c.reps w x2 es L2
 | [],es,xs,L,h=>⟨[],xs,[],L,rfl,rfl,⟨rfl,rfl⟩,h⟩
 |d::ds,es,_,_,⟨c1,c2,L1,L2,rfl,rfl,h1,h2⟩=>by
  obtain ⟨x1,x2,M1,M2,rfl,rfl,h3,h4⟩:=ZmQ h2
  exact ⟨c1++x1,x2,L1++M1,M2,yG,yG,⟨c1,x1,L1,M1,rfl,rfl,h1,h3⟩,h4⟩
theorem ZAP {w:World}{ds:List α}{xs:List Value}{L:List Nat}(h:c.reps w xs ds L) {k:Nat}(hk:k<ds.length):
  ∃x1 cs x2 L1 Lk L2,xs=x1++(cs++x2)/\x1.length=k*c.size/\L=L1++(Lk++L2)/\c.reps w x1 (ds.take k) L1/\c.rep w cs ds[k] Lk/\c.reps w x2 (ds.drop (k+1)) L2:=by
 have e:ds=ds.take k++(ds[k]::ds.drop (k+1)):=by rw [<-Ae hk,List.take_append_drop]
 rw [e]at h
 obtain ⟨x1,x2,L1,L2,rfl,rfl,h1,c1,c2,M1,M2,rfl,rfl,h2,h3⟩:=ZmQ h
 refine ⟨x1,c1,c2,L1,M1,M2,rfl,?_,rfl,h1,h2,h3⟩
 have:=ZjO h1
 rw [this,AW,Nat.min_eq_left yE]
def Sli (c:YK α) (w:World) (A:Option Addr) (ds:List α) (L:List Nat):Prop:=
 ∃xs L0 L1,L=L0++L1/\Sl w c.size A ds.length xs L0/\c.reps w xs ds L1
theorem Sli.nil (w:World) (A:Option Addr):Sli c w A [] []:=⟨[],[],[],rfl,Sl.zero,rfl,rfl⟩
theorem Sli.keep {w w':World}{A:Option Addr}{ds:List α}{L:List Nat}(h:Sli c w A ds L) (hk:∀b∈L,w'.heap[b]?=w.heap[b]?):Sli c w' A ds L:=by
 obtain ⟨xs,L0,L1,rfl,h1,h2⟩:=h
 exact ⟨xs,L0,L1,rfl,h1.keep (fun b m=>hk b (by simp [m])),X7 h2 (fun b m=>hk b (by simp [m]))⟩
theorem Sli.lt {w:World}{A:Option Addr}{ds:List α}{L:List Nat}(h:Sli c w A ds L):∀b∈L,b<w.heap.size:=by
 obtain ⟨xs,L0,L1,rfl,h1,h2⟩:=h
 intro b m
 rcases A0.1 m with m|m
 .exact h1.lt c.pos b m
 .exact ZvV h2 b m
theorem Sli.below {w w':World}{A:Option Addr}{ds:List α}{L:List Nat}(h:Sli c w A ds L) (hb:Below w.heap.size w w'):Sli c w' A ds L:=h.keep (Z5 hb h.lt)
theorem Sli.at_ {w:World}{A:Option Addr}{ds:List α}{L:List Nat}(h:Sli c w A ds L) {k:Nat}(hk:k<ds.length):
  ∃b off cs Lk,A=some ⟨b,off,none⟩/\b∈L/\(∀x∈Lk,x∈L)/\c.rep w cs ds[k] Lk/\∀j u,cs[j]?=some u->w.cell? ⟨b,off+(k*c.size+j),none⟩=some u:=by
 obtain ⟨xs,L0,L1,rfl,h1,h2⟩:=h
 obtain ⟨x1,cs,x2,M1,Mk,M2,rfl,hx,rfl,_,h3,_⟩:=ZAP h2 hk
 obtain ⟨b,off,hA,hL,hc⟩:=h1.at_ yE
 subst hL
 refine ⟨b,off,cs,Mk,hA,yG,fun x m=>by simp [m],h3,fun j u hu=>hc _ u ?_⟩
 rw [List.getElem?_append_right yE,hx,AZ,List.getElem?_append_left (A5.1 hu).1]
 exact hu
def X4 (c:YK α):YK (List α) where
 size:=1
 rep:=fun w cs ds L=>∃A cap,cs=[.slice A ds.length cap]/\ds.length<=cap/\cap<=maxLen/\Sli c w A ds L
 len:=fun ⟨_,_,h,_⟩=>by simp [h]
 keep:=fun ⟨A,cap,h,h1,h2,h3⟩ hk=>⟨A,cap,h,h1,h2,h3.keep hk⟩
 lt:=fun ⟨_,_,_,_,_,h3⟩=>h3.lt
 one:=fun ⟨_,_,h,_⟩=>by simp [h,Value.oneCell']
 pos:=by omega
theorem Own.append {w:World}{base c:Nat}{L M:List Nat}(h:Own w base L) (k:Own w c M) (hb:base<=c) (hl:∀b∈L,b<c):Own w base (L++M):=by
 refine ⟨?_,?_,?_⟩
 .rw [List.nodup_append]
  refine ⟨h.nodup,k.nodup,fun a ha b d e=>?_⟩
  subst e
  have:=hl a ha
  have:=k.ge a d
  omega
 .intro b m
  rcases A0.1 m with m|m
  .exact h.ge b m
  .exact AB hb (k.ge b m)
 .intro b m
  rcases A0.1 m with m|m
  .exact h.plain b m
  .exact k.plain b m
theorem Own.sub {w:World}{base:Nat}{L M:List Nat}(h:Own w base L) (hs:M.Sublist L):Own w base M:=
 ⟨h.nodup.sublist hs,fun b m=>h.ge b (hs.subset m),fun b m=>h.plain b (hs.subset m)⟩
structure Got (c:YK α) (base:Nat) (cs:List Value) (x:α) (L:List Nat) (w:World):Prop where
 rep:c.rep w cs x L
 own:Own w base L
section
variable {c:YK α} {base:Nat} {cs:List Value} {x:α} {L M:List Nat} {w w':World}
end
def ZzT (c:YK α) (w:World) (x:α) (e:Ending) (w':World):Prop:=∃cs L,e=.returned (.agg cs.toArray)/\Got c w.heap.size cs x L w'/\Below w.heap.size w w'
theorem ZeA {c:YK α}{w:World}{A:Option Addr}{n cap:Nat}{ds:List α}{L:List Nat}(h:(X4 c).rep w [.slice A n cap] ds L):ds.length<=cap/\cap<=maxLen/\Sli c w A ds L:=by
 obtain ⟨A',cap',hv,h1,h2,h3⟩:=h
 cases hv
 exact ⟨h1,h2,h3⟩
structure Zge (c:YK α) (E:TypeId) (W:World) (v:Value) (ds:List α) (w:World):Prop where
 ex:∃xs L1,w.ownsV W.heap.size E c.size v ds.length xs/\c.reps w xs ds L1/\Own w W.heap.size (v.ownBlock.toList++L1)
 below:Below W.heap.size W w
def Zz2 (c:YK α) (E:TypeId) (w:World) (ds:List α) (e:Ending) (w':World):Prop:=∃v,e=.returned v/\Zge c E w v ds w'
theorem Zge.shape {c:YK α}{E:TypeId}{W w:World}{v:Value}{ds:List α}(h:Zge c E W v ds w):∃A cap,v=.slice A ds.length cap:=by
 obtain ⟨xs,L1,h1,_⟩:=h.ex
 obtain ⟨A,cap,hv,_⟩:=Y2 h1
 exact ⟨A,cap,hv⟩
theorem Zge.got {c:YK α}{E:TypeId}{W w:World}{v:Value}{ds:List α}(h:Zge c E W v ds w):∃L,Got (X4 c) W.heap.size [v] ds L w:=by
 obtain ⟨xs,L1,h1,h2,h3⟩:=h.ex
 obtain ⟨A,cap,rfl,hn,hm⟩:=Y2 h1
 obtain ⟨L0,hs,ho,hb⟩:=Sl.of_ownV h1
 refine ⟨L0++L1,⟨A,cap,rfl,hn,hm,xs,L0,L1,rfl,hs,h2⟩,h3.sub ?_⟩
 refine List.Sublist.append ?_ (List.Sublist.refl _)
 rcases hs.2 with ⟨_,h0⟩|⟨_,b,off,rfl,h0,_⟩
 .subst h0;exact List.nil_sublist _
 .subst h0
  simp [Value.ownBlock]
end
section
variable {α:Type} {c:YK α} {E:TypeId} {W:World} {n:Nat} {ds:List α} {k:Nat} {w w':World}
end
def Zsn (l:List ByteArray):Nat:=l.length+(l.map AI).sum
def Blk (w:World) (g:Nat) (t:TypeId) (cs:Array Value):Prop:=w.heap[g]?=some (.cells cs t (0,0))
section
variable {w w':World} {g:Nat} {t:TypeId} {cs:Array Value}
theorem Blk.lt (h:Blk w g t cs):g<w.heap.size:=(AA.1 h).1
theorem Blk.at {i:Nat}{v:Value}(h:Blk w g t cs) (hv:cs[i]?=some v):w.cell? ⟨g,i,none⟩=some v:=(cell_of_row w g i cs t (0,0) h).trans hv
theorem Blk.frozen (h:Blk w g t cs) (i:Nat):w.frozen? ⟨g,i,none⟩=false:=by
 unfold Blk at h
 simp [World.frozen?,h]
theorem Blk.new (w:World) (t:TypeId) (cs:Array Value):Blk (w.alloc (.cells cs t)) w.heap.size t cs:=heap_alloc_new w _
theorem Blk.new_at {w:World}{t:TypeId}{cs:Array Value}{g:Nat}(hg:g=w.heap.size):Blk (w.alloc (.cells cs t)) g t cs:=by subst hg;exact heap_alloc_new w _
theorem Blk.alloc (h:Blk w g t cs) (o:Obj):Blk (w.alloc o) g t cs:=(Below.heap_alloc w o g h.lt).trans h
theorem Blk.set_ (h:Blk w g t cs) (i:Nat) (u:Value):Blk (w.setCell ⟨g,i,none⟩ u) g t (cs.setIfInBounds i u):=by
 unfold Blk at h ⊢
 simp [World.setCell,Array.getElem?_modify,h]
theorem Blk.far (h:Blk w g t cs) {p:Addr}(hp:g≠p.block) (u:Value):Blk (w.setCell p u) g t cs:=(Below.heap_setCell w p u g hp).trans h
theorem Blk.later (h:Blk w g t cs) (hb:Below w.heap.size w w'):Blk w' g t cs:=(hb.block g h.lt).trans h
end
section
variable {w0:World} {base b lo m:Nat} {Lk M:List Nat} {cs:List Value} {w w':World}
end
end
section
open Go.RowKit
inductive PK where
 |int (k:IntKind)
 |bool
 |str
def Zio:PK->Value->Prop
 |.int k,.int k' _=>k=k'
 |.bool,.bool _=>True
 |.str,.string s=>s.size<=9223372036854775807
 |_,_=>False
def Zjw (kk vk:PK) (kv:List (Value×Value)):Prop:=∀p∈kv,Zio kk p.1/\Zio vk p.2
inductive CT where
 | int (k:IntKind) (n:Int)
 | bool (b:Bool)
 | str (s:ByteArray)
 | sl (e m:Nat) (xs:List (List CT))
 /-- a pointer to cells that are only read -/
 | pt (es:List CT)
 /-- a function value with what it has captured -/
 | fn (f:Nat) (cs:List CT)
 /-- a map of plain keys and plain values that is only read -/
 | mp (kk vk:PK) (kv:List (Value × Value))
 /-- an interface value: nil or not -/
 | ifc (isNil:Bool)
 /-- a cell of which nothing is known -/
 | any
 /-- the nil slice -/
 | nl (e m:Nat)
def ZeS (es:Array MapEntry):List (Value×Value):=es.toList.map fun e=>(e.key,e.val)
mutual
def RC (w:World):CT->Value->List Nat->Prop
 |.int k n,v,L=>v=.int k n/\L=[]
 |.bool b,v,L=>v=.bool b/\L=[]
 |.str s,v,L=>v=.string s/\L=[]/\s.size<=9223372036854775807
 |.sl _ m xs,v,L=>∃A cap cs L0 L1,v=.slice A xs.length cap/\xs.length<=cap/\cap<=maxLen/\L=L0++L1/\0<m/\Sl w m A xs.length cs L0/\REs w m xs cs L1
 |.pt es,v,L=>∃b cs L1,v=.pointer (some ⟨b,0,none⟩)/\b<w.heap.size/\L=b::L1/\ZbF w b 0 cs/\RCs w es cs L1
 |.fn f es,v,L=>∃vs:List Value,v=.func (.func f) #[] vs.toArray/\RCs w es vs L
 |.mp kk vk kv,v,L=>∃b es c,v=.map (some b)/\w.heap[b]?=some (.map es c)/\ZeS es=kv/\Zjw kk vk kv/\L=[b]
 |.ifc b,v,L=>L=[]/\v.oneCell'=true/\(match b with|true=>v=.nilIface|false=>∃t x,v=.iface t x)
 |.any,v,L=>L=[]/\v.oneCell'=true
 |.nl _ _,v,L=>v=.slice none 0 0/\L=[]
def RCs (w:World):List CT->List Value->List Nat->Prop
 | [],cs,L=>cs=[]/\L=[]
 |x::r,cs,L=>∃v cs' L1 L2,cs=v::cs'/\L=L1++L2/\RC w x v L1/\RCs w r cs' L2
def REs (w:World) (m:Nat):List (List CT)->List Value->List Nat->Prop
 | [],cs,L=>cs=[]/\L=[]
 |e::r,cs,L=>∃c1 c2 L1 L2,cs=c1++c2/\L=L1++L2/\(RCs w e c1 L1/\c1.length=m)/\REs w m r c2 L2
end
mutual
theorem RC.keep {w w':World}:∀{x:CT}{v:Value}{L:List Nat},RC w x v L->(∀b∈L,w'.heap[b]?=w.heap[b]?)->RC w' x v L
 |.int _ _,_,_,h,_=>h
 |.bool _,_,_,h,_=>h
 |.str _,_,_,h,_=>h
 |.sl _ _ _,_,_,⟨A,cap,cs,L0,L1,h1,h2,h3,h4,h5,h6,h7⟩,hk=>⟨A,cap,cs,L0,L1,h1,h2,h3,h4,h5,h6.keep fun b m=>hk b (by simp [h4,m]),h7.keep fun b m=>hk b (by simp [h4,m])⟩
 |.pt _,_,_,⟨b,cs,L1,h1,h2,h3,h4,h5⟩,hk=>⟨b,cs,L1,h1,by
   have e:=hk b (by simp [h3])
   rcases Nat.lt_or_ge b w'.heap.size with h|h
   .exact h
   .rw [Array.getElem?_eq_none h]at e
    have:=Array.getElem?_eq_none_iff.1 e.symm
    omega,h3,fun j u hu=>by rw [<-h4 j u hu];exact World.cell?_of_block (hk b (by simp [h3])),h5.keep fun b m=>hk b (by simp [h3,m])⟩
 |.fn _ _,_,_,⟨vs,h1,h2⟩,hk=>⟨vs,h1,h2.keep hk⟩
 |.mp _ _ _,_,_,⟨b,es,c,h1,h2,h3,a,h4⟩,hk=>⟨b,es,c,h1,by rw [hk b (by simp [h4])];exact h2,h3,a,h4⟩
 |.ifc _,_,_,h,_=>h
 |.any,_,_,h,_=>h
 |.nl _ _,_,_,h,_=>h
theorem RCs.keep {w w':World}:∀{x:List CT}{v:List Value}{L:List Nat},RCs w x v L->(∀b∈L,w'.heap[b]?=w.heap[b]?)->RCs w' x v L
 | [],_,_,h,_=>h
 |_::_,_,_,⟨v,cs,L1,L2,h1,h2,h3,h4⟩,hk=>⟨v,cs,L1,L2,h1,h2,h3.keep fun b m=>hk b (by simp [h2,m]),h4.keep fun b m=>hk b (by simp [h2,m])⟩
theorem REs.keep {w w':World}{m:Nat}:∀{x:List (List CT)}{v:List Value}{L:List Nat},REs w m x v L->(∀b∈L,w'.heap[b]?=w.heap[b]?)->REs w' m x v L
 | [],_,_,h,_=>h
 |_::_,_,_,⟨c1,c2,L1,L2,h1,h2,h3,h4⟩,hk=>⟨c1,c2,L1,L2,h1,h2,⟨h3.1.keep fun b m=>hk b (by simp [h2,m]),h3.2⟩,h4.keep fun b m=>hk b (by simp [h2,m])⟩
end
mutual
theorem RC.lt {w:World}:∀{x:CT}{v:Value}{L:List Nat},RC w x v L->∀b∈L,b<w.heap.size
 |.int _ _,_,_,h=>by simp [h.2]
 |.bool _,_,_,h=>by simp [h.2]
 |.str _,_,_,h=>by simp [h.2.1]
 |.sl _ _ _,_,_,⟨A,cap,cs,L0,L1,h1,h2,h3,h4,h5,h6,h7⟩=>fun b m=>by
  rw [h4]at m
  rcases A0.1 m with m|m
  .exact h6.lt h5 b m
  .exact h7.lt b m
 |.pt _,_,_,⟨b,cs,L1,h1,h2,h3,h4,h5⟩=>fun x m=>by
  rw [h3]at m
  rcases A4.1 m with rfl|m
  .exact h2
  .exact h5.lt x m
 |.fn _ _,_,_,⟨vs,h1,h2⟩=>h2.lt
 |.mp _ _ _,_,_,⟨b,es,c,h1,h2,h3,h3',h4⟩=>fun x m=>by
  rw [h4]at m
  simp at m;subst m
  exact (AA.1 h2).1
 |.ifc _,_,_,h=>by simp [h.1]
 |.any,_,_,h=>by simp [h.1]
 |.nl _ _,_,_,h=>by simp [h.2]
theorem RCs.lt {w:World}:∀{x:List CT}{v:List Value}{L:List Nat},RCs w x v L->∀b∈L,b<w.heap.size
 | [],_,_,h=>by simp [h.2]
 |_::_,_,_,⟨v,cs,L1,L2,h1,h2,h3,h4⟩=>fun b m=>by
  rw [h2]at m
  rcases A0.1 m with m|m
  .exact h3.lt b m
  .exact h4.lt b m
theorem REs.lt {w:World}{m:Nat}:∀{x:List (List CT)}{v:List Value}{L:List Nat},REs w m x v L->∀b∈L,b<w.heap.size
 | [],_,_,h=>by simp [h.2]
 |_::_,_,_,⟨c1,c2,L1,L2,h1,h2,h3,h4⟩=>fun b m=>by
  rw [h2]at m
  rcases A0.1 m with m|m
  .exact h3.1.lt b m
  .exact h4.lt b m
end
theorem RC.one {w:World}:∀{x:CT}{v:Value}{L:List Nat},RC w x v L->v.oneCell'=true
 |.int _ _,_,_,h=>by simp [h.1,Value.oneCell']
 |.bool _,_,_,h=>by simp [h.1,Value.oneCell']
 |.str _,_,_,h=>by simp [h.1,Value.oneCell']
 |.sl _ _ _,_,_,⟨A,cap,cs,L0,L1,h1,_⟩=>by simp [h1,Value.oneCell']
 |.pt _,_,_,⟨b,cs,L1,h1,_⟩=>by simp [h1,Value.oneCell']
 |.fn _ _,_,_,⟨vs,h1,_⟩=>by simp [h1,Value.oneCell']
 |.mp _ _ _,_,_,⟨b,es,c,h1,_⟩=>by simp [h1,Value.oneCell']
 |.ifc _,_,_,h=>h.2.1
 |.any,_,_,h=>h.2
 |.nl _ _,_,_,h=>by simp [h.1,Value.oneCell']
theorem RCs.one {w:World}:∀{x:List CT}{v:List Value}{L:List Nat},RCs w x v L->∀u∈v,u.oneCell'=true
 | [],_,_,h=>by simp [h.1]
 |_::_,_,_,⟨v,cs,L1,L2,h1,h2,h3,h4⟩=>fun u m=>by
  rw [h1]at m
  rcases A4.1 m with rfl|m
  .exact h3.one
  .exact h4.one u m
theorem RCs.len {w:World}:∀{x:List CT}{v:List Value}{L:List Nat},RCs w x v L->v.length=x.length
 | [],_,_,h=>by simp [h.1]
 |_::_,_,_,⟨v,cs,L1,L2,h1,h2,h3,h4⟩=>by simp [h1,h4.len]
theorem RCs.append {w:World}:∀{xs ys:List CT}{us vs:List Value}{L M:List Nat},RCs w xs us L->RCs w ys vs M->RCs w (xs++ys) (us++vs) (L++M)
 | [],_,_,_,_,_,h,h'=>by obtain ⟨rfl,rfl⟩:=h;simpa using h'
 |_::_,_,_,_,_,_,⟨v,cs,L1,L2,h1,h2,h3,h4⟩,h'=>⟨v,cs++_,L1,L2++_,by simp [h1],by simp [h2],h3,h4.append h'⟩
end
section
open Go.RowKit
inductive AV where
 | c (x:CT)
 /-- a row that the call has made with all that it leads to,from now on only read,maybe through others too -/
 | n (x:CT)
 | row (k:Nat)
 | nil (e m:Nat)
 | dead
inductive SV where
 |any
 |und
 |p (agg:Bool) (cs:List AV)
 |tup (xs:List (Bool×List AV))
 |bp (k off:Nat)
 |rp (k m i off:Nat)
 |ep (e:List CT) (off:Nat)
 |fn (f:FuncId)
inductive Ob where
 |gone
 |box (t:TypeId) (cs:List AV)
 |row (e m:Nat) (xs:List (List CT)) (deep:Nat)
 |map (kk vk:PK) (kv:List (Value×Value))
def upd {α:Type}(f:Nat->α) (k:Nat) (v:α):Nat->α:=fun j=>if j=k then v else f j
def Zba (a b:Nat):Nat:=if a<=b then a else b
structure St where
 sl:Nat->SV
 ob:Nat->Ob
 n:Nat
def St.put (st:St) (d:Option Nat) (v:SV):St:=match d with|none=>st|some t=>{ st with sl:=upd st.sl t v }
def Zl (ob:Nat->Ob):List (Nat×Ob)->Nat->Ob
 | []=>ob
 |p::r=>Zl (upd ob p.1 p.2) r
def St.app (st:St) (u:List (Nat×Ob)):St:={ st with ob:=Zl st.ob u }
structure FI where
 off:Nat
 size:Nat
 agg:Bool
inductive TI where
 |atom (z:AV)
 |strct (fs:List FI) (n:Nat) (z:List AV)
 |slice (e m bytes:Nat) (z:List AV)
 |map (kk vk:PK)
 |eqs (ks:List PK)
 |ifc
def ZAn:Option TI->Bool
 |some .ifc=>true
 |_=>false
def ZnA:Option TI->Option (List AV)
 |some (.atom z)=>some [z]
 |some (.strct _ _ z)=>some z
 |some (.slice e m _ _)=>some [.nil e m]
 |_=>none
def Z7 (s:ByteArray):Bool:=Nat.ble s.data.toList.length 9223372036854775807
def cvT (ti:Option TI):Value->SV
 |.int k n=>.p false [.c (.int k n)]
 |.bool b=>.p false [.c (.bool b)]
 |.string s=>if Z7 s then .p false [.c (.str s)] else .any
 |.slice none 0 0=>match ti with|some (.slice e m _ _)=>.p false [.nil e m]|_=>.any
 |_=>.any
section
variable (tt:Nat->Option TI)
def St.ev (st:St) (t:Nat):Operand->SV
 |.tmp s=>st.sl s
 |.const v=>cvT (tt t) v
 |.func f=>.fn f
 |.global _=>.any
def Zmz (k:IntKind) (x y:Int):Int:=k.wrap (BitVec.ofInt k.bits x &&& BitVec.ofInt k.bits y).toNat
def orI (k:IntKind) (x y:Int):Int:=k.wrap (BitVec.ofInt k.bits x ||| BitVec.ofInt k.bits y).toNat
def ZAV (k:IntKind) (x y:Int):Int:=k.wrap (BitVec.ofInt k.bits x ^^^ BitVec.ofInt k.bits y).toNat
def ZvI (k:IntKind) (x y:Int):Int:=k.wrap (BitVec.ofInt k.bits x &&& ~~~ BitVec.ofInt k.bits y).toNat
def ZGV (k:IntKind) (x y:Int):Int:=k.wrap (x*2 ^ (min y.toNat k.bits))
def ZwZ (k:IntKind) (x y:Int):Int:=x.fdiv (2 ^ (min y.toNat k.bits))
def ZFt (op:BinOp) (k:IntKind) (x y:Int):Option Int:=
 match op with
 |.and=>some (Zmz k x y)
 |.or=>some (orI k x y)
 |.xor=>some (ZAV k x y)
 |.andNot=>some (ZvI k x y)
 |_=>none
def ZBC (op:BinOp) (k:IntKind) (x y:Int):Option CT:=
 match op with
 |.add=>some (.int k (k.wrap (x+y)))
 |.sub=>some (.int k (k.wrap (x - y)))
 |.mul=>some (.int k (k.wrap (x*y)))
 |.quo=>if y=0 then none else some (.int k (k.wrap (x.tdiv y)))
 |.rem=>if y=0 then none else some (.int k (x.tmod y))
 |.eql=>some (.bool (x==y))
 |.neq=>some (.bool (x != y))
 |.lss=>some (.bool (decide (x<y)))
 |.leq=>some (.bool (decide (x<=y)))
 |.gtr=>some (.bool (decide (y<x)))
 |.geq=>some (.bool (decide (y<=x)))
 |.shl=>if y<0 then none else some (.int k (ZGV k x y))
 |.shr=>if y<0 then none else some (.int k (ZwZ k x y))
 |op=>(ZFt op k x y).map (.int k)
def sLt (x y:ByteArray):Bool:=Op.bytesLess x.toList y.toList
def sEq (x y:ByteArray):Bool:=decide (x=y)
def ZAO (op:BinOp) (x y:ByteArray):Option CT:=
 match op with
 |.add=>if x.size+y.size<=9223372036854775807 then some (.str (x++y)) else none
 |.eql=>some (.bool (sEq x y))
 |.neq=>some (.bool (!sEq x y))
 |.lss=>some (.bool (sLt x y))
 |.leq=>some (.bool (sLt x y||sEq x y))
 |.gtr=>some (.bool (!(sLt x y||sEq x y)))
 |.geq=>some (.bool (!sLt x y))
 |_=>none
def eqC:PK->AV->AV->Option Bool
 |.int _,.c (.int k x),.c (.int k' y)=>if k=k' then some (x==y) else none
 |.str,.c (.str x),.c (.str y)=>some (sEq x y)
 |.bool,.c (.bool x),.c (.bool y)=>some (x==y)
 |_,_,_=>none
def ZoB:List PK->List AV->List AV->Option Bool
 | [],[],[]=>some true
 |k::ks,x::r,y::q=>(eqC k x y).bind fun a=>(ZoB ks r q).map fun b=>a&&b
 |_,_,_=>none
def Zx9:Option TI->Option (List PK)
 |some (.eqs ks)=>some ks
 |_=>none
def Zsj (op:BinOp) (b:Bool):Option SV:=
 match op with
 |.eql=>some (.p false [.c (.bool b)])
 |.neq=>some (.p false [.c (.bool (!b))])
 |_=>none
def ZCh (t:Option TI) (op:BinOp):SV->SV->Option SV
 |.p true xs,.p true ys=>(Zx9 t).bind fun ks=>(ZoB ks xs ys).bind (Zsj op)
 |_,_=>none
def Zut:Value->Bool
 |.nilIface=>true
 |.int _ _=>false
 |.string _=>false
 |.bool _=>false
 |.slice _ _ _=>false
 |_=>false
def ZkU:Operand->Bool
 |.const v=>Zut v
 |.tmp _=>false
 |.func _=>false
 |.global _=>false
def ZD1 (op:BinOp):SV->Option SV
 |.p false [.c (.ifc b)]=>Zsj op b
 |_=>none
def Zyd:SV->Bool
 |.p ag _=>ag
 |_=>false
def ZAF (t:Option TI) (op:BinOp):SV->SV->Option SV
 |.p false [.c (.int k x)],.p false [.c (.int k' y)]=>if k=k'\/op=.shl\/op=.shr then (ZBC op k x y).map fun z=>.p false [.c z] else none
 |.p false [.c (.str x)],.p false [.c (.str y)]=>(ZAO op x y).map fun z=>.p false [.c z]
 |.p false [.c (.bool x)],.p false [.c (.bool y)]=>
  match t,op with
  |some (.atom (.c (.bool _))),.eql=>some (.p false [.c (.bool (x==y))])
  |some (.atom (.c (.bool _))),.neq=>some (.p false [.c (.bool (!(x==y)))])
  |_,_=>none
 |_,_=>none
def unV (op:UnOp):SV->Option SV
 |.p false [.c (.bool b)]=>match op with | .not=>some (.p false [.c (.bool (!b))])|_=>none
 |.p false [.c (.int k n)]=>match op with | .neg=>some (.p false [.c (.int k (k.wrap (0 - n)))])|_=>none
 |_=>none
def ZzR (tt:Nat->Option TI) (t:Nat) (n:Bool) (op:BinOp) (x y:SV):Option SV:=
 if n=true then (if ZAn (tt t)=true then ZD1 op x else none) else if Zyd x=true then ZCh (tt (t+4000)) op x y else ZAF (tt t) op x y
def Zfn:List (List CT)->Option (List Int)
 | []=>some []
 | [.int .u8 n]::r=>(Zfn r).map fun l=>n::l
 |_::_=>none
def XG (l:List Int):ByteArray:=⟨(l.map fun n=>UInt8.ofNat n.toNat).toArray⟩
def Zmr:Option TI->Bool
 |some (.atom (.c (.int .u8 _)))=>true
 |_=>false
def Zs1 (s t:Option TI):SV->Option SV
 |.p false [.c (.int _ n)]=>match s,t with|some (.atom _),some (.atom (.c (.int k _)))=>some (.p false [.c (.int k (k.wrap n))])|_,_=>none
 |_=>none
def Zct:Option TI->Bool
 |some (.slice _ _ _ _)=>true
 |_=>false
def ZdI:Option TI->Bool
 |some (.atom (.c (.str _)))=>true
 |_=>false
def ZoK (st:St) (t:Option TI):SV->Option SV
 |.p false [.c (.sl _ _ xs)]=>if Zct t=true then some (.p false [.c (.int .i64 xs.length)]) else none
 |.p false [.n (.sl _ _ xs)]=>if Zct t=true then some (.p false [.c (.int .i64 xs.length)]) else none
 |.p false [.c (.str s)]=>if ZdI t=true then some (.p false [.c (.int .i64 s.size)]) else none
 |.p false [.nil _ _]=>if Zct t=true then some (.p false [.c (.int .i64 0)]) else none
 |.p false [.row k]=>match st.ob k with | .row _ _ xs _=>if Zct t=true then some (.p false [.c (.int .i64 xs.length)]) else none|_=>none
 |_=>none
def Zar (st:St) (m:Nat):SV->SV->Option SV
 |.p false [.c (.sl _ m' xs)],.p false [.c (.int _ i)]=>if 0<=i/\m=m' then (xs[i.toNat]?).map fun e=>.ep e 0 else none
 |.p false [.row k],.p false [.c (.int _ i)]=>match st.ob k with
  |.row _ m' xs _=>if 0<=i/\i<xs.length/\m=m' then some (.rp k m i.toNat 0) else none
  |_=>none
 |_,_=>none
def Zm2 (t:Option TI):SV->SV->Option SV
 |.p false [.c (.str s)],.p false [.c (.int _ i)]=>if 0<=i/\ZdI t=true then (s[i.toNat]?).map fun b=>.p false [.c (.int .u8 b.toNat)] else none
 |_,_=>none
def cut (t:Option TI) (cs:List AV) (off:Nat):Option SV:=
 match t with
 |some (.strct _ n _)=>if off+n<=cs.length then some (.p true ((cs.drop off).take n)) else none
 |some (.eqs _)=>none
 |some _=>(cs[off]?).map fun x=>.p false [x]
 |none=>none
def QI (st:St) (t:Option TI):SV->Option SV
 |.bp k off=>match st.ob k with | .box _ cs=>cut t cs off|_=>none
 |.rp k m i off=>match st.ob k with | .row _ m' xs _=>(xs[i]?).bind fun e=>if m=m' then cut t (e.map .c) off else none|_=>none
 |.ep e off=>cut t (e.map .c) off
 |.p false [.c (.pt e)]=>cut t (e.map .c) 0
 |_=>none
def splice {α:Type}(cs:List α) (off:Nat) (vs:List α):List α:=cs.take off++(vs++cs.drop (off+vs.length))
def Zu6:AV->Option CT
 |.c (.int k n)=>some (.int k n)
 |.c (.bool b)=>some (.bool b)
 |.c (.str s)=>some (.str s)
 |_=>none
def Zgx:List AV->Option (List CT)
 | []=>some []
 |x::r=>(Zu6 x).bind fun a=>(Zgx r).map fun b=>a::b
def Zgd:Option TI->Nat
 |some (.strct _ n _)=>n
 |some (.atom _)=>1
 |some (.slice _ _ _ _)=>1
 |_=>0
def ZkC (d:Nat):SV->Option SV
 |.bp k off=>some (.bp k (off+d))
 |.rp k m i off=>some (.rp k m i (off+d))
 |.ep e off=>some (.ep e (off+d))
 |.p false [.c (.pt e)]=>some (.ep e d)
 |_=>none
def ZmA (fs:List FI) (f:Nat):SV->Option SV
 |.p true cs=>(fs[f]?).bind fun i=>if i.agg then (if i.off+i.size<=cs.length then some (.p true ((cs.drop i.off).take i.size)) else none) else (cs[i.off]?).map fun x=>.p false [x]
 |_=>none
def Zj6 (fs:List FI) (cs:List AV):List (Nat×SV)->Option (List AV)
 | []=>some cs
 |(i,.p _ vs)::r=>(fs[i]?).bind fun f=>if vs.length=f.size/\f.off+vs.length<=cs.length then Zj6 fs (splice cs f.off vs) r else none
 |_::_=>none
def ZgG (st:St) (fs:List FI) (z:List AV) (p:Nat×Operand):Nat×SV:=
 match p.2 with
 |.const (.slice none 0 0)=>(p.1,match (fs[p.1]?).bind fun f=>z[f.off]? with|some (.nil e m)=>.p false [.nil e m]|_=>.any)
 |x=>(p.1,st.ev tt 0 x)
def avT (st:St):AV->Option (CT×List Nat×Nat)
 |.c (.int k n)=>some (.int k n,[],2)
 |.c (.bool b)=>some (.bool b,[],2)
 |.c (.str s)=>some (.str s,[],2)
 |.c x=>some (x,[],1)
 |.nil e m=>if 0<m then some (.sl e m [],[],2) else none
 |.row k=>match st.ob k with | .row e m xs d=>(if d=0 then some (.sl e m xs,[],1) else some (.sl e m xs,[k],d))|_=>none
 |.n _=>none
 |.dead=>none
def ZdF (st:St):List AV->Option (List CT×List Nat×Nat)
 | []=>some ([],[],2)
 |x::r=>(avT st x).bind fun a=>(ZdF st r).map fun b=>(a.1::b.1,a.2.1++b.2.1,Zba a.2.2 b.2.2)
def Xy (st:St) (m:Nat):List SV->Option (List (List CT)×List Nat×Nat)
 | []=>some ([],[],2)
 |.p _ cs::r=>if cs.length=m then (ZdF st cs).bind fun a=>(Xy st m r).map fun b=>(a.1::b.1,a.2.1++b.2.1,Zba a.2.2 b.2.2) else none
 |_::_=>none
def Zkx:AV->Bool
 |.c _=>true
 |_=>false
def Yq:Ob->Ob
 |.row e m xs _=>.row e m xs 0
 |o=>o
def ZK (st:St):List Nat->List (Nat×Ob)
 | []=>[]
 |k::r=>(k,Yq (st.ob k))::ZK st r
def YD (ks:List Nat):List (Nat×Ob):=ks.map fun k=>(k,Ob.gone)
def Zni (st:St) (k e m m':Nat) (xs:List (List CT)) (d i off:Nat) (x:List CT) (n:Nat) (vs:List AV):Option (List CT)->Option (List (Nat×Ob))
 |some ys=>if m=m'/\vs.length=n/\0<vs.length/\off+vs.length<=m/\0<d then some [(k,.row e m (xs.set i (splice x off ys)) d)] else none
 |none=>(ZdF st vs).bind fun a=>if m=m'/\vs.length=n/\0<vs.length/\off+vs.length<=m/\0<d/\(k::a.2.1).Nodup then some (YD a.2.1++[(k,.row e m (xs.set i (splice x off a.1)) (Zba d a.2.2))]) else none
def ZgA (st:St) (t:Option TI):SV->SV->Option (List (Nat×Ob))
 |.bp k off,.p _ vs=>match st.ob k with
  |.box tb cs=>if vs.length=Zgd t/\0<vs.length/\off+vs.length<=cs.length then some [(k,.box tb (splice cs off vs))] else none
  |_=>none
 |.rp k m i off,.p _ vs=>match st.ob k with
  |.row e m' xs d=>(xs[i]?).bind fun x=>Zni st k e m m' xs d i off x (Zgd t) vs (Zgx vs)
  |_=>none
 |_,_=>none
def CT.flat:CT->Bool
 |.int _ _=>true
 |.bool _=>true
 |.str _=>true
 |_=>false
def ZbL (xs:List (List CT)):Bool:=xs.all fun e=>e.all CT.flat
def ZjK (fl:Bool) (xs:List (List CT)):Nat:=if (fl&&ZbL xs)=true then 2 else 1
def Zgi (st:St) (fl:Bool):SV->Option (List (List CT)×List Nat×Nat)
 |.p false [.c (.sl _ _ ys)]=>some (ys,[],ZjK fl ys)
 |.p false [.nil _ _]=>some ([],[],2)
 |.p false [.row j]=>match st.ob j with | .row _ _ ys d=>(if d=0 then some (ys,[],ZjK fl ys) else some (ys,[j],d))|_=>none
 |_=>none
def Zgo (st:St):SV->Option (List (List CT)×List Nat×Nat)
 |.p false [.nil _ _]=>some ([],[],2)
 |.p false [.row k]=>match st.ob k with | .row _ _ xs d=>(if d=0 then none else some (xs,[k],d))|_=>none
 |_=>none
def ZnD (st:St) (e m:Nat):SV->Bool
 |.p false [.row k]=>match st.ob k with | .row e' m' _ _=>e==e'&&m==m'|_=>false
 |.p false [.nil _ _]=>true
 |_=>false
def ZlE (st:St) (m:Nat):SV->Bool
 |.p false [.row k]=>match st.ob k with | .row _ m' _ _=>m==m'|_=>false
 |.p false [.c (.sl _ m' _)]=>m==m'
 |.p false [.nil _ _]=>true
 |_=>false
def ZoC (st:St) (key:Nat) (t:Option TI) (s x:SV):Option (SV×List (Nat×Ob)):=
 match t with
 |some (.slice e m _ z)=>
  (Zgo st s).bind fun a=>(Zgi st (z.all Zkx) x).bind fun b=>
   if ZnD st e m s=true/\ZlE st m x=true/\(a.2.1++b.2.1).Nodup/\a.1.length+b.1.length<=1073741824 then
    some (.p false [.row key],YD (a.2.1++b.2.1)++[(key,.row e m (a.1++b.1) (Zba a.2.2 b.2.2))]) else none
 |_=>none
def Zzi (lo:Bool):SV->SV->Option SV
 |.p false [.c (.int k x)],.p false [.c (.int _ y)]=>some (.p false [.c (.int k (if lo then (if y<x then y else x) else (if x<y then y else x)))])
 |_,_=>none
def ZkA:Option TI->Nat
 |some (.slice _ m _ _)=>m
 |_=>0
def hiB (n:Nat):Option SV->Option Nat
 |none=>some n
 |some (.p false [.c (.int _ h)])=>if 0<=h/\h<=n then some h.toNat else none
 |_=>none
def loB (n:Nat):Option SV->Option Nat
 |none=>some 0
 |some (.p false [.c (.int _ l)])=>if 0<=l/\l<=n then some l.toNat else none
 |_=>none
def Zm1 (t:Option TI) (lo hi:Option SV):SV->Option SV
 |.p false [.c (.str s)]=>if ZdI t=true then (hiB s.size hi).bind fun h=>(loB h lo).map fun l=>.p false [.c (.str (s.extract l h))] else none
 |.p false [.c (.sl e m xs)]=>if ZkA t=m then (hiB xs.length hi).bind fun h=>(loB h lo).map fun l=>.p false [.c (.sl e m ((xs.take h).drop l))] else none
 |_=>none
def mvS (d:Nat):Option SV->Option SV->Bool
 |some _,none=>if d=0 then false else true
 |_,_=>false
def ZaJ (st:St) (key:Nat) (t:Option TI) (lo hi:Option SV):SV->Option (SV×List (Nat×Ob))
 |.p false [.row k]=>if Zct t=true then (match st.ob k with
  |.row e m xs d=>if ZkA t=m then if mvS d lo hi=true then (loB xs.length lo).map fun l=>(.p false [.row key],[(k,.gone),(key,.row e m (xs.drop l) d)]) else (hiB xs.length hi).bind fun h=>(loB h lo).map fun l=>(.p false [.c (.sl e m ((xs.take h).drop l))],[(k,.row e m xs 0)]) else none
  |_=>none) else none
 |.p false [.c x]=>(Zm1 t lo hi (.p false [.c x])).map fun v=>(v,[])
 |_=>none
def vEq:Value->Value->Bool
 |.int k a,.int k' b=>k==k'&&a==b
 |.string a,.string b=>sEq a b
 |.bool a,.bool b=>a==b
 |_,_=>false
def ZlL:List (Value×Value)->Value->Option Value
 | [],_=>none
 |p::r,k=>if vEq k p.1=true then some p.2 else ZlL r k
def Zf3:List (Value×Value)->Value->Value->List (Value×Value)
 | [],k,v=>[(k,v)]
 |p::r,k,v=>if vEq k p.1=true then (k,v)::r else p::Zf3 r k v
def avV:Value->AV
 |.int k n=>.c (.int k n)
 |.bool b=>.c (.bool b)
 |.string s=>.c (.str s)
 |_=>.dead
def ZcA (kv:List (Value×Value)) (k:Value) (z:AV):AV:=match ZlL kv k with|some v=>avV v|none=>z
def Zfm (kv:List (Value×Value)) (k:Value):Bool:=(ZlL kv k).isSome
def Zfv:PK->AV
 |.int k=>.c (.int k 0)
 |.bool=>.c (.bool false)
 |.str=>.c (.str ⟨#[]⟩)
def Zw7:PK->SV->Option Value
 |.int k,.p false [.c (.int k' n)]=>if k=k' then some (.int k' n) else none
 |.str,.p false [.c (.str s)]=>some (.string s)
 |.bool,.p false [.c (.bool b)]=>some (.bool b)
 |_,_=>none
def Ztc (kk vk:PK) (kv:List (Value×Value)) (i:SV) (ok:Bool):Option SV:=
 (Zw7 kk i).map fun k=>match ok with
  |true=>.tup [(false,[ZcA kv k (Zfv vk)]),(false,[.c (.bool (Zfm kv k))])]
  |false=>.p false [ZcA kv k (Zfv vk)]
instance pkDec:DecidableEq PK:=fun a b=>match a,b with
 |.int k,.int k'=>if h:k=k' then isTrue (h ▸ rfl) else isFalse (fun e=>h (PK.int.inj e))
 |.bool,.bool=>isTrue rfl
 |.str,.str=>isTrue rfl
 |.int _,.bool=>isFalse (fun e=>by cases e)
 |.int _,.str=>isFalse (fun e=>by cases e)
 |.bool,.int _=>isFalse (fun e=>by cases e)
 |.bool,.str=>isFalse (fun e=>by cases e)
 |.str,.int _=>isFalse (fun e=>by cases e)
 |.str,.bool=>isFalse (fun e=>by cases e)
def Ze1 (kk vk:PK):Option TI->Bool
 |some (.map a b)=>decide (a=kk)&&decide (b=vk)
 |_=>false
def Zhi (st:St) (t:Option TI) (x i:SV) (ok:Bool):Option SV:=
 match x with
 |.p false [.row k]=>match st.ob k with | .map kk vk kv=>if Ze1 kk vk t=true then Ztc kk vk kv i ok else none|_=>none
 |.p false [.c (.mp kk vk kv)]=>if Ze1 kk vk t=true then Ztc kk vk kv i ok else none
 |_=>none
def ZxX (st:St) (t:Option TI) (x i v:SV):Option (List (Nat×Ob)):=
 match x with
 |.p false [.row k]=>match st.ob k with | .map kk vk kv=>if Ze1 kk vk t=true then (Zw7 kk i).bind fun a=>(Zw7 vk v).map fun b=>[(k,.map kk vk (Zf3 kv a b))] else none|_=>none
 |_=>none
def Zpj (key:Nat):Option TI->Option (SV×List (Nat×Ob))
 |some (.map kk vk)=>some (.p false [.row key],[(key,.map kk vk [])])
 |_=>none
def ZjE (st:St):SV->Option (CT×List (Nat×Ob))
 |.bp k 0=>match st.ob k with | .box _ cs=>(zBox cs).map fun l=>(.pt l,[(k,.gone)])|_=>none
 |.p false [.c (.pt e)]=>some (.pt e,[])
 |_=>none
where zBox:List AV->Option (List CT)
 | []=>some []
 |.c x::r=>(zBox r).map fun b=>x::b
 |_::_=>none
def Zfe (st:St):List SV->Option (List CT×List (Nat×Ob))
 | []=>some ([],[])
 |x::r=>(ZjE st x).bind fun a=>(Zfe st r).map fun b=>(a.1::b.1,a.2++b.2)
def ZlS:List AV->Option (List CT)
 | []=>some []
 |.c x::r=>(ZlS r).map fun b=>x::b
 |.nil e m::r=>if 0<m then (ZlS r).map fun b=>.sl e m []::b else none
 |_::_=>none
def Ztj (key:Nat) (t:Option TI):SV->SV->Option (SV×List (Nat×Ob))
 |.p false [.c (.int .i64 n)],.p false [.c (.int .i64 c)]=>
  match t with
  |some (.slice e m _ z)=>(ZlS z).bind fun ze=>if 0<=n/\n=c/\n<=1073741824 then some (.p false [.row key],[(key,.row e m (List.replicate n.toNat ze) 2)]) else none
  |_=>none
 |_,_=>none
def Zzz (i:Nat):SV->Option SV
 |.tup xs=>(xs[i]?).map fun x=>.p x.1 x.2
 |_=>none
def Zb0 (v:Option SV):Option (SV×List (Nat×Ob)):=v.map fun v=>(v,[])
def ZiE (st:St):SV->Option SV
 |.p false [.row k]=>match st.ob k with | .row _ _ xs _=>(Zfn xs).map fun l=>.p false [.c (.str (XG l))]|_=>none
 |.p false [.c (.sl _ _ xs)]=>(Zfn xs).map fun l=>.p false [.c (.str (XG l))]
 |_=>none
def Zrh (tt:Nat->Option TI):Option TI->Option TI
 |some (.slice e _ _ _)=>tt e
 |_=>none
def Zg5 (tt:Nat->Option TI) (st:St) (s t:Nat) (x:SV):Option SV:=
 if (ZdI (tt t)&&Zmr (Zrh tt (tt s)))=true then ZiE st x else Zs1 (tt s) (tt t) x
def Zjj:List TypeId->List Operand->List (TypeId×Operand)
 |t::ts,x::xs=>(t,x)::Zjj ts xs
 | [],x::xs=>(0,x)::Zjj [] xs
 |_,[]=>[]
def evs (st:St) (ts:List TypeId) (xs:List Operand):List SV:=(Zjj ts xs).map fun p=>st.ev tt p.1 p.2
def Zgq (st:St) (key:Nat) (b:Builtin) (ts:List TypeId) (vs:List SV):Option (SV×List (Nat×Ob)):=
 match b,ts,vs with
 |.len,t::_,[x]=>Zb0 (ZoK st (tt t) x)
 |.append,[t,u],[s,x]=>if t=u then ZoC st key (tt t) s x else none
 |.max,_,[x,y]=>Zb0 (Zzi false x y)
 |.min,_,[x,y]=>Zb0 (Zzi true x y)
 |_,_,_=>none
def opE (key:Nat) (o:Oper) (st:St):Option (SV×List (Nat×Ob)):=
 match o.op with
 |.move x=>some (st.ev tt o.type x,[])
 |.assign x=>some (st.ev tt o.type x,[])
 |.pick c a b=>match st.ev tt 0 c with | .p false [.c (.bool t)]=>some (if t=true then st.ev tt o.type a else st.ev tt o.type b,[])|_=>none
 |.alloc t=>(ZnA (tt t)).map fun z=>(.bp key 0,[(key,.box t z)])
 |.box t x=>match st.ev tt t x with | .p _ cs=>some (.bp key 0,[(key,.box t cs)])|_=>none
 |.build t parts=>match tt t with|some (.strct fs _ z)=>(Zj6 fs z (parts.toList.map (ZgG tt st fs z))).map fun cs=>(.p true cs,[])|_=>none
 |.buildSlice t len parts=>match tt t with
  |some (.slice e m _ z)=>(Xy st m (parts.toList.map fun p=>st.ev tt e p.2)).bind fun a=>
   if parts.toList.map (·.1)=List.range len/\len*m<=16777216/\a.2.1.Nodup/\(!z.all Zkx||a.2.1.isEmpty)=true then some (.p false [.row key],ZK st a.2.1++[(key,.row e m a.1 a.2.2)]) else none
  |_=>none
 |.load t x=>Zb0 (QI st (tt t) (st.ev tt 0 x))
 |.store t x v=>(ZgA st (tt t) (st.ev tt 0 x) (st.ev tt t v)).map fun u=>(.und,u)
 |.nilCheck x=>match st.ev tt 0 x with | .bp k i=>some (.bp k i,[]) | .rp k m i j=>some (.rp k m i j,[]) | .ep e i=>some (.ep e i,[]) | .p false [.c (.pt e)]=>some (.p false [.c (.pt e)],[])|_=>none
 |.makeFunc (.func f) first caps=>if first.size=0 then (Zfe st (caps.toList.map (st.ev tt 0))).bind fun r=>if (r.2.map (·.1)).Nodup then some (.p false [.c (.fn f r.1)],r.2) else none else none
 |.makeMap t none=>Zpj key (tt t)
 |.lookup t x i ok=>Zb0 (Zhi st (tt t) (st.ev tt 0 x) (st.ev tt 0 i) ok)
 |.mapUpdate t x i v=>(ZxX st (tt t) (st.ev tt 0 x) (st.ev tt 0 i) (st.ev tt 0 v)).map fun u=>(.und,u)
 |.binOp op t x y _=>Zb0 (ZzR tt t (ZkU y) op (st.ev tt t x) (st.ev tt t y))
 |.unOp op _ x=>Zb0 (unV op (st.ev tt 0 x))
 |.convert s t x=>Zb0 (Zg5 tt st s t (st.ev tt 0 x))
 |.makeSlice t n c=>Ztj key (tt t) (st.ev tt 0 n) (st.ev tt 0 c)
 |.slice t x lo hi none=>ZaJ st key (tt t) (lo.map (st.ev tt 0)) (hi.map (st.ev tt 0)) (st.ev tt 0 x)
 |.fieldAddr t x f=>match tt t with|some (.strct fs _ _)=>Zb0 ((fs[f]?).bind fun i=>ZkC i.off (st.ev tt 0 x))|_=>none
 |.field t x f=>match tt t with|some (.strct fs _ _)=>Zb0 (ZmA fs f (st.ev tt 0 x))|_=>none
 |.indexAddr t x i=>match tt t with|some (.slice _ m _ _)=>Zb0 (Zar st m (st.ev tt 0 x) (st.ev tt 0 i))|_=>none
 |.index t x i=>Zb0 (Zm2 (tt t) (st.ev tt 0 x) (st.ev tt 0 i))
 |.extract x i=>Zb0 (Zzz i (st.ev tt 0 x))
 |.call c=>match c.callee with
  |.builtin b=>Zgq tt st key b c.argTypes.toList (evs tt st c.argTypes.toList c.args.toList)
  |_=>none
 |_=>none
end
def ZcM (st:St):AV->Option CT
 |.c x=>some x
 |.nil e m=>if 0<m then some (.sl e m []) else none
 |.row k=>match st.ob k with | .row e m xs _=>some (.sl e m xs)|_=>none
 |.n x=>some x
 |.dead=>none
def Xc (st:St):List AV->Option (List CT)
 | []=>some []
 |x::r=>(ZcM st x).bind fun a=>(Xc st r).map fun b=>a::b
def ZdU (st:St):SV->Option (Bool×List CT)
 |.p a cs=>(Xc st cs).map fun l=>(a,l)
 |_=>none
def ZY (st:St):List SV->Option (List (Bool×List CT))
 | []=>some []
 |x::r=>(ZdU st x).bind fun a=>(ZY st r).map fun b=>a::b
def nlA:AV->AV
 |.nil e m=>.c (.nl e m)
 |.c x=>.c x
 |.n x=>.n x
 |.row k=>.row k
 |.dead=>.dead
def nlS:SV->SV
 |.p a cs=>.p a (cs.map nlA)
 |x=>x
def ZiV:CT->AV
 |.nl e m=>.nil e m
 |.int k n=>.c (.int k n)
 |.bool b=>.c (.bool b)
 |.str s=>.c (.str s)
 |.sl e m xs=>.c (.sl e m xs)
 |.pt es=>.c (.pt es)
 |.fn f es=>.c (.fn f es)
 |.mp k v kv=>.c (.mp k v kv)
 |.ifc b=>.c (.ifc b)
 |.any=>.c .any
abbrev RT:=Bool×List (Bool×CT)
def ZIF (l:List CT):List (Bool×CT):=l.map fun x=>(false,x)
def ZFH (l:List CT):List (Bool×CT):=l.map fun x=>(true,x)
def ZG (key:Nat):List (Bool×CT)->List AV×List (Nat×Ob)×Nat
 | []=>([],[],key)
 |(false,.sl e m xs)::r=>let b:=ZG (key+1) r;(.row key::b.1,(key,.row e m xs 2)::b.2.1,b.2.2)
 |(false,.int k n)::r=>let b:=ZG key r;(.c (.int k n)::b.1,b.2.1,b.2.2)
 |(false,.bool k)::r=>let b:=ZG key r;(.c (.bool k)::b.1,b.2.1,b.2.2)
 |(false,.str s)::r=>let b:=ZG key r;(.c (.str s)::b.1,b.2.1,b.2.2)
 |(false,.ifc x)::r=>let b:=ZG key r;(.c (.ifc x)::b.1,b.2.1,b.2.2)
 |(false,.any)::r=>let b:=ZG key r;(.c .any::b.1,b.2.1,b.2.2)
 |(false,.nl e m)::r=>let b:=ZG key r;(.c (.nl e m)::b.1,b.2.1,b.2.2)
 |(false,.pt x)::r=>let b:=ZG key r;(.c (.pt x)::b.1,b.2.1,b.2.2)
 |(false,.fn f x)::r=>let b:=ZG key r;(.c (.fn f x)::b.1,b.2.1,b.2.2)
 |(false,.mp k v x)::r=>let b:=ZG key r;(.c (.mp k v x)::b.1,b.2.1,b.2.2)
 |(true,x)::r=>let b:=ZG key r;(.c x::b.1,b.2.1,b.2.2)
def ZA (key:Nat):List RT->List (Bool×List AV)×List (Nat×Ob)×Nat
 | []=>([],[],key)
 |x::r=>let a:=ZG key x.2;let b:=ZA a.2.2 r;((x.1,a.1)::b.1,a.2.1++b.2.1,b.2.2)
def QW:List (Bool×List AV)->SV
 | [x]=>.p x.1 x.2
 |xs=>.tup xs
inductive ZgW where
 |row (e m:Nat) (xs:List (List CT))
 |box (t:Nat) (cs:List CT)
inductive NB where
 |box (t:Nat) (cs:List CT)
 |map (kk vk:PK) (kv:List (Value×Value))
def ZHP (key:Nat):NB->SV
 |.box _ _=>.bp key 0
 |.map _ _ _=>.p false [.row key]
def Zyw:NB->Ob
 |.box t cs=>.box t (cs.map .c)
 |.map kk vk kv=>.map kk vk kv
structure Ctx where
 r:FuncId→List (Bool × List CT)→List RT→Prop
 h:FuncId→ZgW→List (Bool × List CT)→List RT→ZgW→Prop
 hd:FuncId→Nat
 b:FuncId→List (Bool × List CT)→NB→Prop
 /-- a box with rows of the call's own is handed in: its type and cells,what is given besides,and its cells behind the call -/
 o:FuncId→Nat→List (Bool × CT)→Option (Bool × List (Bool × CT))→List (Bool × List CT)→List RT→List (Bool × CT)→Prop
 /-- something is given,and what is made of it may be among the results -/
 g:FuncId→Bool × List (Bool × CT)→List (Bool × List CT)→List RT→Prop
def gvC:Option (Bool×List (Bool×CT))->List (Bool×CT)
 |none=>[]
 |some g=>g.2
def ZbA:AV->Bool
 |.row _=>false
 |.dead=>false
 |_=>true
def Zif:SV->Bool
 |.p _ cs=>cs.all ZbA
 |_=>true
def ZcZ:List (Bool×CT)->Bool
 | []=>false
 |p::r=>p.1||ZcZ r
def ZdV:List RT->Bool
 | []=>false
 |x::r=>ZcZ x.2||ZdV r
def ZiO:List AV->List Nat
 | []=>[]
 |.row k::r=>k::ZiO r
 |_::r=>ZiO r
def ZJ:List SV->List Nat
 | []=>[]
 |.p _ cs::r=>ZiO cs++ZJ r
 |_::r=>ZJ r
def Zgk (st:St):SV->Option (Nat×ZgW)
 |.bp k 0=>match st.ob k with | .box t cs=>(if cs.all ZbA=true then (Xc st cs).map fun l=>(k,.box t l) else none)|_=>none
 |.p false [.row k]=>match st.ob k with | .row e m xs d=>(if d=2/\ZbL xs=true then some (k,.row e m xs) else none)|_=>none
 |_=>none
def ZfC (st:St):AV->Option ((Bool×CT)×List Nat)
 |.c (.sl e m xs)=>some ((true,.sl e m xs),[])
 |.c (.int k n)=>some ((false,.int k n),[])
 |.c (.bool b)=>some ((false,.bool b),[])
 |.c (.str s)=>some ((false,.str s),[])
 |.nil e m=>if 0<m then some ((false,.sl e m []),[]) else none
 |.row k=>match st.ob k with | .row e m xs d=>(if d=2 then some ((false,.sl e m xs),[k]) else none)|_=>none
 |_=>none
def Y5 (st:St):List AV->Option (List (Bool×CT)×List Nat)
 | []=>some ([],[])
 |x::r=>(ZfC st x).bind fun a=>(Y5 st r).map fun b=>(a.1::b.1,a.2++b.2)
def ZdP (st:St):SV->Option (Nat×Nat×List (Bool×CT)×List Nat)
 |.bp k 0=>match st.ob k with | .box t cs=>((Y5 st cs).bind fun x=>if x.2.Nodup then some (k,t,x.1,x.2) else none)|_=>none
 |_=>none
def YT:ZgW->Ob
 |.row e m xs=>.row e m xs 2
 |.box t cs=>.box t (cs.map .c)
inductive Ex where
 |normal
 |exit (id:Nat)
 |ret
section
variable (tt:Nat->Option TI) (S:Ctx)
def YA {α:Type}(r:Option α) (K:α->Prop):Prop:=match r with|some v=>K v|none=>False
def Zil (dst:Option Nat) (K:St->Prop) (st:St) (v:SV):Prop:=K (st.put dst v)
def Zl4 (dst:Option Nat) (K:St->Prop) (st:St) (r:SV×List (Nat×Ob)):Prop:=K ((st.put dst r.1).app r.2)
def ZsL (f:FuncId) (key:Nat) (dst:Option Nat) (K:St->Prop) (st:St) (vs:List SV) (l:List (Bool×List CT)):Prop:=
 ∃res,S.r f l res/\(!ZdV res||vs.all Zif)=true/\(ZA key res).2.2<=key+16/\K ((st.put dst (QW (ZA key res).1)).app (ZA key res).2.1)
def ZAQ (f:FuncId) (key:Nat) (dst:Option Nat) (K:St->Prop) (st:St) (vs:List SV) (l:List (Bool×List CT)):Prop:=
 ∃res,S.r f l res/\(ZA key res).2.2<=key+16/\K ((st.put dst (QW (ZA key res).1)).app (ZK st (ZJ vs)++(ZA key res).2.1))
def Zx1 (f:FuncId) (key:Nat) (dst:Option Nat) (K:St->Prop) (st:St) (vs:List SV) (kh:Nat×ZgW) (l:List (Bool×List CT)):Prop:=
 ∃res h',S.h f kh.2 l res h'/\(ZJ vs).all (fun j=>j != kh.1)=true/\(ZA key res).2.2<=key+16/\K ((st.put dst (QW (ZA key res).1)).app (ZK st (ZJ vs)++((kh.1,YT h')::(ZA key res).2.1)))
def ZiW (st:St):List SV->Option (Option (Bool×List (Bool×CT))×List Nat)
 | []=>some (none,[])
 | [.p a xs]=>(Y5 st xs).map fun x=>(some (a,x.1),x.2)
 |_=>none
def Zix (ks:List Nat) (j:Nat):Bool:=!ks.contains j
def Zvt (f:FuncId) (key:Nat) (dst:Option Nat) (K:St->Prop) (st:St) (vs:List SV) (kh:Nat×Nat×List (Bool×CT)×List Nat) (gh:Option (Bool×List (Bool×CT))×List Nat) (l:List (Bool×List CT)):Prop:=
 ∃res cs',S.o f kh.2.1 kh.2.2.1 gh.1 l res cs'/\(kh.2.2.2++gh.2).Nodup/\(ZJ vs).all (Zix (kh.2.2.2++gh.2))=true/\(ZA key res).2.2=key/\(ZG key cs').2.2<=key+16/\K ((st.put dst (QW (ZA key res).1)).app (ZK st (ZJ vs)++(YD (kh.2.2.2++gh.2)++((kh.1,.box kh.2.1 (ZG key cs').1)::(ZG key cs').2.1))))
def Zz6 (f:FuncId) (key:Nat) (dst:Option Nat) (K:St->Prop) (st:St) (vs:List SV) (gh:Option (Bool×List (Bool×CT))×List Nat) (l:List (Bool×List CT)):Prop:=
 ∃gv res,gh.1=some gv/\S.g f gv l res/\gh.2.Nodup/\(ZJ vs).all (Zix gh.2)=true/\(ZA key res).2.2<=key+16/\K ((st.put dst (QW (ZA key res).1)).app (ZK st (ZJ vs)++(YD gh.2++(ZA key res).2.1)))
def ZET (f:FuncId) (key:Nat) (dst:Option Nat) (K:St->Prop) (st:St) (vs:List SV) (l:List (Bool×List CT)):Prop:=
 ∃nb,S.b f l nb/\K ((st.put dst (ZHP key nb)).app (ZK st (ZJ vs)++[(key,Zyw nb)]))
def Zvn (f:FuncId) (key:Nat) (dst:Option Nat) (K:St->Prop) (st:St):List SV->Prop
 | []=>False
 |v::r=>YA (Zgk st v) fun kh=>YA (ZY st r) (Zx1 S f key dst K st r kh)
def ZlA (f:FuncId) (n key:Nat) (dst:Option Nat) (K:St->Prop) (st:St):List SV->Prop
 | []=>False
 |v::r=>YA (ZdP st v) fun kh=>YA (ZiW st (r.take n)) fun gh=>YA (ZY st (r.drop n)) (Zvt S f key dst K st (r.drop n) kh gh)
def Zvp (f:FuncId) (key:Nat) (dst:Option Nat) (K:St->Prop) (st:St):List SV->Prop
 | []=>False
 |v::r=>YA (ZiW st [v]) fun gh=>YA (ZY st r) (Zz6 S f key dst K st r gh)
def spK (f:FuncId) (n key:Nat) (dst:Option Nat) (K:St->Prop) (st:St) (vs:List SV):Prop:=
 match n with
 |0=>YA (ZY st vs) (ZsL S f key dst K st vs)
 |1=>Zvn S f key dst K st vs
 |3=>YA (ZY st vs) (ZET S f key dst K st vs)
 |4=>YA (ZY st (vs.map nlS)) (ZsL S f key dst K st (vs.map nlS))
 |5=>ZlA S f 0 key dst K st vs
 |6=>ZlA S f 1 key dst K st vs
 |7=>Zvp S f key dst K st vs
 |_=>YA (ZY st vs) (ZAQ S f key dst K st vs)
def Xd:Op->Option (FuncId×List TypeId×List Operand)
 |.call ⟨.value (.func f),args,ts⟩=>some (f,ts.toList,args.toList)
 |_=>none
def XD:Op->Option (Nat×List TypeId×List Operand)
 |.call ⟨.value (.tmp s),args,ts⟩=>some (s,ts.toList,args.toList)
 |_=>none
def ZpY:SV->Option (FuncId×List CT)
 |.p false [.c (.fn f es)]=>some (f,es)
 |.fn f=>some (f,[])
 |_=>none
def ZlB (c:CT):SV:=.p false [.c c]
def ZC9 (key:Nat) (dst:Option Nat) (K:St->Prop) (st:St) (vs:List SV) (fc:FuncId×List CT):Prop:=S.hd fc.1=0/\spK S fc.1 0 key dst K st (vs++fc.2.map ZlB)
def opS (key:Nat) (o:Oper) (K:St->Prop) (st:St):Prop:=
 match Xd o.op with
 |some c=>spK S c.1 (S.hd c.1) key o.dst K st (evs tt st c.2.1 c.2.2)
 |none=>match XD o.op with
  |some c=>YA (ZpY (st.sl c.1)) (ZC9 S key o.dst K st (evs tt st c.2.1 c.2.2))
  |none=>YA (opE tt key o st) (Zl4 o.dst K st)
def Zbl (all:List Oper) (o:Oper):Option (Option Nat×Bool):=
 match o.guard with
 |none=>none
 |some g=>some ((all[g.1]?).bind (·.dst),g.2)
def ZaR:SV->Bool
 |.p false [.c (.bool _)]=>true
 |_=>false
def Qx:SV->Bool
 |.p false [.c (.bool b)]=>b
 |_=>false
def ZsB:SV->Bool
 |.und=>true
 |_=>false
def gK (v:SV) (want:Bool) (A B:Prop):Prop:=if ZaR v=true then (if (Qx v==want)=true then A else B) else (if ZsB v=true then B else False)
def opG (all:List Oper) (key:Nat) (o:Oper) (K:St->Prop) (st:St):Prop:=
 match Zbl all o with
 |none=>opS tt S key o K st
 |some (none,_)=>K (st.put o.dst .und)
 |some (some t,want)=>gK (st.sl t) want (opS tt S key o K st) (K (st.put o.dst .und))
def Yn (all:List Oper) (key:Nat):List Oper->(St->Prop)->St->Prop
 | [],K,st=>K st
 |o::r,K,st=>opG tt S all key o (Yn all (key+16) r K) st
def Zrv (n:Nat) (K:St->Prop) (st:St):Prop:=K { st with n:=n }
def ZBA (ops:List Oper) (K:St->Prop) (st:St):Prop:=Yn tt S ops st.n ops (Zrv (st.n+16*ops.length) K) st
def ZgI (k:St->Prop) (Q:Ex->St->Prop):Ex->St->Prop
 |.normal,st=>k st
 |e,st=>Q e st
def Zg8 (id:Nat) (Q:Ex->St->Prop):Ex->St->Prop
 |.exit j,st=>if j=id then Q .normal st else Q (.exit j) st
 |e,st=>Q e st
def Zp9 (v:SV) (a b:Prop):Prop:=if ZaR v=true then (if Qx v=true then a else b) else False
def Zq7:List Nat->Nat->Nat->Option Nat
 | [],_,_=>none
 |x::r,k,i=>if x=k then some i else Zq7 r k (i+1)
def rAV (ρ:List Nat):AV->AV
 |.row k=>match Zq7 ρ k 0 with|some j=>.row j|none=>.dead
 |x=>x
def rSV (ρ:List Nat):SV->SV
 |.p a cs=>.p a (cs.map (rAV ρ))
 |.tup xs=>.tup (xs.map fun x=>(x.1,x.2.map (rAV ρ)))
 |.bp k off=>match Zq7 ρ k 0 with|some j=>.bp j off|none=>.any
 |.rp k m i off=>match Zq7 ρ k 0 with|some j=>.rp j m i off|none=>.any
 |x=>x
def rOb (ρ:List Nat):Ob->Ob
 |.box t cs=>.box t (cs.map (rAV ρ))
 |x=>x
def St.ren (st:St) (ρ:List Nat):St:=⟨fun t=>rSV ρ (st.sl t),fun j=>match ρ[j]? with|some k=>rOb ρ (st.ob k)|none=>.gone,ρ.length⟩
def St.mat (st:St) (m:Bool×Nat×Nat):St:=
 match m.1 with
 |false=>match st.sl m.2.1 with
  |.p ag cs=>match cs[m.2.2]? with
   |some (.nil e q)=>if 0<q then ⟨upd st.sl m.2.1 (.p ag (cs.set m.2.2 (.row st.n))),upd st.ob st.n (.row e q [] 2),st.n+1⟩ else st
   |some (.row k)=>match st.ob k with
    |.row e q xs _=>⟨upd st.sl m.2.1 (.p ag (cs.set m.2.2 (.c (.sl e q xs)))),upd st.ob k (.row e q xs 0),st.n⟩
    |_=>st
   |_=>st
  |_=>st
 |true=>match st.ob m.2.1 with
  |.box ty cs=>match cs[m.2.2]? with
   |some (.nil e q)=>if 0<q then ⟨st.sl,upd (upd st.ob m.2.1 (.box ty (cs.set m.2.2 (.row st.n)))) st.n (.row e q [] 2),st.n+1⟩ else st
   |some (.row k)=>match st.ob k with
    |.row e q xs _=>⟨st.sl,upd (upd st.ob k (.row e q xs 0)) m.2.1 (.box ty (cs.set m.2.2 (.c (.sl e q xs)))),st.n⟩
    |_=>st
   |_=>st
  |.row e q xs d=>if m.2.2<d then ⟨st.sl,upd st.ob m.2.1 (.row e q xs m.2.2),st.n⟩ else st
  |_=>st
def St.matN (st:St) (m:Bool×Nat×Nat):St:=
 match st.sl m.2.1 with
 |.p ag cs=>match cs[m.2.2 - 4096]? with
  |some (.row k)=>match st.ob k with
   |.row e q xs d=>if d=2 then ⟨upd st.sl m.2.1 (.p ag (cs.set (m.2.2 - 4096) (.n (.sl e q xs)))),upd st.ob k (.row e q xs 0),st.n⟩ else st
   |_=>st
  |_=>st
 |_=>st
def St.mats (st:St):List (Bool×Nat×Nat)->St
 | []=>st
 |m::r=>(if m.1=false/\4096<=m.2.2 then st.matN m else st.mat m).mats r
/- no slice and no text is longer than Go allows, at any depth -/
mutual
def ctD:CT->Prop
 |.sl _ _ xs=>xs.length<=9223372036854775807/\essD xs
 |.pt es=>ctsD es
 |.fn _ es=>ctsD es
 |.str s=>s.size<=9223372036854775807
 |_=>True
def ctsD:List CT->Prop
 | []=>True
 |x::r=>ctD x/\ctsD r
def essD:List (List CT)->Prop
 | []=>True
 |e::r=>ctsD e/\essD r
end
def avD:AV->Prop
 |.c x=>ctD x
 |.n x=>ctD x
 |_=>True
def Zzp:List AV->Prop
 | []=>True
 |x::r=>avD x/\Zzp r
structure WF (st:St):Prop where
 sl:∀t a cs,st.sl t=.p a cs->Zzp cs
 box:∀k t cs,st.ob k=.box t cs->Zzp cs
 row:∀k e m xs d,st.ob k=.row e m xs d->xs.length<=9223372036854775807/\essD xs
def Zls (F:(Ex->St->Prop)->St->Prop) (Q:Ex->St->Prop):Nat->St->Prop
 |0,_=>False
 |n+1,st=>∃(ms:List (Bool×Nat×Nat)) (ρ:List Nat),ρ.Nodup/\(WF ((st.mats ms).ren ρ)->F (ZgI (Zls F Q n) Q) ((st.mats ms).ren ρ))
def ldB:SV->Bool
 |.bp k _=>!decide (k=0)
 |.rp k _ _ _=>!decide (k=0)
 |_=>true
def hdB:SV->Bool
 |.bp k _=>decide (k=0)
 |_=>false
def hdC (n:Nat) (x:Option Operand) (st:St):Bool:=match n with
 |1=>match x with|some x=>hdB (st.ev tt 0 x)|none=>false
 |_=>true
def slB:SV->Bool
 |.p false [.c _]=>true
 |_=>false
def orB:Bool->Bool->Bool
 |true,_=>true
 |false,b=>b
def alO (s:Nat):Op->Option Nat->Bool->Bool
 |.alloc _,some d,b=>orB (decide (d=s)) b
 |_,_,b=>b
def alN (s:Nat):List Oper->Bool
 | []=>false
 |o::r=>alO s o.op o.dst (alN s r)
def stX (all:List Oper):Operand->Bool
 |.tmp s=>alN s all
 |_=>false
def Y0 (all:List Oper):Op->Bool
 |.store _ x _=>stX all x
 |_=>false
def Znw (all:List Oper):List Oper->Bool
 | []=>false
 |o::r=>orB (Y0 all o.op) (Znw all r)
def ldN (n:Nat):SV->Bool
 |.bp k _=>decide (k<n)
 |_=>true
def stB (n:Nat):SV->Bool
 |.bp k _=>decide (n<=k)
 |_=>false
def ldX:Bool->Nat->SV->Bool
 |true,n,v=>ldN n v
 |false,_,v=>ldB v
def stY:Bool->Nat->SV->Bool
 |true,n,v=>stB n v
 |false,_,_=>true
def stk (all:List Oper) (o:Op) (st:St):Bool:=match o with
 |.load _ x=>ldX (Znw all all) st.n (st.ev tt 0 x)
 |.store _ x _=>stY (stX all x) st.n (st.ev tt 0 x)
 |.slice _ x _ _ _=>slB (st.ev tt 0 x)
 |o=>match Xd o with|some c=>hdC tt (S.hd c.1) c.2.2.head? st|none=>true
def ifB (b:Bool) (c:Bool) (P:Prop):Prop:=match b with
 |true=>c=true/\P
 |false=>P
def Zgs (b:Bool) (all:List Oper) (base:Nat):List Nat->(St->Prop)->St->Prop
 | [],K,st=>K st
 |i::r,K,st=>match all[i]? with
  |some o=>ifB b (stk tt S all o.op st) (opG tt S all (base+16*i) o (Zgs b all base r K) st)
  |none=>Zgs b all base r K st
def Zux (od:Option (List Nat×Bool)) (ops:List Oper) (K:St->Prop) (st:St):Prop:=match od with
 |none=>ZBA tt S ops K st
 |some l=>Zgs tt S l.2 ops st.n l.1 (Zrv (st.n+16*ops.length) K) st
abbrev OD:=Nat->Option (List Nat×Bool)
def swp (od:OD):Code->(Ex->St->Prop)->St->Prop
 |.skip,Q,st=>Q .normal st
 |.region id ops _,Q,st=>Zux tt S (od id) ops.toList (Q .normal) st
 |.seq a b,Q,st=>swp od a (ZgI (swp od b Q) Q) st
 |.cond c a b,Q,st=>Zp9 (st.ev tt 0 c) (swp od a Q st) (swp od b Q st)
 |.block id b,Q,st=>swp od b (Zg8 id Q) st
 |.loop b,Q,st=>∃n,Zls (swp od b) Q n st
 |.exit id,Q,st=>Q (.exit id) st
 |.ret,Q,st=>Q .ret st
 |_,_,_=>False
end
def ZfP (st:St):AV->Option ((Bool×CT)×List Nat)
 |.c (.sl e m xs)=>some ((true,.sl e m xs),[])
 |.c (.int k n)=>some ((false,.int k n),[])
 |.c (.bool b)=>some ((false,.bool b),[])
 |.c (.str s)=>some ((false,.str s),[])
 |.nil e m=>if 0<m then some ((false,.sl e m []),[]) else none
 |.c (.ifc x)=>some ((false,.ifc x),[])
 |.c x=>some ((true,x),[])
 |.row k=>match st.ob k with | .row e m xs d=>(if d=2 then some ((false,.sl e m xs),[k]) else some ((true,.sl e m xs),[])) | .map kk vk kv=>some ((true,.mp kk vk kv),[])|_=>none
 |.n x=>some ((true,x),[])
 |.dead=>some ((true,.any),[])
def ZdR (st:St):List AV->Option (List (Bool×CT)×List Nat)
 | []=>some ([],[])
 |x::r=>(ZfP st x).bind fun a=>(ZdR st r).map fun b=>(a.1::b.1,a.2++b.2)
def Zcy (tt:Nat->Option TI) (st:St):List ResultVar->Option (List RT×List Nat)
 | []=>some ([],[])
 |.tmp t::r=>match st.sl t with
  |.p a cs=>(ZdR st cs).bind fun x=>(Zcy tt st r).map fun b=>((a,x.1)::b.1,x.2++b.2)
  |_=>none
 |.cell t ty::r=>match QI st (tt ty) (st.sl t) with
  |some (.p a cs)=>(ZdR st cs).bind fun x=>(Zcy tt st r).map fun b=>((a,x.1)::b.1,x.2++b.2)
  |_=>none
def ZvL:CT->Bool
 |.any=>true
 |.int _ _=>false
 |.bool _=>false
 |.str _=>false
 |.sl _ _ _=>false
 |.pt _=>false
 |.fn _ _=>false
 |.mp _ _ _=>false
 |.ifc _=>false
 |.nl _ _=>false
def wk1 (x y:Bool×CT) (R:Prop):Prop:=if ZvL y.2=true then R else x.2=y.2/\(x.1=y.1\/y.1=true)/\R
def wkC:List (Bool×CT)->List (Bool×CT)->Prop
 | [],[]=>True
 |x::r,y::q=>wk1 x y (wkC r q)
 |_,_=>False
def wkR:List RT->List RT->Prop
 | [],[]=>True
 |x::r,y::q=>x.1=y.1/\wkC x.2 y.2/\wkR r q
 |_,_=>False
def Zq (args:List (Bool×List CT)):St:=⟨fun t=>match args[t]? with|some x=>.p x.1 (x.2.map ZiV)|none=>.und,fun _=>.gone,0⟩
def Qp:ZgW->SV
 |.row _ _ _=>.p false [.row 0]
 |.box _ _=>.bp 0 0
def Qu (h:ZgW) (args:List (Bool×List CT)):St:=⟨fun t=>match t with|0=>Qp h|t+1=>(match args[t]? with|some x=>.p x.1 (x.2.map .c)|none=>.und),fun k=>if k=0 then YT h else .gone,1⟩
def Zr2 (tt:Nat->Option TI) (rs:List ResultVar) (R:St->List RT->List Nat->Prop):Ex->St->Prop
 |.exit _,_=>False
 |_,st=>match Zcy tt st rs with|some x=>x.2.Nodup/\R st x.1 x.2|none=>False
def fnS (od:OD) (tt:Nat->Option TI) (S:Ctx) (rs:List ResultVar) (body:Code) (args:List (Bool×List CT)) (res:List RT):Prop:=swp tt S od body (Zr2 tt rs fun _ r _=>wkR r res) (Zq args)
def ZjD (st:St) (ks:List Nat) (h':ZgW):Prop:=
 match h' with
 |.row e m xs=>∃k,st.sl 0=.p false [.row k]/\st.ob k=.row e m xs 2/\ZbL xs=true/\k∉ks
 |.box t cs=>∃k ds,st.sl 0=.bp k 0/\st.ob k=.box t ds/\ds.all ZbA=true/\Xc st ds=some cs
def fnH (od:OD) (tt:Nat->Option TI) (S:Ctx) (rs:List ResultVar) (body:Code) (h:ZgW) (args:List (Bool×List CT)) (res:List RT) (h':ZgW):Prop:=swp tt S od body (Zr2 tt rs fun st r ks=>wkR r res/\ZjD st ks h') (Qu h args)
def Zgt (t:Nat) (cs:List (Bool×CT)) (gv:Option (Bool×List (Bool×CT))) (args:List (Bool×List CT)):St:=⟨fun s=>match s with|0=>.bp 0 0|s+1=>(match gv with|none=>(match args[s]? with|some x=>.p x.1 (x.2.map .c)|none=>.und)|some g=>(match s with|0=>.p g.1 ((ZG 1 (cs++g.2)).1.drop cs.length)|s+1=>(match args[s]? with|some x=>.p x.1 (x.2.map .c)|none=>.und))),fun k=>if k=0 then .box t ((ZG 1 (cs++gvC gv)).1.take cs.length) else Zl (fun _=>.gone) (ZG 1 (cs++gvC gv)).2.1 k,(ZG 1 (cs++gvC gv)).2.2⟩
def opO (st:St) (t:Nat) (cs:List (Bool×CT)):Ob->Prop
 |.box t' ds=>t'=t/\(match Y5 st ds with|some x=>x.2.Nodup/\x.1=cs|none=>False)
 |_=>False
def opB (st:St) (t:Nat) (cs:List (Bool×CT)):SV->Prop
 |.bp k 0=>opO st t cs (st.ob k)
 |_=>False
def fnO (od:OD) (tt:Nat->Option TI) (S:Ctx) (rs:List ResultVar) (body:Code) (t:Nat) (cs:List (Bool×CT)) (gv:Option (Bool×List (Bool×CT))) (args:List (Bool×List CT)) (res:List RT) (cs':List (Bool×CT)):Prop:=swp tt S od body (Zr2 tt rs fun st r ks=>wkR r res/\ks=[]/\opB st t cs' (st.sl 0)) (Zgt t cs gv args)
theorem ZFk {st:St}{t k:Nat}{cs:List (Bool×CT)}:opB st t cs (.bp k 0)=opO st t cs (st.ob k):=yi rfl
theorem ZAG {st:St}{t t':Nat}{cs:List (Bool×CT)}{ds:List AV}:opO st t cs (.box t' ds)=(t'=t/\(match Y5 st ds with|some x=>x.2.Nodup/\x.1=cs|none=>False)):=yi rfl
theorem ZBy {st:St}{t:Nat}{cs:List (Bool×CT)}{v:SV}(h:opB st t cs v):∃k ds ks,v=.bp k 0/\st.ob k=.box t ds/\Y5 st ds=some (cs,ks)/\ks.Nodup:=by
 unfold opB at h
 split at h
 .rename_i k
  unfold opO at h
  split at h
  .rename_i t' ds hk
   obtain ⟨rfl,h⟩:=h
   split at h
   .rename_i x hx
    obtain ⟨h1,h2⟩:=h
    exact ⟨k,ds,x.2,rfl,hk,by rw [hx,<-h2],h1⟩
   .exact h.elim
  .exact h.elim
 .exact h.elim
def Zgw (st:St) (rs:List ResultVar) (nb:NB):Prop:=
 match rs with
 | [.tmp s]=>(match nb with
  |.box t cs=>∃k ds,st.sl s=.bp k 0/\st.ob k=.box t ds/\ds.all ZbA=true/\Xc st ds=some cs
  |.map kk vk kv=>∃k,st.sl s=.p false [.row k]/\st.ob k=.map kk vk kv)
 |_=>False
def ZBb (rs:List ResultVar) (nb:NB):Ex->St->Prop
 |.exit _,_=>False
 |_,st=>Zgw st rs nb
def hbO (st:St) (t:Nat) (cs:List CT):Ob->Prop
 |.box t' ds=>t'=t/\ds.all ZbA=true/\Xc st ds=some cs
 |_=>False
def hbS (st:St) (t:Nat) (cs:List CT):SV->Prop
 |.bp k 0=>hbO st t cs (st.ob k)
 |_=>False
theorem Zvv {st:St}{t:Nat}{cs:List CT}{v:SV}:hbS st t cs v↔∃k ds,v=.bp k 0/\st.ob k=.box t ds/\ds.all ZbA=true/\Xc st ds=some cs:=by
 constructor
 .intro h
  unfold hbS at h
  split at h
  .rename_i k
   unfold hbO at h
   split at h
   .rename_i t' ds hk
    obtain ⟨rfl,h2,h3⟩:=h
    exact ⟨k,ds,rfl,hk,h2,h3⟩
   .exact h.elim
  .exact h.elim
 .rintro ⟨k,ds,rfl,h1,h2,h3⟩
  show hbO st t cs (st.ob k)
  rw [h1]
  exact ⟨rfl,h2,h3⟩
theorem ZqD {st:St}{ks:List Nat}{t:Nat}{cs:List CT}:ZjD st ks (.box t cs)=hbS st t cs (st.sl 0):=propext Zvv.symm
theorem Zsd {st:St}{s t:Nat}{cs:List CT}:Zgw st [.tmp s] (.box t cs)=hbS st t cs (st.sl s):=propext Zvv.symm
def mbO (kk vk:PK) (kv:List (Value×Value)):Ob->Prop
 |.map kk' vk' kv'=>kk'=kk/\vk'=vk/\kv'=kv
 |_=>False
def mbS (st:St) (kk vk:PK) (kv:List (Value×Value)):SV->Prop
 |.p false [.row k]=>mbO kk vk kv (st.ob k)
 |_=>False
theorem ZCa {st:St}{kk vk:PK}{kv:List (Value×Value)}{v:SV}:mbS st kk vk kv v↔∃k,v=.p false [.row k]/\st.ob k=.map kk vk kv:=by
 constructor
 .intro h
  unfold mbS at h
  split at h
  .rename_i k
   unfold mbO at h
   split at h
   .rename_i a b c hk
    obtain ⟨rfl,rfl,rfl⟩:=h
    exact ⟨k,rfl,hk⟩
   .exact h.elim
  .exact h.elim
 .rintro ⟨k,rfl,h1⟩
  show mbO kk vk kv (st.ob k)
  rw [h1]
  exact ⟨rfl,rfl,rfl⟩
theorem Ztd {st:St}{s:Nat}{kk vk:PK}{kv:List (Value×Value)}:Zgw st [.tmp s] (.map kk vk kv)=mbS st kk vk kv (st.sl s):=propext ZCa.symm
theorem ZBP {st:St}{k:Nat}{kk vk:PK}{kv:List (Value×Value)}:mbS st kk vk kv (.p false [.row k])=mbO kk vk kv (st.ob k):=yi rfl
theorem ZAH {kk vk a b:PK}{kv c:List (Value×Value)}:mbO kk vk kv (.map a b c)=(a=kk/\b=vk/\c=kv):=yi rfl
theorem ZDA {st:St}{t k:Nat}{cs:List CT}:hbS st t cs (.bp k 0)=hbO st t cs (st.ob k):=yi rfl
theorem ZBf {st:St}{t t':Nat}{cs:List CT}{ds:List AV}:hbO st t cs (.box t' ds)=(t'=t/\ds.all ZbA=true/\Xc st ds=some cs):=yi rfl
theorem Zzs {rs:List ResultVar}{nb:NB}{st:St}:ZBb rs nb .ret st=Zgw st rs nb:=yi rfl
theorem Zxn {rs:List ResultVar}{nb:NB}{st:St}:ZBb rs nb .normal st=Zgw st rs nb:=yi rfl
def fnB (od:OD) (tt:Nat->Option TI) (S:Ctx) (rs:List ResultVar) (body:Code) (args:List (Bool×List CT)) (nb:NB):Prop:=swp tt S od body (ZBb rs nb) (Zq args)
def ZCt (k:Nat):Ob->AV
 |.row _ _ _ d=>if d=2 then .row k else .dead
 |.gone=>.dead
 |.box _ _=>.dead
 |.map _ _ _=>.dead
def Zx2 (st:St):AV->AV
 |.c (.int k n)=>.c (.int k n)
 |.c (.bool b)=>.c (.bool b)
 |.c (.str s)=>.c (.str s)
 |.row k=>ZCt k (st.ob k)
 |_=>.dead
def ZCw (st:St):SV->SV
 |.p ag cs=>.p ag (cs.map (Zx2 st))
 |.bp k off=>.bp k off
 |_=>.any
def ZCy (st:St):Ob->Ob
 |.row e m xs d=>if d=2 then .row e m xs d else .gone
 |.gone=>.gone
 |.box t cs=>.box t (cs.map (Zx2 st))
 |.map _ _ _=>.gone
def ZyO (st:St) (t:Nat):SV->St
 |.p false [.n (.sl e m xs)]=>⟨fun s=>if s=t then .p false [.row st.n] else ZCw st (st.sl s),fun k=>if k=st.n then .row e m xs 2 else ZCy st (st.ob k),st.n+1⟩
 |_=>st
def St.thaw (st:St) (t:Nat):St:=ZyO st t (st.sl t)
def ZIT (t:Nat) (Q:Ex->St->Prop):Ex->St->Prop
 |e,st=>Q e (st.thaw t)
theorem ZBL (sl:Nat->SV) (ob:Nat->Ob) (n t:Nat):St.thaw ⟨sl,ob,n⟩ t=ZyO ⟨sl,ob,n⟩ t (sl t):=yi rfl
theorem ZB6 (t:Nat) (Q:Ex->St->Prop) (e:Ex) (st:St):ZIT t Q e st=Q e (st.thaw t):=yi rfl
end
section
section
variable {tt:Nat->Option TI} {S:Ctx} {all:List Oper} {key:Nat} {d:Option Nat} {ty:TypeId} {pos:String} {af:Array Edge} {r:List Oper} {K:St->Prop} {st:St}
theorem ZDz:Yn tt S all key [] K st=K st:=yi rfl
theorem ZBa (x:Operand):Yn tt S all key (⟨d,.move x,ty,pos,af,none⟩::r) K st=Yn tt S all (key+16) r K (st.put d (st.ev tt ty x)):=yi rfl
theorem Zw5 (x:Operand):Yn tt S all key (⟨d,.assign x,ty,pos,af,none⟩::r) K st=Yn tt S all (key+16) r K (st.put d (st.ev tt ty x)):=yi rfl
def Zpf (v a b:SV) (K:SV->Prop):Prop:=if ZaR v=true then (if Qx v=true then K a else K b) else False
theorem ZIC (a b:SV) (K:SV->Prop):Zpf (.p false [.c (.bool true)]) a b K=K a:=by simp [Zpf,ZaR,Qx]
theorem ZIm (a b:SV) (K:SV->Prop):Zpf (.p false [.c (.bool false)]) a b K=K b:=by simp [Zpf,ZaR,Qx]
theorem ZCk (c a b:Operand):Yn tt S all key (⟨d,.pick c a b,ty,pos,af,none⟩::r) K st=Zpf (st.ev tt 0 c) (st.ev tt ty a) (st.ev tt ty b) (Zil d (Yn tt S all (key+16) r K) st):=by
 simp only[Yn,opG,Zbl,opS,Xd,XD,opE,Zpf]
 generalize st.ev tt 0 c=v
 unfold ZaR
 split
 .simp only[Qx,YA,if_true]
  split<;>simp [Zl4,Zil,St.app,Zl, *]
 .simp [YA]
theorem ZzX (t:TypeId):Yn tt S all key (⟨d,.alloc t,ty,pos,af,none⟩::r) K st=YA ((ZnA (tt t)).map fun z=>(SV.bp key 0,[(key,Ob.box t z)])) (Zl4 d (Yn tt S all (key+16) r K) st):=yi rfl
def ZHJ (key:Nat) (t:TypeId):SV->Option (SV×List (Nat×Ob))
 |.p _ cs=>some (.bp key 0,[(key,.box t cs)])
 |_=>none
theorem ZEl (t:TypeId) (x:Operand):Yn tt S all key (⟨d,.box t x,ty,pos,af,none⟩::r) K st=YA (ZHJ key t (st.ev tt t x)) (Zl4 d (Yn tt S all (key+16) r K) st):=yi rfl
def Zuf (tt:Nat->Option TI) (st:St) (parts:List (Nat×Operand)):Option TI->Option SV
 |some (.strct fs _ z)=>(Zj6 fs z (parts.map (ZgG tt st fs z))).map (.p true)
 |_=>none
theorem ZbE (v:Option SV):YA (Zb0 v) (Zl4 d K st)=YA v (Zil d K st):=by cases v<;>rfl
theorem ZzL (t:TypeId) (a:Array (Nat×Operand)):Yn tt S all key (⟨d,.build t a,ty,pos,af,none⟩::r) K st=YA (Zuf tt st a.toList (tt t)) (Zil d (Yn tt S all (key+16) r K) st):=by
 rw [<-ZbE]
 simp only[Yn,opG,Zbl,opS,Xd,XD,opE,Zuf]
 cases tt t with
 |none=>rfl
 |some ti=>cases ti<;>first|rfl|(simp [Zb0,Option.map_map];rfl)
def ZE3 (st:St) (key len:Nat) (is:List Nat) (xs:List SV) (e:Nat):Option TI->Option (SV×List (Nat×Ob))
 |some (.slice _ m _ z)=>(Xy st m xs).bind fun a=>if is=List.range len/\len*m<=16777216/\a.2.1.Nodup/\(!z.all Zkx||a.2.1.isEmpty)=true then some (.p false [.row key],ZK st a.2.1++[(key,.row e m a.1 a.2.2)]) else none
 |_=>none
def Zq4:Option TI->Nat
 |some (.slice e _ _ _)=>e
 |_=>0
theorem ZFd (t:TypeId) (len:Nat) (a:Array (Nat×Operand)):Yn tt S all key (⟨d,.buildSlice t len a,ty,pos,af,none⟩::r) K st=YA (ZE3 st key len (a.toList.map (·.1)) (a.toList.map fun p=>st.ev tt (Zq4 (tt t)) p.2) (Zq4 (tt t)) (tt t)) (Zl4 d (Yn tt S all (key+16) r K) st):=by
 simp only[Yn,opG,Zbl,opS,Xd,XD,opE,ZE3,Zq4]
 cases tt t with
 |none=>rfl
 |some ti=>cases ti<;>rfl
theorem ZAT (t:TypeId) (x:Operand):Yn tt S all key (⟨d,.load t x,ty,pos,af,none⟩::r) K st=YA (QI st (tt t) (st.ev tt 0 x)) (Zil d (Yn tt S all (key+16) r K) st):=ZbE _
def ZEH (d:Option Nat) (K:St->Prop) (st:St) (u:List (Nat×Ob)):Prop:=K ((st.put d .und).app u)
theorem ZzG (t:TypeId) (x v:Operand):Yn tt S all key (⟨d,.store t x v,ty,pos,af,none⟩::r) K st=YA (ZgA st (tt t) (st.ev tt 0 x) (st.ev tt t v)) (ZEH d (Yn tt S all (key+16) r K) st):=by
 simp only[Yn,opG,Zbl,opS,Xd,XD,opE]
 cases ZgA st (tt t) (st.ev tt 0 x) (st.ev tt t v)<;>rfl
def ZD6:SV->Option SV
 |.bp k i=>some (.bp k i)
 |.rp k m i j=>some (.rp k m i j)
 |.ep e i=>some (.ep e i)
 |.p false [.c (.pt e)]=>some (.p false [.c (.pt e)])
 |_=>none
theorem ZFu (x:Operand):Yn tt S all key (⟨d,.nilCheck x,ty,pos,af,none⟩::r) K st=YA (ZD6 (st.ev tt 0 x)) (Zil d (Yn tt S all (key+16) r K) st):=by
 simp only[Yn,opG,Zbl,opS,Xd,XD,opE,<-ZbE,ZD6]
 generalize st.ev tt 0 x=v
 cases v with
 |p ag cs=>cases ag with
  |true=>rfl
  |false=>cases cs with
   |nil=>rfl
   |cons y r=>cases r<;>cases y<;>first|rfl|(rename_i z;cases z<;>rfl)|(rename_i z _ _;cases z<;>rfl)
 |_=>rfl
theorem ZDp (op:BinOp) (t u:TypeId) (x y:Operand):Yn tt S all key (⟨d,.binOp op t x y u,ty,pos,af,none⟩::r) K st=YA (ZzR tt t (ZkU y) op (st.ev tt t x) (st.ev tt t y)) (Zil d (Yn tt S all (key+16) r K) st):=ZbE _
theorem ZF2 (op:UnOp) (t:TypeId) (x:Operand):Yn tt S all key (⟨d,.unOp op t x,ty,pos,af,none⟩::r) K st=YA (unV op (st.ev tt 0 x)) (Zil d (Yn tt S all (key+16) r K) st):=ZbE _
theorem ZBs (s t:TypeId) (x:Operand):Yn tt S all key (⟨d,.convert s t x,ty,pos,af,none⟩::r) K st=YA (Zg5 tt st s t (st.ev tt 0 x)) (Zil d (Yn tt S all (key+16) r K) st):=ZbE _
theorem ZA6 (t:TypeId) (n c:Operand):Yn tt S all key (⟨d,.makeSlice t n c,ty,pos,af,none⟩::r) K st=YA (Ztj key (tt t) (st.ev tt 0 n) (st.ev tt 0 c)) (Zl4 d (Yn tt S all (key+16) r K) st):=yi rfl
theorem Zz7 (t:TypeId) (x:Operand) (lo hi:Option Operand):Yn tt S all key (⟨d,.slice t x lo hi none,ty,pos,af,none⟩::r) K st=YA (ZaJ st key (tt t) (lo.map (st.ev tt 0)) (hi.map (st.ev tt 0)) (st.ev tt 0 x)) (Zl4 d (Yn tt S all (key+16) r K) st):=yi rfl
def ZC0 (fs:Option TI) (f:Nat):Option Nat:=match fs with|some (.strct fs _ _)=>(fs[f]?).map FI.off|_=>none
def ZE2 (fs:Option TI) (f:Nat) (v:SV):Option SV:=(ZC0 fs f).bind fun o=>ZkC o v
theorem ZED (t:TypeId) (x:Operand) (f:Nat):Yn tt S all key (⟨d,.fieldAddr t x f,ty,pos,af,none⟩::r) K st=YA (ZE2 (tt t) f (st.ev tt 0 x)) (Zil d (Yn tt S all (key+16) r K) st):=by
 rw [<-ZbE]
 simp only[Yn,opG,Zbl,opS,Xd,XD,opE,ZE2,ZC0]
 cases tt t with
 |none=>rfl
 |some ti=>cases ti<;>first|rfl|(simp only[Option.bind_map];rfl)
def ZDm (fs:Option TI) (f:Nat) (v:SV):Option SV:=match fs with|some (.strct fs _ _)=>ZmA fs f v|_=>none
theorem ZDY (t:TypeId) (x:Operand) (f:Nat):Yn tt S all key (⟨d,.field t x f,ty,pos,af,none⟩::r) K st=YA (ZDm (tt t) f (st.ev tt 0 x)) (Zil d (Yn tt S all (key+16) r K) st):=by
 rw [<-ZbE]
 simp only[Yn,opG,Zbl,opS,Xd,XD,opE,ZDm]
 cases tt t with
 |none=>rfl
 |some ti=>cases ti<;>rfl
def ZFh (st:St) (t:Option TI) (x i:SV):Option SV:=match t with|some (.slice _ m _ _)=>Zar st m x i|_=>none
theorem ZDc (t:TypeId) (x i:Operand):Yn tt S all key (⟨d,.indexAddr t x i,ty,pos,af,none⟩::r) K st=YA (ZFh st (tt t) (st.ev tt 0 x) (st.ev tt 0 i)) (Zil d (Yn tt S all (key+16) r K) st):=by
 rw [<-ZbE]
 simp only[Yn,opG,Zbl,opS,Xd,XD,opE,ZFh]
 cases tt t with
 |none=>rfl
 |some ti=>cases ti<;>rfl
theorem ZDE (t:TypeId) (x i:Operand):Yn tt S all key (⟨d,.index t x i,ty,pos,af,none⟩::r) K st=YA (Zm2 (tt t) (st.ev tt 0 x) (st.ev tt 0 i)) (Zil d (Yn tt S all (key+16) r K) st):=ZbE _
theorem ZCG (x:Operand) (i:Nat):Yn tt S all key (⟨d,.extract x i,ty,pos,af,none⟩::r) K st=YA (Zzz i (st.ev tt 0 x)) (Zil d (Yn tt S all (key+16) r K) st):=ZbE _
theorem ZDC (b:Builtin) (args:Array Operand) (ts:Array TypeId):Yn tt S all key (⟨d,.call ⟨.builtin b,args,ts⟩,ty,pos,af,none⟩::r) K st=YA (Zgq tt st key b ts.toList (evs tt st ts.toList args.toList)) (Zl4 d (Yn tt S all (key+16) r K) st):=yi rfl
def ZHe (f:FuncId) (n:Nat) (st:St) (vs:List SV):Option (SV×List (Nat×Ob)):=if n=0 then (Zfe st vs).bind fun r=>if (r.2.map (·.1)).Nodup then some (.p false [.c (.fn f r.1)],r.2) else none else none
theorem ZCU (f:FuncId) (first a:Array Operand):Yn tt S all key (⟨d,.makeFunc (.func f) first a,ty,pos,af,none⟩::r) K st=YA (ZHe f first.size st (a.toList.map (st.ev tt 0))) (Zl4 d (Yn tt S all (key+16) r K) st):=yi rfl
theorem ZDn (t:TypeId):Yn tt S all key (⟨d,.makeMap t none,ty,pos,af,none⟩::r) K st=YA (Zpj key (tt t)) (Zl4 d (Yn tt S all (key+16) r K) st):=yi rfl
theorem ZA8 (t:TypeId) (x i:Operand) (ok:Bool):Yn tt S all key (⟨d,.lookup t x i ok,ty,pos,af,none⟩::r) K st=YA (Zhi st (tt t) (st.ev tt 0 x) (st.ev tt 0 i) ok) (Zil d (Yn tt S all (key+16) r K) st):=ZbE _
theorem ZFr (t:TypeId) (x i v:Operand):Yn tt S all key (⟨d,.mapUpdate t x i v,ty,pos,af,none⟩::r) K st=YA (ZxX st (tt t) (st.ev tt 0 x) (st.ev tt 0 i) (st.ev tt 0 v)) (ZEH d (Yn tt S all (key+16) r K) st):=by
 simp only[Yn,opG,Zbl,opS,Xd,XD,opE]
 cases ZxX st (tt t) (st.ev tt 0 x) (st.ev tt 0 i) (st.ev tt 0 v)<;>rfl
theorem ZD7 (s:Nat) (args:Array Operand) (ts:Array TypeId):Yn tt S all key (⟨d,.call ⟨.value (.tmp s),args,ts⟩,ty,pos,af,none⟩::r) K st=YA (ZpY (st.sl s)) (ZC9 S key d (Yn tt S all (key+16) r K) st (evs tt st ts.toList args.toList)):=yi rfl
theorem ZCd (vs:List SV) (f:FuncId) (es:List CT):ZC9 S key d K st vs (f,es)=(S.hd f=0/\spK S f 0 key d K st (vs++es.map ZlB)):=yi rfl
theorem ZBW (f:FuncId) (args:Array Operand) (ts:Array TypeId):Yn tt S all key (⟨d,.call ⟨.value (.func f),args,ts⟩,ty,pos,af,none⟩::r) K st=spK S f (S.hd f) key d (Yn tt S all (key+16) r K) st (evs tt st ts.toList args.toList):=yi rfl
theorem ZH0 (f:FuncId) (vs:List SV):spK S f 0 key d K st vs=YA (ZY st vs) (ZsL S f key d K st vs):=yi rfl
theorem ZIe (f:FuncId) (v:SV) (vs:List SV):spK S f 1 key d K st (v::vs)=YA (Zgk st v) fun kh=>YA (ZY st vs) (Zx1 S f key d K st vs kh):=yi rfl
theorem ZIM (f:FuncId) (vs:List SV):spK S f 3 key d K st vs=YA (ZY st vs) (ZET S f key d K st vs):=yi rfl
theorem ZIH (f:FuncId) (vs:List SV):spK S f 4 key d K st vs=YA (ZY st (vs.map nlS)) (ZsL S f key d K st (vs.map nlS)):=yi rfl
theorem ZH2 (f:FuncId) (v:SV) (vs:List SV):spK S f 5 key d K st (v::vs)=YA (ZdP st v) fun kh=>YA (ZiW st (vs.take 0)) fun gh=>YA (ZY st (vs.drop 0)) (Zvt S f key d K st (vs.drop 0) kh gh):=yi rfl
theorem ZIj (f:FuncId) (v u:SV) (vs:List SV):spK S f 6 key d K st (v::u::vs)=YA (ZdP st v) fun kh=>YA (ZiW st [u]) fun gh=>YA (ZY st vs) (Zvt S f key d K st vs kh gh):=yi rfl
theorem ZHW (f:FuncId) (v:SV) (vs:List SV):spK S f 7 key d K st (v::vs)=YA (ZiW st [v]) fun gh=>YA (ZY st vs) (Zz6 S f key d K st vs gh):=yi rfl
theorem ZH8 (f:FuncId) (vs:List SV):spK S f 2 key d K st vs=YA (ZY st vs) (ZAQ S f key d K st vs):=yi rfl
def gOf (all:List Oper) (j:Nat):Option Nat:=(all[j]?).bind (·.dst)
def gL (tt:Nat->Option TI) (S:Ctx) (all:List Oper) (key:Nat) (v:SV) (w:Bool) (o:Oper) (r:List Oper) (K:St->Prop) (st:St):Prop:=gK v w (Yn tt S all key (o::r) K st) (Yn tt S all (key+16) r K (st.put o.dst .und))
def ZrU (st:St):Option Nat->SV
 |some t=>st.sl t
 |none=>.und
theorem Zt5 (sl:Nat->SV) (ob:Nat->Ob) (n t:Nat):ZrU ⟨sl,ob,n⟩ (some t)=sl t:=yi rfl
theorem ZuP:ZrU st none=.und:=yi rfl
theorem ZAc (op:Op) (j:Nat) (w:Bool):Yn tt S all key (⟨d,op,ty,pos,af,some (j,w)⟩::r) K st=gL tt S all key (ZrU st (gOf all j)) w ⟨d,op,ty,pos,af,none⟩ r K st:=by
 cases hg:gOf all j with
 |none=>
  have h:Zbl all ⟨d,op,ty,pos,af,some (j,w)⟩=some (none,w):=by simp only[Zbl];rw [show (all[j]?).bind (·.dst)=none from hg]
  simp only[Yn,opG,h,gL,ZrU]
  simp [gK,ZaR,ZsB]
 |some t=>
  have h:Zbl all ⟨d,op,ty,pos,af,some (j,w)⟩=some (some t,w):=by simp only[Zbl];rw [show (all[j]?).bind (·.dst)=some t from hg]
  simp only[Yn,opG,h,gL,ZrU]
  rfl
theorem ZG9 (o:Oper):gL tt S all key (.p false [.c (.bool true)]) true o r K st=Yn tt S all key (o::r) K st:=by simp [gL,gK,ZaR,Qx]
theorem ZGM (o:Oper):gL tt S all key (.p false [.c (.bool false)]) false o r K st=Yn tt S all key (o::r) K st:=by simp [gL,gK,ZaR,Qx]
theorem ZHG (o:Oper):gL tt S all key (.p false [.c (.bool true)]) false o r K st=Yn tt S all (key+16) r K (st.put o.dst .und):=by simp [gL,gK,ZaR,Qx]
theorem ZGw (o:Oper):gL tt S all key (.p false [.c (.bool false)]) true o r K st=Yn tt S all (key+16) r K (st.put o.dst .und):=by simp [gL,gK,ZaR,Qx]
theorem ZEq (o:Oper) (w:Bool):gL tt S all key .und w o r K st=Yn tt S all (key+16) r K (st.put o.dst .und):=by simp [gL,gK,ZaR,ZsB]
theorem ZB1 (v:SV):Zil d K st v=K (st.put d v):=yi rfl
theorem ZBd (v:SV) (u:List (Nat×Ob)):Zl4 d K st (v,u)=K ((st.put d v).app u):=yi rfl
theorem ZB7 (u:List (Nat×Ob)):ZEH d K st u=K ((st.put d .und).app u):=yi rfl
theorem Zwr {α:Type}(v:α) (K:α->Prop):YA (some v) K=K v:=yi rfl
theorem Zwc {α:Type}(K:α->Prop):YA none K=False:=yi rfl
theorem ZBp (n m:Nat) (sl:Nat->SV) (ob:Nat->Ob):Zrv n K ⟨sl,ob,m⟩=K ⟨sl,ob,n⟩:=yi rfl
theorem ZA0 (a:List Oper) (sl:Nat->SV) (ob:Nat->Ob) (n:Nat):ZBA tt S a K ⟨sl,ob,n⟩=Yn tt S a n a (Zrv (n+16*a.length) K) ⟨sl,ob,n⟩:=yi rfl
theorem ZAv (sl:Nat->SV) (ob:Nat->Ob) (n t:Nat) (v:SV):St.put ⟨sl,ob,n⟩ (some t) v=⟨upd sl t v,ob,n⟩:=yi rfl
theorem Zyx (v:SV):St.put st none v=st:=yi rfl
theorem ZBX (sl:Nat->SV) (ob:Nat->Ob) (n:Nat):St.app ⟨sl,ob,n⟩ []=⟨sl,ob,n⟩:=yi rfl
theorem Zx7 (sl:Nat->SV) (ob:Nat->Ob) (n:Nat) (p:Nat×Ob) (u:List (Nat×Ob)):St.app ⟨sl,ob,n⟩ (p::u)=St.app ⟨sl,upd ob p.1 p.2,n⟩ u:=yi rfl
theorem ZE6 (ob:Nat->Ob):Zl ob []=ob:=yi rfl
theorem ZBZ (ob:Nat->Ob) (p:Nat×Ob) (r:List (Nat×Ob)):Zl ob (p::r)=Zl (upd ob p.1 p.2) r:=yi rfl
theorem ZDe {α:Type}(f:Nat->α) (k j:Nat) (v:α):upd f k v j=if j=k then v else f j:=yi rfl
end
section
variable {od:OD} {tt:Nat->Option TI} {S:Ctx} {Q:Ex->St->Prop} {st:St}
theorem ZAM:swp tt S od .skip Q st=Q .normal st:=yi rfl
theorem Zw4 (id:Nat) (a:Array Oper) (dr:Bool):swp tt S (fun _=>none) (.region id a dr) Q st=ZBA tt S a.toList (Q .normal) st:=yi rfl
def Zoh:List (Nat×List Nat×Bool)->OD
 | [],_=>none
 |p::r,i=>if i=p.1 then some p.2 else Zoh r i
theorem Zf (m:List (Nat×List Nat×Bool)) (id:Nat) (a:Array Oper) (dr:Bool):swp tt S (Zoh m) (.region id a dr) Q st=Zux tt S (Zoh m id) a.toList (Q .normal) st:=yi rfl
theorem ZDO (i:Nat):Zoh [] i=none:=yi rfl
theorem ZBK (p:Nat×List Nat×Bool) (m:List (Nat×List Nat×Bool)) (i:Nat):Zoh (p::m) i=if i=p.1 then some p.2 else Zoh m i:=yi rfl
theorem ZA5 (a:List Oper) (K:St->Prop):Zux tt S none a K st=ZBA tt S a K st:=yi rfl
theorem ZAD (l:List Nat) (b:Bool) (a:List Oper) (K:St->Prop) (sl:Nat->SV) (ob:Nat->Ob) (n:Nat):Zux tt S (some (l,b)) a K ⟨sl,ob,n⟩=Zgs tt S b a n l (Zrv (n+16*a.length) K) ⟨sl,ob,n⟩:=yi rfl
def ZDP (tt:Nat->Option TI) (S:Ctx) (b:Bool) (all:List Oper) (key:Nat) (K:St->Prop) (st:St):Option Oper->Prop
 |some o=>ifB b (stk tt S all o.op st) (Yn tt S all key [o] K st)
 |none=>K st
theorem ZCL (b:Bool) (all:List Oper) (base:Nat) (K:St->Prop):Zgs tt S b all base [] K st=K st:=yi rfl
theorem ZBu (b:Bool) (all:List Oper) (base i:Nat) (r:List Nat) (K:St->Prop):Zgs tt S b all base (i::r) K st=ZDP tt S b all (base+16*i) (Zgs tt S b all base r K) st (all[i]?):=by
 simp only[Zgs]
 cases all[i]?<;>rfl
theorem ZA7 (all:List Oper) (key:Nat) (K:St->Prop) (o:Oper):ZDP tt S true all key K st (some o)=ifB true (stk tt S all o.op st) (Yn tt S all key [o] K st):=yi rfl
theorem ZAY (all:List Oper) (key:Nat) (K:St->Prop) (o:Oper):ZDP tt S false all key K st (some o)=Yn tt S all key [o] K st:=yi rfl
theorem ZFy (c:Bool) (P:Prop):ifB true c P=(c=true/\P):=yi rfl
theorem ZGA (c:Bool) (P:Prop):ifB false c P=P:=yi rfl
theorem ZEP (a b:Code):swp tt S od (.seq a b) Q st=swp tt S od a (ZgI (swp tt S od b Q) Q) st:=yi rfl
def ZrI (tt:Nat->Option TI) (S:Ctx) (od:OD) (v:SV) (a b:Code) (Q:Ex->St->Prop) (st:St):Prop:=Zp9 v (swp tt S od a Q st) (swp tt S od b Q st)
theorem ZA3 (c:Operand) (a b:Code):swp tt S od (.cond c a b) Q st=ZrI tt S od (st.ev tt 0 c) a b Q st:=yi rfl
theorem ZIv (a b:Code):ZrI tt S od (.p false [.c (.bool true)]) a b Q st=swp tt S od a Q st:=by simp [ZrI,Zp9,ZaR,Qx]
theorem ZIb (a b:Code):ZrI tt S od (.p false [.c (.bool false)]) a b Q st=swp tt S od b Q st:=by simp [ZrI,Zp9,ZaR,Qx]
theorem ZzN (id:Nat) (b:Code):swp tt S od (.block id b) Q st=swp tt S od b (Zg8 id Q) st:=yi rfl
theorem ZCe (id:Nat):swp tt S od (.exit id) Q st=Q (.exit id) st:=yi rfl
theorem ZE7:swp tt S od .ret Q st=Q .ret st:=yi rfl
theorem ZIS (k:St->Prop):ZgI k Q .normal st=k st:=yi rfl
theorem ZH7 (k:St->Prop) (i:Nat):ZgI k Q (.exit i) st=Q (.exit i) st:=yi rfl
theorem ZIQ (k:St->Prop):ZgI k Q .ret st=Q .ret st:=yi rfl
theorem ZIN (i:Nat):Zg8 i Q .normal st=Q .normal st:=yi rfl
theorem ZIs (i:Nat):Zg8 i Q .ret st=Q .ret st:=yi rfl
theorem ZIB (i j:Nat):Zg8 i Q (.exit j) st=if j=i then Q .normal st else Q (.exit j) st:=yi rfl
theorem ZDN (sl:Nat->SV) (ob:Nat->Ob) (n t s:Nat):St.ev tt ⟨sl,ob,n⟩ t (.tmp s)=sl s:=yi rfl
theorem ZyM (t:Nat) (v:Value):St.ev tt st t (.const v)=cvT (tt t) v:=yi rfl
theorem ZBv (t f:Nat):St.ev tt st t (.func f)=.fn f:=yi rfl
theorem ZIK (rs:List ResultVar) (R:St->List RT->List Nat->Prop):Zr2 tt rs R .ret st=match Zcy tt st rs with|some x=>x.2.Nodup/\R st x.1 x.2|none=>False:=yi rfl
theorem ZH5 (rs:List ResultVar) (R:St->List RT->List Nat->Prop):Zr2 tt rs R .normal st=match Zcy tt st rs with|some x=>x.2.Nodup/\R st x.1 x.2|none=>False:=yi rfl
end
section
theorem ZyN (all:List Oper):∀a,Y0 all (.move a)=false:=by intros;rfl
theorem ZzF (s:Nat) (d:Option Nat) (b:Bool):∀a,alO s (.move a) d b=b:=by intros;rfl
theorem ZtC (all:List Oper):∀a,Y0 all (.assign a)=false:=by intros;rfl
theorem Zuk (s:Nat) (d:Option Nat) (b:Bool):∀a,alO s (.assign a) d b=b:=by intros;rfl
theorem ZyG (all:List Oper):∀a b c,Y0 all (.pick a b c)=false:=by intros;rfl
theorem Zz4 (s:Nat) (d:Option Nat) (b:Bool):∀a c e,alO s (.pick a c e) d b=b:=by intros;rfl
theorem ZBo (all:List Oper):∀a b,Y0 all (.box a b)=false:=by intros;rfl
theorem ZBV (s:Nat) (d:Option Nat) (b:Bool):∀a c,alO s (.box a c) d b=b:=by intros;rfl
theorem ZwE (all:List Oper):∀a b,Y0 all (.build a b)=false:=by intros;rfl
theorem Zv9 (s:Nat) (d:Option Nat) (b:Bool):∀a c,alO s (.build a c) d b=b:=by intros;rfl
theorem Zno (all:List Oper):∀a b c,Y0 all (.buildSlice a b c)=false:=by intros;rfl
theorem ZmM (s:Nat) (d:Option Nat) (b:Bool):∀a c e,alO s (.buildSlice a c e) d b=b:=by intros;rfl
theorem Zt4 (all:List Oper):∀a b c d,Y0 all (.insert a b c d)=false:=by intros;rfl
theorem ZtU (s:Nat) (d:Option Nat) (b:Bool):∀a c e f,alO s (.insert a c e f) d b=b:=by intros;rfl
theorem ZAs (all:List Oper):∀a b,Y0 all (.load a b)=false:=by intros;rfl
theorem Zzy (s:Nat) (d:Option Nat) (b:Bool):∀a c,alO s (.load a c) d b=b:=by intros;rfl
theorem Zwi (all:List Oper):∀a,Y0 all (.ready a)=false:=by intros;rfl
theorem Zxk (s:Nat) (d:Option Nat) (b:Bool):∀a,alO s (.ready a) d b=b:=by intros;rfl
theorem Zv4 (all:List Oper):∀a,Y0 all (.waits a)=false:=by intros;rfl
theorem ZxU (s:Nat) (d:Option Nat) (b:Bool):∀a,alO s (.waits a) d b=b:=by intros;rfl
theorem Zqi (all:List Oper):∀a,Y0 all (.nilCheck a)=false:=by intros;rfl
theorem Zqy (s:Nat) (d:Option Nat) (b:Bool):∀a,alO s (.nilCheck a) d b=b:=by intros;rfl
theorem ZwM (all:List Oper):∀a b c d e,Y0 all (.binOp a b c d e)=false:=by intros;rfl
theorem Zwp (s:Nat) (d:Option Nat) (b:Bool):∀a c e f g,alO s (.binOp a c e f g) d b=b:=by intros;rfl
theorem Zym (all:List Oper):∀a b c,Y0 all (.unOp a b c)=false:=by intros;rfl
theorem Zzx (s:Nat) (d:Option Nat) (b:Bool):∀a c e,alO s (.unOp a c e) d b=b:=by intros;rfl
theorem ZrD (all:List Oper):∀a b c,Y0 all (.convert a b c)=false:=by intros;rfl
theorem ZsG (s:Nat) (d:Option Nat) (b:Bool):∀a c e,alO s (.convert a c e) d b=b:=by intros;rfl
theorem Zf1 (all:List Oper):∀a b,Y0 all (.sliceToArrayPointer a b)=false:=by intros;rfl
theorem ZfZ (s:Nat) (d:Option Nat) (b:Bool):∀a c,alO s (.sliceToArrayPointer a c) d b=b:=by intros;rfl
theorem Zkk (all:List Oper):∀a b,Y0 all (.makeInterface a b)=false:=by intros;rfl
theorem ZjY (s:Nat) (d:Option Nat) (b:Bool):∀a c,alO s (.makeInterface a c) d b=b:=by intros;rfl
theorem Zqj (all:List Oper):∀a b c,Y0 all (.makeFunc a b c)=false:=by intros;rfl
theorem ZqN (s:Nat) (d:Option Nat) (b:Bool):∀a c e,alO s (.makeFunc a c e) d b=b:=by intros;rfl
theorem Zr1 (all:List Oper):∀a b,Y0 all (.makeMap a b)=false:=by intros;rfl
theorem Zst (s:Nat) (d:Option Nat) (b:Bool):∀a c,alO s (.makeMap a c) d b=b:=by intros;rfl
theorem Zq6 (all:List Oper):∀a b,Y0 all (.makeChan a b)=false:=by intros;rfl
theorem Zqp (s:Nat) (d:Option Nat) (b:Bool):∀a c,alO s (.makeChan a c) d b=b:=by intros;rfl
theorem Zol (all:List Oper):∀a b c,Y0 all (.makeSlice a b c)=false:=by intros;rfl
theorem ZoJ (s:Nat) (d:Option Nat) (b:Bool):∀a c e,alO s (.makeSlice a c e) d b=b:=by intros;rfl
theorem ZwK (all:List Oper):∀a b c d e,Y0 all (.slice a b c d e)=false:=by intros;rfl
theorem ZxH (s:Nat) (d:Option Nat) (b:Bool):∀a c e f g,alO s (.slice a c e f g) d b=b:=by intros;rfl
theorem Zoj (all:List Oper):∀a b c,Y0 all (.fieldAddr a b c)=false:=by intros;rfl
theorem ZoP (s:Nat) (d:Option Nat) (b:Bool):∀a c e,alO s (.fieldAddr a c e) d b=b:=by intros;rfl
theorem Zws (all:List Oper):∀a b c,Y0 all (.field a b c)=false:=by intros;rfl
theorem Zwu (s:Nat) (d:Option Nat) (b:Bool):∀a c e,alO s (.field a c e) d b=b:=by intros;rfl
theorem Zor (all:List Oper):∀a b c,Y0 all (.indexAddr a b c)=false:=by intros;rfl
theorem Zof (s:Nat) (d:Option Nat) (b:Bool):∀a c e,alO s (.indexAddr a c e) d b=b:=by intros;rfl
theorem ZwD (all:List Oper):∀a b c,Y0 all (.index a b c)=false:=by intros;rfl
theorem Zxx (s:Nat) (d:Option Nat) (b:Bool):∀a c e,alO s (.index a c e) d b=b:=by intros;rfl
theorem Zyk (all:List Oper):∀a,Y0 all (.call a)=false:=by intros;rfl
theorem ZAx (s:Nat) (d:Option Nat) (b:Bool):∀a,alO s (.call a) d b=b:=by intros;rfl
theorem Zt9 (all:List Oper):∀a b c d,Y0 all (.lookup a b c d)=false:=by intros;rfl
theorem ZuB (s:Nat) (d:Option Nat) (b:Bool):∀a c e f,alO s (.lookup a c e f) d b=b:=by intros;rfl
theorem ZoV (all:List Oper):∀a b c d,Y0 all (.mapUpdate a b c d)=false:=by intros;rfl
theorem Zon (s:Nat) (d:Option Nat) (b:Bool):∀a c e f,alO s (.mapUpdate a c e f) d b=b:=by intros;rfl
theorem Zs7 (all:List Oper):∀a b,Y0 all (.extract a b)=false:=by intros;rfl
theorem ZsW (s:Nat) (d:Option Nat) (b:Bool):∀a c,alO s (.extract a c) d b=b:=by intros;rfl
theorem Zww (all:List Oper) (t:TypeId):Y0 all (.alloc t)=false:=yi rfl
theorem ZxJ (all:List Oper) (t:TypeId) (x v:Operand):Y0 all (.store t x v)=stX all x:=yi rfl
theorem ZwO (s:Nat) (d:Option Nat) (b:Bool) (t:TypeId) (x v:Operand):alO s (.store t x v) d b=b:=yi rfl
theorem Zw9 (s d:Nat) (b:Bool) (t:TypeId):alO s (.alloc t) (some d) b=orB (decide (d=s)) b:=yi rfl
end
attribute [go_sem] ZyN ZzF ZtC Zuk ZyG Zz4 ZBo ZBV ZwE Zv9 Zno ZmM Zt4 ZtU ZAs Zzy Zwi Zxk Zv4 ZxU Zqi Zqy ZwM Zwp Zym Zzx ZrD ZsG Zf1 ZfZ Zkk ZjY Zqj ZqN Zr1 Zst Zq6 Zqp Zol ZoJ ZwK ZxH Zoj ZoP Zws Zwu Zor Zof ZwD Zxx Zyk ZAx Zt9 ZuB ZoV Zon Zs7 ZsW Zww ZxJ ZwO Zw9 alN stX Znw ldN stB ldX stY orB
attribute [go_sem] ZDz ZBa Zw5 ZCk ZzX ZEl ZzL ZFd ZAT ZzG ZFu ZDp ZF2 ZBs ZA6 Zz7 ZED ZDY ZDc ZDE ZCG ZDC ZBW ZCU ZDn ZA8 ZFr ZD7 ZCd ZHe Zpj Zhi Ztc ZxX Zw7 Ze1 Zfv Zfe ZjE ZjE.zBox ZpY ZlB eqC ZoB ZCh Zx9 Zsj Zut ZkU ZD1 Zyd ZAn ZzR Zfn Zmr ZiE Zrh Zg5 ZAc ZB1 ZBd ZB7 Zwr Zwc ZBp ZA0 ZAv Zyx ZBX Zx7 ZDe ZE6 ZBZ ZAM Zw4 ZA5 ZAD ZCL ZBu ZA7 ZAY ZDO ZBK ZFy ZGA stk hdC ldB hdB Xd List.head?_cons ZEP ZA3 ZzN ZCe ZE7 ZIS ZH7 ZIQ ZIN ZIs ZIB ZDN ZyM ZBv ZIK ZH5 ZIC ZIm ZIv ZIb ZG9 ZGM ZHG ZGw ZEq Zt5 ZuP ZHJ Zuf ZE3 Zq4 Zkx List.all_cons List.all_nil List.isEmpty_nil Bool.true_or Bool.false_or Bool.or_true Bool.or_false Bool.false_and ZD6 ZC0 ZE2 ZDm ZFh gOf cvT ZnA ZAF ZBC ZAO unV Zs1 ZoK Zar Zm2 cut QI splice Zgd ZgA Zni ZkC ZmA Zj6 ZgG avT Zba ZjK ZdF Xy YD Zgi Zgo ZnD ZlE ZoC Zzi Zm1 ZaJ mvS hiB loB ZkA Zct ZdI Ztj Zzz Zb0 Zgq evs ZcM Xc ZdU ZY Zjj ZH0 ZIe ZH8 Zgk YT ZbA Zif ZdV ZcZ ZiO ZJ Yq ZK ZIF ZFH wkC wkR ZqD Zsd Ztd ZBP ZAH ZDA ZBf Zzs Zxn ZIM ZIH ZH2 ZIj ZHW ZiW gvC ZfC Y5 ZdP ZFk ZAG Zix List.contains_cons List.contains_nil List.contains_eq_mem nlA nlS ZiV ZB6 ZBL ZyO ZCw Zx2 ZCt ZCy ZvL wk1 ZfP ZdR Zcy ZA ZG QW Ag List.length_nil A6 List.length_replicate List.getElem?_cons_zero List.getElem?_cons_succ List.getElem?_nil A9 List.map_nil Ah Option.bind_none AH Option.map_none List.cons_append List.nil_append List.append_nil AS Ac List.drop_succ_cons List.drop_nil List.take_succ_cons Ad List.take_nil List.set_cons_zero List.set_cons_succ List.range_zero Bool.and_true Bool.true_and Bool.and_self and_true true_and and_self AD AC beq_self_eq_true Option.getD_some ite_true ite_false Nat.zero_add Nat.lt_add_one Nat.zero_lt_succ eq_self or_false false_or and_false false_and or_self Nat.lt_irrefl true_or or_true List.not_mem_nil List.nodup_cons A4 Bool.false_eq_true if_true if_false decide_true decide_false Bool.not_true Bool.not_false Ai ne_eq not_true_eq_false not_false_eq_true
end
section
open Go.RowKit
section
variable {od:OD} {tt:Nat->Option TI} {S:Ctx}
theorem YZ {α:Type}{r:Option α}{K K':α->Prop}(h:∀x,K x->K' x) (hh:YA r K):YA r K':=by
 cases r with
 |none=>exact hh
 |some v=>exact h v hh
theorem ZsJ {key:Nat}{o:Oper}{K K':St->Prop}{st:St}(h:∀st,K st->K' st) (hh:opS tt S key o K st):opS tt S key o K' st:=by
 unfold opS at hh ⊢
 split
 .rename_i c hc
  rw [hc]at hh
  simp only[spK]at hh ⊢
  split
  .rename_i e
   rw [e]at hh
   exact YZ (fun l ⟨f,h1,h2,h3,h4⟩=>⟨f,h1,h2,h3,h _ h4⟩) hh
  .rename_i e
   rw [e]at hh
   simp only[Zvn]at hh ⊢
   split
   .rename_i e2;rw [e2]at hh;exact hh
   .rename_i e2
    rw [e2]at hh
    exact YZ (fun kh=>YZ fun l ⟨f,h',h1,h2,h3,h4⟩=>⟨f,h',h1,h2,h3,h _ h4⟩) hh
  .rename_i e
   rw [e]at hh
   exact YZ (fun l ⟨nb,h1,h4⟩=>⟨nb,h1,h _ h4⟩) hh
  .rename_i e
   rw [e]at hh
   exact YZ (fun l ⟨f,h1,h2,h3,h4⟩=>⟨f,h1,h2,h3,h _ h4⟩) hh
  .rename_i e
   rw [e]at hh
   simp only[ZlA]at hh ⊢
   split
   .rename_i e2;rw [e2]at hh;exact hh
   .rename_i e2
    rw [e2]at hh
    exact YZ (fun kh=>YZ fun gh=>YZ fun l ⟨f,g,h1,h2,h3,h4,h5,h6⟩=>⟨f,g,h1,h2,h3,h4,h5,h _ h6⟩) hh
  .rename_i e
   rw [e]at hh
   simp only[ZlA]at hh ⊢
   split
   .rename_i e2;rw [e2]at hh;exact hh
   .rename_i e2
    rw [e2]at hh
    exact YZ (fun kh=>YZ fun gh=>YZ fun l ⟨f,g,h1,h2,h3,h4,h5,h6⟩=>⟨f,g,h1,h2,h3,h4,h5,h _ h6⟩) hh
  .rename_i e
   rw [e]at hh
   simp only[Zvp]at hh ⊢
   split
   .rename_i e2;rw [e2]at hh;exact hh
   .rename_i e2
    rw [e2]at hh
    exact YZ (fun gh=>YZ fun l ⟨gv,f,h1,h2,h3,h4,h5,h6⟩=>⟨gv,f,h1,h2,h3,h4,h5,h _ h6⟩) hh
  .rename_i n0 n1 n3 n4 n5 n6 n7
   have i:YA (ZY st (evs tt st c.2.1 c.2.2)) (ZAQ S c.1 key o.dst K st (evs tt st c.2.1 c.2.2)):=by
    revert hh
    split
    .rename_i e;exact absurd e n0
    .rename_i e;exact absurd e n1
    .rename_i e;exact absurd e n3
    .rename_i e;exact absurd e n4
    .rename_i e;exact absurd e n5
    .rename_i e;exact absurd e n6
    .rename_i e;exact absurd e n7
    .exact id
   exact YZ (fun l ⟨f,h1,h2,h3⟩=>⟨f,h1,h2,h _ h3⟩) i
 .rename_i hc
  rw [hc]at hh
  simp only at hh
  split
  .rename_i c hd
   rw [hd]at hh
   simp only at hh
   exact YZ (fun fc ⟨h0,h1⟩=>⟨h0,YZ (fun l ⟨f,a,b,c,d⟩=>⟨f,a,b,c,h _ d⟩) h1⟩) hh
  .rename_i hd
   rw [hd]at hh
   simp only at hh
   exact YZ (fun r hr=>h _ hr) hh
theorem ZnI {all:List Oper}{key:Nat}{o:Oper}{K K':St->Prop}{st:St}(h:∀st,K st->K' st) (hh:opG tt S all key o K st):opG tt S all key o K' st:=by
 unfold opG at hh ⊢
 split
 .rename_i hg;rw [hg]at hh;exact ZsJ h hh
 .rename_i hg;rw [hg]at hh;exact h _ hh
 .rename_i hg
  rw [hg]at hh
  simp only[gK]at hh ⊢
  split
  .rename_i h1
   rw [if_pos h1]at hh
   split
   .rename_i h2;rw [if_pos h2]at hh;exact ZsJ h hh
   .rename_i h2;rw [if_neg h2]at hh;exact h _ hh
  .rename_i h1
   rw [if_neg h1]at hh
   split
   .rename_i h2;rw [if_pos h2]at hh;exact h _ hh
   .rename_i h2;rw [if_neg h2]at hh;exact hh
theorem ZpG {all:List Oper}{K K':St->Prop}(h:∀st,K st->K' st):∀(r:List Oper) (key:Nat) (st:St),Yn tt S all key r K st->Yn tt S all key r K' st
 | [],_,st,hh=>h st hh
 |o::r,key,st,hh=>ZnI (fun st' h'=>ZpG h r (key+16) st' h') hh
theorem Znq {F:(Ex->St->Prop)->St->Prop}(hF:∀Q Q' st,(∀e st,Q e st->Q' e st)->F Q st->F Q' st) {Q Q':Ex->St->Prop}(h:∀e st,Q e st->Q' e st):∀(n:Nat) (st:St),Zls F Q n st->Zls F Q' n st
 |0,_,hh=>hh
 |n+1,st,⟨ms,ρ,h1,h2⟩=>⟨ms,ρ,h1,fun hw=>hF _ _ _ (fun e st' h'=>by cases e<;>first|exact Znq hF h n st' h'|exact h _ _ h') (h2 hw)⟩
theorem Zh6 {b:Bool}{all:List Oper}{base:Nat}{K K':St->Prop}(h:∀st,K st->K' st):∀(l:List Nat) (st:St),Zgs tt S b all base l K st->Zgs tt S b all base l K' st
 | [],st,hh=>h st hh
 |i::r,st,hh=>by
  simp only[Zgs]at hh ⊢
  split
  .rename_i o ho
   rw [ho]at hh
   cases b with
   |true=>exact ⟨hh.1,ZnI (fun st' h'=>Zh6 h r st' h') hh.2⟩
   |false=>exact ZnI (fun st' h'=>Zh6 h r st' h') hh
  .rename_i ho
   rw [ho]at hh
   exact Zh6 h r st hh
theorem Zaw:∀(c:Code) (Q Q':Ex->St->Prop) (st:St),(∀e st,Q e st->Q' e st)->swp tt S od c Q st->swp tt S od c Q' st
 |.skip,Q,Q',st,h,hh=>h _ _ hh
 |.exit _,Q,Q',st,h,hh=>h _ _ hh
 |.ret,Q,Q',st,h,hh=>h _ _ hh
 |.region id d _,Q,Q',st,h,hh=>by
  simp only[swp,Zux]at hh ⊢
  split
  .rename_i e
   rw [e]at hh
   exact ZpG (fun st' h'=>h _ _ h') d.toList st.n st hh
  .rename_i l e
   rw [e]at hh
   exact Zh6 (fun st' h'=>h _ _ h') l.1 st hh
 |.seq a b,Q,Q',st,h,hh=>Zaw a _ _ st (fun e st' h'=>by cases e<;>first|exact Zaw b Q Q' st' h h'|exact h _ _ h') hh
 |.cond c a b,Q,Q',st,h,hh=>by
  simp only[swp,Zp9]at hh ⊢
  split
  .rename_i h1
   rw [if_pos h1]at hh
   split
   .rename_i h2;rw [if_pos h2]at hh;exact Zaw a Q Q' st h hh
   .rename_i h2;rw [if_neg h2]at hh;exact Zaw b Q Q' st h hh
  .rename_i h1;rw [if_neg h1]at hh;exact hh
 |.block id b,Q,Q',st,h,hh=>Zaw b _ _ st (fun e st' h'=>by
   cases e with
   |normal=>exact h _ _ h'
   |ret=>exact h _ _ h'
   |exit j=>
    simp only[Zg8]at h' ⊢
    split
    .rename_i e;rw [if_pos e]at h';exact h _ _ h'
    .rename_i e;rw [if_neg e]at h';exact h _ _ h') hh
 |.loop b,Q,Q',st,h,⟨n,hh⟩=>⟨n,Znq (fun Q Q' st hq hs=>Zaw b Q Q' st hq hs) h n st hh⟩
 |.rangeFunc _ _ _ _,_,_,_,_,hh=>hh.elim
 |.scope _,_,_,_,_,hh=>hh.elim
 |.label _,_,_,_,_,hh=>hh.elim
 |.goto _,_,_,_,_,hh=>hh.elim
 |.refuse _,_,_,_,_,hh=>hh.elim
end
theorem Yi {x:Int}(h0:-9223372036854775808<=x) (h1:x<=9223372036854775807):IntKind.i64.wrap x=x:=IntWalk.i64_in _ ⟨h0,h1⟩
theorem ZFf (sl:Nat->SV) (ob:Nat->Ob) (n:Nat) (ρ:List Nat) (t:Nat):(St.ren ⟨sl,ob,n⟩ ρ).sl t=rSV ρ (sl t):=yi rfl
theorem ZEe (sl:Nat->SV) (ob:Nat->Ob) (n:Nat) (ρ:List Nat) (j:Nat):(St.ren ⟨sl,ob,n⟩ ρ).ob j=match ρ[j]? with|some k=>rOb ρ (ob k)|none=>.gone:=yi rfl
theorem ZF7 (st:St) (ρ:List Nat):(st.ren ρ).n=ρ.length:=yi rfl
theorem Zzb (st:St):st.mats []=st:=yi rfl
theorem ZxW (sl:Nat->SV) (ob:Nat->Ob) (n t j:Nat) (r:List (Bool×Nat×Nat)):St.mats ⟨sl,ob,n⟩ ((false,t,j)::r)=if 4096<=j then St.mats (match sl t with
  |.p ag cs=>(match cs[j - 4096]? with
   |some (.row k)=>(match ob k with
    |.row e q xs d=>if d=2 then ⟨upd sl t (.p ag (cs.set (j - 4096) (.n (.sl e q xs)))),upd ob k (.row e q xs 0),n⟩ else ⟨sl,ob,n⟩
    |_=>⟨sl,ob,n⟩)
   |_=>⟨sl,ob,n⟩)
  |_=>⟨sl,ob,n⟩) r else St.mats (match sl t with
  |.p ag cs=>(match cs[j]? with
   |some (.nil e q)=>if 0<q then ⟨upd sl t (.p ag (cs.set j (.row n))),upd ob n (.row e q [] 2),n+1⟩ else ⟨sl,ob,n⟩
   |some (.row k)=>(match ob k with
    |.row e q xs _=>⟨upd sl t (.p ag (cs.set j (.c (.sl e q xs)))),upd ob k (.row e q xs 0),n⟩
    |_=>⟨sl,ob,n⟩)
   |_=>⟨sl,ob,n⟩)
  |_=>⟨sl,ob,n⟩) r:=by
 by_cases h:4096<=j
 .rw [if_pos h,St.mats,if_pos ⟨rfl,h⟩];rfl
 .rw [if_neg h,St.mats,if_neg (fun e=>h e.2)];rfl
theorem Zzo (sl:Nat->SV) (ob:Nat->Ob) (n k i:Nat) (r:List (Bool×Nat×Nat)):St.mats ⟨sl,ob,n⟩ ((true,k,i)::r)=St.mats (match ob k with
  |.box ty cs=>(match cs[i]? with
   |some (.nil e q)=>if 0<q then ⟨sl,upd (upd ob k (.box ty (cs.set i (.row n)))) n (.row e q [] 2),n+1⟩ else ⟨sl,ob,n⟩
   |some (.row j)=>(match ob j with
    |.row e q xs _=>⟨sl,upd (upd ob j (.row e q xs 0)) k (.box ty (cs.set i (.c (.sl e q xs)))),n⟩
    |_=>⟨sl,ob,n⟩)
   |_=>⟨sl,ob,n⟩)
  |.row e q xs d=>(if i<d then ⟨sl,upd ob k (.row e q xs i),n⟩ else ⟨sl,ob,n⟩)
  |_=>⟨sl,ob,n⟩) r:=yi rfl
theorem nn (k:Nat):(0<=(k:Int))=True:=by simp
theorem ZG3:(true==true)=true:=yi rfl
theorem ZGZ:(false==true)=false:=yi rfl
theorem ZG6:(true==false)=false:=yi rfl
theorem ZHv:(false==false)=true:=yi rfl
attribute [go_sem] Zu6 Zgx ZlS Zzb ZxW Zzo nn ZG3 ZGZ ZG6 ZHv ZFf ZEe ZF7 rSV rAV rOb Zq7
end
section
open Go.RowKit
def chk {α:Type}(c:Prop) [Decidable c] (x:Option α):Option α:=if c then x else none
def atI {α:Type}(l:List α) (i:Int):Option α:=if 0<=i then l[i.toNat]? else none
def forL {α σ ρ:Type}(body:Nat->α->σ->Option (σ ⊕ ρ)) (fin:σ->Option ρ):List α->Nat->σ->Option ρ
 | [],_,s=>fin s
 |x::l,i,s=>match body i x s with
  |none=>none
  |some (.inl s')=>forL body fin l (i+1) s'
  |some (.inr r)=>some r
def Zb1 {σ ρ:Type}(body:σ->Option (σ ⊕ ρ)):Nat->σ->Option ρ
 |0,_=>none
 |n+1,s=>match body s with
  |none=>none
  |some (.inl s')=>Zb1 body n s'
  |some (.inr r)=>some r
open Classical in
noncomputable def iter {σ ρ:Type} (body:σ->Option (σ ⊕ ρ)) (s:σ):Option ρ:=if h:∃n,(Zb1 body n s).isSome=true then Zb1 body (Classical.choose h) s else none
section
variable {α β σ ρ:Type} {r:ρ}
theorem ZiM {body:σ->Option (σ ⊕ ρ)}:∀{n:Nat}(m:Nat) {s:σ}{r:ρ},Zb1 body n s=some r->Zb1 body (n+m) s=some r
 |0,_,_,_,h=>by simp [Zb1]at h
 |n+1,m,s,r,h=>by
  rw [show n+1+m=n+m+1 by omega]
  simp only[Zb1]at h ⊢
  cases e:body s with
  |none=>rw [e]at h;simp at h
  |some y=>
   rw [e]at h
   cases y with
   |inl s'=>exact ZiM m h
   |inr r'=>exact h
theorem Zkj {body:σ->Option (σ ⊕ ρ)}{s:σ}{r:ρ}:iter body s=some r↔∃n,Zb1 body n s=some r:=by
 constructor
 .intro h
  unfold iter at h
  split at h
  .exact ⟨_,h⟩
  .simp at h
 .rintro ⟨n,hn⟩
  have a:∃n,(Zb1 body n s).isSome=true:=⟨n,by simp [hn]⟩
  unfold iter
  rw [dif_pos a]
  have h2:=Classical.choose_spec a
  obtain ⟨r',b⟩:=Option.isSome_iff_exists.1 h2
  rw [b]
  have a1:=ZiM n b
  have a2:=ZiM (Classical.choose a) hn
  rw [Nat.add_comm]at a2
  rw [a1]at a2
  exact a2
theorem ZqU (body:σ->Option (σ ⊕ ρ)) (s:σ):iter body s=match body s with
  |none=>none
  |some (.inl s')=>iter body s'
  |some (.inr r)=>some r:=by
 apply Option.ext
 intro r
 rw [Zkj]
 constructor
 .rintro ⟨n,hn⟩
  cases n with
  |zero=>simp [Zb1]at hn
  |succ n=>
   simp only[Zb1]at hn
   cases e:body s with
   |none=>rw [e]at hn;simp at hn
   |some y=>
    rw [e]at hn
    cases y with
    |inl s'=>exact Zkj.2 ⟨n,hn⟩
    |inr r'=>exact hn
 .intro h
  cases e:body s with
  |none=>rw [e]at h;simp at h
  |some y=>
   rw [e]at h
   cases y with
   |inl s'=>
    obtain ⟨n,hn⟩:=Zkj.1 h
    exact ⟨n+1,by simp only[Zb1,e];exact hn⟩
   |inr r'=>exact ⟨1,by simp only[Zb1,e];exact h⟩
theorem Zz {c:Prop}[Decidable c] {x:Option α}{r:α}(h:chk c x=some r):c/\x=some r:=by
 unfold chk at h
 split at h
 .rename_i hc;exact ⟨hc,h⟩
 .simp at h
theorem Zk {c:Prop}[Decidable c] (x:Option α) (h:c):chk c x=x:=if_pos h
theorem Zb {α β:Type}{o:Option α}{f:α->Option β}{r:β}{G:Prop}(h:o.bind f=some r) (k:∀v,o=some v->f v=some r->G):G:=by
 cases o with
 |none=>simp at h
 |some v=>exact k v rfl h
theorem Zy {o:Option α}{f:α->Option β}{r:β}(h:o.bind f=some r):∃x,o=some x/\f x=some r:=by
 cases o with
 |none=>simp at h
 |some x=>exact ⟨x,rfl,h⟩
theorem ZaE {l:List α}{i:Int}{f:α->Option β}{r:β}(h:(atI l i).bind f=some r):∃x,0<=i/\i<(l.length:Int)/\l[i.toNat]?=some x/\f x=some r:=by
 unfold atI at h
 split at h
 .rename_i hi
  obtain ⟨x,h1,h2⟩:=Zy h
  obtain ⟨h3,_⟩:=A5.1 h1
  exact ⟨x,hi,yE,h1,h2⟩
 .simp at h
theorem Zc {G:Prop}{b:Bool}{x y:Option α}{r:α}(h:(if b=true then x else y)=some r) (h1:b=true->x=some r->G) (h2:b=false->y=some r->G):G:=by
 cases b with
 |true=>exact h1 rfl (by simpa using h)
 |false=>exact h2 rfl (by simpa using h)
theorem Zw {y:σ ⊕ ρ}{v r:ρ}(h:some (.inr v)=some y) (hy:y=.inr r\/∃s,y=.inl s):some v=some r:=by
 obtain rfl:=AO h
 rcases hy with h|⟨_,h⟩
 .rw [Sum.inr.inj h]
 .cases h
end
section
variable {od:OD} {tt:Nat->Option TI} {S:Ctx}
def ZCE {σ ρ:Type}(I:σ->St->Prop) (y:σ ⊕ ρ) (st:St):Prop:=∃s' ms ρk,y=.inl s'/\ρk.Nodup/\I s' ((st.mats ms).ren ρk)
theorem XB {σ ρ:Type}{b:Code}{Q:Ex->St->Prop}{st:St}{body:σ->Option (σ ⊕ ρ)}{s0:σ}{r:ρ}(h:iter body s0=some r) (I:σ->St->Prop) (ms:List (Bool×Nat×Nat)) (ρk:List Nat) (hρ:ρk.Nodup) (h0:I s0 ((st.mats ms).ren ρk))
  (a:∀s st y,I s st->WF st->body s=some y->(y=.inr r\/∃s',y=.inl s')->swp tt S od b (ZgI (ZCE I y) Q) st):swp tt S od (.loop b) Q st:=by
 obtain ⟨n,hn⟩:=Zkj.1 h
 have key:∀n s st,Zb1 body n s=some r->(∃ms ρk,ρk.Nodup/\I s ((st.mats ms).ren ρk))->Zls (swp tt S od b) Q n st:=by
  intro n
  induction n with
  |zero=>intro s st h;simp [Zb1]at h
  |succ n ih=>
   rintro s st hn ⟨ms,ρk,h1,h2⟩
   refine ⟨ms,ρk,h1,fun hw=>?_⟩
   simp only[Zb1]at hn
   split at hn
   .simp at hn
   .rename_i s' e
    refine Zaw b _ _ _ (fun ex st' h'=>?_) (a s _ _ h2 hw e (.inr ⟨_,rfl⟩))
    cases ex with
    |normal=>
     obtain ⟨s2,c,ρ',h3,h4,h5⟩:=h'
     obtain rfl:=Aj h3
     exact ih _ st' hn ⟨c,ρ',h4,h5⟩
    |exit _=>exact h'
    |ret=>exact h'
   .rename_i r' e
    obtain rfl:=AO hn
    refine Zaw b _ _ _ (fun ex st' h'=>?_) (a s _ _ h2 hw e (.inl rfl))
    cases ex with
    |normal=>
     obtain ⟨s2,c,ρ',h3,h4,h5⟩:=h'
     cases h3
    |exit _=>exact h'
    |ret=>exact h'
 exact ⟨n,key n s0 st hn ⟨ms,ρk,hρ,h0⟩⟩
theorem Zn {α σ ρ:Type}{b:Code}{Q:Ex->St->Prop}{st:St}{body:Nat->α->σ->Option (σ ⊕ ρ)}{fin:σ->Option ρ}{l:List α}{s0:σ}{r:ρ}(h:forL body fin l 0 s0=some r) (I:Nat->σ->St->Prop) (ms:List (Bool×Nat×Nat)) (ρk:List Nat) (hρ:ρk.Nodup) (h0:I 0 s0 ((st.mats ms).ren ρk))
  (a:∀i x s st y,l[i]?=some x->I i s st->WF st->body i x s=some y->(y=.inr r\/∃s',y=.inl s')->swp tt S od b (ZgI (ZCE (I (i+1)) y) Q) st)
  (c:∀s st,I l.length s st->WF st->fin s=some r->swp tt S od b (ZgI (fun _=>False) Q) st):swp tt S od (.loop b) Q st:=by
 have key:∀n i s st,l.length - i<n->i<=l.length->forL body fin (l.drop i) i s=some r->(∃ms ρk,ρk.Nodup/\I i s ((st.mats ms).ren ρk))->Zls (swp tt S od b) Q n st:=by
  intro n
  induction n with
  |zero=>intro i s st h;omega
  |succ n ih=>
   rintro i s st hn hi hf ⟨ms,ρk,h1,h2⟩
   refine ⟨ms,ρk,h1,fun hw=>?_⟩
   by_cases d:i<l.length
   .have hx:l[i]?=some l[i]:=AR d
    rw [Ae d]at hf
    simp only[forL]at hf
    split at hf
    .simp at hf
    .rename_i s' e
     refine Zaw b _ _ _ (fun ex st' h'=>?_) (a i _ s _ _ hx h2 hw e (.inr ⟨_,rfl⟩))
     cases ex with
     |normal=>
      obtain ⟨s2,f,ρ',h3,h4,h5⟩:=h'
      obtain rfl:=Aj h3
      exact ih (i+1) _ st' yE yE hf ⟨f,ρ',h4,h5⟩
     |exit _=>exact h'
     |ret=>exact h'
    .rename_i r' e
     obtain rfl:=AO hf
     refine Zaw b _ _ _ (fun ex st' h'=>?_) (a i _ s _ _ hx h2 hw e (.inl rfl))
     cases ex with
     |normal=>
      obtain ⟨s2,f,ρ',h3,h4,h5⟩:=h'
      cases h3
     |exit _=>exact h'
     |ret=>exact h'
   .obtain rfl:i=l.length:=by omega
    rw [List.drop_length]at hf
    refine Zaw b _ _ _ (fun ex st' h'=>?_) (c s _ h2 hw hf)
    cases ex with
    |normal=>exact h'.elim
    |exit _=>exact h'
    |ret=>exact h'
 exact ⟨l.length+1,key _ 0 s0 st yE yE (by simpa using h) ⟨ms,ρk,hρ,h0⟩⟩
theorem Za {f:FuncId}{key:Nat}{d:Option Nat}{K:St->Prop}{st:St}{vs:List SV}{l:List (Bool×List CT)}{a:List RT}(hs:S.r f l a) (hk:(!ZdV a||vs.all Zif)=true/\(ZA key a).2.2<=key+16/\K ((st.put d (QW (ZA key a).1)).app (ZA key a).2.1)):ZsL S f key d K st vs l:=⟨a,hs,hk.1,hk.2.1,hk.2.2⟩
theorem ZCC {f:FuncId}{key:Nat}{d:Option Nat}{K:St->Prop}{st:St}{vs:List SV}{l:List (Bool×List CT)}{a:List RT}(hs:S.r f l a) (hk:(ZA key a).2.2<=key+16/\K ((st.put d (QW (ZA key a).1)).app (ZK st (ZJ vs)++(ZA key a).2.1))):ZAQ S f key d K st vs l:=⟨a,hs,hk.1,hk.2⟩
theorem ZGI {f:FuncId}{key:Nat}{d:Option Nat}{K:St->Prop}{st:St}{vs:List SV}{l:List (Bool×List CT)}{t:Nat}{cs:List CT}(hs:S.b f l (.box t cs)) (hk:K ((st.put d (.bp key 0)).app (ZK st (ZJ vs)++[(key,.box t (cs.map .c))]))):ZET S f key d K st vs l:=⟨_,hs,hk⟩
theorem ZeU {f:FuncId}{key:Nat}{d:Option Nat}{K:St->Prop}{st:St}{vs:List SV}{kh:Nat×Nat×List (Bool×CT)×List Nat}{gh:Option (Bool×List (Bool×CT))×List Nat}{l:List (Bool×List CT)}{b:List RT}{a:List (Bool×CT)}(hs:S.o f kh.2.1 kh.2.2.1 gh.1 l b a) (hk:(kh.2.2.2++gh.2).Nodup/\(ZJ vs).all (Zix (kh.2.2.2++gh.2))=true/\(ZA key b).2.2=key/\(ZG key a).2.2<=key+16/\K ((st.put d (QW (ZA key b).1)).app (ZK st (ZJ vs)++(YD (kh.2.2.2++gh.2)++((kh.1,.box kh.2.1 (ZG key a).1)::(ZG key a).2.1))))):Zvt S f key d K st vs kh gh l:=⟨b,a,hs,hk.1,hk.2.1,hk.2.2.1,hk.2.2.2.1,hk.2.2.2.2⟩
theorem Yl {f:FuncId}{key:Nat}{d:Option Nat}{K:St->Prop}{st:St}{vs:List SV}{kh:Nat×ZgW}{l:List (Bool×List CT)}{a:List RT}{h':ZgW}(hs:S.h f kh.2 l a h') (hk:(ZJ vs).all (fun j=>j != kh.1)=true/\(ZA key a).2.2<=key+16/\K ((st.put d (QW (ZA key a).1)).app (ZK st (ZJ vs)++((kh.1,YT h')::(ZA key a).2.1)))):Zx1 S f key d K st vs kh l:=⟨a,h',hs,hk.1,hk.2.1,hk.2.2⟩
end
def sts:List (Nat×SV)->St->Prop
 | [],_=>True
 |p::r,st=>st.sl p.1=p.2/\sts r st
def obs:List Ob->Nat->St->Prop
 | [],k,st=>st.n=k
 |o::r,k,st=>st.ob k=o/\obs r (k+1) st
def IV (s:List (Nat×SV)) (o:List Ob) (st:St):Prop:=sts s st/\obs o 0 st
theorem ZBF (st:St):sts [] st=True:=yi rfl
theorem Zx5 (st:St) (t:Nat) (v:SV) (r:List (Nat×SV)):sts ((t,v)::r) st=(st.sl t=v/\sts r st):=yi rfl
theorem ZBG (st:St) (k:Nat):obs [] k st=(st.n=k):=yi rfl
theorem Zz1 (st:St) (o:Ob) (k:Nat) (r:List Ob):obs (o::r) k st=(st.ob k=o/\obs r (k+1) st):=yi rfl
attribute [go_sem] IV Zx5 ZBF Zz1 ZBG
theorem Zdb {α:Type}{g:α->List CT}(h:∀x,(g x).all CT.flat=true) (l:List α):ZbL (l.map g)=true:=by
 simp only[ZbL,List.all_map,List.all_eq_true]
 exact fun x _=>h x
def ZE (s:ByteArray):List CT:=[.str s]
def Yc (n:Int):List CT:=[.int .i64 n]
def ZCq (b:Bool):List CT:=[.bool b]
def Zdx (n:Int):List CT:=[.int .u8 n]
theorem Zrg (s:ByteArray):ZE s=[.str s]:=yi rfl
theorem Zl8 (n:Int):Yc n=[.int .i64 n]:=yi rfl
theorem Zze (b:Bool):ZCq b=[.bool b]:=yi rfl
theorem ZsF (n:Int):Zdx n=[.int .u8 n]:=yi rfl
theorem ZxC (l:List ByteArray):ZbL (l.map ZE)=true:=Zdb (fun _=>rfl) l
theorem ZwS (l:List Int):ZbL (l.map Yc)=true:=Zdb (fun _=>rfl) l
theorem ZuY (l:List Bool):ZbL (l.map ZCq)=true:=Zdb (fun _=>rfl) l
theorem ZuU (l:List Int):ZbL (l.map Zdx)=true:=Zdb (fun _=>rfl) l
theorem ZqY {s:ByteArray}{i:Nat}{x:UInt8}(h:s.data.toList[i]?=some x):s[i]?=some x:=by
 obtain ⟨h1,h2⟩:=A5.1 h
 have hs:i<s.size:=by rw [AI];simpa using h1
 rw [getElem?_pos s i hs,<-h2]
 rfl
theorem Zd (s:ByteArray):s.data.toList.length=s.size:=by rw [AI,AF]
theorem Zt {i n:Nat}(h:i<n) (hn:n<=9223372036854775807):IntKind.i64.wrap ((i:Int)+1)=((i+1:Nat):Int):=by
 rw [Yi yE yE];omega
theorem Z0 {α:Type}{l:List α}{i:Nat}{x:α}(h:l[i]?=some x):decide ((i:Int)<(l.length:Int))=true:=by
 obtain ⟨h1,_⟩:=A5.1 h
 exact decide_eq_true yE
theorem Z2 {α:Type}{l:List α}{i:Nat}{x:α}(h:l[i]?=some x):(i:Int)<(l.length:Int):=of_decide_eq_true (Z0 h)
theorem Z1 {α:Type}{l:List α}{i:Nat}{x:α}(h:l[i]?=some x):i<l.length:=(A5.1 h).1
theorem ZW (n:Nat):decide ((n:Int)<(n:Int))=false:=decide_eq_false yE
def sAt (s:ByteArray) (i:Int):Option UInt8:=if 0<=i then s[i.toNat]? else none
theorem Ztv {β:Type}{s:ByteArray}{i:Int}{f:UInt8->Option β}{r:β}(h:(sAt s i).bind f=some r):∃x,0<=i/\s[i.toNat]?=some x/\f x=some r:=by
 unfold sAt at h
 split at h
 .rename_i hi
  obtain ⟨x,h1,h2⟩:=Zy h
  exact ⟨x,hi,h1,h2⟩
 .simp at h
theorem Zva {s:ByteArray}{i:Nat}{x:UInt8}(h:s.data.toList[i]?=some x):i<s.size:=by
 have:=Z1 h
 rwa [Zd]at this
theorem ZAu {s:ByteArray}{i:Nat}{x:UInt8}(h:s.data.toList[i]?=some x):decide ((i:Int)<(s.size:Int))=true:=by
 have:=Zva h
 exact decide_eq_true yE
theorem Zma:∀{cs:List AV}{j:Nat}{x:AV},Zzp cs->cs[j]?=some x->avD x
 | [],_,_,_,h=>by simp at h
 |_::_,0,_,h,e=>by simp at e;subst e;exact h.1
 |_::_,j+1,_,h,e=>Zma h.2 (by simpa using e)
section
variable {α:Type} {st:St} {t k j e m:Nat} {a:Bool} {d:Nat} {cs:List AV} {g:α->List CT} {l:List α} {s:ByteArray}
theorem WF.slotL (hW:WF st) (h:st.sl t=.p a cs) (hc:cs[j]?=some (.c (.sl e m (AP g l)))):l.length<=9223372036854775807:=by
 have:=(Zma (hW.sl _ _ _ h) hc).1
 simpa only [A6]using this
theorem WF.slotS (hW:WF st) (h:st.sl t=.p a cs) (hc:cs[j]?=some (.c (.str s))):s.size<=9223372036854775807:=Zma (hW.sl _ _ _ h) hc
theorem WF.boxL (hW:WF st) (h:st.ob k=.box t cs) (hc:cs[j]?=some (.c (.sl e m (AP g l)))):l.length<=9223372036854775807:=by
 have:=(Zma (hW.box _ _ _ h) hc).1
 simpa only [A6]using this
theorem WF.rowL (hW:WF st) (h:st.ob k=.row e m (AP g l) d):l.length<=9223372036854775807:=by
 have:=(hW.row _ _ _ _ _ h).1
 simpa only [A6]using this
end
/- maps of plain keys, as lists of pairs -/
def eSB (p:ByteArray×Bool):Value×Value:=(.string p.1,.bool p.2)
def eSS (p:ByteArray×ByteArray):Value×Value:=(.string p.1,.string p.2)
def eIB (p:Int×Bool):Value×Value:=(.int .i64 p.1,.bool p.2)
def ZeR {α β:Type}[DecidableEq α]:List (α×β)->α->Option β
 | [],_=>none
 |p::r,k=>if k=p.1 then some p.2 else ZeR r k
def ZfG {α β:Type}[DecidableEq α]:List (α×β)->α->β->List (α×β)
 | [],k,v=>[(k,v)]
 |p::r,k,v=>if k=p.1 then (k,v)::r else p::ZfG r k v
def Zby {α β:Type}[DecidableEq α] (l:List (α×β)) (k:α) (z:β):β:=(ZeR l k).getD z
def Zw0 {α β:Type}[DecidableEq α] (l:List (α×β)) (k:α):Bool:=(ZeR l k).isSome
section
variable {α β:Type} [DecidableEq α] {e:α×β->Value×Value} {fk:α->Value} {fv:β->Value}
theorem Zes (he:∀p,e p=(fk p.1,fv p.2)) (hk:∀a b,vEq (fk a) (fk b)=decide (a=b)):∀(l:List (α×β)) (k:α),ZlL (l.map e) (fk k)=(ZeR l k).map fv
 | [],_=>rfl
 |p::r,k=>by
  simp only[A9,ZlL,ZeR,he,hk,decide_eq_true_eq]
  split
  .rfl
  .exact Zes he hk r k
theorem Zj1 (he:∀p,e p=(fk p.1,fv p.2)) (hk:∀a b,vEq (fk a) (fk b)=decide (a=b)) (v:β):∀(l:List (α×β)) (k:α),Zf3 (l.map e) (fk k) (fv v)=(ZfG l k v).map e
 | [],k=>by simp [Zf3,ZfG,he]
 |p::r,k=>by
  simp only[A9,Zf3,ZfG,he,hk,decide_eq_true_eq]
  split
  .simp [he]
  .rw [Zj1 he hk v r k];simp [he]
end
theorem Zpz (a b:ByteArray):vEq (.string a) (.string b)=decide (a=b):=rfl
theorem ZyS (a b:Int):vEq (.int .i64 a) (.int .i64 b)=decide (a=b):=by simp [vEq,BEq.beq]
theorem ZB3 (l:List (ByteArray×Bool)) (k:ByteArray):ZcA (l.map eSB) (.string k) (.c (.bool false))=.c (.bool (Zby l k false)):=by
 simp only[ZcA,Zes (e:=eSB) (fk:=.string) (fv:=.bool) (fun _=>rfl) Zpz,Zby]
 cases ZeR l k<;>rfl
theorem ZBQ (l:List (ByteArray×ByteArray)) (k:ByteArray):ZcA (l.map eSS) (.string k) (.c (.str ⟨#[]⟩))=.c (.str (Zby l k ⟨#[]⟩)):=by
 simp only[ZcA,Zes (e:=eSS) (fk:=.string) (fv:=.string) (fun _=>rfl) Zpz,Zby]
 cases ZeR l k<;>rfl
theorem ZAN (l:List (Int×Bool)) (k:Int):ZcA (l.map eIB) (.int .i64 k) (.c (.bool false))=.c (.bool (Zby l k false)):=by
 simp only[ZcA,Zes (e:=eIB) (fk:=.int .i64) (fv:=.bool) (fun _=>rfl) ZyS,Zby]
 cases ZeR l k<;>rfl
theorem ZEf (l:List (ByteArray×Bool)) (k:ByteArray):Zfm (l.map eSB) (.string k)=Zw0 l k:=by
 simp only[Zfm,Zes (e:=eSB) (fk:=.string) (fv:=.bool) (fun _=>rfl) Zpz,Zw0]
 cases ZeR l k<;>rfl
theorem ZEc (l:List (ByteArray×ByteArray)) (k:ByteArray):Zfm (l.map eSS) (.string k)=Zw0 l k:=by
 simp only[Zfm,Zes (e:=eSS) (fk:=.string) (fv:=.string) (fun _=>rfl) Zpz,Zw0]
 cases ZeR l k<;>rfl
theorem ZDD (l:List (Int×Bool)) (k:Int):Zfm (l.map eIB) (.int .i64 k)=Zw0 l k:=by
 simp only[Zfm,Zes (e:=eIB) (fk:=.int .i64) (fv:=.bool) (fun _=>rfl) ZyS,Zw0]
 cases ZeR l k<;>rfl
theorem ZD0 (l:List (ByteArray×Bool)) (k:ByteArray) (v:Bool):Zf3 (l.map eSB) (.string k) (.bool v)=(ZfG l k v).map eSB:=Zj1 (fk:=.string) (fv:=.bool) (fun _=>rfl) Zpz v l k
theorem ZDy (l:List (ByteArray×ByteArray)) (k v:ByteArray):Zf3 (l.map eSS) (.string k) (.string v)=(ZfG l k v).map eSS:=Zj1 (fk:=.string) (fv:=.string) (fun _=>rfl) Zpz v l k
theorem ZCP (l:List (Int×Bool)) (k:Int) (v:Bool):Zf3 (l.map eIB) (.int .i64 k) (.bool v)=(ZfG l k v).map eIB:=Zj1 (fk:=.int .i64) (fv:=.bool) (fun _=>rfl) ZyS v l k
theorem Zmv:∀l:List Int,Zfn (l.map Zdx)=some l
 | []=>rfl
 |n::r=>by simp only[A9,ZsF,Zfn,Zmv r,AH]
theorem Zli (st:St):∀l:List CT,ZY st (l.map ZlB)=some (l.map fun c=>(false,[c]))
 | []=>rfl
 |c::r=>by
  have h:=Zli st r
  simp only[A9,ZY,h,ZlB,ZdU,Xc,ZcM,Ah,AH]
theorem ZGm:((0:Nat):Int)=0:=yi rfl
attribute [go_sem] Zli ZB3 ZBQ ZAN ZEf ZEc ZDD ZD0 ZDy ZCP Zmv ZGm ZFt List.map_replicate Zrg Zl8 Zze ZsF ZxC ZwS ZuY ZuU List.map_append List.getElem?_map List.map_set List.map_take List.map_drop AK List.length_set Ai
end
def toL (s:ByteArray):List UInt8:=s.data.toList
def ofL (l:List UInt8):ByteArray:=⟨l.toArray⟩
theorem ZjJ (s:ByteArray):ofL (toL s)=s:=by cases s;simp [ofL,toL]
theorem Zdi (l:List UInt8):toL (ofL l)=l:=by simp [ofL,toL]
def ZfS (l:List ByteArray):List ByteArray:=((l.map toL).mergeSort fun x y=>decide (x<=y)).map ofL
def Zdl (l:List ByteArray):Option (List ByteArray):=chk (l.length<=4611686018427387903) (some (ZfS l))
section
section
variable {α σ ρ:Type} {body:Nat->α->σ->Option (σ ⊕ ρ)} {fin:σ->Option ρ}
theorem Zmo (i:Nat) (s:σ):forL body fin [] i s=fin s:=rfl
theorem ZD {x:α}{l:List α}{i:Nat}{s s':σ}(h:body i x s=some (.inl s')):forL body fin (x::l) i s=forL body fin l (i+1) s':=by simp only[forL,h]
theorem ZX {x:α}{l:List α}{i:Nat}{s:σ}{r:ρ}(h:body i x s=some (.inr r)):forL body fin (x::l) i s=some r:=by simp only[forL,h]
theorem X8 {p:α->Bool}{r:ρ}:∀{l:List α}{i:Nat}{s:σ},(∀i x,x∈l->body i x s=some (bif p x then .inl s else .inr r))->forL body fin l i s=if l.all p=true then fin s else some r
 | [],_,_,_=>by simp [forL]
 |x::l,i,s,h=>by
  have hx:=h i x yG
  by_cases hp:p x=true
  .rw [hp,cond_true]at hx
   rw [ZD hx,X8 fun j y my=>h j y (by simp [my])]
   simp [hp]
  .rw [eq_false_of_ne_true hp,cond_false]at hx
   rw [ZX hx]
   simp [hp]
theorem Zb7 {p:α->Bool}{r:ρ}:∀{l:List α}{i:Nat}{s:σ},(∀i x,x∈l->body i x s=some (bif p x then .inr r else .inl s))->forL body fin l i s=if l.any p=true then some r else fin s
 | [],_,_,_=>by simp [forL]
 |x::l,i,s,h=>by
  have hx:=h i x yG
  by_cases hp:p x=true
  .rw [hp,cond_true]at hx
   rw [ZX hx]
   simp [hp]
  .rw [eq_false_of_ne_true hp,cond_false]at hx
   rw [ZD hx,Zb7 fun j y my=>h j y (by simp [my])]
   simp [hp]
theorem ZcR {f:σ->α->σ}(I:Nat->σ->Prop):∀{l:List α}{i:Nat}{s:σ},I i s->(∀j x s,x∈l->i<=j->j<i+l.length->I j s->body j x s=some (.inl (f s x))/\I (j+1) (f s x))->forL body fin l i s=fin (l.foldl f s)
 | [],_,_,_,_=>rfl
 |x::l,i,s,h0,h=>by
  obtain ⟨h1,h2⟩:=h i x s yG yE yG h0
  rw [ZD h1,ZcR I h2 fun j y s my hj hl=>h j y s (by simp [my]) yE (by simp at hl ⊢;omega)]
  rfl
theorem Zgv {f:σ->α->σ}{l:List α}{i:Nat}{s:σ}(h:∀j x s,x∈l->body j x s=some (.inl (f s x))):forL body fin l i s=fin (l.foldl f s):=
 ZcR (fun _ _=>True) trivial fun j x s mx _ _ _=>⟨h j x s mx,trivial⟩
theorem Zdq (g:List α->Nat->σ->Option ρ) (I:List α->Nat->σ->Prop) (h0:∀i s,I [] i s->fin s=g [] i s)
  (h1:∀x l i s,I (x::l) i s->(∃s',body i x s=some (.inl s')/\I l (i+1) s'/\g (x::l) i s=g l (i+1) s')\/(∃r,body i x s=some (.inr r)/\g (x::l) i s=some r)):∀(l:List α) (i:Nat) (s:σ),I l i s->forL body fin l i s=g l i s
 | [],i,s,h=>h0 i s h
 |x::l,i,s,h=>by
  rcases h1 x l i s h with ⟨s',e1,e2,e3⟩|⟨r,e1,e2⟩
  .rw [ZD e1,Zdq g I h0 h1 l (i+1) s' e2,e3]
  .rw [ZX e1,e2]
end
def ZdO {α:Type}(p:Nat->α->Bool):List α->Nat->Bool
 | [],_=>true
 |x::l,i=>p i x&&ZdO p l (i+1)
theorem Zkh {α:Type}{p:Nat->α->Bool}:∀{l:List α}{i:Nat},ZdO p l i=true->∀j x,l[j]?=some x->p (i+j) x=true
 | [],_,_,j,x,hx=>by simp at hx
 |y::l,i,h,0,x,hx=>by simp only[ZdO,Ak]at h;simp at hx;subst hx;exact h.1
 |y::l,i,h,j+1,x,hx=>by
  simp only[ZdO,Ak]at h
  have:=Zkh h.2 j x (by simpa using hx)
  rwa [show i+(j+1)=i+1+j by omega]
section
variable {α σ ρ:Type} {body:Nat->α->σ->Option (σ ⊕ ρ)} {fin:σ->Option ρ}
theorem Zc5 {p:Nat->α->Bool}{r:ρ}:∀{l:List α}{i:Nat}{s:σ},(∀j x,l[j]?=some x->body (i+j) x s=some (bif p (i+j) x then .inl s else .inr r))->forL body fin l i s=if ZdO p l i=true then fin s else some r
 | [],_,_,_=>by simp [forL,ZdO]
 |x::l,i,s,h=>by
  have hx:=h 0 x yG
  simp only[Nat.add_zero]at hx
  by_cases hp:p i x=true
  .rw [hp,cond_true]at hx
   rw [ZD hx,Zc5 fun j y hy=>by have:=h (j+1) y (by simpa using hy);rwa [show i+(j+1)=i+1+j by omega]at this]
   simp [ZdO,hp]
  .rw [eq_false_of_ne_true hp,cond_false]at hx
   rw [ZX hx]
   simp [ZdO,hp]
theorem Zcw {β:Type}{g:α->Option β}{fin:List β->Option ρ}{body:Nat->α->List β->Option (List β ⊕ ρ)}:∀{l:List α}{i:Nat}{acc:List β},(∀j x s,x∈l->s.length+1<=acc.length+l.length->body j x s=some (.inl (s++(g x).toList)))->forL body fin l i acc=fin (acc++l.filterMap g)
 | [],_,acc,_=>by simp [forL]
 |x::l,i,acc,h=>by
  rw [ZD (h i x acc yG yG)]
  rw [Zcw fun j y s my hs=>h j y s (by simp [my]) (by cases hg:g x<;>simp [hg]at hs ⊢<;>omega)]
  congr 1
  cases hg:g x<;>simp [hg]
theorem Xf {β:Type}{g:α->β}{fin:List β->Option ρ}{body:Nat->α->List β->Option (List β ⊕ ρ)}{l:List α}{i:Nat}{acc:List β}(h:∀j x s,x∈l->s.length+1<=acc.length+l.length->body j x s=some (.inl (s++[g x]))):forL body fin l i acc=fin (acc++l.map g):=by
 rw [Zcw (g:=fun x=>some (g x)) h,List.filterMap_eq_map']
theorem Zlv {p:α->Bool}{fin:List α->Option ρ}{body:Nat->α->List α->Option (List α ⊕ ρ)}{l:List α}{i:Nat}{acc:List α}(h:∀j x s,x∈l->s.length+1<=acc.length+l.length->body j x s=some (.inl (if p x=true then s++[x] else s))):forL body fin l i acc=fin (acc++l.filter p):=by
 rw [Zcw (g:=fun x=>if p x=true then some x else none) fun j x s mx hs=>by rw [h j x s mx hs];split<;>simp]
 congr 2
 induction l with
 |nil=>rfl
 |cons x l ih=>
  have ih:=ih fun j y s my hs=>h j y s (by simp [my]) (by simp at hs ⊢;omega)
  by_cases hp:p x=true<;>simp [hp,ih]
end
/- texts -/
theorem ZL {x y:ByteArray}:sEq x y=true↔x=y:=by simp [sEq]
theorem Zgu {x y:ByteArray}(h:toL x=toL y):x=y:=by rw [<-ZjJ x,<-ZjJ y,h]
theorem ZdZ (x:ByteArray):(toL x).length=x.size:=by rw [toL,AI,AF]
theorem Ziz:∀(a b:List UInt8),Op.bytesLess a b=true↔a<b
 | [],[]=>by simp [Op.bytesLess]
 | [],_::_=>by simp [Op.bytesLess]
 |_::_,[]=>by simp [Op.bytesLess]
 |x::a,y::b=>by
  rw [List.cons_lt_cons_iff,<-Ziz a b]
  simp only[Op.bytesLess]
  by_cases h:x<y
  .simp [h]
  .by_cases h2:x=y
   .subst h2;simp [h]
   .simp [h,h2]
theorem Zgp {x y:ByteArray}:sLt x y=true↔toL x<toL y:=by
 unfold sLt toL
 rw [Ziz,Al,Al]
theorem ZiH (x:ByteArray):sLt x x=false:=by
 cases h:sLt x x with
 |false=>rfl
 |true=>exact absurd (Zgp.1 h) (List.lt_irrefl _)
theorem ZfM {x y z:ByteArray}(h1:sLt x y=true) (h2:sLt y z=true):sLt x z=true:=Zgp.2 (List.lt_trans (Zgp.1 h1) (Zgp.1 h2))
theorem ZhZ {x y:ByteArray}(h1:sLt x y=true):sLt y x=false:=by
 cases h:sLt y x with
 |false=>rfl
 |true=>have:=ZfM h1 h;rw [ZiH]at this;simp at this
theorem ZkQ {x y:ByteArray}(h:sLt x y=true):¬x=y:=fun e=>by rw [e,ZiH]at h;simp at h
theorem Zeh {x y:ByteArray}(h1:sLt x y=false) (h2:¬x=y):sLt y x=true:=by
 rcases Std.lt_trichotomy (toL x) (toL y) with h|h|h
 .rw [Zgp.2 h]at h1;simp at h1
 .exact absurd (Zgu h) h2
 .exact Zgp.2 h
def Asc (l:List ByteArray):Prop:=l.Pairwise fun x y=>sLt x y=true
theorem Zrr:∀{a b:List ByteArray},Asc a->Asc b->(∀x,x∈a↔x∈b)->a=b
 | [],[],_,_,_=>rfl
 | [],y::b,_,_,h=>by have:=(h y).2 yG;simp at this
 |x::a,[],_,_,h=>by have:=(h x).1 yG;simp at this
 |x::a,y::b,ha,hb,h=>by
  unfold Asc at ha hb
  rw [AJ]at ha hb
  have c:x=y:=by
   have h1:=(h x).1 yG
   have h2:=(h y).2 yG
   rcases A4.1 h1 with h1|h1
   .exact h1
   .rcases A4.1 h2 with h2|h2
    .exact h2.symm
    .have:=ZhZ (ha.1 y h2);rw [hb.1 x h1]at this;simp at this
  subst c
  congr 1
  refine Zrr ha.2 hb.2 fun z=>?_
  have hz:=h z
  simp only[A4]at hz
  constructor
  .intro m
   rcases hz.1 (.inr m) with e|m'
   .exact absurd e.symm (ZkQ (ha.1 z m))
   .exact m'
  .intro m
   rcases hz.2 (.inr m) with e|m'
   .exact absurd e.symm (ZkQ (hb.1 z m))
   .exact m'
def ZaC:List ByteArray->ByteArray->List ByteArray
 | [],s=>[s]
 |x::r,s=>if sLt x s=true then x::ZaC r s else if sEq x s=true then x::r else s::x::r
theorem ZjH {y s:ByteArray}:∀{l:List ByteArray},y∈ZaC l s↔y=s\/y∈l
 | []=>by simp [ZaC]
 |x::r=>by
  simp only[ZaC]
  split
  .simp only[A4,ZjH (l:=r)]
   constructor<;>(intro h;rcases h with h|h|h<;>simp [h])
  .split
   .rename_i h
    have:=ZL.1 h
    subst this
    simp
   .simp
theorem ZhS {s:ByteArray}:∀{l:List ByteArray},Asc l->Asc (ZaC l s)
 | [],_=>by simp [ZaC,Asc]
 |x::r,h=>by
  have h':=h
  unfold Asc at h'
  rw [AJ]at h'
  simp only[ZaC]
  split
  .rename_i hx
   refine AJ.2 ⟨fun y my=>?_,ZhS h'.2⟩
   rcases ZjH.1 my with rfl|my
   .exact hx
   .exact h'.1 y my
  .split
   .exact h
   .rename_i hx b
    have a:sLt s x=true:=Zeh (by simpa using hx) (fun e=>b (ZL.2 e))
    refine AJ.2 ⟨fun y my=>?_,h⟩
    rcases A4.1 my with rfl|my
    .exact a
    .exact ZfM a (h'.1 y my)
theorem Zhz (s:ByteArray):∀l:List ByteArray,(ZaC l s).length<=l.length+1
 | []=>by simp [ZaC]
 |x::r=>by
  have:=Zhz s r
  simp only[ZaC]
  split
  .simp;omega
  .split<;>simp
def YU (l:List ByteArray):List ByteArray:=l.foldl ZaC []
theorem Qy:∀(l acc:List ByteArray),Asc acc->Asc (l.foldl ZaC acc)/\(∀x,x∈l.foldl ZaC acc↔x∈l\/x∈acc)/\(l.foldl ZaC acc).length<=l.length+acc.length
 | [],acc,h=>⟨h,fun x=>by simp,yG⟩
 |y::l,acc,h=>by
  obtain ⟨h1,h2,h3⟩:=Qy l (ZaC acc y) (ZhS h)
  refine ⟨h1,fun x=>?_,?_⟩
  .rw [Am,h2 x,ZjH]
   rw [A4]
   constructor
   .rintro (h|h|h)<;>simp [h]
   .rintro ((h|h)|h)<;>simp [h]
  .have:=Zhz y acc
   rw [Am]
   simp only[Ag]
   omega
theorem Zdr (l:List ByteArray):Asc (YU l):=(Qy l [] AQ).1
theorem Xq {x:ByteArray}{l:List ByteArray}:x∈YU l↔x∈l:=by have:=(Qy l [] AQ).2.1 x;rw [YU,this];simp
theorem Ze5 (l:List ByteArray):(YU l).length<=l.length:=(Qy l [] AQ).2.2
theorem Zgg {a l:List ByteArray}(h:Asc a) (hm:∀x,x∈a↔x∈l):a=YU l:=Zrr h (Zdr l) fun x=>by rw [hm,Xq]
theorem Zom {a b:List ByteArray}(h:∀x,x∈a↔x∈b):YU a=YU b:=Zgg (Zdr a) fun x=>by rw [Xq,h]
def Zaf (l:List ByteArray) (s:ByteArray):Bool:=l.any fun x=>sEq x s
theorem Zjd {l:List ByteArray}{s:ByteArray}:Zaf l s=true↔s∈l:=by
 simp only[Zaf,List.any_eq_true,ZL]
 constructor
 .rintro ⟨x,h,rfl⟩;exact h
 .exact fun h=>⟨s,h,rfl⟩
/- sorting -/
theorem Zxb {x:ByteArray}{l:List ByteArray}:x∈ZfS l↔x∈l:=by
 simp only[ZfS,List.mem_map,List.mem_mergeSort]
 constructor
 .rintro ⟨y,⟨z,hz,rfl⟩,rfl⟩;rw [ZjJ];exact hz
 .exact fun h=>⟨toL x,⟨x,h,rfl⟩,ZjJ x⟩
theorem Zv8 (l:List ByteArray):(ZfS l).length=l.length:=by simp [ZfS]
theorem Zyz (l:List ByteArray):(ZfS l).Pairwise fun x y=>sLt y x=false:=by
 unfold ZfS
 rw [List.pairwise_map]
 have:=List.pairwise_mergeSort (le:=fun x y:List UInt8=>decide (x<=y)) (fun a b c h1 h2=>by simp at h1 h2 ⊢;exact List.le_trans h1 h2) (fun a b=>by simp;exact List.le_total a b) (l.map toL)
 refine this.imp fun {a b} h=>?_
 cases hh:sLt (ofL b) (ofL a) with
 |false=>rfl
 |true=>
  have h1:=Zgp.1 hh
  rw [Zdi,Zdi]at h1
  have h2:a<=b:=by simpa using h
  exact absurd h1 (List.not_lt.2 h2)
end
def swq (d:Array Nat) (i j:Nat):Array Nat:=if i<d.size/\j<d.size then Go.Sort.swp d i j else d
def Pm (d d':Array Nat):Prop:=d'.size=d.size/\d'.toList.Perm d.toList
theorem Pm.refl (d:Array Nat):Pm d d:=⟨rfl,List.Perm.refl _⟩
theorem Pm.trans {a b c:Array Nat}(h:Pm a b) (k:Pm b c):Pm a c:=⟨k.1.trans h.1,k.2.trans h.2⟩
theorem Zkw (d:Array Nat) (i j:Nat):Pm d (swq d i j):=by
 unfold swq
 split
 .rename_i h
  have h1:=Go.Sort.swp_permIn d 0 d.size i j (AD _) h.1 (AD _) h.2 (AC _)
  refine ⟨h1.1,?_⟩
  have h2:=h1.2.2
  have e2:(Go.Sort.swp d i j).extract 0 d.size=Go.Sort.swp d i j:=by
   have:=An (xs:=Go.Sort.swp d i j)
   rwa [h1.1]at this
  rwa [An,e2]at h2
 .exact Pm.refl d
def Zft (lt : Nat -> Nat -> Bool) (a : Nat) : Nat -> Array Nat -> Array Nat
  |0, d => d
  |j + 1, d => if a < j + 1 /\ lt d[j + 1]! d[j]! = true then Zft lt a j (swq d (j + 1) j) else d
def Zq1 (lt:Nat->Nat->Bool) (a:Nat):Nat->Nat->Array Nat->Array Nat
 |0,_,d=>d
 |k+1,i,d=>Zq1 lt a k (i+1) (Zft lt a i d)
def Zga (lt:Nat->Nat->Bool) (d:Array Nat) (a b:Nat):Array Nat:=Zq1 lt a (b - (a+1)) (a+1) d
def Zto (d:Array Nat) (a b:Nat):Nat->Array Nat
 |0=>d
 |k+1=>swq (Zto d a b k) (a+k) (b+k)
def ZqM (m:Nat):Nat->Nat->Nat->Array Nat->Array Nat
 |0,_,_,d=>d
 |f+1,i,j,d=>if i=j then Zto d (m - i) m i else if j<i then ZqM m f (i - j) j (Zto d (m - i) m j) else ZqM m f i (j - i) (Zto d (m - i) (m+j - i) i)
def ZxE (d:Array Nat) (a m b:Nat):Array Nat:=ZqM m (b - a) (m - a) (b - m) d
def Zej (p:Nat->Bool):Nat->Nat->Nat->Nat
 |0,i,_=>i
 |f+1,i,j=>if i<j then if p ((i+j) / 2)=true then Zej p f ((i+j) / 2+1) j else Zej p f i ((i+j) / 2) else i
def upR (d:Array Nat) (a:Nat):Nat->Array Nat
 |0=>d
 |k+1=>swq (upR d a k) (a+k) (a+k+1)
def Ztq (d:Array Nat) (m:Nat):Nat->Array Nat
 |0=>d
 |k+1=>swq (Ztq d m k) (m - k) (m - k - 1)
def ZgT (lt:Nat->Nat->Bool) (a m b:Nat) (d:Array Nat):Nat:=Zej (fun c=>!lt d[(a+b) / 2+m - 1 - c]! d[c]!) (b - a) (if (a+b) / 2<m then (a+b) / 2+m - b else a) (if (a+b) / 2<m then (a+b) / 2 else m)
def ZdS (lt:Nat->Nat->Bool):Nat->Nat->Nat->Nat->Array Nat->Array Nat
 |0,_,_,_,d=>d
 |f+1,a,m,b,d=>
  if m - a=1 then upR d a (Zej (fun h=>lt d[h]! d[a]!) (b - m) m b - 1 - a)
  else if b - m=1 then Ztq d m (m - Zej (fun h=>!lt d[m]! d[h]!) (m - a) a m)
  else
   let s:=ZgT lt a m b d
   let mid:=(a+b) / 2
   let e:=mid+m - s
   let d1:=if s<m/\m<e then ZxE d s m e else d
   let d2:=if a<s/\s<mid then ZdS lt f a s mid d1 else d1
   if mid<e/\e<b then ZdS lt f mid e b d2 else d2
def Zk2 (lt:Nat->Nat->Bool) (n:Nat):Nat->Nat->Array Nat->Nat×Array Nat
 |0,a,d=>(a,d)
 |f+1,a,d=>if a+20<=n then Zk2 lt n f (a+20) (Zga lt d a (a+20)) else (a,d)
def Zim (lt:Nat->Nat->Bool) (n bs:Nat):Nat->Nat->Array Nat->Nat×Array Nat
 |0,a,d=>(a,d)
 |f+1,a,d=>if a+2*bs<=n then Zim lt n bs f (a+2*bs) (ZdS lt n a (a+bs) (a+2*bs) d) else (a,d)
def ZoQ (lt:Nat->Nat->Bool) (n bs:Nat) (d:Array Nat):Array Nat:=
 if (Zim lt n bs n 0 d).1+bs<n then ZdS lt n (Zim lt n bs n 0 d).1 ((Zim lt n bs n 0 d).1+bs) n (Zim lt n bs n 0 d).2 else (Zim lt n bs n 0 d).2
def ZnK (lt:Nat->Nat->Bool) (n:Nat):Nat->Nat->Array Nat->Array Nat
 |0,_,d=>d
 |f+1,bs,d=>if bs<n then ZnK lt n f (2*bs) (ZoQ lt n bs d) else d
def Zg6 (lt:Nat->Nat->Bool) (n:Nat) (d:Array Nat):Array Nat:=ZnK lt n n 20 (Zga lt (Zk2 lt n n 0 d).2 (Zk2 lt n n 0 d).1 n)
theorem Zv0 (lt:Nat->Nat->Bool) (a:Nat):∀(j:Nat) (d:Array Nat),Pm d (Zft lt a j d)
 |0,d=>Pm.refl d
 |j+1,d=>by
  unfold Zft
  split
  .exact (Zkw d _ _).trans (Zv0 lt a j _)
  .exact Pm.refl d
theorem Zmj (lt:Nat->Nat->Bool) (a:Nat):∀(k i:Nat) (d:Array Nat),Pm d (Zq1 lt a k i d)
 |0,_,d=>Pm.refl d
 |k+1,i,d=>(Zv0 lt a i d).trans (Zmj lt a k (i+1) _)
theorem Zmg (d:Array Nat) (a b:Nat):∀k:Nat,Pm d (Zto d a b k)
 |0=>Pm.refl d
 |k+1=>(Zmg d a b k).trans (Zkw _ _ _)
theorem ZqK (m:Nat):∀(f i j:Nat) (d:Array Nat),Pm d (ZqM m f i j d)
 |0,_,_,d=>Pm.refl d
 |f+1,i,j,d=>by
  unfold ZqM
  split
  .exact Zmg _ _ _ _
  .split
   .exact (Zmg _ _ _ _).trans (ZqK m f _ _ _)
   .exact (Zmg _ _ _ _).trans (ZqK m f _ _ _)
theorem ZzP (d:Array Nat) (a:Nat):∀k:Nat,Pm d (upR d a k)
 |0=>Pm.refl d
 |k+1=>(ZzP d a k).trans (Zkw _ _ _)
theorem Zsr (d:Array Nat) (m:Nat):∀k:Nat,Pm d (Ztq d m k)
 |0=>Pm.refl d
 |k+1=>(Zsr d m k).trans (Zkw _ _ _)
theorem Zl6 (lt:Nat->Nat->Bool):∀(f a m b:Nat) (d:Array Nat),Pm d (ZdS lt f a m b d)
 |0,_,_,_,d=>Pm.refl d
 |f+1,a,m,b,d=>by
  unfold ZdS
  split
  .exact ZzP _ _ _
  .split
   .exact Zsr _ _ _
   .have h1:Pm d (if ZgT lt a m b d<m/\m<(a+b) / 2+m - ZgT lt a m b d then ZxE d (ZgT lt a m b d) m ((a+b) / 2+m - ZgT lt a m b d) else d):=by
     split
     .exact ZqK _ _ _ _ _
     .exact Pm.refl d
    have h2:∀d1,Pm d d1->Pm d (if a<ZgT lt a m b d/\ZgT lt a m b d<(a+b) / 2 then ZdS lt f a (ZgT lt a m b d) ((a+b) / 2) d1 else d1):=fun d1 h=>by
     split
     .exact h.trans (Zl6 lt f _ _ _ _)
     .exact h
    have h3:=h2 _ h1
    simp only
    split
    .exact h3.trans (Zl6 lt f _ _ _ _)
    .exact h3
theorem ZvS (lt:Nat->Nat->Bool) (n:Nat):∀(f a:Nat) (d:Array Nat),Pm d (Zk2 lt n f a d).2
 |0,_,d=>Pm.refl d
 |f+1,a,d=>by
  unfold Zk2
  split
  .exact (Zmj lt a _ _ d).trans (ZvS lt n f _ _)
  .exact Pm.refl d
theorem ZqJ (lt:Nat->Nat->Bool) (n bs:Nat):∀(f a:Nat) (d:Array Nat),Pm d (Zim lt n bs f a d).2
 |0,_,d=>Pm.refl d
 |f+1,a,d=>by
  unfold Zim
  split
  .exact (Zl6 lt n _ _ _ d).trans (ZqJ lt n bs f _ _)
  .exact Pm.refl d
theorem ZCg (lt:Nat->Nat->Bool) (n bs:Nat) (d:Array Nat):Pm d (ZoQ lt n bs d):=by
 unfold ZoQ
 split
 .exact (ZqJ lt n bs n 0 d).trans (Zl6 _ _ _ _ _ _)
 .exact ZqJ lt n bs n 0 d
theorem Zvh (lt:Nat->Nat->Bool) (n:Nat):∀(f bs:Nat) (d:Array Nat),Pm d (ZnK lt n f bs d)
 |0,_,d=>Pm.refl d
 |f+1,bs,d=>by
  unfold ZnK
  split
  .exact (ZCg lt n bs d).trans (Zvh lt n f _ _)
  .exact Pm.refl d
theorem ZnJ (lt:Nat->Nat->Bool) (n:Nat) (d:Array Nat):Pm d (Zg6 lt n d):=
 ((ZvS lt n n 0 d).trans (Zmj lt _ _ _ _)).trans (Zvh lt n n 20 _)
def Zpy (v:List Int):Array Nat:=Zga (fun i j=>decide ((v[j]?).getD 0<(v[i]?).getD 0)) (Ao v.length) 0 v.length
def Zld (v:List Int):List Int:=(Zpy v).toList.map fun k=>(v[k]?).getD 0
theorem Zsx (v:List Int):Pm (Ao v.length) (Zpy v):=Zmj _ _ _ _ _
theorem ZkY (v:List Int):(Zld v).length=v.length:=by
 have:=(Zsx v).1
 unfold Zld
 rw [A6,AF,this,Array.size_range]
section
open Go.RowKit
structure Zg where
 rel:ByteArray
 args:List ByteArray
def YG:YK Zg where
 size:=2
 rep:=fun w cs x L=>∃A1 c1 L1,cs=[.string x.rel,.slice A1 x.args.length c1]/\L=L1/\x.rel.size<=9223372036854775807/\x.args.length<=c1/\c1<=maxLen/\Sli ZAo w A1 x.args L1
 len:=fun ⟨A1,c1,L1,h,hL,t0,n1,m1,s1⟩=>by simp [h]
 keep:=fun ⟨A1,c1,L1,h,hL,t0,n1,m1,s1⟩ hk=>⟨A1,c1,L1,h,hL,t0,n1,m1,s1.keep (fun b m=>hk b (by simp [hL,m]))⟩
 lt:=fun ⟨A1,c1,L1,h,hL,t0,n1,m1,s1⟩=>by intro b m;simp only[hL,A0]at m;exact s1.lt b m
 one:=fun ⟨A1,c1,L1,h,hL,t0,n1,m1,s1⟩=>by simp [h,Value.oneCell']
 pos:=by omega
def ZjN (x:Zg):Nat:=x.rel.size+Zsn x.args
def ZkJ (l:List Zg):Nat:=l.length+(l.map ZjN).sum
structure Zi where
 rel:ByteArray
 args:List ByteArray
def Zf4:YK Zi where
 size:=2
 rep:=fun w cs x L=>∃A1 c1 L1,cs=[.string x.rel,.slice A1 x.args.length c1]/\L=L1/\x.rel.size<=9223372036854775807/\x.args.length<=c1/\c1<=maxLen/\Sli ZAo w A1 x.args L1
 len:=fun ⟨A1,c1,L1,h,hL,t0,n1,m1,s1⟩=>by simp [h]
 keep:=fun ⟨A1,c1,L1,h,hL,t0,n1,m1,s1⟩ hk=>⟨A1,c1,L1,h,hL,t0,n1,m1,s1.keep (fun b m=>hk b (by simp [hL,m]))⟩
 lt:=fun ⟨A1,c1,L1,h,hL,t0,n1,m1,s1⟩=>by intro b m;simp only[hL,A0]at m;exact s1.lt b m
 one:=fun ⟨A1,c1,L1,h,hL,t0,n1,m1,s1⟩=>by simp [h,Value.oneCell']
 pos:=by omega
structure Zo where
 var:ByteArray
 value:ByteArray
def ZgS:YK Zo where
 size:=2
 rep:=fun w cs x L=>cs=[.string x.var,.string x.value]/\L=[]/\x.var.size<=9223372036854775807/\x.value.size<=9223372036854775807
 len:=fun h=>by simp [h.1]
 keep:=fun h _=>h
 lt:=fun h=>by simp [h.2.1]
 one:=fun h=>by simp [h.1,Value.oneCell']
 pos:=by omega
def ZmZ (x:Zo):Nat:=x.var.size+x.value.size
def ZkH (l:List Zo):Nat:=l.length+(l.map ZmZ).sum
structure Zj where
 kind:Int
 pattern:Zi
 left:ByteArray
 right:ByteArray
def Zr5:YK Zj where
 size:=5
 rep:=fun w cs x L=>∃A1 c1 L1,cs=[.int .i64 x.kind,.string x.pattern.rel,.slice A1 x.pattern.args.length c1,.string x.left,.string x.right]/\L=L1/\x.pattern.rel.size<=9223372036854775807/\x.left.size<=9223372036854775807/\x.right.size<=9223372036854775807/\x.pattern.args.length<=c1/\c1<=maxLen/\Sli ZAo w A1 x.pattern.args L1
 len:=fun ⟨A1,c1,L1,h,hL,t0,t1,t2,n1,m1,s1⟩=>by simp [h]
 keep:=fun ⟨A1,c1,L1,h,hL,t0,t1,t2,n1,m1,s1⟩ hk=>⟨A1,c1,L1,h,hL,t0,t1,t2,n1,m1,s1.keep (fun b m=>hk b (by simp [hL,m]))⟩
 lt:=fun ⟨A1,c1,L1,h,hL,t0,t1,t2,n1,m1,s1⟩=>by intro b m;simp only[hL,A0]at m;exact s1.lt b m
 one:=fun ⟨A1,c1,L1,h,hL,t0,t1,t2,n1,m1,s1⟩=>by simp [h,Value.oneCell']
 pos:=by omega
structure ZB where
 kind:Int
 pattern:Zi
structure Zh where
 name:ByteArray
 priority:Int
 cond:List Zj
 thn:List ZB
structure Zs where
 facts:List Zg
 binding:List Zo
def Zb8:YK Zs where
 size:=2
 rep:=fun w cs x L=>∃A1 c1 L1 A2 c2 L2,cs=[.slice A1 x.facts.length c1,.slice A2 x.binding.length c2]/\L=L1++L2/\x.facts.length<=c1/\c1<=maxLen/\Sli YG w A1 x.facts L1/\x.binding.length<=c2/\c2<=maxLen/\Sli ZgS w A2 x.binding L2
 len:=fun ⟨A1,c1,L1,A2,c2,L2,h,hL,n1,m1,s1,n2,m2,s2⟩=>by simp [h]
 keep:=fun ⟨A1,c1,L1,A2,c2,L2,h,hL,n1,m1,s1,n2,m2,s2⟩ hk=>⟨A1,c1,L1,A2,c2,L2,h,hL,n1,m1,s1.keep (fun b m=>hk b (by simp [hL,m])),n2,m2,s2.keep (fun b m=>hk b (by simp [hL,m]))⟩
 lt:=fun ⟨A1,c1,L1,A2,c2,L2,h,hL,n1,m1,s1,n2,m2,s2⟩=>by intro b m;simp only[hL,A0]at m;rcases m with m|m<;>first|exact s1.lt b m|exact s2.lt b m
 one:=fun ⟨A1,c1,L1,A2,c2,L2,h,hL,n1,m1,s1,n2,m2,s2⟩=>by simp [h,Value.oneCell']
 pos:=by omega
def Zig (x:Zs):Nat:=ZkJ x.facts+ZkH x.binding
def ZtZ (l:List Zs):Nat:=l.length+(l.map Zig).sum
structure Yk where
 rule:ByteArray
 facts:List Zg
 binding:List Zo
structure YR where
 shape:Zi
 facts:List Zg
structure ZV where
 parent:Int
 cond:Zj
 alpha:Int
 tokens:List Zs
structure Ze where
 rules:List Zh
 ends:List Int
 alphas:List YR
 nodes:List ZV
 facts:List Zg
 tries:Int
structure Zv where
 fact:Zg
 time:Int
def Zap:YK Zv where
 size:=3
 rep:=fun w cs x L=>∃A1 c1 L1,cs=[.string x.fact.rel,.slice A1 x.fact.args.length c1,.int .i64 x.time]/\L=L1/\x.fact.rel.size<=9223372036854775807/\x.fact.args.length<=c1/\c1<=maxLen/\Sli ZAo w A1 x.fact.args L1
 len:=fun ⟨A1,c1,L1,h,hL,t0,n1,m1,s1⟩=>by simp [h]
 keep:=fun ⟨A1,c1,L1,h,hL,t0,n1,m1,s1⟩ hk=>⟨A1,c1,L1,h,hL,t0,n1,m1,s1.keep (fun b m=>hk b (by simp [hL,m]))⟩
 lt:=fun ⟨A1,c1,L1,h,hL,t0,n1,m1,s1⟩=>by intro b m;simp only[hL,A0]at m;exact s1.lt b m
 one:=fun ⟨A1,c1,L1,h,hL,t0,n1,m1,s1⟩=>by simp [h,Value.oneCell']
 pos:=by omega
structure ZC where
 mtch:Yk
 priority:Int
 times:List Int
 specific:Int
 ordr:Int
def ZqI:YK ZC where
 size:=7
 rep:=fun w cs x L=>∃A1 c1 L1 A2 c2 L2 A3 c3 L3,cs=[.string x.mtch.rule,.slice A1 x.mtch.facts.length c1,.slice A2 x.mtch.binding.length c2,.int .i64 x.priority,.slice A3 x.times.length c3,.int .i64 x.specific,.int .i64 x.ordr]/\L=L1++(L2++L3)/\x.mtch.rule.size<=9223372036854775807/\x.mtch.facts.length<=c1/\c1<=maxLen/\Sli YG w A1 x.mtch.facts L1/\x.mtch.binding.length<=c2/\c2<=maxLen/\Sli ZgS w A2 x.mtch.binding L2/\x.times.length<=c3/\c3<=maxLen/\Sli ZFX w A3 x.times L3
 len:=fun ⟨A1,c1,L1,A2,c2,L2,A3,c3,L3,h,hL,t0,n1,m1,s1,n2,m2,s2,n3,m3,s3⟩=>by simp [h]
 keep:=fun ⟨A1,c1,L1,A2,c2,L2,A3,c3,L3,h,hL,t0,n1,m1,s1,n2,m2,s2,n3,m3,s3⟩ hk=>⟨A1,c1,L1,A2,c2,L2,A3,c3,L3,h,hL,t0,n1,m1,s1.keep (fun b m=>hk b (by simp [hL,m])),n2,m2,s2.keep (fun b m=>hk b (by simp [hL,m])),n3,m3,s3.keep (fun b m=>hk b (by simp [hL,m]))⟩
 lt:=fun ⟨A1,c1,L1,A2,c2,L2,A3,c3,L3,h,hL,t0,n1,m1,s1,n2,m2,s2,n3,m3,s3⟩=>by intro b m;simp only[hL,A0]at m;rcases m with m|m|m<;>first|exact s1.lt b m|exact s2.lt b m|exact s3.lt b m
 one:=fun ⟨A1,c1,L1,A2,c2,L2,A3,c3,L3,h,hL,t0,n1,m1,s1,n2,m2,s2,n3,m3,s3⟩=>by simp [h,Value.oneCell']
 pos:=by omega
structure ZP where
 rule:ByteArray
 times:List Int
structure Z6 where
 kind:Int
 rule:ByteArray
 fact:Zg
structure Zu where
 rules:List Zh
 memory:List Zv
 clock:Int
 fired:List ZP
 halted:Bool
 log:List Z6
structure Zlg where
 engine:Zu
 network:Ze
end
noncomputable def Zqt (n:Int):Option ByteArray:=chk (-9223372036854775808<=n/\n<=9223372036854775807) (some (ofL (Lib.itoa n)))
def Zfy (a b:ByteArray):Option Int:=some (Lib.compareBytes (toL a) (toL b))
def Znm (s:ByteArray):Option (Int×Bool):=chk (s.size<=18) (some (match Lib.atoi (toL s) with|some n=>(n,true)|none=>(0,false)))
end Go.Proofs.YtaafhjecikjhbaaGreatDoor
