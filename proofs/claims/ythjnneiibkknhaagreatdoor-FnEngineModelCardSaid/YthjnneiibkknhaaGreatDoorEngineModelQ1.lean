/- Texts of this proof, joined: Base, Own, Codec, BTree, BState, BSimp, BLoop, BDec, ExtD, PL, Sp, Types, ExtL. What each holds is said at its theorems. -/
import Derived.WalkKit
import Derived.Lib.Hide
import Derived.Deep.Draws
import Derived.Maps.AppendAt
import Derived.Deep.QuietTactic
import Derived.BigQuiet
import Derived.IntWalk
import Derived.Sort.LotA
import Derived.Lib.ItoaNum
import Derived.Lib.Bytealg
import Derived.Lib.Join
import Derived.Lib.Atoi
open Array renaming getElem?_eq_some_iff→AB,length_toList→AF,extract_size→Aj,range→Ak
open Bool renaming and_eq_true→Ag
open ByteArray renaming size→AP
open Go.ByteArray renaming toList_eq→Ah
open Int renaming toNat_natCast→Ad
open List renaming mem_append→A0,mem_cons→A4,map→A5,length_map→A6,getElem?_eq_some_iff→A9,map_cons→AA,append_assoc→AG,pairwise_cons→AI,length_append→AK,getElem?_eq_getElem→AR,nodup_nil→AS,eq_nil_of_length_eq_zero→AT,size_toArray→AU,length_drop→AW,drop_take→AX,take_left→AY,drop_zero→AZ,take_zero→Aa,length_cons→Ab,foldl_cons→Ai
open List.Pairwise renaming nil→AQ
open Nat renaming le_refl→AC,zero_le→AD,add_mul→AE,le_trans→AJ,mul_le_mul_right→AL,sub_mul→AN
open Option renaming map_some→AH,bind_some→Ac
open Option.some renaming inj→AO
open Sum.inl renaming inj→Ae
set_option linter.unusedSimpArgs false
set_option linter.unusedVariables false
set_option maxRecDepth 1000000
set_option maxHeartbeats 4000000
namespace Go.Proofs.YthjnneiibkknhaaGreatDoor
theorem yE{p:Prop}(h:p:=by omega):p:=h
theorem yF{p:Prop}(h:p:=by decide):p:=h
theorem yG{p:Prop}(h:p:=by simp):p:=h
theorem yH{p:Prop}(h:p:=by rfl):p:=h
theorem yK{p:Prop}(h:p:=by first | (simp;done) | (simp;omega) | omega):p:=h
theorem yI{p:Prop}(h:p:=by repeat (first | refine Below.setCell ?_ (by dsimp only;omega) _ | refine Below.alloc ?_ (by first | (simp;done) | (simp;omega) | omega) _ | exact Below.refl _ _)):p:=h
theorem yi{p:Prop}(h:p):p:=h
section
open Go.RowKit
theorem Zdt (b a j:Nat):(⟨b,a,none⟩:Addr).add j=⟨b,a+j,none⟩:=by
 unfold Addr.add;split<;>simp_all
def Zbr (w:World) (b off:Nat) (xs:List Value):Prop:=∀j u,xs[j]?=some u->w.cell? ⟨b,off+j,none⟩=some u
def Sl (w:World) (size:Nat) (A:Option Addr) (n:Nat) (xs:List Value) (L:List Nat):Prop:=
 xs.length=n*size/\((n=0/\L=[])\/(0<n/\∃b off,A=some ⟨b,off,none⟩/\L=[b]/\Zbr w b off xs))
section
variable {w w':World} {size n:Nat} {A:Option Addr} {xs:List Value} {L:List Nat}
theorem Sl.zero:Sl w size A 0 [] []:=⟨yG,.inl ⟨rfl,rfl⟩⟩
theorem Sl.at_ (h:Sl w size A n xs L) (c:0<n):∃b a,A=some ⟨b,a,none⟩/\L=[b]/\Zbr w b a xs:=by
 rcases h.2 with ⟨d,_⟩|⟨_,h⟩
 .omega
 .exact h
theorem Sl.keep (h:Sl w size A n xs L) (k:∀b∈L,w'.heap[b]?=w.heap[b]?):Sl w' size A n xs L:=by
 refine ⟨h.1,?_⟩;rcases h.2 with q|⟨i,b,a,o,c,m⟩
 .exact .inl q
 .refine .inr ⟨i,b,a,o,c,λj u d=>?_⟩;rw [<-m j u d];exact World.cell?_of_block (k b (by simp [c]))
theorem Sl.lt (h:Sl w size A n xs L) (d:0<size):∀b∈L,b<w.heap.size:=by
 rcases h.2 with o|⟨j,b,c,q,m,k⟩
 .simp [o.2]
 .intro x a;rw [m]at a;simp at a;subst a;have i:0<xs.length:=by rw [h.1];exact Nat.mul_pos j d
  exact World.block_lt_of_cell? w _ (k 0 _ (AR i))
end
structure Own (w:World) (base:Nat) (L:List Nat):Prop where
 nodup:L.Nodup
 ge:∀b∈L,base<=b
 plain:∀b∈L,∃cur e,w.heap[b]?=some (.cells cur e (0,0))
theorem Own.nil (w:World) (a:Nat):Own w a []:=⟨AS,yG,yG⟩
theorem Own.lt {w:World}{a:Nat}{L:List Nat}(h:Own w a L):∀b∈L,b<w.heap.size:=by
 intro b d;obtain ⟨i,e,c⟩:=h.plain b d;exact (AB.1 c).1
theorem Own.keep {w c:World}{a:Nat}{L:List Nat}(h:Own w a L) (i:∀b∈L,c.heap[b]?=w.heap[b]?):Own c a L:=
 ⟨h.nodup,h.ge,λb d=>by rw [i b d];exact h.plain b d⟩
theorem YA {B:Nat}{w a:World}{L:List Nat}(c:Below B w a) (h:∀b∈L,b<B):∀b∈L,a.heap[b]?=w.heap[b]?:=
 λb m=>c.block b (h b m)
structure YM (L:List Nat) (w w':World):Prop where
 os:w'.os=w.os
 tape:w'.tape=w.tape
 output:w'.output=w.output
 size:w.heap.size<=w'.heap.size
 block:∀k,k<w.heap.size->k∉L->w'.heap[k]?=w.heap[k]?
theorem YM.refl (L:List Nat) (w:World):YM L w w:=⟨rfl,rfl,rfl,AC _,λ_ _ _=>rfl⟩
theorem YM.trans {L:List Nat}{a b c:World}(h:YM L a b) (k:YM L b c):YM L a c:=
 ⟨k.os.trans h.os,k.tape.trans h.tape,k.output.trans h.output,AJ h.size k.size,λi j d=>(k.block i (Nat.lt_of_lt_of_le j h.size) d).trans (h.block i j d)⟩
theorem YM.below {L:List Nat}{B:Nat}{w w':World}(h:YM L w w') (d:B<=w.heap.size) (a:∀b∈L,B<=b):Below B w w':=
 ⟨h.os,h.tape,h.output,h.size,λk c=>h.block k yE (λm=>by have:=a k m;omega)⟩
theorem YM.of_below {w w':World}(h:Below w.heap.size w w') (L:List Nat):YM L w w':=⟨h.os,h.tape,h.output,h.size,λk a _=>h.block k a⟩
theorem YM.setCell {L:List Nat}{a w:World}(h:YM L a w) {p:Addr}(c:p.block∈L) (u:Value):YM L a (w.setCell p u):=
 h.trans ⟨rfl,rfl,rfl,by simp [World.setCell],λk _ d=>Below.heap_setCell _ _ _ _ (λe=>d (by rw [e];exact c))⟩
theorem YM.drewN {L:List Nat}{a w:World}(h:YM L a w) (n:Nat):YM L a (w.drewN n):=⟨h.os,h.tape,h.output,h.size,h.block⟩
section
variable {w w':World} {n:Nat} {A:Option Addr} {zs:List Int} {L:List Nat}
end
section
variable {P:Program} {f:FuncId} {args:Array Value} {w:World} {a n:Nat} {v:Value}
end
end
end Go.Proofs.YthjnneiibkknhaaGreatDoor
namespace Go.Proofs.YthjnneiibkknhaaGreatDoor
open Go.RowKit
end Go.Proofs.YthjnneiibkknhaaGreatDoor
namespace Go
open Go.RowKit Go.Proofs.YthjnneiibkknhaaGreatDoor
def World.ownsV (w : World) (base : Nat) (e : TypeId) (size : Nat) (v : Value) (n : Nat) (xs : List Value) : Prop :=
  xs.length = n*size /\ ((v = .slice none 0 0 /\ n = 0) \/
   ∃ g o cap cur, v = .slice (some ⟨g, o, none⟩) n cap /\ base <= g /\ w.heap[g]? = some (.cells cur e (0, 0)) /\ n <= cap /\ cap <= maxLen /\ o + cap*size <= cur.size /\ (cur.toList.drop o).take (n*size) = xs)
end Go
namespace Go.Proofs.YthjnneiibkknhaaGreatDoor
open Go.RowKit
section
variable {w w':World} {base:Nat} {e:TypeId} {size n:Nat} {v:Value} {xs:List Value}
theorem ZjM (h:w.ownsRow base e size v n xs):w.ownsV base e size v n xs:=by
 refine ⟨h.1,?_⟩;rcases h.2 with q|⟨g,c,a,o,m,k,j,i,s,d⟩
 .exact .inl q
 .exact .inr ⟨g,0,c,a,o,m,k,j,i,yE,by simpa using d⟩
theorem ZfE (w:World) (c:Nat) (e:TypeId) (a:Nat):w.ownsV c e a (.slice none 0 0) 0 []:=ZjM (World.ownsRow_nil _ _ _ _)
theorem XK (h:w.ownsV base e size v n xs):∃A c,v=.slice A n c/\n<=c/\c<=maxLen:=by
 rcases h.2 with ⟨rfl,rfl⟩|⟨g,o,d,j,rfl,s,q,a,i,m,k⟩
 .exact ⟨none,0,rfl,AC _,AD _⟩
 .exact ⟨_,d,rfl,a,i⟩
theorem Zjy {a:Nat}(h:w.ownsV base e size v n xs) (d:a<=base):w.ownsV a e size v n xs:=by
 refine ⟨h.1,?_⟩;rcases h.2 with m|⟨g,o,c,b,k,j,i⟩
 .exact .inl m
 .exact .inr ⟨g,o,c,b,k,AJ d j,i⟩
theorem ZjE (h:w.ownsV base e size v n xs):∀b∈v.ownBlock.toList,b<w.heap.size:=by
 rcases h.2 with ⟨i,_⟩|⟨g,o,k,j,c,_,d,_⟩
 .simp [i,Value.ownBlock]
 .intro b a;simp [c,Value.ownBlock]at a;subst a;exact (AB.1 d).1
theorem XJ (h:w.ownsV base e size v n xs) (i:∀b∈v.ownBlock.toList,w'.heap[b]?=w.heap[b]?):w'.ownsV base e size v n xs:=by
 refine ⟨h.1,?_⟩;rcases h.2 with m|⟨g,o,c,a,d,j,k,r⟩
 .exact .inl m
 .refine .inr ⟨g,o,c,a,d,j,?_,r⟩;rw [i g (by simp [d,Value.ownBlock])];exact k
theorem Zhd {g o i d:Nat}(h:w.ownsV base e size v n xs) (a:v=.slice (some ⟨g,o,none⟩) i d):∀j u,xs[j]?=some u->w.cell? ⟨g,o+j,none⟩=some u:=by
 intro j u c;subst a;rcases h.2 with ⟨z,_⟩|⟨E,A,m,b,k,D,x,s,C,B,q⟩
 .simp at z
 .simp only[Value.slice.injEq,Option.some.injEq,Addr.mk.injEq,and_true,true_and]at k;obtain ⟨⟨rfl,rfl⟩,rfl,rfl⟩:=k;rw [cell_of_row w g (o+j) b e (0,0) x];rw [<-q]at c;have t:j<i * size:=by
   have:=(A9.1 c).1;simp at this;omega
  rw [List.getElem?_take_of_lt t,List.getElem?_drop]at c;simpa using c
theorem Sl.of_ownV {c:Nat}{A:Option Addr}(h:w.ownsV base e size (.slice A n c) n xs):∃L,Sl w size A n xs L/\Own w base L/\∀b∈L,∃o,A=some ⟨b,o,none⟩:=by
 rcases h.2 with ⟨i,s⟩|⟨g,o,x,a,i,v,t,q,C,B,z⟩
 .subst s;exact ⟨[],⟨h.1,.inl ⟨rfl,rfl⟩⟩,Own.nil _ _,yG⟩
 .injection i with hA _ hc;subst hA;subst hc;rcases Nat.eq_zero_or_pos n with d|d
  .subst d;exact ⟨[],⟨h.1,.inl ⟨rfl,rfl⟩⟩,Own.nil _ _,yG⟩
  .refine ⟨[g],⟨h.1,.inr ⟨d,g,o,rfl,rfl,λj u k=>Zhd h rfl j u k⟩⟩,⟨yG,by simpa using v,λb m=>?_⟩,yG⟩;simp at m;subst m;exact ⟨a,e,t⟩
end
section
variable {P:Program} (w:World)
theorem Zj8 (t h e:TypeId) (i:TypeInfo) (s:P.underlying t=some (.slice e)) (z:P.info? e=some i)
  (g o d f:Nat) (k:Array Value) (A:w.heap[g]?=some (.cells k e (0,0)))
  (a:Addr) (m c:Nat) (b:List Value) (x:b.length=m*i.size) (l:∀j u,b[j]?=some u->w.cell? (a.add j)=some u) (B:∀u∈b,u.oneCell'=true)
  (p:d+m<=f) (q:o+d*i.size+b.length<=k.size):
  (Builtin.append_ #[t,t] h #[.slice (some ⟨g,o,none⟩) d f,.slice (some a) m c]).run P w=
   .ok (.slice (some ⟨g,o,none⟩) (d+m) f) (w.setRow g (k.toList.take (o+d*i.size)++b++k.toList.drop (o+d*i.size+b.length)).toArray):=by
 have hf:=run_firstCells_some (P:=P) w i.size m a m c b x l;have v:=run_storeCells_at P g (o+d*i.size) e b 0 k w A (by simpa using q) B;simp only[Nat.add_zero]at v;simp [Builtin.append_,run_underlying s,sizeOf,typeInfo,z,Builtin.lenOf,p,hf,Addr.add_lit,v]
theorem ZgJ (h:Nat) (t S e:TypeId) (i:TypeInfo) (z:Value) (size f:Nat) (V:P.underlying t=some (.slice e)) (hi:P.info? e=some i) (hz:i.zero=some z)
  (A:i.size=size) (F:i.bytes=f) (G:z.cells.size=size) (J:0<size)
  (v:Value) (n:Nat) (xs:List Value) (d:w.ownsV h e size v n xs)
  (a:Addr) (m c:Nat) (b:List Value) (O:b.length=m*size) (l:∀j u,b[j]?=some u->w.cell? (a.add j)=some u) (h1:∀u∈b,u.oneCell'=true)
  (C:n+m<=maxLen) (q:(n+m)*f<=140737488355328) (B:h<=w.heap.size):
  ∃N R,(Builtin.append_ #[t,t] S #[v,.slice (some a) m c]).run P w=.ok N R/\R.ownsV h e size N (n+m) (xs++b)/\w.grownBy R v.ownBlock/\
   (N.ownBlock=v.ownBlock\/N.ownBlock=some w.heap.size):=by
 rcases d.2 with ⟨rfl,rfl⟩|⟨g,o,s,y,rfl,K,hg,aa,L,ab,D⟩
 .have U:xs=[]:=AT (by simpa using d.1);subst U;obtain ⟨N,R,r1,r2,r3,_,r5⟩:=run_append_own_at (P:=P) w h t S e i z size f V hi hz A F G J _ 0 [] (World.ownsRow_nil w h e size) a m c b O l h1 C q B;exact ⟨N,R,r1,ZjM r2,r3,r5⟩
 .subst A;subst F;have T:n+m<=9223372036854775807:=by simp only[maxLen]at C;omega
  have x:(xs++b).length=(n+m)*i.size:=by rw [AK,d.1,O,AE]
  by_cases p:n+m<=s
  .have H:o+n*i.size+b.length<=y.size:=by
    have:=AL i.size p;rw [AE]at this;rw [O];omega
   have hr:=Zj8 (P:=P) w t S e i V hi g o n s y hg a m c b O l h1 p H;refine ⟨_,_,hr,⟨x,.inr ⟨g,o,s,_,rfl,K,setRow_heap w g y _ e _ hg,p,L,?_,?_⟩⟩,⟨rfl,rfl,rfl,yG,λk _ W=>setRow_other w g k _ (λe=>W (by simp [Value.ownBlock,e]))⟩,.inl rfl⟩
   .simp only[AU,AK,List.length_take,AW,AF];omega
   .show List.take _ (List.drop o (y.toList.take (o+n*i.size)++b++_))=_
    have U:(y.toList.take (o+n*i.size)).drop o=xs:=by
     rw [AX,Nat.add_sub_cancel_left];exact D
    have ho:o<=(y.toList.take (o+n*i.size)).length:=by simp;omega
    rw [AG,List.drop_append_of_le_length ho,U,<-AG,<-x];exact AY
  .have E:∀j u,xs[j]?=some u->w.cell? ((⟨g,o,none⟩:Addr).add j)=some u:=λj u hj=>by
    rw [Addr.add_lit];exact Zhd d rfl j u hj
   have hr:=run_append_grow (P:=P) w t S e i z V hi hz ⟨g,o,none⟩ n s xs d.1 E a m c b O l yE yE (growslice_fits yE q);have M:=grownCap_ge w (n+m) s e;have I:grownCap w (n+m) s e<=maxLen:=grownCap_le_maxLen w (n+m) s e C;refine ⟨_,_,hr,⟨x,.inr ⟨w.heap.size,0,_,_,rfl,B,heap_alloc_new w.drew _,M,I,?_,?_⟩⟩,⟨rfl,rfl,rfl,yG,λk W _=>heap_alloc_old w.drew _ W⟩,.inr rfl⟩
   .simp only[Array.size_append,AU,size_zeroCells,G,d.1,O,<-AE];rw [Nat.zero_add];exact AL _ yE
   .rw [AZ];simp only[Array.toList_append,AG];rw [<-AG,<-x];exact AY
theorem Zuw {w:World}{i:Nat}{e:TypeId}{size n l c:Nat}{A:Option Addr}{xs:List Value}(h:w.ownsV i e size (.slice A n c) n xs) (C:l<=n):
  w.ownsV i e size (.slice (if c=l then A else A.map (·.add (l*size))) (n - l) (c - l)) (n - l) (xs.drop (l*size))/\(Value.slice (if c=l then A else A.map (·.add (l*size))) (n - l) (c - l)).ownBlock=(Value.slice A n c).ownBlock:=by
 have a:(xs.drop (l*size)).length=(n - l)*size:=by rw [AW,h.1,AN]
 rcases h.2 with ⟨q,u⟩|⟨g,o,x,b,j,m,k,t,B,z,s⟩
 .simp only[Value.slice.injEq]at q;obtain ⟨rfl,_,rfl⟩:=q;subst u;obtain rfl:l=0:=by omega
  exact ⟨⟨a,.inl ⟨yG,yE⟩⟩,yG⟩
 .simp only[Value.slice.injEq,true_and]at j;obtain ⟨rfl,rfl⟩:=j;by_cases d:c=l
  .subst d;rw [if_pos rfl];refine ⟨⟨a,.inr ⟨g,o,c - c,b,rfl,m,k,yE,yE,?_,?_⟩⟩,rfl⟩
   .rw [Nat.sub_self,Nat.zero_mul];omega
   .have v:(n - c)*size=0:=by rw [show n - c=0 by omega,Nat.zero_mul]
    rw [v]at a ⊢;rw [Aa];exact (AT a).symm
  .rw [if_neg d];refine ⟨⟨a,.inr ⟨g,o+l*size,c - l,b,by simp [Addr.add],m,k,yE,yE,?_,?_⟩⟩,by simp only[AH,Value.ownBlock,Addr.add_lit]⟩
   .rw [AN];have:=AL size (show l<=c by omega);omega
   .rw [<-s,AX,List.drop_drop,AN]
end
end Go.Proofs.YthjnneiibkknhaaGreatDoor
namespace Go.Proofs.YthjnneiibkknhaaGreatDoor
section
open Go.RowKit
def ZsH (n:Int):Prop:=-9223372036854775808<=n/\n<=9223372036854775807
structure Xy (α:Type) where
 size:Nat
 rep:World->List Value->α->List Nat->Prop
 len:∀{w cs x L},rep w cs x L->cs.length=size
 keep:∀{w w' cs x L},rep w cs x L->(∀b∈L,w'.heap[b]?=w.heap[b]?)->rep w' cs x L
 lt:∀{w cs x L},rep w cs x L->∀b∈L,b<w.heap.size
 one:∀{w cs x L},rep w cs x L->∀u∈cs,u.oneCell'=true
 pos:0<size
def ZHo:Xy Int where
 size:=1
 rep:=λ_ cs x L=>cs=[.int .i64 x]/\L=[]
 len:=λh=>by simp [h.1]
 keep:=λh _=>h
 lt:=λh=>by simp [h.2]
 one:=λh=>by simp [h.1,Value.oneCell']
 pos:=by omega
def ZCS:Xy ByteArray where
 size:=1
 rep:=λ_ cs x L=>cs=[.string x]/\L=[]/\x.size<=9223372036854775807
 len:=λh=>by simp [h.1]
 keep:=λh _=>h
 lt:=λh=>by simp [h.2.1]
 one:=λh=>by simp [h.1,Value.oneCell']
 pos:=by omega
def ZA0:Xy Int where
 size:=1
 rep:=λ_ cs x L=>cs=[.int .u8 x]/\L=[]
 len:=λh=>by simp [h.1]
 keep:=λh _=>h
 lt:=λh=>by simp [h.2]
 one:=λh=>by simp [h.1,Value.oneCell']
 pos:=by omega
section
variable {α:Type} (c:Xy α)
def Xy.reps (w:World):List Value->List α->List Nat->Prop
 |xs,[],L=>xs=[]/\L=[]
 |xs,d::ds,L=>∃a b L1 L2,xs=a++b/\L=L1++L2/\c.rep w a d L1/\Xy.reps w b ds L2
variable {c}
theorem Zon {w:World}:∀{a:List α}{xs:List Value}{L:List Nat},c.reps w xs a L->xs.length=a.length*c.size
 | [],_,_,h=>by simp [h.1]
 |d::a,_,_,⟨c1,c2,L1,L2,rfl,rfl,h1,h2⟩=>by
  have:=Zon h2;simp [c.len h1,this,AE];omega
theorem ZbH {w i:World}:∀{a:List α}{xs:List Value}{L:List Nat},c.reps w xs a L->(∀b∈L,i.heap[b]?=w.heap[b]?)->c.reps i xs a L
 | [],_,_,h,_=>h
 |d::a,_,_,⟨c1,c2,L1,L2,rfl,rfl,h1,h2⟩,hk=>
  ⟨c1,c2,L1,L2,rfl,rfl,c.keep h1 (λb m=>hk b (by simp [m])),ZbH h2 (λb m=>hk b (by simp [m]))⟩
theorem ZvZ {w:World}:∀{a:List α}{xs:List Value}{L:List Nat},c.reps w xs a L->∀b∈L,b<w.heap.size
 | [],_,_,h=>by simp [h.2]
 |d::a,_,_,⟨c1,c2,L1,L2,rfl,rfl,h1,h2⟩=>by
  intro b m;rcases A0.1 m with m|m
  .exact c.lt h1 b m
  .exact ZvZ h2 b m
theorem ZhK {w:World}:∀{j i:List α}{xs a:List Value}{L M:List Nat},c.reps w xs j L->c.reps w a i M->c.reps w (xs++a) (j++i) (L++M)
 | [],i,_,a,_,M,h,h'=>by obtain ⟨rfl,rfl⟩:=h;simpa using h'
 |d::j,i,_,a,_,M,⟨c1,c2,L1,L2,rfl,rfl,h1,h2⟩,h'=>
  ⟨c1,c2++a,L1,L2++M,yG,yG,h1,ZhK h2 h'⟩
theorem ZlA {w:World}{d:α}{a:List Value}{L:List Nat}(h:c.rep w a d L):c.reps w a [d] L:=⟨a,[],L,[],yG,yG,h,rfl,rfl⟩
def Sli (c:Xy α) (w:World) (A:Option Addr) (ds:List α) (L:List Nat):Prop:=
 ∃xs L0 L1,L=L0++L1/\Sl w c.size A ds.length xs L0/\c.reps w xs ds L1
theorem Sli.nil (w:World) (A:Option Addr):Sli c w A [] []:=⟨[],[],[],rfl,Sl.zero,rfl,rfl⟩
theorem Sli.keep {w a:World}{A:Option Addr}{i:List α}{L:List Nat}(h:Sli c w A i L) (d:∀b∈L,a.heap[b]?=w.heap[b]?):Sli c a A i L:=by
 obtain ⟨xs,L0,L1,rfl,k,j⟩:=h;exact ⟨xs,L0,L1,rfl,k.keep (λb m=>d b (by simp [m])),ZbH j (λb m=>d b (by simp [m]))⟩
theorem Sli.lt {w:World}{A:Option Addr}{i:List α}{L:List Nat}(h:Sli c w A i L):∀b∈L,b<w.heap.size:=by
 obtain ⟨xs,L0,L1,rfl,d,a⟩:=h;intro b m;rcases A0.1 m with m|m
 .exact d.lt c.pos b m
 .exact ZvZ a b m
def Zq6 (c:Xy α):Xy (List α) where
 size:=1
 rep:=λw cs ds L=>∃A cap,cs=[.slice A ds.length cap]/\ds.length<=cap/\cap<=maxLen/\Sli c w A ds L
 len:=λ⟨_,_,h,_⟩=>by simp [h]
 keep:=λ⟨A,cap,h,b,d,a⟩ hk=>⟨A,cap,h,b,d,a.keep hk⟩
 lt:=λ⟨_,_,_,_,_,a⟩=>a.lt
 one:=λ⟨_,_,h,_⟩=>by simp [h,Value.oneCell']
 pos:=by omega
theorem Own.append {w:World}{i c:Nat}{L M:List Nat}(h:Own w i L) (k:Own w c M) (o:i<=c) (j:∀b∈L,b<c):Own w i (L++M):=by
 refine ⟨?_,?_,?_⟩
 .rw [List.nodup_append];refine ⟨h.nodup,k.nodup,λa q b d e=>?_⟩;subst e;have:=j a q;have:=k.ge a d;omega
 .intro b m;rcases A0.1 m with m|m
  .exact h.ge b m
  .exact AJ o (k.ge b m)
 .intro b m;rcases A0.1 m with m|m
  .exact h.plain b m
  .exact k.plain b m
theorem Own.sub {w:World}{a:Nat}{L M:List Nat}(h:Own w a L) (c:M.Sublist L):Own w a M:=
 ⟨h.nodup.sublist c,λb m=>h.ge b (c.subset m),λb m=>h.plain b (c.subset m)⟩
structure Got (c:Xy α) (base:Nat) (cs:List Value) (x:α) (L:List Nat) (w:World):Prop where
 rep:c.rep w cs x L
 own:Own w base L
section
variable {c:Xy α} {base:Nat} {cs:List Value} {x:α} {L M:List Nat} {w w':World}
end
def ZAu (c:Xy α) (w:World) (x:α) (e:Ending) (w':World):Prop:=∃cs L,e=.returned (.agg cs.toArray)/\Got c w.heap.size cs x L w'/\Below w.heap.size w w'
end
section
variable {α:Type} {c:Xy α} {E:TypeId} {W:World} {n:Nat} {ds:List α} {k:Nat} {w w':World}
end
def Blk (w:World) (g:Nat) (t:TypeId) (cs:Array Value):Prop:=w.heap[g]?=some (.cells cs t (0,0))
section
variable {w w':World} {g:Nat} {t:TypeId} {cs:Array Value}
theorem Blk.lt (h:Blk w g t cs):g<w.heap.size:=(AB.1 h).1
theorem Blk.at {i:Nat}{v:Value}(h:Blk w g t cs) (a:cs[i]?=some v):w.cell? ⟨g,i,none⟩=some v:=(cell_of_row w g i cs t (0,0) h).trans a
theorem Blk.frozen (h:Blk w g t cs) (i:Nat):w.frozen? ⟨g,i,none⟩=false:=by
 unfold Blk at h;simp [World.frozen?,h]
theorem Blk.new (w:World) (t:TypeId) (cs:Array Value):Blk (w.alloc (.cells cs t)) w.heap.size t cs:=heap_alloc_new w _
theorem Blk.new_at {w:World}{t:TypeId}{cs:Array Value}{g:Nat}(a:g=w.heap.size):Blk (w.alloc (.cells cs t)) g t cs:=by subst a;exact heap_alloc_new w _
theorem Blk.alloc (h:Blk w g t cs) (o:Obj):Blk (w.alloc o) g t cs:=(Below.heap_alloc w o g h.lt).trans h
theorem Blk.set_ (h:Blk w g t cs) (i:Nat) (u:Value):Blk (w.setCell ⟨g,i,none⟩ u) g t (cs.setIfInBounds i u):=by
 unfold Blk at h ⊢;simp [World.setCell,Array.getElem?_modify,h]
theorem Blk.far (h:Blk w g t cs) {p:Addr}(a:g≠p.block) (u:Value):Blk (w.setCell p u) g t cs:=(Below.heap_setCell w p u g a).trans h
theorem Blk.later (h:Blk w g t cs) (a:Below w.heap.size w w'):Blk w' g t cs:=(a.block g h.lt).trans h
end
section
variable {w0:World} {base b lo m:Nat} {Lk M:List Nat} {cs:List Value} {w w':World}
end
end
section
open Go.RowKit
inductive PK where
 |int (k:IntKind)
 |bool
 |str
def ZiE:PK->Value->Prop
 |.int k,.int k' _=>k=k'
 |.bool,.bool _=>True
 |.str,.string s=>s.size<=9223372036854775807
 |_,_=>False
def Zj9 (kk vk:PK) (kv:List (Value×Value)):Prop:=∀p∈kv,ZiE kk p.1/\ZiE vk p.2
inductive CT where
 | int (k:IntKind) (n:Int)
 | bool (b:Bool)
 | str (s:ByteArray)
 | sl (e m:Nat) (xs:List (List CT))
 /-- a pointer to cells that are only read -/
 | pt (es:List CT)
 /-- a function value with what it has captured -/
 | fn (f:Nat) (cs:List CT)
 /-- a map of plain keys and plain values that is only read -/
 | mp (kk vk:PK) (kv:List (Value × Value))
 /-- an interface value: nil or not -/
 | ifc (isNil:Bool)
 /-- a cell of which nothing is known -/
 | any
 /-- the nil slice -/
 | nl (e m:Nat)
def Zei (es:Array MapEntry):List (Value×Value):=es.toList.map λe=>(e.key,e.val)
mutual
def RC (w:World):CT->Value->List Nat->Prop
 |.int k n,v,L=>v=.int k n/\L=[]
 |.bool b,v,L=>v=.bool b/\L=[]
 |.str s,v,L=>v=.string s/\L=[]/\s.size<=9223372036854775807
 |.sl _ m xs,v,L=>∃A cap cs L0 L1,v=.slice A xs.length cap/\xs.length<=cap/\cap<=maxLen/\L=L0++L1/\0<m/\Sl w m A xs.length cs L0/\REs w m xs cs L1
 |.pt es,v,L=>∃b cs L1,v=.pointer (some ⟨b,0,none⟩)/\b<w.heap.size/\L=b::L1/\Zbr w b 0 cs/\RCs w es cs L1
 |.fn f es,v,L=>∃vs:List Value,v=.func (.func f) #[] vs.toArray/\RCs w es vs L
 |.mp kk vk kv,v,L=>∃b es c,v=.map (some b)/\w.heap[b]?=some (.map es c)/\Zei es=kv/\Zj9 kk vk kv/\L=[b]
 |.ifc b,v,L=>L=[]/\v.oneCell'=true/\(match b with|true=>v=.nilIface|false=>∃t x,v=.iface t x)
 |.any,v,L=>L=[]/\v.oneCell'=true
 |.nl _ _,v,L=>v=.slice none 0 0/\L=[]
def RCs (w:World):List CT->List Value->List Nat->Prop
 | [],cs,L=>cs=[]/\L=[]
 |x::r,cs,L=>∃v cs' L1 L2,cs=v::cs'/\L=L1++L2/\RC w x v L1/\RCs w r cs' L2
def REs (w:World) (m:Nat):List (List CT)->List Value->List Nat->Prop
 | [],cs,L=>cs=[]/\L=[]
 |e::r,cs,L=>∃a b L1 L2,cs=a++b/\L=L1++L2/\(RCs w e a L1/\a.length=m)/\REs w m r b L2
end
mutual
theorem RC.keep {w d:World}:∀{x:CT}{v:Value}{L:List Nat},RC w x v L->(∀b∈L,d.heap[b]?=w.heap[b]?)->RC d x v L
 |.int _ _,_,_,h,_=>h
 |.bool _,_,_,h,_=>h
 |.str _,_,_,h,_=>h
 |.sl _ _ _,_,_,⟨A,cap,cs,L0,L1,h1,h2,h3,h4,h5,h6,h7⟩,hk=>⟨A,cap,cs,L0,L1,h1,h2,h3,h4,h5,h6.keep λb m=>hk b (by simp [h4,m]),h7.keep λb m=>hk b (by simp [h4,m])⟩
 |.pt _,_,_,⟨b,cs,L1,h1,h2,h3,h4,h5⟩,hk=>⟨b,cs,L1,h1,by
   have e:=hk b (by simp [h3]);rcases Nat.lt_or_ge b d.heap.size with h|h
   .exact h
   .rw [Array.getElem?_eq_none h]at e;have:=Array.getElem?_eq_none_iff.1 e.symm;omega,h3,λj u i=>by rw [<-h4 j u i];exact World.cell?_of_block (hk b (by simp [h3])),h5.keep λb m=>hk b (by simp [h3,m])⟩
 |.fn _ _,_,_,⟨vs,h1,h2⟩,hk=>⟨vs,h1,h2.keep hk⟩
 |.mp _ _ _,_,_,⟨b,es,c,h1,h2,h3,a,h4⟩,hk=>⟨b,es,c,h1,by rw [hk b (by simp [h4])];exact h2,h3,a,h4⟩
 |.ifc _,_,_,h,_=>h
 |.any,_,_,h,_=>h
 |.nl _ _,_,_,h,_=>h
theorem RCs.keep {w a:World}:∀{x:List CT}{v:List Value}{L:List Nat},RCs w x v L->(∀b∈L,a.heap[b]?=w.heap[b]?)->RCs a x v L
 | [],_,_,h,_=>h
 |_::_,_,_,⟨v,cs,L1,L2,h1,h2,h3,h4⟩,hk=>⟨v,cs,L1,L2,h1,h2,h3.keep λb m=>hk b (by simp [h2,m]),h4.keep λb m=>hk b (by simp [h2,m])⟩
theorem REs.keep {w a:World}{m:Nat}:∀{x:List (List CT)}{v:List Value}{L:List Nat},REs w m x v L->(∀b∈L,a.heap[b]?=w.heap[b]?)->REs a m x v L
 | [],_,_,h,_=>h
 |_::_,_,_,⟨c1,c2,L1,L2,h1,h2,h3,h4⟩,hk=>⟨c1,c2,L1,L2,h1,h2,⟨h3.1.keep λb m=>hk b (by simp [h2,m]),h3.2⟩,h4.keep λb m=>hk b (by simp [h2,m])⟩
end
mutual
theorem RC.lt {w:World}:∀{x:CT}{v:Value}{L:List Nat},RC w x v L->∀b∈L,b<w.heap.size
 |.int _ _,_,_,h=>by simp [h.2]
 |.bool _,_,_,h=>by simp [h.2]
 |.str _,_,_,h=>by simp [h.2.1]
 |.sl _ _ _,_,_,⟨A,cap,cs,L0,L1,h1,h2,h3,h4,h5,h6,h7⟩=>λb m=>by
  rw [h4]at m;rcases A0.1 m with m|m
  .exact h6.lt h5 b m
  .exact h7.lt b m
 |.pt _,_,_,⟨b,cs,L1,h1,h2,h3,h4,h5⟩=>λx m=>by
  rw [h3]at m;rcases A4.1 m with rfl|m
  .exact h2
  .exact h5.lt x m
 |.fn _ _,_,_,⟨vs,h1,h2⟩=>h2.lt
 |.mp _ _ _,_,_,⟨b,es,c,h1,h2,h3,h3',h4⟩=>λx m=>by
  rw [h4]at m;simp at m;subst m;exact (AB.1 h2).1
 |.ifc _,_,_,h=>by simp [h.1]
 |.any,_,_,h=>by simp [h.1]
 |.nl _ _,_,_,h=>by simp [h.2]
theorem RCs.lt {w:World}:∀{x:List CT}{v:List Value}{L:List Nat},RCs w x v L->∀b∈L,b<w.heap.size
 | [],_,_,h=>by simp [h.2]
 |_::_,_,_,⟨v,cs,L1,L2,h1,h2,h3,h4⟩=>λb m=>by
  rw [h2]at m;rcases A0.1 m with m|m
  .exact h3.lt b m
  .exact h4.lt b m
theorem REs.lt {w:World}{m:Nat}:∀{x:List (List CT)}{v:List Value}{L:List Nat},REs w m x v L->∀b∈L,b<w.heap.size
 | [],_,_,h=>by simp [h.2]
 |_::_,_,_,⟨c1,c2,L1,L2,h1,h2,h3,h4⟩=>λb m=>by
  rw [h2]at m;rcases A0.1 m with m|m
  .exact h3.1.lt b m
  .exact h4.lt b m
end
theorem RC.one {w:World}:∀{x:CT}{v:Value}{L:List Nat},RC w x v L->v.oneCell'=true
 |.int _ _,_,_,h=>by simp [h.1,Value.oneCell']
 |.bool _,_,_,h=>by simp [h.1,Value.oneCell']
 |.str _,_,_,h=>by simp [h.1,Value.oneCell']
 |.sl _ _ _,_,_,⟨A,cap,cs,L0,L1,h1,_⟩=>by simp [h1,Value.oneCell']
 |.pt _,_,_,⟨b,cs,L1,h1,_⟩=>by simp [h1,Value.oneCell']
 |.fn _ _,_,_,⟨vs,h1,_⟩=>by simp [h1,Value.oneCell']
 |.mp _ _ _,_,_,⟨b,es,c,h1,_⟩=>by simp [h1,Value.oneCell']
 |.ifc _,_,_,h=>h.2.1
 |.any,_,_,h=>h.2
 |.nl _ _,_,_,h=>by simp [h.1,Value.oneCell']
theorem RCs.one {w:World}:∀{x:List CT}{v:List Value}{L:List Nat},RCs w x v L->∀u∈v,u.oneCell'=true
 | [],_,_,h=>by simp [h.1]
 |_::_,_,_,⟨v,cs,L1,L2,h1,h2,h3,h4⟩=>λu m=>by
  rw [h1]at m;rcases A4.1 m with rfl|m
  .exact h3.one
  .exact h4.one u m
theorem RCs.len {w:World}:∀{x:List CT}{v:List Value}{L:List Nat},RCs w x v L->v.length=x.length
 | [],_,_,h=>by simp [h.1]
 |_::_,_,_,⟨v,cs,L1,L2,h1,h2,h3,h4⟩=>by simp [h1,h4.len]
theorem RCs.append {w:World}:∀{xs a:List CT}{d c:List Value}{L M:List Nat},RCs w xs d L->RCs w a c M->RCs w (xs++a) (d++c) (L++M)
 | [],_,_,_,_,_,h,h'=>by obtain ⟨rfl,rfl⟩:=h;simpa using h'
 |_::_,_,_,_,_,_,⟨v,cs,L1,L2,h1,h2,h3,h4⟩,h'=>⟨v,cs++_,L1,L2++_,by simp [h1],by simp [h2],h3,h4.append h'⟩
end
section
open Go.RowKit
inductive AV where
 | c (x:CT)
 /-- a row that the call has made with all that it leads to,from now on only read,maybe through others too -/
 | n (x:CT)
 | row (k:Nat)
 | nil (e m:Nat)
 | dead
inductive SV where
 |any
 |und
 |p (agg:Bool) (cs:List AV)
 |tup (xs:List (Bool×List AV))
 |bp (k off:Nat)
 |rp (k m i off:Nat)
 |ep (e:List CT) (off:Nat)
 |fn (f:FuncId)
inductive Ob where
 |gone
 |box (t:TypeId) (cs:List AV)
 |row (e m:Nat) (xs:List (List CT)) (deep:Nat)
 |map (kk vk:PK) (kv:List (Value×Value))
def upd {α:Type}(f:Nat->α) (k:Nat) (v:α):Nat->α:=λj=>if j=k then v else f j
def Za3 (a b:Nat):Nat:=if a<=b then a else b
structure St where
 sl:Nat->SV
 ob:Nat->Ob
 n:Nat
def St.put (st:St) (d:Option Nat) (v:SV):St:=match d with|none=>st|some t=>{ st with sl:=upd st.sl t v }
def Zl (ob:Nat->Ob):List (Nat×Ob)->Nat->Ob
 | []=>ob
 |p::r=>Zl (upd ob p.1 p.2) r
def St.app (st:St) (u:List (Nat×Ob)):St:={ st with ob:=Zl st.ob u }
structure FI where
 off:Nat
 size:Nat
 agg:Bool
inductive TI where
 |atom (z:AV)
 |strct (fs:List FI) (n:Nat) (z:List AV)
 |slice (e m bytes:Nat) (z:List AV)
 |map (kk vk:PK)
 |eqs (ks:List PK)
 |ifc
def ZAa:Option TI->Bool
 |some .ifc=>true
 |_=>false
def Znt:Option TI->Option (List AV)
 |some (.atom z)=>some [z]
 |some (.strct _ _ z)=>some z
 |some (.slice e m _ _)=>some [.nil e m]
 |_=>none
def Z9 (s:ByteArray):Bool:=Nat.ble s.data.toList.length 9223372036854775807
def cvT (ti:Option TI):Value->SV
 |.int k n=>.p false [.c (.int k n)]
 |.bool b=>.p false [.c (.bool b)]
 |.string s=>if Z9 s then .p false [.c (.str s)] else .any
 |.slice none 0 0=>match ti with|some (.slice e m _ _)=>.p false [.nil e m]|_=>.any
 |_=>.any
section
variable (tt:Nat->Option TI)
def St.ev (st:St) (t:Nat):Operand->SV
 |.tmp s=>st.sl s
 |.const v=>cvT (tt t) v
 |.func f=>.fn f
 |.global _=>.any
def Zm8 (k:IntKind) (x y:Int):Int:=k.wrap (BitVec.ofInt k.bits x &&& BitVec.ofInt k.bits y).toNat
def orI (k:IntKind) (x y:Int):Int:=k.wrap (BitVec.ofInt k.bits x ||| BitVec.ofInt k.bits y).toNat
def ZA9 (k:IntKind) (x y:Int):Int:=k.wrap (BitVec.ofInt k.bits x ^^^ BitVec.ofInt k.bits y).toNat
def ZwC (k:IntKind) (x y:Int):Int:=k.wrap (BitVec.ofInt k.bits x &&& ~~~ BitVec.ofInt k.bits y).toNat
def ZID (k:IntKind) (x y:Int):Int:=k.wrap (x*2 ^ (min y.toNat k.bits))
def Zw1 (k:IntKind) (x y:Int):Int:=x.fdiv (2 ^ (min y.toNat k.bits))
def ZEN (op:BinOp) (k:IntKind) (x y:Int):Option Int:=
 match op with
 |.and=>some (Zm8 k x y)
 |.or=>some (orI k x y)
 |.xor=>some (ZA9 k x y)
 |.andNot=>some (ZwC k x y)
 |_=>none
def ZBe (op:BinOp) (k:IntKind) (x y:Int):Option CT:=
 match op with
 |.add=>some (.int k (k.wrap (x+y)))
 |.sub=>some (.int k (k.wrap (x - y)))
 |.mul=>some (.int k (k.wrap (x*y)))
 |.quo=>if y=0 then none else some (.int k (k.wrap (x.tdiv y)))
 |.rem=>if y=0 then none else some (.int k (x.tmod y))
 |.eql=>some (.bool (x==y))
 |.neq=>some (.bool (x != y))
 |.lss=>some (.bool (decide (x<y)))
 |.leq=>some (.bool (decide (x<=y)))
 |.gtr=>some (.bool (decide (y<x)))
 |.geq=>some (.bool (decide (y<=x)))
 |.shl=>if y<0 then none else some (.int k (ZID k x y))
 |.shr=>if y<0 then none else some (.int k (Zw1 k x y))
 |op=>(ZEN op k x y).map (.int k)
def sLt (x y:ByteArray):Bool:=Op.bytesLess x.toList y.toList
def sEq (x y:ByteArray):Bool:=decide (x=y)
def ZCj (op:BinOp) (x y:ByteArray):Option CT:=
 match op with
 |.add=>if x.size+y.size<=9223372036854775807 then some (.str (x++y)) else none
 |.eql=>some (.bool (sEq x y))
 |.neq=>some (.bool (!sEq x y))
 |.lss=>some (.bool (sLt x y))
 |.leq=>some (.bool (sLt x y||sEq x y))
 |.gtr=>some (.bool (!(sLt x y||sEq x y)))
 |.geq=>some (.bool (!sLt x y))
 |_=>none
def eqC:PK->AV->AV->Option Bool
 |.int _,.c (.int k x),.c (.int k' y)=>if k=k' then some (x==y) else none
 |.str,.c (.str x),.c (.str y)=>some (sEq x y)
 |.bool,.c (.bool x),.c (.bool y)=>some (x==y)
 |_,_,_=>none
def ZoY:List PK->List AV->List AV->Option Bool
 | [],[],[]=>some true
 |k::ks,x::r,y::q=>(eqC k x y).bind λa=>(ZoY ks r q).map λb=>a&&b
 |_,_,_=>none
def ZyR:Option TI->Option (List PK)
 |some (.eqs ks)=>some ks
 |_=>none
def Zsi (op:BinOp) (b:Bool):Option SV:=
 match op with
 |.eql=>some (.p false [.c (.bool b)])
 |.neq=>some (.p false [.c (.bool (!b))])
 |_=>none
def ZCk (t:Option TI) (op:BinOp):SV->SV->Option SV
 |.p true xs,.p true ys=>(ZyR t).bind λks=>(ZoY ks xs ys).bind (Zsi op)
 |_,_=>none
def Zu6:Value->Bool
 |.nilIface=>true
 |.int _ _=>false
 |.string _=>false
 |.bool _=>false
 |.slice _ _ _=>false
 |_=>false
def Zli:Operand->Bool
 |.const v=>Zu6 v
 |.tmp _=>false
 |.func _=>false
 |.global _=>false
def ZEy (op:BinOp):SV->Option SV
 |.p false [.c (.ifc b)]=>Zsi op b
 |_=>none
def ZyJ:SV->Bool
 |.p ag _=>ag
 |_=>false
def ZBX (t:Option TI) (op:BinOp):SV->SV->Option SV
 |.p false [.c (.int k x)],.p false [.c (.int k' y)]=>if k=k'\/op=.shl\/op=.shr then (ZBe op k x y).map λz=>.p false [.c z] else none
 |.p false [.c (.str x)],.p false [.c (.str y)]=>(ZCj op x y).map λz=>.p false [.c z]
 |.p false [.c (.bool x)],.p false [.c (.bool y)]=>
  match t,op with
  |some (.atom (.c (.bool _))),.eql=>some (.p false [.c (.bool (x==y))])
  |some (.atom (.c (.bool _))),.neq=>some (.p false [.c (.bool (!(x==y)))])
  |_,_=>none
 |_,_=>none
def unV (op:UnOp):SV->Option SV
 |.p false [.c (.bool b)]=>match op with | .not=>some (.p false [.c (.bool (!b))])|_=>none
 |.p false [.c (.int k n)]=>match op with | .neg=>some (.p false [.c (.int k (k.wrap (0 - n)))])|_=>none
 |_=>none
def ZyE (tt:Nat->Option TI) (t:Nat) (n:Bool) (op:BinOp) (x y:SV):Option SV:=
 if n=true then (if ZAa (tt t)=true then ZEy op x else none) else if ZyJ x=true then ZCk (tt (t+4000)) op x y else ZBX (tt t) op x y
def Zff:List (List CT)->Option (List Int)
 | []=>some []
 | [.int .u8 n]::r=>(Zff r).map λl=>n::l
 |_::_=>none
def Xn (l:List Int):ByteArray:=⟨(l.map λn=>UInt8.ofNat n.toNat).toArray⟩
def Zm2:Option TI->Bool
 |some (.atom (.c (.int .u8 _)))=>true
 |_=>false
def Zsa (s t:Option TI):SV->Option SV
 |.p false [.c (.int _ n)]=>match s,t with|some (.atom _),some (.atom (.c (.int k _)))=>some (.p false [.c (.int k (k.wrap n))])|_,_=>none
 |_=>none
def Zce:Option TI->Bool
 |some (.slice _ _ _ _)=>true
 |_=>false
def Zde:Option TI->Bool
 |some (.atom (.c (.str _)))=>true
 |_=>false
def ZoC (st:St) (t:Option TI):SV->Option SV
 |.p false [.c (.sl _ _ xs)]=>if Zce t=true then some (.p false [.c (.int .i64 xs.length)]) else none
 |.p false [.n (.sl _ _ xs)]=>if Zce t=true then some (.p false [.c (.int .i64 xs.length)]) else none
 |.p false [.c (.str s)]=>if Zde t=true then some (.p false [.c (.int .i64 s.size)]) else none
 |.p false [.nil _ _]=>if Zce t=true then some (.p false [.c (.int .i64 0)]) else none
 |.p false [.row k]=>match st.ob k with | .row _ _ xs _=>if Zce t=true then some (.p false [.c (.int .i64 xs.length)]) else none|_=>none
 |_=>none
def Zac (st:St) (m:Nat):SV->SV->Option SV
 |.p false [.c (.sl _ m' xs)],.p false [.c (.int _ i)]=>if 0<=i/\m=m' then (xs[i.toNat]?).map λe=>.ep e 0 else none
 |.p false [.row k],.p false [.c (.int _ i)]=>match st.ob k with
  |.row _ m' xs _=>if 0<=i/\i<xs.length/\m=m' then some (.rp k m i.toNat 0) else none
  |_=>none
 |_,_=>none
def ZmM (t:Option TI):SV->SV->Option SV
 |.p false [.c (.str s)],.p false [.c (.int _ i)]=>if 0<=i/\Zde t=true then (s[i.toNat]?).map λb=>.p false [.c (.int .u8 b.toNat)] else none
 |_,_=>none
def cut (t:Option TI) (cs:List AV) (off:Nat):Option SV:=
 match t with
 |some (.strct _ n _)=>if off+n<=cs.length then some (.p true ((cs.drop off).take n)) else none
 |some (.eqs _)=>none
 |some _=>(cs[off]?).map λx=>.p false [x]
 |none=>none
def Qy (st:St) (t:Option TI):SV->Option SV
 |.bp k off=>match st.ob k with | .box _ cs=>cut t cs off|_=>none
 |.rp k m i off=>match st.ob k with | .row _ m' xs _=>(xs[i]?).bind λe=>if m=m' then cut t (e.map .c) off else none|_=>none
 |.ep e off=>cut t (e.map .c) off
 |.p false [.c (.pt e)]=>cut t (e.map .c) 0
 |_=>none
def splice {α:Type}(cs:List α) (off:Nat) (vs:List α):List α:=cs.take off++(vs++cs.drop (off+vs.length))
def Zv1:AV->Option CT
 |.c (.int k n)=>some (.int k n)
 |.c (.bool b)=>some (.bool b)
 |.c (.str s)=>some (.str s)
 |_=>none
def Zga:List AV->Option (List CT)
 | []=>some []
 |x::r=>(Zv1 x).bind λa=>(Zga r).map λb=>a::b
def Zgb:Option TI->Nat
 |some (.strct _ n _)=>n
 |some (.atom _)=>1
 |some (.slice _ _ _ _)=>1
 |_=>0
def Zk6 (d:Nat):SV->Option SV
 |.bp k off=>some (.bp k (off+d))
 |.rp k m i off=>some (.rp k m i (off+d))
 |.ep e off=>some (.ep e (off+d))
 |.p false [.c (.pt e)]=>some (.ep e d)
 |_=>none
def Zol (fs:List FI) (f:Nat):SV->Option SV
 |.p true cs=>(fs[f]?).bind λi=>if i.agg then (if i.off+i.size<=cs.length then some (.p true ((cs.drop i.off).take i.size)) else none) else (cs[i.off]?).map λx=>.p false [x]
 |_=>none
def Zkp (fs:List FI) (cs:List AV):List (Nat×SV)->Option (List AV)
 | []=>some cs
 |(i,.p _ vs)::r=>(fs[i]?).bind λf=>if vs.length=f.size/\f.off+vs.length<=cs.length then Zkp fs (splice cs f.off vs) r else none
 |_::_=>none
def ZgO (st:St) (fs:List FI) (z:List AV) (p:Nat×Operand):Nat×SV:=
 match p.2 with
 |.const (.slice none 0 0)=>(p.1,match (fs[p.1]?).bind λf=>z[f.off]? with|some (.nil e m)=>.p false [.nil e m]|_=>.any)
 |x=>(p.1,st.ev tt 0 x)
def avT (st:St):AV->Option (CT×List Nat×Nat)
 |.c (.int k n)=>some (.int k n,[],2)
 |.c (.bool b)=>some (.bool b,[],2)
 |.c (.str s)=>some (.str s,[],2)
 |.c x=>some (x,[],1)
 |.nil e m=>if 0<m then some (.sl e m [],[],2) else none
 |.row k=>match st.ob k with | .row e m xs d=>(if d=0 then some (.sl e m xs,[],1) else some (.sl e m xs,[k],d))|_=>none
 |.n _=>none
 |.dead=>none
def Zdf (st:St):List AV->Option (List CT×List Nat×Nat)
 | []=>some ([],[],2)
 |x::r=>(avT st x).bind λa=>(Zdf st r).map λb=>(a.1::b.1,a.2.1++b.2.1,Za3 a.2.2 b.2.2)
def Xj (st:St) (m:Nat):List SV->Option (List (List CT)×List Nat×Nat)
 | []=>some ([],[],2)
 |.p _ cs::r=>if cs.length=m then (Zdf st cs).bind λa=>(Xj st m r).map λb=>(a.1::b.1,a.2.1++b.2.1,Za3 a.2.2 b.2.2) else none
 |_::_=>none
def Zk7:AV->Bool
 |.c _=>true
 |_=>false
def Ye:Ob->Ob
 |.row e m xs _=>.row e m xs 0
 |o=>o
def ZM (st:St):List Nat->List (Nat×Ob)
 | []=>[]
 |k::r=>(k,Ye (st.ob k))::ZM st r
def Yk (ks:List Nat):List (Nat×Ob):=ks.map λk=>(k,Ob.gone)
def ZnI (st:St) (k e m m':Nat) (xs:List (List CT)) (d i off:Nat) (x:List CT) (n:Nat) (vs:List AV):Option (List CT)->Option (List (Nat×Ob))
 |some ys=>if m=m'/\vs.length=n/\0<vs.length/\off+vs.length<=m/\0<d then some [(k,.row e m (xs.set i (splice x off ys)) d)] else none
 |none=>(Zdf st vs).bind λa=>if m=m'/\vs.length=n/\0<vs.length/\off+vs.length<=m/\0<d/\(k::a.2.1).Nodup then some (Yk a.2.1++[(k,.row e m (xs.set i (splice x off a.1)) (Za3 d a.2.2))]) else none
def Zgv (st:St) (t:Option TI):SV->SV->Option (List (Nat×Ob))
 |.bp k off,.p _ vs=>match st.ob k with
  |.box tb cs=>if vs.length=Zgb t/\0<vs.length/\off+vs.length<=cs.length then some [(k,.box tb (splice cs off vs))] else none
  |_=>none
 |.rp k m i off,.p _ vs=>match st.ob k with
  |.row e m' xs d=>(xs[i]?).bind λx=>ZnI st k e m m' xs d i off x (Zgb t) vs (Zga vs)
  |_=>none
 |_,_=>none
def CT.flat:CT->Bool
 |.int _ _=>true
 |.bool _=>true
 |.str _=>true
 |_=>false
def Zby (xs:List (List CT)):Bool:=xs.all λe=>e.all CT.flat
def ZjY (fl:Bool) (xs:List (List CT)):Nat:=if (fl&&Zby xs)=true then 2 else 1
def Zgk (st:St) (fl:Bool):SV->Option (List (List CT)×List Nat×Nat)
 |.p false [.c (.sl _ _ ys)]=>some (ys,[],ZjY fl ys)
 |.p false [.nil _ _]=>some ([],[],2)
 |.p false [.row j]=>match st.ob j with | .row _ _ ys d=>(if d=0 then some (ys,[],ZjY fl ys) else some (ys,[j],d))|_=>none
 |_=>none
def Zgf (st:St):SV->Option (List (List CT)×List Nat×Nat)
 |.p false [.nil _ _]=>some ([],[],2)
 |.p false [.row k]=>match st.ob k with | .row _ _ xs d=>(if d=0 then none else some (xs,[k],d))|_=>none
 |_=>none
def Zm3 (st:St) (e m:Nat):SV->Bool
 |.p false [.row k]=>match st.ob k with | .row e' m' _ _=>e==e'&&m==m'|_=>false
 |.p false [.nil _ _]=>true
 |_=>false
def ZlC (st:St) (m:Nat):SV->Bool
 |.p false [.row k]=>match st.ob k with | .row _ m' _ _=>m==m'|_=>false
 |.p false [.c (.sl _ m' _)]=>m==m'
 |.p false [.nil _ _]=>true
 |_=>false
def ZoS (st:St) (key:Nat) (t:Option TI) (s x:SV):Option (SV×List (Nat×Ob)):=
 match t with
 |some (.slice e m _ z)=>
  (Zgf st s).bind λa=>(Zgk st (z.all Zk7) x).bind λb=>
   if Zm3 st e m s=true/\ZlC st m x=true/\(a.2.1++b.2.1).Nodup/\a.1.length+b.1.length<=1073741824 then
    some (.p false [.row key],Yk (a.2.1++b.2.1)++[(key,.row e m (a.1++b.1) (Za3 a.2.2 b.2.2))]) else none
 |_=>none
def Zy3 (lo:Bool):SV->SV->Option SV
 |.p false [.c (.int k x)],.p false [.c (.int _ y)]=>some (.p false [.c (.int k (if lo then (if y<x then y else x) else (if x<y then y else x)))])
 |_,_=>none
def Zlj:Option TI->Nat
 |some (.slice _ m _ _)=>m
 |_=>0
def hiB (n:Nat):Option SV->Option Nat
 |none=>some n
 |some (.p false [.c (.int _ h)])=>if 0<=h/\h<=n then some h.toNat else none
 |_=>none
def loB (n:Nat):Option SV->Option Nat
 |none=>some 0
 |some (.p false [.c (.int _ l)])=>if 0<=l/\l<=n then some l.toNat else none
 |_=>none
def ZnY (t:Option TI) (lo hi:Option SV):SV->Option SV
 |.p false [.c (.str s)]=>if Zde t=true then (hiB s.size hi).bind λh=>(loB h lo).map λl=>.p false [.c (.str (s.extract l h))] else none
 |.p false [.c (.sl e m xs)]=>if Zlj t=m then (hiB xs.length hi).bind λh=>(loB h lo).map λl=>.p false [.c (.sl e m ((xs.take h).drop l))] else none
 |_=>none
def mvS (d:Nat):Option SV->Option SV->Bool
 |some _,none=>if d=0 then false else true
 |_,_=>false
def Zay (st:St) (key:Nat) (t:Option TI) (lo hi:Option SV):SV->Option (SV×List (Nat×Ob))
 |.p false [.row k]=>if Zce t=true then (match st.ob k with
  |.row e m xs d=>if Zlj t=m then if mvS d lo hi=true then (loB xs.length lo).map λl=>(.p false [.row key],[(k,.gone),(key,.row e m (xs.drop l) d)]) else (hiB xs.length hi).bind λh=>(loB h lo).map λl=>(.p false [.c (.sl e m ((xs.take h).drop l))],[(k,.row e m xs 0)]) else none
  |_=>none) else none
 |.p false [.c x]=>(ZnY t lo hi (.p false [.c x])).map λv=>(v,[])
 |_=>none
def vEq:Value->Value->Bool
 |.int k a,.int k' b=>k==k'&&a==b
 |.string a,.string b=>sEq a b
 |.bool a,.bool b=>a==b
 |_,_=>false
def Zmg:List (Value×Value)->Value->Option Value
 | [],_=>none
 |p::r,k=>if vEq k p.1=true then some p.2 else Zmg r k
def ZfU:List (Value×Value)->Value->Value->List (Value×Value)
 | [],k,v=>[(k,v)]
 |p::r,k,v=>if vEq k p.1=true then (k,v)::r else p::ZfU r k v
def avV:Value->AV
 |.int k n=>.c (.int k n)
 |.bool b=>.c (.bool b)
 |.string s=>.c (.str s)
 |_=>.dead
def ZbV (kv:List (Value×Value)) (k:Value) (z:AV):AV:=match Zmg kv k with|some v=>avV v|none=>z
def Zfr (kv:List (Value×Value)) (k:Value):Bool:=(Zmg kv k).isSome
def Zfj:PK->AV
 |.int k=>.c (.int k 0)
 |.bool=>.c (.bool false)
 |.str=>.c (.str ⟨#[]⟩)
def ZwW:PK->SV->Option Value
 |.int k,.p false [.c (.int k' n)]=>if k=k' then some (.int k' n) else none
 |.str,.p false [.c (.str s)]=>some (.string s)
 |.bool,.p false [.c (.bool b)]=>some (.bool b)
 |_,_=>none
def ZsW (kk vk:PK) (kv:List (Value×Value)) (i:SV) (ok:Bool):Option SV:=
 (ZwW kk i).map λk=>match ok with
  |true=>.tup [(false,[ZbV kv k (Zfj vk)]),(false,[.c (.bool (Zfr kv k))])]
  |false=>.p false [ZbV kv k (Zfj vk)]
instance pkDec:DecidableEq PK:=λa b=>match a,b with
 |.int k,.int k'=>if h:k=k' then isTrue (h ▸ rfl) else isFalse (λe=>h (PK.int.inj e))
 |.bool,.bool=>isTrue rfl
 |.str,.str=>isTrue rfl
 |.int _,.bool=>isFalse (λe=>by cases e)
 |.int _,.str=>isFalse (λe=>by cases e)
 |.bool,.int _=>isFalse (λe=>by cases e)
 |.bool,.str=>isFalse (λe=>by cases e)
 |.str,.int _=>isFalse (λe=>by cases e)
 |.str,.bool=>isFalse (λe=>by cases e)
def Ze1 (kk vk:PK):Option TI->Bool
 |some (.map a b)=>decide (a=kk)&&decide (b=vk)
 |_=>false
def ZhZ (st:St) (t:Option TI) (x i:SV) (ok:Bool):Option SV:=
 match x with
 |.p false [.row k]=>match st.ob k with | .map kk vk kv=>if Ze1 kk vk t=true then ZsW kk vk kv i ok else none|_=>none
 |.p false [.c (.mp kk vk kv)]=>if Ze1 kk vk t=true then ZsW kk vk kv i ok else none
 |_=>none
def Zxv (st:St) (t:Option TI) (x i v:SV):Option (List (Nat×Ob)):=
 match x with
 |.p false [.row k]=>match st.ob k with | .map kk vk kv=>if Ze1 kk vk t=true then (ZwW kk i).bind λa=>(ZwW vk v).map λb=>[(k,.map kk vk (ZfU kv a b))] else none|_=>none
 |_=>none
def Zqh (key:Nat):Option TI->Option (SV×List (Nat×Ob))
 |some (.map kk vk)=>some (.p false [.row key],[(key,.map kk vk [])])
 |_=>none
def Zkv (st:St):SV->Option (CT×List (Nat×Ob))
 |.bp k 0=>match st.ob k with | .box _ cs=>(zBox cs).map λl=>(.pt l,[(k,.gone)])|_=>none
 |.p false [.c (.pt e)]=>some (.pt e,[])
 |_=>none
where zBox:List AV->Option (List CT)
 | []=>some []
 |.c x::r=>(zBox r).map λb=>x::b
 |_::_=>none
def Ze3 (st:St):List SV->Option (List CT×List (Nat×Ob))
 | []=>some ([],[])
 |x::r=>(Zkv st x).bind λa=>(Ze3 st r).map λb=>(a.1::b.1,a.2++b.2)
def Zl7:List AV->Option (List CT)
 | []=>some []
 |.c x::r=>(Zl7 r).map λb=>x::b
 |.nil e m::r=>if 0<m then (Zl7 r).map λb=>.sl e m []::b else none
 |_::_=>none
def ZsX (key:Nat) (t:Option TI):SV->SV->Option (SV×List (Nat×Ob))
 |.p false [.c (.int .i64 n)],.p false [.c (.int .i64 c)]=>
  match t with
  |some (.slice e m _ z)=>(Zl7 z).bind λze=>if 0<=n/\n=c/\n<=1073741824 then some (.p false [.row key],[(key,.row e m (List.replicate n.toNat ze) 2)]) else none
  |_=>none
 |_,_=>none
def Zz9 (i:Nat):SV->Option SV
 |.tup xs=>(xs[i]?).map λx=>.p x.1 x.2
 |_=>none
def ZbM (v:Option SV):Option (SV×List (Nat×Ob)):=v.map λv=>(v,[])
def ZiS (st:St):SV->Option SV
 |.p false [.row k]=>match st.ob k with | .row _ _ xs _=>(Zff xs).map λl=>.p false [.c (.str (Xn l))]|_=>none
 |.p false [.c (.sl _ _ xs)]=>(Zff xs).map λl=>.p false [.c (.str (Xn l))]
 |_=>none
def Zrd (tt:Nat->Option TI):Option TI->Option TI
 |some (.slice e _ _ _)=>tt e
 |_=>none
def Zhi (tt:Nat->Option TI) (st:St) (s t:Nat) (x:SV):Option SV:=
 if (Zde (tt t)&&Zm2 (Zrd tt (tt s)))=true then ZiS st x else Zsa (tt s) (tt t) x
def Zkz:List TypeId->List Operand->List (TypeId×Operand)
 |t::ts,x::xs=>(t,x)::Zkz ts xs
 | [],x::xs=>(0,x)::Zkz [] xs
 |_,[]=>[]
def evs (st:St) (ts:List TypeId) (xs:List Operand):List SV:=(Zkz ts xs).map λp=>st.ev tt p.1 p.2
def ZgG (st:St) (key:Nat) (b:Builtin) (ts:List TypeId) (vs:List SV):Option (SV×List (Nat×Ob)):=
 match b,ts,vs with
 |.len,t::_,[x]=>ZbM (ZoC st (tt t) x)
 |.append,[t,u],[s,x]=>if t=u then ZoS st key (tt t) s x else none
 |.max,_,[x,y]=>ZbM (Zy3 false x y)
 |.min,_,[x,y]=>ZbM (Zy3 true x y)
 |_,_,_=>none
def opE (key:Nat) (o:Oper) (st:St):Option (SV×List (Nat×Ob)):=
 match o.op with
 |.move x=>some (st.ev tt o.type x,[])
 |.assign x=>some (st.ev tt o.type x,[])
 |.pick c a b=>match st.ev tt 0 c with | .p false [.c (.bool t)]=>some (if t=true then st.ev tt o.type a else st.ev tt o.type b,[])|_=>none
 |.alloc t=>(Znt (tt t)).map λz=>(.bp key 0,[(key,.box t z)])
 |.box t x=>match st.ev tt t x with | .p _ cs=>some (.bp key 0,[(key,.box t cs)])|_=>none
 |.build t parts=>match tt t with|some (.strct fs _ z)=>(Zkp fs z (parts.toList.map (ZgO tt st fs z))).map λcs=>(.p true cs,[])|_=>none
 |.buildSlice t len parts=>match tt t with
  |some (.slice e m _ z)=>(Xj st m (parts.toList.map λp=>st.ev tt e p.2)).bind λa=>
   if parts.toList.map (·.1)=List.range len/\len*m<=16777216/\a.2.1.Nodup/\(!z.all Zk7||a.2.1.isEmpty)=true then some (.p false [.row key],ZM st a.2.1++[(key,.row e m a.1 a.2.2)]) else none
  |_=>none
 |.load t x=>ZbM (Qy st (tt t) (st.ev tt 0 x))
 |.store t x v=>(Zgv st (tt t) (st.ev tt 0 x) (st.ev tt t v)).map λu=>(.und,u)
 |.nilCheck x=>match st.ev tt 0 x with | .bp k i=>some (.bp k i,[]) | .rp k m i j=>some (.rp k m i j,[]) | .ep e i=>some (.ep e i,[]) | .p false [.c (.pt e)]=>some (.p false [.c (.pt e)],[])|_=>none
 |.makeFunc (.func f) first caps=>if first.size=0 then (Ze3 st (caps.toList.map (st.ev tt 0))).bind λr=>if (r.2.map (·.1)).Nodup then some (.p false [.c (.fn f r.1)],r.2) else none else none
 |.makeMap t none=>Zqh key (tt t)
 |.lookup t x i ok=>ZbM (ZhZ st (tt t) (st.ev tt 0 x) (st.ev tt 0 i) ok)
 |.mapUpdate t x i v=>(Zxv st (tt t) (st.ev tt 0 x) (st.ev tt 0 i) (st.ev tt 0 v)).map λu=>(.und,u)
 |.binOp op t x y _=>ZbM (ZyE tt t (Zli y) op (st.ev tt t x) (st.ev tt t y))
 |.unOp op _ x=>ZbM (unV op (st.ev tt 0 x))
 |.convert s t x=>ZbM (Zhi tt st s t (st.ev tt 0 x))
 |.makeSlice t n c=>ZsX key (tt t) (st.ev tt 0 n) (st.ev tt 0 c)
 |.slice t x lo hi none=>Zay st key (tt t) (lo.map (st.ev tt 0)) (hi.map (st.ev tt 0)) (st.ev tt 0 x)
 |.fieldAddr t x f=>match tt t with|some (.strct fs _ _)=>ZbM ((fs[f]?).bind λi=>Zk6 i.off (st.ev tt 0 x))|_=>none
 |.field t x f=>match tt t with|some (.strct fs _ _)=>ZbM (Zol fs f (st.ev tt 0 x))|_=>none
 |.indexAddr t x i=>match tt t with|some (.slice _ m _ _)=>ZbM (Zac st m (st.ev tt 0 x) (st.ev tt 0 i))|_=>none
 |.index t x i=>ZbM (ZmM (tt t) (st.ev tt 0 x) (st.ev tt 0 i))
 |.extract x i=>ZbM (Zz9 i (st.ev tt 0 x))
 |.call c=>match c.callee with
  |.builtin b=>ZgG tt st key b c.argTypes.toList (evs tt st c.argTypes.toList c.args.toList)
  |_=>none
 |_=>none
end
def Zck (st:St):AV->Option CT
 |.c x=>some x
 |.nil e m=>if 0<m then some (.sl e m []) else none
 |.row k=>match st.ob k with | .row e m xs _=>some (.sl e m xs)|_=>none
 |.n x=>some x
 |.dead=>none
def YQ (st:St):List AV->Option (List CT)
 | []=>some []
 |x::r=>(Zck st x).bind λa=>(YQ st r).map λb=>a::b
def ZdE (st:St):SV->Option (Bool×List CT)
 |.p a cs=>(YQ st cs).map λl=>(a,l)
 |_=>none
def ZT (st:St):List SV->Option (List (Bool×List CT))
 | []=>some []
 |x::r=>(ZdE st x).bind λa=>(ZT st r).map λb=>a::b
def nlA:AV->AV
 |.nil e m=>.c (.nl e m)
 |.c x=>.c x
 |.n x=>.n x
 |.row k=>.row k
 |.dead=>.dead
def nlS:SV->SV
 |.p a cs=>.p a (cs.map nlA)
 |x=>x
def ZgW:CT->AV
 |.nl e m=>.nil e m
 |.int k n=>.c (.int k n)
 |.bool b=>.c (.bool b)
 |.str s=>.c (.str s)
 |.sl e m xs=>.c (.sl e m xs)
 |.pt es=>.c (.pt es)
 |.fn f es=>.c (.fn f es)
 |.mp k v kv=>.c (.mp k v kv)
 |.ifc b=>.c (.ifc b)
 |.any=>.c .any
abbrev RT:=Bool×List (Bool×CT)
def ZJu (l:List CT):List (Bool×CT):=l.map λx=>(false,x)
def ZGX (l:List CT):List (Bool×CT):=l.map λx=>(true,x)
def ZI (key:Nat):List (Bool×CT)->List AV×List (Nat×Ob)×Nat
 | []=>([],[],key)
 |(false,.sl e m xs)::r=>let b:=ZI (key+1) r;(.row key::b.1,(key,.row e m xs 2)::b.2.1,b.2.2)
 |(false,.int k n)::r=>let b:=ZI key r;(.c (.int k n)::b.1,b.2.1,b.2.2)
 |(false,.bool k)::r=>let b:=ZI key r;(.c (.bool k)::b.1,b.2.1,b.2.2)
 |(false,.str s)::r=>let b:=ZI key r;(.c (.str s)::b.1,b.2.1,b.2.2)
 |(false,.ifc x)::r=>let b:=ZI key r;(.c (.ifc x)::b.1,b.2.1,b.2.2)
 |(false,.any)::r=>let b:=ZI key r;(.c .any::b.1,b.2.1,b.2.2)
 |(false,.nl e m)::r=>let b:=ZI key r;(.c (.nl e m)::b.1,b.2.1,b.2.2)
 |(false,.pt x)::r=>let b:=ZI key r;(.c (.pt x)::b.1,b.2.1,b.2.2)
 |(false,.fn f x)::r=>let b:=ZI key r;(.c (.fn f x)::b.1,b.2.1,b.2.2)
 |(false,.mp k v x)::r=>let b:=ZI key r;(.c (.mp k v x)::b.1,b.2.1,b.2.2)
 |(true,x)::r=>let b:=ZI key r;(.c x::b.1,b.2.1,b.2.2)
def ZD (key:Nat):List RT->List (Bool×List AV)×List (Nat×Ob)×Nat
 | []=>([],[],key)
 |x::r=>let a:=ZI key x.2;let b:=ZD a.2.2 r;((x.1,a.1)::b.1,a.2.1++b.2.1,b.2.2)
def QH:List (Bool×List AV)->SV
 | [x]=>.p x.1 x.2
 |xs=>.tup xs
inductive Zhs where
 |row (e m:Nat) (xs:List (List CT))
 |box (t:Nat) (cs:List CT)
inductive NB where
 |box (t:Nat) (cs:List CT)
 |map (kk vk:PK) (kv:List (Value×Value))
def ZHx (key:Nat):NB->SV
 |.box _ _=>.bp key 0
 |.map _ _ _=>.p false [.row key]
def Zz4:NB->Ob
 |.box t cs=>.box t (cs.map .c)
 |.map kk vk kv=>.map kk vk kv
structure Ctx where
 r:FuncId→List (Bool × List CT)→List RT→Prop
 h:FuncId→Zhs→List (Bool × List CT)→List RT→Zhs→Prop
 hd:FuncId→Nat
 b:FuncId→List (Bool × List CT)→NB→Prop
 /-- a box with rows of the call's own is handed in: its type and cells,what is given besides,and its cells behind the call -/
 o:FuncId→Nat→List (Bool × CT)→Option (Bool × List (Bool × CT))→List (Bool × List CT)→List RT→List (Bool × CT)→Prop
 /-- something is given,and what is made of it may be among the results -/
 g:FuncId→Bool × List (Bool × CT)→List (Bool × List CT)→List RT→Prop
def gvC:Option (Bool×List (Bool×CT))->List (Bool×CT)
 |none=>[]
 |some g=>g.2
def Zbp:AV->Bool
 |.row _=>false
 |.dead=>false
 |_=>true
def Zia:SV->Bool
 |.p _ cs=>cs.all Zbp
 |_=>true
def ZcD:List (Bool×CT)->Bool
 | []=>false
 |p::r=>p.1||ZcD r
def ZdD:List RT->Bool
 | []=>false
 |x::r=>ZcD x.2||ZdD r
def Zi8:List AV->List Nat
 | []=>[]
 |.row k::r=>k::Zi8 r
 |_::r=>Zi8 r
def ZL:List SV->List Nat
 | []=>[]
 |.p _ cs::r=>Zi8 cs++ZL r
 |_::r=>ZL r
def Zgy (st:St):SV->Option (Nat×Zhs)
 |.bp k 0=>match st.ob k with | .box t cs=>(if cs.all Zbp=true then (YQ st cs).map λl=>(k,.box t l) else none)|_=>none
 |.p false [.row k]=>match st.ob k with | .row e m xs d=>(if d=2/\Zby xs=true then some (k,.row e m xs) else none)|_=>none
 |_=>none
def ZfV (st:St):AV->Option ((Bool×CT)×List Nat)
 |.c (.sl e m xs)=>some ((true,.sl e m xs),[])
 |.c (.int k n)=>some ((false,.int k n),[])
 |.c (.bool b)=>some ((false,.bool b),[])
 |.c (.str s)=>some ((false,.str s),[])
 |.nil e m=>if 0<m then some ((false,.sl e m []),[]) else none
 |.row k=>match st.ob k with | .row e m xs d=>(if d=2 then some ((false,.sl e m xs),[k]) else none)|_=>none
 |_=>none
def YJ (st:St):List AV->Option (List (Bool×CT)×List Nat)
 | []=>some ([],[])
 |x::r=>(ZfV st x).bind λa=>(YJ st r).map λb=>(a.1::b.1,a.2++b.2)
def ZdA (st:St):SV->Option (Nat×Nat×List (Bool×CT)×List Nat)
 |.bp k 0=>match st.ob k with | .box t cs=>((YJ st cs).bind λx=>if x.2.Nodup then some (k,t,x.1,x.2) else none)|_=>none
 |_=>none
def XY:Zhs->Ob
 |.row e m xs=>.row e m xs 2
 |.box t cs=>.box t (cs.map .c)
inductive Ex where
 |normal
 |exit (id:Nat)
 |ret
section
variable (tt:Nat->Option TI) (S:Ctx)
def Yi {α:Type}(r:Option α) (K:α->Prop):Prop:=match r with|some v=>K v|none=>False
def Ziz (dst:Option Nat) (K:St->Prop) (st:St) (v:SV):Prop:=K (st.put dst v)
def ZlV (dst:Option Nat) (K:St->Prop) (st:St) (r:SV×List (Nat×Ob)):Prop:=K ((st.put dst r.1).app r.2)
def Zs2 (f:FuncId) (key:Nat) (dst:Option Nat) (K:St->Prop) (st:St) (vs:List SV) (l:List (Bool×List CT)):Prop:=
 ∃res,S.r f l res/\(!ZdD res||vs.all Zia)=true/\(ZD key res).2.2<=key+16/\K ((st.put dst (QH (ZD key res).1)).app (ZD key res).2.1)
def ZBO (f:FuncId) (key:Nat) (dst:Option Nat) (K:St->Prop) (st:St) (vs:List SV) (l:List (Bool×List CT)):Prop:=
 ∃res,S.r f l res/\(ZD key res).2.2<=key+16/\K ((st.put dst (QH (ZD key res).1)).app (ZM st (ZL vs)++(ZD key res).2.1))
def ZAq (f:FuncId) (key:Nat) (dst:Option Nat) (K:St->Prop) (st:St) (vs:List SV) (kh:Nat×Zhs) (l:List (Bool×List CT)):Prop:=
 ∃res h',S.h f kh.2 l res h'/\(ZL vs).all (λj=>j != kh.1)=true/\(ZD key res).2.2<=key+16/\K ((st.put dst (QH (ZD key res).1)).app (ZM st (ZL vs)++((kh.1,XY h')::(ZD key res).2.1)))
def Zjz (st:St):List SV->Option (Option (Bool×List (Bool×CT))×List Nat)
 | []=>some (none,[])
 | [.p a xs]=>(YJ st xs).map λx=>(some (a,x.1),x.2)
 |_=>none
def ZiY (ks:List Nat) (j:Nat):Bool:=!ks.contains j
def ZvP (f:FuncId) (key:Nat) (dst:Option Nat) (K:St->Prop) (st:St) (vs:List SV) (kh:Nat×Nat×List (Bool×CT)×List Nat) (gh:Option (Bool×List (Bool×CT))×List Nat) (l:List (Bool×List CT)):Prop:=
 ∃res cs',S.o f kh.2.1 kh.2.2.1 gh.1 l res cs'/\(kh.2.2.2++gh.2).Nodup/\(ZL vs).all (ZiY (kh.2.2.2++gh.2))=true/\(ZD key res).2.2=key/\(ZI key cs').2.2<=key+16/\K ((st.put dst (QH (ZD key res).1)).app (ZM st (ZL vs)++(Yk (kh.2.2.2++gh.2)++((kh.1,.box kh.2.1 (ZI key cs').1)::(ZI key cs').2.1))))
def ZBJ (f:FuncId) (key:Nat) (dst:Option Nat) (K:St->Prop) (st:St) (vs:List SV) (l:List (Bool×List CT)):Prop:=
 ∃nb,S.b f l nb/\K ((st.put dst (ZHx key nb)).app (ZM st (ZL vs)++[(key,Zz4 nb)]))
def ZvL (f:FuncId) (key:Nat) (dst:Option Nat) (K:St->Prop) (st:St):List SV->Prop
 | []=>False
 |v::r=>Yi (Zgy st v) λkh=>Yi (ZT st r) (ZAq S f key dst K st r kh)
def ZlD (f:FuncId) (n key:Nat) (dst:Option Nat) (K:St->Prop) (st:St):List SV->Prop
 | []=>False
 |v::r=>Yi (ZdA st v) λkh=>Yi (Zjz st (r.take n)) λgh=>Yi (ZT st (r.drop n)) (ZvP S f key dst K st (r.drop n) kh gh)
def spK (f:FuncId) (n key:Nat) (dst:Option Nat) (K:St->Prop) (st:St) (vs:List SV):Prop:=
 match n with
 |0=>Yi (ZT st vs) (Zs2 S f key dst K st vs)
 |1=>ZvL S f key dst K st vs
 |3=>Yi (ZT st vs) (ZBJ S f key dst K st vs)
 |4=>Yi (ZT st (vs.map nlS)) (Zs2 S f key dst K st (vs.map nlS))
 |5=>ZlD S f 0 key dst K st vs
 |_=>Yi (ZT st vs) (ZBO S f key dst K st vs)
def YS:Op->Option (FuncId×List TypeId×List Operand)
 |.call ⟨.value (.func f),args,ts⟩=>some (f,ts.toList,args.toList)
 |_=>none
def Xm:Op->Option (Nat×List TypeId×List Operand)
 |.call ⟨.value (.tmp s),args,ts⟩=>some (s,ts.toList,args.toList)
 |_=>none
def ZpD:SV->Option (FuncId×List CT)
 |.p false [.c (.fn f es)]=>some (f,es)
 |.fn f=>some (f,[])
 |_=>none
def ZlN (c:CT):SV:=.p false [.c c]
def ZF5 (key:Nat) (dst:Option Nat) (K:St->Prop) (st:St) (vs:List SV) (fc:FuncId×List CT):Prop:=S.hd fc.1=0/\spK S fc.1 0 key dst K st (vs++fc.2.map ZlN)
def opS (key:Nat) (o:Oper) (K:St->Prop) (st:St):Prop:=
 match YS o.op with
 |some c=>spK S c.1 (S.hd c.1) key o.dst K st (evs tt st c.2.1 c.2.2)
 |none=>match Xm o.op with
  |some c=>Yi (ZpD (st.sl c.1)) (ZF5 S key o.dst K st (evs tt st c.2.1 c.2.2))
  |none=>Yi (opE tt key o st) (ZlV o.dst K st)
def Za8 (all:List Oper) (o:Oper):Option (Option Nat×Bool):=
 match o.guard with
 |none=>none
 |some g=>some ((all[g.1]?).bind (·.dst),g.2)
def Zao:SV->Bool
 |.p false [.c (.bool _)]=>true
 |_=>false
def Qo:SV->Bool
 |.p false [.c (.bool b)]=>b
 |_=>false
def ZsG:SV->Bool
 |.und=>true
 |_=>false
def gK (v:SV) (want:Bool) (A B:Prop):Prop:=if Zao v=true then (if (Qo v==want)=true then A else B) else (if ZsG v=true then B else False)
def opG (all:List Oper) (key:Nat) (o:Oper) (K:St->Prop) (st:St):Prop:=
 match Za8 all o with
 |none=>opS tt S key o K st
 |some (none,_)=>K (st.put o.dst .und)
 |some (some t,want)=>gK (st.sl t) want (opS tt S key o K st) (K (st.put o.dst .und))
def Z8 (all:List Oper) (key:Nat):List Oper->(St->Prop)->St->Prop
 | [],K,st=>K st
 |o::r,K,st=>opG tt S all key o (Z8 all (key+16) r K) st
def Zrs (n:Nat) (K:St->Prop) (st:St):Prop:=K { st with n:=n }
def ZA1 (ops:List Oper) (K:St->Prop) (st:St):Prop:=Z8 tt S ops st.n ops (Zrs (st.n+16*ops.length) K) st
def ZgI (k:St->Prop) (Q:Ex->St->Prop):Ex->St->Prop
 |.normal,st=>k st
 |e,st=>Q e st
def ZhW (id:Nat) (Q:Ex->St->Prop):Ex->St->Prop
 |.exit j,st=>if j=id then Q .normal st else Q (.exit j) st
 |e,st=>Q e st
def Zpd (v:SV) (a b:Prop):Prop:=if Zao v=true then (if Qo v=true then a else b) else False
def ZqH:List Nat->Nat->Nat->Option Nat
 | [],_,_=>none
 |x::r,k,i=>if x=k then some i else ZqH r k (i+1)
def rAV (ρ:List Nat):AV->AV
 |.row k=>match ZqH ρ k 0 with|some j=>.row j|none=>.dead
 |x=>x
def rSV (ρ:List Nat):SV->SV
 |.p a cs=>.p a (cs.map (rAV ρ))
 |.tup xs=>.tup (xs.map λx=>(x.1,x.2.map (rAV ρ)))
 |.bp k off=>match ZqH ρ k 0 with|some j=>.bp j off|none=>.any
 |.rp k m i off=>match ZqH ρ k 0 with|some j=>.rp j m i off|none=>.any
 |x=>x
def rOb (ρ:List Nat):Ob->Ob
 |.box t cs=>.box t (cs.map (rAV ρ))
 |x=>x
def St.ren (st:St) (ρ:List Nat):St:=⟨λt=>rSV ρ (st.sl t),λj=>match ρ[j]? with|some k=>rOb ρ (st.ob k)|none=>.gone,ρ.length⟩
def St.mat (st:St) (m:Bool×Nat×Nat):St:=
 match m.1 with
 |false=>match st.sl m.2.1 with
  |.p ag cs=>match cs[m.2.2]? with
   |some (.nil e q)=>if 0<q then ⟨upd st.sl m.2.1 (.p ag (cs.set m.2.2 (.row st.n))),upd st.ob st.n (.row e q [] 2),st.n+1⟩ else st
   |some (.row k)=>match st.ob k with
    |.row e q xs _=>⟨upd st.sl m.2.1 (.p ag (cs.set m.2.2 (.c (.sl e q xs)))),upd st.ob k (.row e q xs 0),st.n⟩
    |_=>st
   |_=>st
  |_=>st
 |true=>match st.ob m.2.1 with
  |.box ty cs=>match cs[m.2.2]? with
   |some (.nil e q)=>if 0<q then ⟨st.sl,upd (upd st.ob m.2.1 (.box ty (cs.set m.2.2 (.row st.n)))) st.n (.row e q [] 2),st.n+1⟩ else st
   |some (.row k)=>match st.ob k with
    |.row e q xs _=>⟨st.sl,upd (upd st.ob k (.row e q xs 0)) m.2.1 (.box ty (cs.set m.2.2 (.c (.sl e q xs)))),st.n⟩
    |_=>st
   |_=>st
  |.row e q xs d=>if m.2.2<d then ⟨st.sl,upd st.ob m.2.1 (.row e q xs m.2.2),st.n⟩ else st
  |_=>st
def St.matN (st:St) (m:Bool×Nat×Nat):St:=
 match st.sl m.2.1 with
 |.p ag cs=>match cs[m.2.2 - 4096]? with
  |some (.row k)=>match st.ob k with
   |.row e q xs d=>if d=2 then ⟨upd st.sl m.2.1 (.p ag (cs.set (m.2.2 - 4096) (.n (.sl e q xs)))),upd st.ob k (.row e q xs 0),st.n⟩ else st
   |_=>st
  |_=>st
 |_=>st
def St.mats (st:St):List (Bool×Nat×Nat)->St
 | []=>st
 |m::r=>(if m.1=false/\4096<=m.2.2 then st.matN m else st.mat m).mats r
/- no slice and no text is longer than Go allows, at any depth -/
mutual
def ctD:CT->Prop
 |.sl _ _ xs=>xs.length<=9223372036854775807/\essD xs
 |.pt es=>ctsD es
 |.fn _ es=>ctsD es
 |.str s=>s.size<=9223372036854775807
 |_=>True
def ctsD:List CT->Prop
 | []=>True
 |x::r=>ctD x/\ctsD r
def essD:List (List CT)->Prop
 | []=>True
 |e::r=>ctsD e/\essD r
end
def avD:AV->Prop
 |.c x=>ctD x
 |.n x=>ctD x
 |_=>True
def ZAU:List AV->Prop
 | []=>True
 |x::r=>avD x/\ZAU r
structure WF (st:St):Prop where
 sl:∀t a cs,st.sl t=.p a cs->ZAU cs
 box:∀k t cs,st.ob k=.box t cs->ZAU cs
 row:∀k e m xs d,st.ob k=.row e m xs d->xs.length<=9223372036854775807/\essD xs
theorem Zwc {α:Type}{g:α->List CT}:∀{l:List α}{i:Nat}{x:α},essD (l.map g)->l[i]?=some x->ctsD (g x)
 | [],_,_,_,h=>by simp at h
 |_::_,0,_,h,e=>by simp at e;subst e;exact h.1
 |_::_,i+1,_,h,e=>Zwc h.2 (by simpa using e)
def ZlL (F:(Ex->St->Prop)->St->Prop) (Q:Ex->St->Prop):Nat->St->Prop
 |0,_=>False
 |n+1,st=>∃(ms:List (Bool×Nat×Nat)) (ρ:List Nat),ρ.Nodup/\(WF ((st.mats ms).ren ρ)->F (ZgI (ZlL F Q n) Q) ((st.mats ms).ren ρ))
def ldB:SV->Bool
 |.bp k _=>!decide (k=0)
 |.rp k _ _ _=>!decide (k=0)
 |_=>true
def hdB:SV->Bool
 |.bp k _=>decide (k=0)
 |_=>false
def hdC (n:Nat) (x:Option Operand) (st:St):Bool:=match n with
 |1=>match x with|some x=>hdB (st.ev tt 0 x)|none=>false
 |_=>true
def slB:SV->Bool
 |.p false [.c _]=>true
 |_=>false
def orB:Bool->Bool->Bool
 |true,_=>true
 |false,b=>b
def alO (s:Nat):Op->Option Nat->Bool->Bool
 |.alloc _,some d,b=>orB (decide (d=s)) b
 |_,_,b=>b
def alN (s:Nat):List Oper->Bool
 | []=>false
 |o::r=>alO s o.op o.dst (alN s r)
def stX (all:List Oper):Operand->Bool
 |.tmp s=>alN s all
 |_=>false
def YB (all:List Oper):Op->Bool
 |.store _ x _=>stX all x
 |_=>false
def Zm5 (all:List Oper):List Oper->Bool
 | []=>false
 |o::r=>orB (YB all o.op) (Zm5 all r)
def ldN (n:Nat):SV->Bool
 |.bp k _=>decide (k<n)
 |_=>true
def stB (n:Nat):SV->Bool
 |.bp k _=>decide (n<=k)
 |_=>false
def ldX:Bool->Nat->SV->Bool
 |true,n,v=>ldN n v
 |false,_,v=>ldB v
def stY:Bool->Nat->SV->Bool
 |true,n,v=>stB n v
 |false,_,_=>true
def stk (all:List Oper) (o:Op) (st:St):Bool:=match o with
 |.load _ x=>ldX (Zm5 all all) st.n (st.ev tt 0 x)
 |.store _ x _=>stY (stX all x) st.n (st.ev tt 0 x)
 |.slice _ x _ _ _=>slB (st.ev tt 0 x)
 |o=>match YS o with|some c=>hdC tt (S.hd c.1) c.2.2.head? st|none=>true
def ifB (b:Bool) (c:Bool) (P:Prop):Prop:=match b with
 |true=>c=true/\P
 |false=>P
def Zf8 (b:Bool) (all:List Oper) (base:Nat):List Nat->(St->Prop)->St->Prop
 | [],K,st=>K st
 |i::r,K,st=>match all[i]? with
  |some o=>ifB b (stk tt S all o.op st) (opG tt S all (base+16*i) o (Zf8 b all base r K) st)
  |none=>Zf8 b all base r K st
def ZxB (od:Option (List Nat×Bool)) (ops:List Oper) (K:St->Prop) (st:St):Prop:=match od with
 |none=>ZA1 tt S ops K st
 |some l=>Zf8 tt S l.2 ops st.n l.1 (Zrs (st.n+16*ops.length) K) st
abbrev OD:=Nat->Option (List Nat×Bool)
def swp (od:OD):Code->(Ex->St->Prop)->St->Prop
 |.skip,Q,st=>Q .normal st
 |.region id ops _,Q,st=>ZxB tt S (od id) ops.toList (Q .normal) st
 |.seq a b,Q,st=>swp od a (ZgI (swp od b Q) Q) st
 |.cond c a b,Q,st=>Zpd (st.ev tt 0 c) (swp od a Q st) (swp od b Q st)
 |.block id b,Q,st=>swp od b (ZhW id Q) st
 |.loop b,Q,st=>∃n,ZlL (swp od b) Q n st
 |.exit id,Q,st=>Q (.exit id) st
 |.ret,Q,st=>Q .ret st
 |_,_,_=>False
end
def ZfD (st:St):AV->Option ((Bool×CT)×List Nat)
 |.c (.sl e m xs)=>some ((true,.sl e m xs),[])
 |.c (.int k n)=>some ((false,.int k n),[])
 |.c (.bool b)=>some ((false,.bool b),[])
 |.c (.str s)=>some ((false,.str s),[])
 |.nil e m=>if 0<m then some ((false,.sl e m []),[]) else none
 |.c (.ifc x)=>some ((false,.ifc x),[])
 |.c x=>some ((true,x),[])
 |.row k=>match st.ob k with | .row e m xs d=>(if d=2 then some ((false,.sl e m xs),[k]) else some ((true,.sl e m xs),[])) | .map kk vk kv=>some ((true,.mp kk vk kv),[])|_=>none
 |.n x=>some ((true,x),[])
 |.dead=>some ((true,.any),[])
def Zdx (st:St):List AV->Option (List (Bool×CT)×List Nat)
 | []=>some ([],[])
 |x::r=>(ZfD st x).bind λa=>(Zdx st r).map λb=>(a.1::b.1,a.2++b.2)
def ZbE (tt:Nat->Option TI) (st:St):List ResultVar->Option (List RT×List Nat)
 | []=>some ([],[])
 |.tmp t::r=>match st.sl t with
  |.p a cs=>(Zdx st cs).bind λx=>(ZbE tt st r).map λb=>((a,x.1)::b.1,x.2++b.2)
  |_=>none
 |.cell t ty::r=>match Qy st (tt ty) (st.sl t) with
  |some (.p a cs)=>(Zdx st cs).bind λx=>(ZbE tt st r).map λb=>((a,x.1)::b.1,x.2++b.2)
  |_=>none
def Zwv:CT->Bool
 |.any=>true
 |.int _ _=>false
 |.bool _=>false
 |.str _=>false
 |.sl _ _ _=>false
 |.pt _=>false
 |.fn _ _=>false
 |.mp _ _ _=>false
 |.ifc _=>false
 |.nl _ _=>false
def wk1 (x y:Bool×CT) (R:Prop):Prop:=if Zwv y.2=true then R else x.2=y.2/\(x.1=y.1\/y.1=true)/\R
def wkC:List (Bool×CT)->List (Bool×CT)->Prop
 | [],[]=>True
 |x::r,y::q=>wk1 x y (wkC r q)
 |_,_=>False
def wkR:List RT->List RT->Prop
 | [],[]=>True
 |x::r,y::q=>x.1=y.1/\wkC x.2 y.2/\wkR r q
 |_,_=>False
def Zk (args:List (Bool×List CT)):St:=⟨λt=>match args[t]? with|some x=>.p x.1 (x.2.map ZgW)|none=>.und,λ_=>.gone,0⟩
def Zez:Zhs->SV
 |.row _ _ _=>.p false [.row 0]
 |.box _ _=>.bp 0 0
def ZeR (h:Zhs) (args:List (Bool×List CT)):St:=⟨λt=>match t with|0=>Zez h|t+1=>(match args[t]? with|some x=>.p x.1 (x.2.map .c)|none=>.und),λk=>if k=0 then XY h else .gone,1⟩
def ZoB (tt:Nat->Option TI) (rs:List ResultVar) (R:St->List RT->List Nat->Prop):Ex->St->Prop
 |.exit _,_=>False
 |_,st=>match ZbE tt st rs with|some x=>x.2.Nodup/\R st x.1 x.2|none=>False
def fnS (od:OD) (tt:Nat->Option TI) (S:Ctx) (rs:List ResultVar) (body:Code) (args:List (Bool×List CT)) (res:List RT):Prop:=swp tt S od body (ZoB tt rs λ_ r _=>wkR r res) (Zk args)
def Zkw (st:St) (ks:List Nat) (h':Zhs):Prop:=
 match h' with
 |.row e m xs=>∃k,st.sl 0=.p false [.row k]/\st.ob k=.row e m xs 2/\Zby xs=true/\k∉ks
 |.box t cs=>∃k ds,st.sl 0=.bp k 0/\st.ob k=.box t ds/\ds.all Zbp=true/\YQ st ds=some cs
def fnH (od:OD) (tt:Nat->Option TI) (S:Ctx) (rs:List ResultVar) (body:Code) (h:Zhs) (args:List (Bool×List CT)) (res:List RT) (h':Zhs):Prop:=swp tt S od body (ZoB tt rs λst r ks=>wkR r res/\Zkw st ks h') (ZeR h args)
def Zk4 (t:Nat) (cs:List (Bool×CT)) (gv:Option (Bool×List (Bool×CT))) (args:List (Bool×List CT)):St:=⟨λs=>match s with|0=>.bp 0 0|s+1=>(match gv with|none=>(match args[s]? with|some x=>.p x.1 (x.2.map .c)|none=>.und)|some g=>(match s with|0=>.p g.1 ((ZI 1 (cs++g.2)).1.drop cs.length)|s+1=>(match args[s]? with|some x=>.p x.1 (x.2.map .c)|none=>.und))),λk=>if k=0 then .box t ((ZI 1 (cs++gvC gv)).1.take cs.length) else Zl (λ_=>.gone) (ZI 1 (cs++gvC gv)).2.1 k,(ZI 1 (cs++gvC gv)).2.2⟩
def opO (st:St) (t:Nat) (cs:List (Bool×CT)):Ob->Prop
 |.box t' ds=>t'=t/\(match YJ st ds with|some x=>x.2.Nodup/\x.1=cs|none=>False)
 |_=>False
def opB (st:St) (t:Nat) (cs:List (Bool×CT)):SV->Prop
 |.bp k 0=>opO st t cs (st.ob k)
 |_=>False
def fnO (od:OD) (tt:Nat->Option TI) (S:Ctx) (rs:List ResultVar) (body:Code) (t:Nat) (cs:List (Bool×CT)) (gv:Option (Bool×List (Bool×CT))) (args:List (Bool×List CT)) (res:List RT) (cs':List (Bool×CT)):Prop:=swp tt S od body (ZoB tt rs λst r ks=>wkR r res/\ks=[]/\opB st t cs' (st.sl 0)) (Zk4 t cs gv args)
theorem ZDx {a:St}{t k:Nat}{c:List (Bool×CT)}:opB a t c (.bp k 0)=opO a t c (a.ob k):=yi rfl
theorem ZBE {c:St}{t a:Nat}{h:List (Bool×CT)}{d:List AV}:opO c t h (.box a d)=(a=t/\(match YJ c d with|some x=>x.2.Nodup/\x.1=h|none=>False)):=yi rfl
theorem ZBI {c:St}{t:Nat}{i:List (Bool×CT)}{v:SV}(h:opB c t i v):∃k a d,v=.bp k 0/\c.ob k=.box t a/\YJ c a=some (i,d)/\d.Nodup:=by
 unfold opB at h;split at h
 .rename_i k;unfold opO at h;split at h
  .rename_i s a m;obtain ⟨rfl,h⟩:=h;split at h
   .rename_i x j;obtain ⟨q,o⟩:=h;exact ⟨k,a,x.2,rfl,m,by rw [j,<-o],q⟩
   .exact h.elim
  .exact h.elim
 .exact h.elim
def ZgD (st:St) (rs:List ResultVar) (nb:NB):Prop:=
 match rs with
 | [.tmp s]=>(match nb with
  |.box t cs=>∃k ds,st.sl s=.bp k 0/\st.ob k=.box t ds/\ds.all Zbp=true/\YQ st ds=some cs
  |.map kk vk kv=>∃k,st.sl s=.p false [.row k]/\st.ob k=.map kk vk kv)
 |_=>False
def ZA3 (rs:List ResultVar) (nb:NB):Ex->St->Prop
 |.exit _,_=>False
 |_,st=>ZgD st rs nb
def hbO (st:St) (t:Nat) (cs:List CT):Ob->Prop
 |.box t' ds=>t'=t/\ds.all Zbp=true/\YQ st ds=some cs
 |_=>False
def hbS (st:St) (t:Nat) (cs:List CT):SV->Prop
 |.bp k 0=>hbO st t cs (st.ob k)
 |_=>False
theorem ZvX {c:St}{t:Nat}{cs:List CT}{v:SV}:hbS c t cs v↔∃k a,v=.bp k 0/\c.ob k=.box t a/\a.all Zbp=true/\YQ c a=some cs:=by
 constructor
 .intro h;unfold hbS at h;split at h
  .rename_i k;unfold hbO at h;split at h
   .rename_i o a j;obtain ⟨rfl,i,d⟩:=h;exact ⟨k,a,rfl,j,i,d⟩
   .exact h.elim
  .exact h.elim
 .rintro ⟨k,a,rfl,m,i,d⟩;show hbO c t cs (c.ob k)
  rw [m];exact ⟨rfl,i,d⟩
theorem ZqY {a:St}{d:List Nat}{t:Nat}{c:List CT}:Zkw a d (.box t c)=hbS a t c (a.sl 0):=propext ZvX.symm
theorem ZtU {a:St}{s t:Nat}{c:List CT}:ZgD a [.tmp s] (.box t c)=hbS a t c (a.sl s):=propext ZvX.symm
def mbO (kk vk:PK) (kv:List (Value×Value)):Ob->Prop
 |.map kk' vk' kv'=>kk'=kk/\vk'=vk/\kv'=kv
 |_=>False
def mbS (st:St) (kk vk:PK) (kv:List (Value×Value)):SV->Prop
 |.p false [.row k]=>mbO kk vk kv (st.ob k)
 |_=>False
theorem ZCq {i:St}{j d:PK}{kv:List (Value×Value)}{v:SV}:mbS i j d kv v↔∃k,v=.p false [.row k]/\i.ob k=.map j d kv:=by
 constructor
 .intro h;unfold mbS at h;split at h
  .rename_i k;unfold mbO at h;split at h
   .rename_i a b c m;obtain ⟨rfl,rfl,rfl⟩:=h;exact ⟨k,rfl,m⟩
   .exact h.elim
  .exact h.elim
 .rintro ⟨k,rfl,o⟩;show mbO j d kv (i.ob k)
  rw [o];exact ⟨rfl,rfl,rfl⟩
theorem ZsL {a:St}{s:Nat}{h c:PK}{d:List (Value×Value)}:ZgD a [.tmp s] (.map h c d)=mbS a h c d (a.sl s):=propext ZCq.symm
theorem ZCs {c:St}{k:Nat}{h a:PK}{d:List (Value×Value)}:mbS c h a d (.p false [.row k])=mbO h a d (c.ob k):=yi rfl
theorem ZCz {i d a b:PK}{h c:List (Value×Value)}:mbO i d h (.map a b c)=(a=i/\b=d/\c=h):=yi rfl
theorem ZFi {a:St}{t k:Nat}{c:List CT}:hbS a t c (.bp k 0)=hbO a t c (a.ob k):=yi rfl
theorem ZBt {d:St}{t c:Nat}{h:List CT}{a:List AV}:hbO d t h (.box c a)=(c=t/\a.all Zbp=true/\YQ d a=some h):=yi rfl
theorem ZzO {c:List ResultVar}{nb:NB}{a:St}:ZA3 c nb .ret a=ZgD a c nb:=yi rfl
theorem Zxh {c:List ResultVar}{nb:NB}{a:St}:ZA3 c nb .normal a=ZgD a c nb:=yi rfl
def fnB (od:OD) (tt:Nat->Option TI) (S:Ctx) (rs:List ResultVar) (body:Code) (args:List (Bool×List CT)) (nb:NB):Prop:=swp tt S od body (ZA3 rs nb) (Zk args)
def Zwm (k:Nat):Ob->AV
 |.row _ _ _ d=>if d=2 then .row k else .dead
 |.gone=>.dead
 |.box _ _=>.dead
 |.map _ _ _=>.dead
def ZjW (st:St):AV->AV
 |.c (.int k n)=>.c (.int k n)
 |.c (.bool b)=>.c (.bool b)
 |.c (.str s)=>.c (.str s)
 |.row k=>Zwm k (st.ob k)
 |_=>.dead
def ZpV (st:St):SV->SV
 |.p ag cs=>.p ag (cs.map (ZjW st))
 |.bp k off=>.bp k off
 |_=>.any
def Za2 (st:St):Ob->Ob
 |.row e m xs d=>if d=2 then .row e m xs d else .gone
 |.gone=>.gone
 |.box t cs=>.box t (cs.map (ZjW st))
 |.map _ _ _=>.gone
def Zsy (st:St) (t:Nat):SV->St
 |.p false [.n (.sl e m xs)]=>⟨λs=>if s=t then .p false [.row st.n] else ZpV st (st.sl s),λk=>if k=st.n then .row e m xs 2 else Za2 st (st.ob k),st.n+1⟩
 |_=>st
def St.thaw (st:St) (t:Nat):St:=Zsy st t (st.sl t)
def ZBa (t:Nat) (Q:Ex->St->Prop):Ex->St->Prop
 |e,st=>Q e (st.thaw t)
def fnN (od:OD) (tt:Nat->Option TI) (S:Ctx) (rs:List ResultVar) (t:Nat) (body:Code) (args:List (Bool×List CT)) (res:List RT):Prop:=swp tt S od body (ZBa t (ZoB tt rs λ_ r _=>wkR r res)) (Zk args)
theorem ZCb (a:Nat->SV) (c:Nat->Ob) (n t:Nat):St.thaw ⟨a,c,n⟩ t=Zsy ⟨a,c,n⟩ t (a t):=yi rfl
theorem ZB0 (t:Nat) (Q:Ex->St->Prop) (e:Ex) (a:St):ZBa t Q e a=Q e (a.thaw t):=yi rfl
end
section
section
variable {tt:Nat->Option TI} {S:Ctx} {all:List Oper} {key:Nat} {d:Option Nat} {ty:TypeId} {pos:String} {af:Array Edge} {r:List Oper} {K:St->Prop} {st:St}
theorem ZFd:Z8 tt S all key [] K st=K st:=yi rfl
theorem ZBG (x:Operand):Z8 tt S all key (⟨d,.move x,ty,pos,af,none⟩::r) K st=Z8 tt S all (key+16) r K (st.put d (st.ev tt ty x)):=yi rfl
theorem Zx4 (x:Operand):Z8 tt S all key (⟨d,.assign x,ty,pos,af,none⟩::r) K st=Z8 tt S all (key+16) r K (st.put d (st.ev tt ty x)):=yi rfl
def Zpo (v a b:SV) (K:SV->Prop):Prop:=if Zao v=true then (if Qo v=true then K a else K b) else False
theorem ZI9 (a b:SV) (K:SV->Prop):Zpo (.p false [.c (.bool true)]) a b K=K a:=by simp [Zpo,Zao,Qo]
theorem ZIF (a b:SV) (K:SV->Prop):Zpo (.p false [.c (.bool false)]) a b K=K b:=by simp [Zpo,Zao,Qo]
theorem ZBl (c a b:Operand):Z8 tt S all key (⟨d,.pick c a b,ty,pos,af,none⟩::r) K st=Zpo (st.ev tt 0 c) (st.ev tt ty a) (st.ev tt ty b) (Ziz d (Z8 tt S all (key+16) r K) st):=by
 simp only[Z8,opG,Za8,opS,YS,Xm,opE,Zpo];generalize st.ev tt 0 c=v
 unfold Zao;split
 .simp only[Qo,Yi,if_true];split<;>simp [ZlV,Ziz,St.app,Zl, *]
 .simp [Yi]
theorem ZAv (t:TypeId):Z8 tt S all key (⟨d,.alloc t,ty,pos,af,none⟩::r) K st=Yi ((Znt (tt t)).map λz=>(SV.bp key 0,[(key,Ob.box t z)])) (ZlV d (Z8 tt S all (key+16) r K) st):=yi rfl
def ZH0 (key:Nat) (t:TypeId):SV->Option (SV×List (Nat×Ob))
 |.p _ cs=>some (.bp key 0,[(key,.box t cs)])
 |_=>none
theorem ZF1 (t:TypeId) (x:Operand):Z8 tt S all key (⟨d,.box t x,ty,pos,af,none⟩::r) K st=Yi (ZH0 key t (st.ev tt t x)) (ZlV d (Z8 tt S all (key+16) r K) st):=yi rfl
def Zu1 (tt:Nat->Option TI) (st:St) (parts:List (Nat×Operand)):Option TI->Option SV
 |some (.strct fs _ z)=>(Zkp fs z (parts.map (ZgO tt st fs z))).map (.p true)
 |_=>none
theorem Zbq (v:Option SV):Yi (ZbM v) (ZlV d K st)=Yi v (Ziz d K st):=by cases v<;>rfl
theorem ZAV (t:TypeId) (a:Array (Nat×Operand)):Z8 tt S all key (⟨d,.build t a,ty,pos,af,none⟩::r) K st=Yi (Zu1 tt st a.toList (tt t)) (Ziz d (Z8 tt S all (key+16) r K) st):=by
 rw [<-Zbq];simp only[Z8,opG,Za8,opS,YS,Xm,opE,Zu1];cases tt t with
 |none=>rfl
 |some ti=>cases ti<;>first|rfl|(simp [ZbM,Option.map_map];rfl)
def ZDi (st:St) (key len:Nat) (is:List Nat) (xs:List SV) (e:Nat):Option TI->Option (SV×List (Nat×Ob))
 |some (.slice _ m _ z)=>(Xj st m xs).bind λa=>if is=List.range len/\len*m<=16777216/\a.2.1.Nodup/\(!z.all Zk7||a.2.1.isEmpty)=true then some (.p false [.row key],ZM st a.2.1++[(key,.row e m a.1 a.2.2)]) else none
 |_=>none
def ZrX:Option TI->Nat
 |some (.slice e _ _ _)=>e
 |_=>0
theorem ZFc (t:TypeId) (c:Nat) (a:Array (Nat×Operand)):Z8 tt S all key (⟨d,.buildSlice t c a,ty,pos,af,none⟩::r) K st=Yi (ZDi st key c (a.toList.map (·.1)) (a.toList.map λp=>st.ev tt (ZrX (tt t)) p.2) (ZrX (tt t)) (tt t)) (ZlV d (Z8 tt S all (key+16) r K) st):=by
 simp only[Z8,opG,Za8,opS,YS,Xm,opE,ZDi,ZrX];cases tt t with
 |none=>rfl
 |some ti=>cases ti<;>rfl
theorem ZCA (t:TypeId) (x:Operand):Z8 tt S all key (⟨d,.load t x,ty,pos,af,none⟩::r) K st=Yi (Qy st (tt t) (st.ev tt 0 x)) (Ziz d (Z8 tt S all (key+16) r K) st):=Zbq _
def ZD6 (d:Option Nat) (K:St->Prop) (st:St) (u:List (Nat×Ob)):Prop:=K ((st.put d .und).app u)
theorem ZAS (t:TypeId) (x v:Operand):Z8 tt S all key (⟨d,.store t x v,ty,pos,af,none⟩::r) K st=Yi (Zgv st (tt t) (st.ev tt 0 x) (st.ev tt t v)) (ZD6 d (Z8 tt S all (key+16) r K) st):=by
 simp only[Z8,opG,Za8,opS,YS,Xm,opE];cases Zgv st (tt t) (st.ev tt 0 x) (st.ev tt t v)<;>rfl
def ZD0:SV->Option SV
 |.bp k i=>some (.bp k i)
 |.rp k m i j=>some (.rp k m i j)
 |.ep e i=>some (.ep e i)
 |.p false [.c (.pt e)]=>some (.p false [.c (.pt e)])
 |_=>none
theorem ZEp (x:Operand):Z8 tt S all key (⟨d,.nilCheck x,ty,pos,af,none⟩::r) K st=Yi (ZD0 (st.ev tt 0 x)) (Ziz d (Z8 tt S all (key+16) r K) st):=by
 simp only[Z8,opG,Za8,opS,YS,Xm,opE,<-Zbq,ZD0];generalize st.ev tt 0 x=v
 cases v with
 |p ag cs=>cases ag with
  |true=>rfl
  |false=>cases cs with
   |nil=>rfl
   |cons y r=>cases r<;>cases y<;>first|rfl|(rename_i z;cases z<;>rfl)|(rename_i z _ _;cases z<;>rfl)
 |_=>rfl
theorem ZF6 (a:BinOp) (t u:TypeId) (x y:Operand):Z8 tt S all key (⟨d,.binOp a t x y u,ty,pos,af,none⟩::r) K st=Yi (ZyE tt t (Zli y) a (st.ev tt t x) (st.ev tt t y)) (Ziz d (Z8 tt S all (key+16) r K) st):=Zbq _
theorem ZHU (a:UnOp) (t:TypeId) (x:Operand):Z8 tt S all key (⟨d,.unOp a t x,ty,pos,af,none⟩::r) K st=Yi (unV a (st.ev tt 0 x)) (Ziz d (Z8 tt S all (key+16) r K) st):=Zbq _
theorem ZBw (s t:TypeId) (x:Operand):Z8 tt S all key (⟨d,.convert s t x,ty,pos,af,none⟩::r) K st=Yi (Zhi tt st s t (st.ev tt 0 x)) (Ziz d (Z8 tt S all (key+16) r K) st):=Zbq _
theorem ZBZ (t:TypeId) (n c:Operand):Z8 tt S all key (⟨d,.makeSlice t n c,ty,pos,af,none⟩::r) K st=Yi (ZsX key (tt t) (st.ev tt 0 n) (st.ev tt 0 c)) (ZlV d (Z8 tt S all (key+16) r K) st):=yi rfl
theorem ZzT (t:TypeId) (x:Operand) (a c:Option Operand):Z8 tt S all key (⟨d,.slice t x a c none,ty,pos,af,none⟩::r) K st=Yi (Zay st key (tt t) (a.map (st.ev tt 0)) (c.map (st.ev tt 0)) (st.ev tt 0 x)) (ZlV d (Z8 tt S all (key+16) r K) st):=yi rfl
def ZFq (fs:Option TI) (f:Nat):Option Nat:=match fs with|some (.strct fs _ _)=>(fs[f]?).map FI.off|_=>none
def ZGa (fs:Option TI) (f:Nat) (v:SV):Option SV:=(ZFq fs f).bind λo=>Zk6 o v
theorem ZEg (t:TypeId) (x:Operand) (f:Nat):Z8 tt S all key (⟨d,.fieldAddr t x f,ty,pos,af,none⟩::r) K st=Yi (ZGa (tt t) f (st.ev tt 0 x)) (Ziz d (Z8 tt S all (key+16) r K) st):=by
 rw [<-Zbq];simp only[Z8,opG,Za8,opS,YS,Xm,opE,ZGa,ZFq];cases tt t with
 |none=>rfl
 |some ti=>cases ti<;>first|rfl|(simp only[Option.bind_map];rfl)
def ZFJ (fs:Option TI) (f:Nat) (v:SV):Option SV:=match fs with|some (.strct fs _ _)=>Zol fs f v|_=>none
theorem ZEJ (t:TypeId) (x:Operand) (f:Nat):Z8 tt S all key (⟨d,.field t x f,ty,pos,af,none⟩::r) K st=Yi (ZFJ (tt t) f (st.ev tt 0 x)) (Ziz d (Z8 tt S all (key+16) r K) st):=by
 rw [<-Zbq];simp only[Z8,opG,Za8,opS,YS,Xm,opE,ZFJ];cases tt t with
 |none=>rfl
 |some ti=>cases ti<;>rfl
def ZEU (st:St) (t:Option TI) (x i:SV):Option SV:=match t with|some (.slice _ m _ _)=>Zac st m x i|_=>none
theorem ZDl (t:TypeId) (x i:Operand):Z8 tt S all key (⟨d,.indexAddr t x i,ty,pos,af,none⟩::r) K st=Yi (ZEU st (tt t) (st.ev tt 0 x) (st.ev tt 0 i)) (Ziz d (Z8 tt S all (key+16) r K) st):=by
 rw [<-Zbq];simp only[Z8,opG,Za8,opS,YS,Xm,opE,ZEU];cases tt t with
 |none=>rfl
 |some ti=>cases ti<;>rfl
theorem ZDG (t:TypeId) (x i:Operand):Z8 tt S all key (⟨d,.index t x i,ty,pos,af,none⟩::r) K st=Yi (ZmM (tt t) (st.ev tt 0 x) (st.ev tt 0 i)) (Ziz d (Z8 tt S all (key+16) r K) st):=Zbq _
theorem ZDS (x:Operand) (i:Nat):Z8 tt S all key (⟨d,.extract x i,ty,pos,af,none⟩::r) K st=Yi (Zz9 i (st.ev tt 0 x)) (Ziz d (Z8 tt S all (key+16) r K) st):=Zbq _
theorem ZET (b:Builtin) (a:Array Operand) (c:Array TypeId):Z8 tt S all key (⟨d,.call ⟨.builtin b,a,c⟩,ty,pos,af,none⟩::r) K st=Yi (ZgG tt st key b c.toList (evs tt st c.toList a.toList)) (ZlV d (Z8 tt S all (key+16) r K) st):=yi rfl
def ZGD (f:FuncId) (n:Nat) (st:St) (vs:List SV):Option (SV×List (Nat×Ob)):=if n=0 then (Ze3 st vs).bind λr=>if (r.2.map (·.1)).Nodup then some (.p false [.c (.fn f r.1)],r.2) else none else none
theorem ZDr (f:FuncId) (first a:Array Operand):Z8 tt S all key (⟨d,.makeFunc (.func f) first a,ty,pos,af,none⟩::r) K st=Yi (ZGD f first.size st (a.toList.map (st.ev tt 0))) (ZlV d (Z8 tt S all (key+16) r K) st):=yi rfl
theorem ZEQ (t:TypeId):Z8 tt S all key (⟨d,.makeMap t none,ty,pos,af,none⟩::r) K st=Yi (Zqh key (tt t)) (ZlV d (Z8 tt S all (key+16) r K) st):=yi rfl
theorem ZBk (t:TypeId) (x i:Operand) (a:Bool):Z8 tt S all key (⟨d,.lookup t x i a,ty,pos,af,none⟩::r) K st=Yi (ZhZ st (tt t) (st.ev tt 0 x) (st.ev tt 0 i) a) (Ziz d (Z8 tt S all (key+16) r K) st):=Zbq _
theorem ZFg (t:TypeId) (x i v:Operand):Z8 tt S all key (⟨d,.mapUpdate t x i v,ty,pos,af,none⟩::r) K st=Yi (Zxv st (tt t) (st.ev tt 0 x) (st.ev tt 0 i) (st.ev tt 0 v)) (ZD6 d (Z8 tt S all (key+16) r K) st):=by
 simp only[Z8,opG,Za8,opS,YS,Xm,opE];cases Zxv st (tt t) (st.ev tt 0 x) (st.ev tt 0 i) (st.ev tt 0 v)<;>rfl
theorem ZDC (s:Nat) (a:Array Operand) (c:Array TypeId):Z8 tt S all key (⟨d,.call ⟨.value (.tmp s),a,c⟩,ty,pos,af,none⟩::r) K st=Yi (ZpD (st.sl s)) (ZF5 S key d (Z8 tt S all (key+16) r K) st (evs tt st c.toList a.toList)):=yi rfl
theorem ZBz (a:List SV) (f:FuncId) (c:List CT):ZF5 S key d K st a (f,c)=(S.hd f=0/\spK S f 0 key d K st (a++c.map ZlN)):=yi rfl
theorem ZCD (f:FuncId) (a:Array Operand) (c:Array TypeId):Z8 tt S all key (⟨d,.call ⟨.value (.func f),a,c⟩,ty,pos,af,none⟩::r) K st=spK S f (S.hd f) key d (Z8 tt S all (key+16) r K) st (evs tt st c.toList a.toList):=yi rfl
theorem ZJd (f:FuncId) (a:List SV):spK S f 0 key d K st a=Yi (ZT st a) (Zs2 S f key d K st a):=yi rfl
theorem ZIX (f:FuncId) (v:SV) (a:List SV):spK S f 1 key d K st (v::a)=Yi (Zgy st v) λc=>Yi (ZT st a) (ZAq S f key d K st a c):=yi rfl
theorem ZJr (f:FuncId) (a:List SV):spK S f 3 key d K st a=Yi (ZT st a) (ZBJ S f key d K st a):=yi rfl
theorem ZJi (f:FuncId) (a:List SV):spK S f 4 key d K st a=Yi (ZT st (a.map nlS)) (Zs2 S f key d K st (a.map nlS)):=yi rfl
theorem ZIQ (f:FuncId) (v:SV) (a:List SV):spK S f 5 key d K st (v::a)=Yi (ZdA st v) λc=>Yi (Zjz st (a.take 0)) λh=>Yi (ZT st (a.drop 0)) (ZvP S f key d K st (a.drop 0) c h):=yi rfl
theorem ZJb (f:FuncId) (a:List SV):spK S f 2 key d K st a=Yi (ZT st a) (ZBO S f key d K st a):=yi rfl
def gOf (all:List Oper) (j:Nat):Option Nat:=(all[j]?).bind (·.dst)
def gL (tt:Nat->Option TI) (S:Ctx) (all:List Oper) (key:Nat) (v:SV) (w:Bool) (o:Oper) (r:List Oper) (K:St->Prop) (st:St):Prop:=gK v w (Z8 tt S all key (o::r) K st) (Z8 tt S all (key+16) r K (st.put o.dst .und))
def ZsB (st:St):Option Nat->SV
 |some t=>st.sl t
 |none=>.und
theorem ZuM (a:Nat->SV) (c:Nat->Ob) (n t:Nat):ZsB ⟨a,c,n⟩ (some t)=a t:=yi rfl
theorem Zu5:ZsB st none=.und:=yi rfl
theorem ZzQ (a:Op) (j:Nat) (w:Bool):Z8 tt S all key (⟨d,a,ty,pos,af,some (j,w)⟩::r) K st=gL tt S all key (ZsB st (gOf all j)) w ⟨d,a,ty,pos,af,none⟩ r K st:=by
 cases hg:gOf all j with
 |none=>
  have h:Za8 all ⟨d,a,ty,pos,af,some (j,w)⟩=some (none,w):=by simp only[Za8];rw [show (all[j]?).bind (·.dst)=none from hg]
  simp only[Z8,opG,h,gL,ZsB];simp [gK,Zao,ZsG]
 |some t=>
  have h:Za8 all ⟨d,a,ty,pos,af,some (j,w)⟩=some (some t,w):=by simp only[Za8];rw [show (all[j]?).bind (·.dst)=some t from hg]
  simp only[Z8,opG,h,gL,ZsB];rfl
theorem ZG9 (o:Oper):gL tt S all key (.p false [.c (.bool true)]) true o r K st=Z8 tt S all key (o::r) K st:=by simp [gL,gK,Zao,Qo]
theorem ZGq (o:Oper):gL tt S all key (.p false [.c (.bool false)]) false o r K st=Z8 tt S all key (o::r) K st:=by simp [gL,gK,Zao,Qo]
theorem ZHb (o:Oper):gL tt S all key (.p false [.c (.bool true)]) false o r K st=Z8 tt S all (key+16) r K (st.put o.dst .und):=by simp [gL,gK,Zao,Qo]
theorem ZHF (o:Oper):gL tt S all key (.p false [.c (.bool false)]) true o r K st=Z8 tt S all (key+16) r K (st.put o.dst .und):=by simp [gL,gK,Zao,Qo]
theorem ZDz (o:Oper) (w:Bool):gL tt S all key .und w o r K st=Z8 tt S all (key+16) r K (st.put o.dst .und):=by simp [gL,gK,Zao,ZsG]
theorem ZBu (v:SV):Ziz d K st v=K (st.put d v):=yi rfl
theorem ZCn (v:SV) (u:List (Nat×Ob)):ZlV d K st (v,u)=K ((st.put d v).app u):=yi rfl
theorem ZBR (u:List (Nat×Ob)):ZD6 d K st u=K ((st.put d .und).app u):=yi rfl
theorem ZxZ {α:Type}(v:α) (K:α->Prop):Yi (some v) K=K v:=yi rfl
theorem ZxO {α:Type}(K:α->Prop):Yi none K=False:=yi rfl
theorem ZB1 (n m:Nat) (a:Nat->SV) (c:Nat->Ob):Zrs n K ⟨a,c,m⟩=K ⟨a,c,n⟩:=yi rfl
theorem ZBU (a:List Oper) (c:Nat->SV) (d:Nat->Ob) (n:Nat):ZA1 tt S a K ⟨c,d,n⟩=Z8 tt S a n a (Zrs (n+16*a.length) K) ⟨c,d,n⟩:=yi rfl
theorem ZAw (a:Nat->SV) (c:Nat->Ob) (n t:Nat) (v:SV):St.put ⟨a,c,n⟩ (some t) v=⟨upd a t v,c,n⟩:=yi rfl
theorem ZAH (v:SV):St.put st none v=st:=yi rfl
theorem ZB7 (a:Nat->SV) (c:Nat->Ob) (n:Nat):St.app ⟨a,c,n⟩ []=⟨a,c,n⟩:=yi rfl
theorem ZyI (a:Nat->SV) (c:Nat->Ob) (n:Nat) (p:Nat×Ob) (u:List (Nat×Ob)):St.app ⟨a,c,n⟩ (p::u)=St.app ⟨a,upd c p.1 p.2,n⟩ u:=yi rfl
theorem ZFK (ob:Nat->Ob):Zl ob []=ob:=yi rfl
theorem ZCv (a:Nat->Ob) (p:Nat×Ob) (r:List (Nat×Ob)):Zl a (p::r)=Zl (upd a p.1 p.2) r:=yi rfl
theorem ZFB {α:Type}(f:Nat->α) (k j:Nat) (v:α):upd f k v j=if j=k then v else f j:=yi rfl
end
section
variable {od:OD} {tt:Nat->Option TI} {S:Ctx} {Q:Ex->St->Prop} {st:St}
theorem ZBT:swp tt S od .skip Q st=Q .normal st:=yi rfl
theorem Zxt (id:Nat) (a:Array Oper) (c:Bool):swp tt S (λ_=>none) (.region id a c) Q st=ZA1 tt S a.toList (Q .normal) st:=yi rfl
def ZCg:List (Nat×List Nat×Bool)->OD
 | [],_=>none
 |p::r,i=>if i=p.1 then some p.2 else ZCg r i
theorem ZD2 (i:Nat):ZCg [] i=none:=yi rfl
theorem ZCx (p:Nat×List Nat×Bool) (m:List (Nat×List Nat×Bool)) (i:Nat):ZCg (p::m) i=if i=p.1 then some p.2 else ZCg m i:=yi rfl
theorem ZCB (a:List Oper) (K:St->Prop):ZxB tt S none a K st=ZA1 tt S a K st:=yi rfl
theorem ZCu (l:List Nat) (b:Bool) (a:List Oper) (K:St->Prop) (c:Nat->SV) (d:Nat->Ob) (n:Nat):ZxB tt S (some (l,b)) a K ⟨c,d,n⟩=Zf8 tt S b a n l (Zrs (n+16*a.length) K) ⟨c,d,n⟩:=yi rfl
def ZEE (tt:Nat->Option TI) (S:Ctx) (b:Bool) (all:List Oper) (key:Nat) (K:St->Prop) (st:St):Option Oper->Prop
 |some o=>ifB b (stk tt S all o.op st) (Z8 tt S all key [o] K st)
 |none=>K st
theorem ZCV (b:Bool) (c:List Oper) (a:Nat) (K:St->Prop):Zf8 tt S b c a [] K st=K st:=yi rfl
theorem ZB4 (b:Bool) (c:List Oper) (a i:Nat) (r:List Nat) (K:St->Prop):Zf8 tt S b c a (i::r) K st=ZEE tt S b c (a+16*i) (Zf8 tt S b c a r K) st (c[i]?):=by
 simp only[Zf8];cases c[i]?<;>rfl
theorem ZCw (a:List Oper) (c:Nat) (K:St->Prop) (o:Oper):ZEE tt S true a c K st (some o)=ifB true (stk tt S a o.op st) (Z8 tt S a c [o] K st):=yi rfl
theorem ZCF (c:List Oper) (a:Nat) (K:St->Prop) (o:Oper):ZEE tt S false c a K st (some o)=Z8 tt S c a [o] K st:=yi rfl
theorem ZIq (c:Bool) (P:Prop):ifB true c P=(c=true/\P):=yi rfl
theorem ZG4 (c:Bool) (P:Prop):ifB false c P=P:=yi rfl
theorem ZDT (a b:Code):swp tt S od (.seq a b) Q st=swp tt S od a (ZgI (swp tt S od b Q) Q) st:=yi rfl
def ZtE (tt:Nat->Option TI) (S:Ctx) (od:OD) (v:SV) (a b:Code) (Q:Ex->St->Prop) (st:St):Prop:=Zpd v (swp tt S od a Q st) (swp tt S od b Q st)
theorem ZBc (c:Operand) (a b:Code):swp tt S od (.cond c a b) Q st=ZtE tt S od (st.ev tt 0 c) a b Q st:=yi rfl
theorem ZIH (a b:Code):ZtE tt S od (.p false [.c (.bool true)]) a b Q st=swp tt S od a Q st:=by simp [ZtE,Zpd,Zao,Qo]
theorem ZJh (a b:Code):ZtE tt S od (.p false [.c (.bool false)]) a b Q st=swp tt S od b Q st:=by simp [ZtE,Zpd,Zao,Qo]
theorem ZAl (id:Nat) (b:Code):swp tt S od (.block id b) Q st=swp tt S od b (ZhW id Q) st:=yi rfl
theorem ZB2 (id:Nat):swp tt S od (.exit id) Q st=Q (.exit id) st:=yi rfl
theorem ZFP:swp tt S od .ret Q st=Q .ret st:=yi rfl
theorem ZI2 (k:St->Prop):ZgI k Q .normal st=k st:=yi rfl
theorem ZJk (k:St->Prop) (i:Nat):ZgI k Q (.exit i) st=Q (.exit i) st:=yi rfl
theorem ZI0 (k:St->Prop):ZgI k Q .ret st=Q .ret st:=yi rfl
theorem ZJa (i:Nat):ZhW i Q .normal st=Q .normal st:=yi rfl
theorem ZIL (i:Nat):ZhW i Q .ret st=Q .ret st:=yi rfl
theorem ZIJ (i j:Nat):ZhW i Q (.exit j) st=if j=i then Q .normal st else Q (.exit j) st:=yi rfl
theorem ZEh (a:Nat->SV) (c:Nat->Ob) (n t s:Nat):St.ev tt ⟨a,c,n⟩ t (.tmp s)=a s:=yi rfl
theorem Zy8 (t:Nat) (v:Value):St.ev tt st t (.const v)=cvT (tt t) v:=yi rfl
theorem ZCE (t f:Nat):St.ev tt st t (.func f)=.fn f:=yi rfl
theorem ZJw (a:List ResultVar) (R:St->List RT->List Nat->Prop):ZoB tt a R .ret st=match ZbE tt st a with|some x=>x.2.Nodup/\R st x.1 x.2|none=>False:=yi rfl
theorem ZJA (a:List ResultVar) (R:St->List RT->List Nat->Prop):ZoB tt a R .normal st=match ZbE tt st a with|some x=>x.2.Nodup/\R st x.1 x.2|none=>False:=yi rfl
end
section
theorem Zzx (c:List Oper):∀a,YB c (.move a)=false:=by intros;rfl
theorem ZzR (s:Nat) (d:Option Nat) (b:Bool):∀a,alO s (.move a) d b=b:=by intros;rfl
theorem Zvp (c:List Oper):∀a,YB c (.assign a)=false:=by intros;rfl
theorem Zuz (s:Nat) (d:Option Nat) (b:Bool):∀a,alO s (.assign a) d b=b:=by intros;rfl
theorem ZAx (d:List Oper):∀a b c,YB d (.pick a b c)=false:=by intros;rfl
theorem ZAe (s:Nat) (d:Option Nat) (b:Bool):∀a c e,alO s (.pick a c e) d b=b:=by intros;rfl
theorem ZBj (c:List Oper):∀a b,YB c (.box a b)=false:=by intros;rfl
theorem ZBD (s:Nat) (d:Option Nat) (b:Bool):∀a c,alO s (.box a c) d b=b:=by intros;rfl
theorem Zxb (c:List Oper):∀a b,YB c (.build a b)=false:=by intros;rfl
theorem Zxx (s:Nat) (d:Option Nat) (b:Bool):∀a c,alO s (.build a c) d b=b:=by intros;rfl
theorem Zom (d:List Oper):∀a b c,YB d (.buildSlice a b c)=false:=by intros;rfl
theorem Zm7 (s:Nat) (d:Option Nat) (b:Bool):∀a c e,alO s (.buildSlice a c e) d b=b:=by intros;rfl
theorem Zvm (h:List Oper):∀a b c d,YB h (.insert a b c d)=false:=by intros;rfl
theorem ZvE (s:Nat) (d:Option Nat) (b:Bool):∀a c e f,alO s (.insert a c e f) d b=b:=by intros;rfl
theorem ZyW (c:List Oper):∀a b,YB c (.load a b)=false:=by intros;rfl
theorem ZyV (s:Nat) (d:Option Nat) (b:Bool):∀a c,alO s (.load a c) d b=b:=by intros;rfl
theorem Zxa (c:List Oper):∀a,YB c (.ready a)=false:=by intros;rfl
theorem ZxJ (s:Nat) (d:Option Nat) (b:Bool):∀a,alO s (.ready a) d b=b:=by intros;rfl
theorem Zxi (c:List Oper):∀a,YB c (.waits a)=false:=by intros;rfl
theorem ZxI (s:Nat) (d:Option Nat) (b:Bool):∀a,alO s (.waits a) d b=b:=by intros;rfl
theorem ZqJ (c:List Oper):∀a,YB c (.nilCheck a)=false:=by intros;rfl
theorem ZrU (s:Nat) (d:Option Nat) (b:Bool):∀a,alO s (.nilCheck a) d b=b:=by intros;rfl
theorem Zxw (h:List Oper):∀a b c d e,YB h (.binOp a b c d e)=false:=by intros;rfl
theorem Zyt (s:Nat) (d:Option Nat) (b:Bool):∀a c e f g,alO s (.binOp a c e f g) d b=b:=by intros;rfl
theorem ZzG (d:List Oper):∀a b c,YB d (.unOp a b c)=false:=by intros;rfl
theorem Zz8 (s:Nat) (d:Option Nat) (b:Bool):∀a c e,alO s (.unOp a c e) d b=b:=by intros;rfl
theorem ZsQ (d:List Oper):∀a b c,YB d (.convert a b c)=false:=by intros;rfl
theorem Zsj (s:Nat) (d:Option Nat) (b:Bool):∀a c e,alO s (.convert a c e) d b=b:=by intros;rfl
theorem Zf0 (c:List Oper):∀a b,YB c (.sliceToArrayPointer a b)=false:=by intros;rfl
theorem Zfv (s:Nat) (d:Option Nat) (b:Bool):∀a c,alO s (.sliceToArrayPointer a c) d b=b:=by intros;rfl
theorem Zkr (c:List Oper):∀a b,YB c (.makeInterface a b)=false:=by intros;rfl
theorem Zko (s:Nat) (d:Option Nat) (b:Bool):∀a c,alO s (.makeInterface a c) d b=b:=by intros;rfl
theorem ZqX (d:List Oper):∀a b c,YB d (.makeFunc a b c)=false:=by intros;rfl
theorem ZrF (s:Nat) (d:Option Nat) (b:Bool):∀a c e,alO s (.makeFunc a c e) d b=b:=by intros;rfl
theorem Zsz (c:List Oper):∀a b,YB c (.makeMap a b)=false:=by intros;rfl
theorem Zub (s:Nat) (d:Option Nat) (b:Bool):∀a c,alO s (.makeMap a c) d b=b:=by intros;rfl
theorem ZqV (c:List Oper):∀a b,YB c (.makeChan a b)=false:=by intros;rfl
theorem Zr2 (s:Nat) (d:Option Nat) (b:Bool):∀a c,alO s (.makeChan a c) d b=b:=by intros;rfl
theorem Zor (d:List Oper):∀a b c,YB d (.makeSlice a b c)=false:=by intros;rfl
theorem ZoH (s:Nat) (d:Option Nat) (b:Bool):∀a c e,alO s (.makeSlice a c e) d b=b:=by intros;rfl
theorem Zw6 (h:List Oper):∀a b c d e,YB h (.slice a b c d e)=false:=by intros;rfl
theorem ZxD (s:Nat) (d:Option Nat) (b:Bool):∀a c e f g,alO s (.slice a c e f g) d b=b:=by intros;rfl
theorem Zot (d:List Oper):∀a b c,YB d (.fieldAddr a b c)=false:=by intros;rfl
theorem ZoE (s:Nat) (d:Option Nat) (b:Bool):∀a c e,alO s (.fieldAddr a c e) d b=b:=by intros;rfl
theorem Zw9 (d:List Oper):∀a b c,YB d (.field a b c)=false:=by intros;rfl
theorem ZxP (s:Nat) (d:Option Nat) (b:Bool):∀a c e,alO s (.field a c e) d b=b:=by intros;rfl
theorem ZoL (d:List Oper):∀a b c,YB d (.indexAddr a b c)=false:=by intros;rfl
theorem Zo1 (s:Nat) (d:Option Nat) (b:Bool):∀a c e,alO s (.indexAddr a c e) d b=b:=by intros;rfl
theorem ZwM (d:List Oper):∀a b c,YB d (.index a b c)=false:=by intros;rfl
theorem Zx0 (s:Nat) (d:Option Nat) (b:Bool):∀a c e,alO s (.index a c e) d b=b:=by intros;rfl
theorem ZAk (c:List Oper):∀a,YB c (.call a)=false:=by intros;rfl
theorem ZAd (s:Nat) (d:Option Nat) (b:Bool):∀a,alO s (.call a) d b=b:=by intros;rfl
theorem ZuB (h:List Oper):∀a b c d,YB h (.lookup a b c d)=false:=by intros;rfl
theorem Zvz (s:Nat) (d:Option Nat) (b:Bool):∀a c e f,alO s (.lookup a c e f) d b=b:=by intros;rfl
theorem Zo8 (h:List Oper):∀a b c d,YB h (.mapUpdate a b c d)=false:=by intros;rfl
theorem Zo2 (s:Nat) (d:Option Nat) (b:Bool):∀a c e f,alO s (.mapUpdate a c e f) d b=b:=by intros;rfl
theorem Zuo (c:List Oper):∀a b,YB c (.extract a b)=false:=by intros;rfl
theorem ZsM (s:Nat) (d:Option Nat) (b:Bool):∀a c,alO s (.extract a c) d b=b:=by intros;rfl
theorem ZxY (a:List Oper) (t:TypeId):YB a (.alloc t)=false:=yi rfl
theorem Zyl (a:List Oper) (t:TypeId) (x v:Operand):YB a (.store t x v)=stX a x:=yi rfl
theorem Zxm (s:Nat) (d:Option Nat) (b:Bool) (t:TypeId) (x v:Operand):alO s (.store t x v) d b=b:=yi rfl
theorem Zyx (s d:Nat) (b:Bool) (t:TypeId):alO s (.alloc t) (some d) b=orB (decide (d=s)) b:=yi rfl
end
attribute [go_sem] Zzx ZzR Zvp Zuz ZAx ZAe ZBj ZBD Zxb Zxx Zom Zm7 Zvm ZvE ZyW ZyV Zxa ZxJ Zxi ZxI ZqJ ZrU Zxw Zyt ZzG Zz8 ZsQ Zsj Zf0 Zfv Zkr Zko ZqX ZrF Zsz Zub ZqV Zr2 Zor ZoH Zw6 ZxD Zot ZoE Zw9 ZxP ZoL Zo1 ZwM Zx0 ZAk ZAd ZuB Zvz Zo8 Zo2 Zuo ZsM ZxY Zyl Zxm Zyx alN stX Zm5 ldN stB ldX stY orB
attribute [go_sem] ZFd ZBG Zx4 ZBl ZAv ZF1 ZAV ZFc ZCA ZAS ZEp ZF6 ZHU ZBw ZBZ ZzT ZEg ZEJ ZDl ZDG ZDS ZET ZCD ZDr ZEQ ZBk ZFg ZDC ZBz ZGD Zqh ZhZ ZsW Zxv ZwW Ze1 Zfj Ze3 Zkv Zkv.zBox ZpD ZlN eqC ZoY ZCk ZyR Zsi Zu6 Zli ZEy ZyJ ZAa ZyE Zff Zm2 ZiS Zrd Zhi ZzQ ZBu ZCn ZBR ZxZ ZxO ZB1 ZBU ZAw ZAH ZB7 ZyI ZFB ZFK ZCv ZBT Zxt ZCB ZCu ZCV ZB4 ZCw ZCF ZD2 ZCx ZIq ZG4 stk hdC ldB hdB YS List.head?_cons ZDT ZBc ZAl ZB2 ZFP ZI2 ZJk ZI0 ZJa ZIL ZIJ ZEh Zy8 ZCE ZJw ZJA ZI9 ZIF ZIH ZJh ZG9 ZGq ZHb ZHF ZDz ZuM Zu5 ZH0 Zu1 ZDi ZrX Zk7 List.all_cons List.all_nil List.isEmpty_nil Bool.true_or Bool.false_or Bool.or_true Bool.or_false Bool.false_and ZD0 ZFq ZGa ZFJ ZEU gOf cvT Znt ZBX ZBe ZCj unV Zsa ZoC Zac ZmM cut Qy splice Zgb Zgv ZnI Zk6 Zol Zkp ZgO avT Za3 ZjY Zdf Xj Yk Zgk Zgf Zm3 ZlC ZoS Zy3 ZnY Zay mvS hiB loB Zlj Zce Zde ZsX Zz9 ZbM ZgG evs Zck YQ ZdE ZT Zkz ZJd ZIX ZJb Zgy XY Zbp Zia ZdD ZcD Zi8 ZL Ye ZM ZJu ZGX wkC wkR ZqY ZtU ZsL ZCs ZCz ZFi ZBt ZzO Zxh ZJr ZJi ZIQ Zjz gvC ZfV YJ ZdA ZDx ZBE ZiY List.contains_cons List.contains_nil List.contains_eq_mem nlA nlS ZgW ZB0 ZCb Zsy ZpV ZjW Zwm Za2 Zwv wk1 ZfD Zdx ZbE ZD ZI QH Ab List.length_nil A6 List.length_replicate List.getElem?_cons_zero List.getElem?_cons_succ List.getElem?_nil AA List.map_nil Ac Option.bind_none AH Option.map_none List.cons_append List.nil_append List.append_nil AS AZ List.drop_succ_cons List.drop_nil List.take_succ_cons Aa List.take_nil List.set_cons_zero List.set_cons_succ List.range_zero Bool.and_true Bool.true_and Bool.and_self and_true true_and and_self AD AC beq_self_eq_true Option.getD_some ite_true ite_false Nat.zero_add Nat.lt_add_one Nat.zero_lt_succ eq_self or_false false_or and_false false_and or_self Nat.lt_irrefl true_or or_true List.not_mem_nil List.nodup_cons A4 Bool.false_eq_true if_true if_false decide_true decide_false Bool.not_true Bool.not_false Ad ne_eq not_true_eq_false not_false_eq_true
end
section
open Go.RowKit
section
variable {od:OD} {tt:Nat->Option TI} {S:Ctx}
theorem YC {α:Type}{r:Option α}{K K':α->Prop}(h:∀x,K x->K' x) (a:Yi r K):Yi r K':=by
 cases r with
 |none=>exact a
 |some v=>exact h v a
theorem Ztn {t:Nat}{o:Oper}{K K':St->Prop}{st:St}(h:∀st,K st->K' st) (j:opS tt S t o K st):opS tt S t o K' st:=by
 unfold opS at j ⊢;split
 .rename_i c w;rw [w]at j;simp only[spK]at j ⊢;split
  .rename_i e;rw [e]at j;exact YC (λl ⟨f,k,s,q,m⟩=>⟨f,k,s,q,h _ m⟩) j
  .rename_i e;rw [e]at j;simp only[ZvL]at j ⊢;split
   .rename_i u;rw [u]at j;exact j
   .rename_i u;rw [u]at j;exact YC (λE=>YC λl ⟨f,J,k,s,q,m⟩=>⟨f,J,k,s,q,h _ m⟩) j
  .rename_i e;rw [e]at j;exact YC (λl ⟨x,k,m⟩=>⟨x,k,h _ m⟩) j
  .rename_i e;rw [e]at j;exact YC (λl ⟨f,k,s,q,m⟩=>⟨f,k,s,q,h _ m⟩) j
  .rename_i e;rw [e]at j;simp only[ZlD]at j ⊢;split
   .rename_i u;rw [u]at j;exact j
   .rename_i u;rw [u]at j;exact YC (λE=>YC λL=>YC λl ⟨f,g,k,s,q,m,H,G⟩=>⟨f,g,k,s,q,m,H,h _ G⟩) j
  .rename_i D C B A z;have i:Yi (ZT st (evs tt st c.2.1 c.2.2)) (ZBO S c.1 t o.dst K st (evs tt st c.2.1 c.2.2)):=by
    revert j
    split
    .rename_i e;exact absurd e D
    .rename_i e;exact absurd e C
    .rename_i e;exact absurd e B
    .rename_i e;exact absurd e A
    .rename_i e;exact absurd e z
    .exact id
   exact YC (λl ⟨f,k,s,q⟩=>⟨f,k,s,h _ q⟩) i
 .rename_i w;rw [w]at j;simp only at j;split
  .rename_i c v;rw [v]at j;simp only at j;exact YC (λM ⟨I,k⟩=>⟨I,YC (λl ⟨f,a,b,c,d⟩=>⟨f,a,b,c,h _ d⟩) k⟩) j
  .rename_i v;rw [v]at j;simp only at j;exact YC (λr F=>h _ F) j
theorem Zmx {j:List Oper}{d:Nat}{o:Oper}{K K':St->Prop}{st:St}(h:∀st,K st->K' st) (a:opG tt S j d o K st):opG tt S j d o K' st:=by
 unfold opG at a ⊢;split
 .rename_i i;rw [i]at a;exact Ztn h a
 .rename_i i;rw [i]at a;exact h _ a
 .rename_i i;rw [i]at a;simp only[gK]at a ⊢;split
  .rename_i k;rw [if_pos k]at a;split
   .rename_i c;rw [if_pos c]at a;exact Ztn h a
   .rename_i c;rw [if_neg c]at a;exact h _ a
  .rename_i k;rw [if_neg k]at a;split
   .rename_i c;rw [if_pos c]at a;exact h _ a
   .rename_i c;rw [if_neg c]at a;exact a
theorem Zpw {d:List Oper}{K K':St->Prop}(h:∀c,K c->K' c):∀(r:List Oper) (a:Nat) (c:St),Z8 tt S d a r K c->Z8 tt S d a r K' c
 | [],_,c,hh=>h c hh
 |o::r,a,c,hh=>Zmx (λi j=>Zpw h r (a+16) i j) hh
theorem Zmw {F:(Ex->St->Prop)->St->Prop}(d:∀Q Q' a,(∀e a,Q e a->Q' e a)->F Q a->F Q' a) {Q Q':Ex->St->Prop}(h:∀e a,Q e a->Q' e a):∀(n:Nat) (a:St),ZlL F Q n a->ZlL F Q' n a
 |0,_,hh=>hh
 |n+1,a,⟨ms,ρ,h1,h2⟩=>⟨ms,ρ,h1,λj=>d _ _ _ (λe c i=>by cases e<;>first|exact Zmw d h n c i|exact h _ _ i) (h2 j)⟩
theorem Zh5 {b:Bool}{j:List Oper}{c:Nat}{K K':St->Prop}(h:∀a,K a->K' a):∀(l:List Nat) (a:St),Zf8 tt S b j c l K a->Zf8 tt S b j c l K' a
 | [],a,hh=>h a hh
 |i::r,a,hh=>by
  simp only[Zf8]at hh ⊢;split
  .rename_i o k;rw [k]at hh;cases b with
   |true=>exact ⟨hh.1,Zmx (λd m=>Zh5 h r d m) hh.2⟩
   |false=>exact Zmx (λd m=>Zh5 h r d m) hh
  .rename_i k;rw [k]at hh;exact Zh5 h r a hh
theorem ZaP:∀(c:Code) (Q Q':Ex->St->Prop) (i:St),(∀e i,Q e i->Q' e i)->swp tt S od c Q i->swp tt S od c Q' i
 |.skip,Q,Q',i,h,hh=>h _ _ hh
 |.exit _,Q,Q',i,h,hh=>h _ _ hh
 |.ret,Q,Q',i,h,hh=>h _ _ hh
 |.region id d _,Q,Q',i,h,hh=>by
  simp only[swp,ZxB]at hh ⊢;split
  .rename_i e;rw [e]at hh;exact Zpw (λm k=>h _ _ k) d.toList i.n i hh
  .rename_i l e;rw [e]at hh;exact Zh5 (λm k=>h _ _ k) l.1 i hh
 |.seq a b,Q,Q',i,h,hh=>ZaP a _ _ i (λe m k=>by cases e<;>first|exact ZaP b Q Q' m h k|exact h _ _ k) hh
 |.cond c a b,Q,Q',i,h,hh=>by
  simp only[swp,Zpd]at hh ⊢;split
  .rename_i q;rw [if_pos q]at hh;split
   .rename_i o;rw [if_pos o]at hh;exact ZaP a Q Q' i h hh
   .rename_i o;rw [if_neg o]at hh;exact ZaP b Q Q' i h hh
  .rename_i q;rw [if_neg q]at hh;exact hh
 |.block id b,Q,Q',i,h,hh=>ZaP b _ _ i (λe m k=>by
   cases e with
   |normal=>exact h _ _ k
   |ret=>exact h _ _ k
   |exit j=>
    simp only[ZhW]at k ⊢;split
    .rename_i e;rw [if_pos e]at k;exact h _ _ k
    .rename_i e;rw [if_neg e]at k;exact h _ _ k) hh
 |.loop b,Q,Q',i,h,⟨n,hh⟩=>⟨n,Zmw (λQ Q' i t s=>ZaP b Q Q' i t s) h n i hh⟩
 |.rangeFunc _ _ _ _,_,_,_,_,hh=>hh.elim
 |.scope _,_,_,_,_,hh=>hh.elim
 |.label _,_,_,_,_,hh=>hh.elim
 |.goto _,_,_,_,_,hh=>hh.elim
 |.refuse _,_,_,_,_,hh=>hh.elim
end
theorem Y2 {x:Int}(c:-9223372036854775808<=x) (a:x<=9223372036854775807):IntKind.i64.wrap x=x:=IntWalk.i64_in _ ⟨c,a⟩
theorem ZEu (sl:Nat->SV) (a:Nat->Ob) (n:Nat) (ρ:List Nat) (t:Nat):(St.ren ⟨sl,a,n⟩ ρ).sl t=rSV ρ (sl t):=yi rfl
theorem ZDj (a:Nat->SV) (ob:Nat->Ob) (n:Nat) (ρ:List Nat) (j:Nat):(St.ren ⟨a,ob,n⟩ ρ).ob j=match ρ[j]? with|some k=>rOb ρ (ob k)|none=>.gone:=yi rfl
theorem ZHg (a:St) (ρ:List Nat):(a.ren ρ).n=ρ.length:=yi rfl
theorem Zzh (st:St):st.mats []=st:=yi rfl
theorem Zym (sl:Nat->SV) (a:Nat->Ob) (n t j:Nat) (r:List (Bool×Nat×Nat)):St.mats ⟨sl,a,n⟩ ((false,t,j)::r)=if 4096<=j then St.mats (match sl t with
  |.p ag cs=>(match cs[j - 4096]? with
   |some (.row k)=>(match a k with
    |.row e q xs d=>if d=2 then ⟨upd sl t (.p ag (cs.set (j - 4096) (.n (.sl e q xs)))),upd a k (.row e q xs 0),n⟩ else ⟨sl,a,n⟩
    |_=>⟨sl,a,n⟩)
   |_=>⟨sl,a,n⟩)
  |_=>⟨sl,a,n⟩) r else St.mats (match sl t with
  |.p ag cs=>(match cs[j]? with
   |some (.nil e q)=>if 0<q then ⟨upd sl t (.p ag (cs.set j (.row n))),upd a n (.row e q [] 2),n+1⟩ else ⟨sl,a,n⟩
   |some (.row k)=>(match a k with
    |.row e q xs _=>⟨upd sl t (.p ag (cs.set j (.c (.sl e q xs)))),upd a k (.row e q xs 0),n⟩
    |_=>⟨sl,a,n⟩)
   |_=>⟨sl,a,n⟩)
  |_=>⟨sl,a,n⟩) r:=by
 by_cases h:4096<=j
 .rw [if_pos h,St.mats,if_pos ⟨rfl,h⟩];rfl
 .rw [if_neg h,St.mats,if_neg (λe=>h e.2)];rfl
theorem ZAB (sl:Nat->SV) (a:Nat->Ob) (n k i:Nat) (r:List (Bool×Nat×Nat)):St.mats ⟨sl,a,n⟩ ((true,k,i)::r)=St.mats (match a k with
  |.box ty cs=>(match cs[i]? with
   |some (.nil e q)=>if 0<q then ⟨sl,upd (upd a k (.box ty (cs.set i (.row n)))) n (.row e q [] 2),n+1⟩ else ⟨sl,a,n⟩
   |some (.row j)=>(match a j with
    |.row e q xs _=>⟨sl,upd (upd a j (.row e q xs 0)) k (.box ty (cs.set i (.c (.sl e q xs)))),n⟩
    |_=>⟨sl,a,n⟩)
   |_=>⟨sl,a,n⟩)
  |.row e q xs d=>(if i<d then ⟨sl,upd a k (.row e q xs i),n⟩ else ⟨sl,a,n⟩)
  |_=>⟨sl,a,n⟩) r:=yi rfl
theorem nn (k:Nat):(0<=(k:Int))=True:=by simp
theorem ZH9:(true==true)=true:=yi rfl
theorem ZGn:(false==true)=false:=yi rfl
theorem ZIm:(true==false)=false:=yi rfl
theorem ZGw:(false==false)=true:=yi rfl
attribute [go_sem] Zv1 Zga Zl7 Zzh Zym ZAB nn ZH9 ZGn ZIm ZGw ZEu ZDj ZHg rSV rAV rOb ZqH
end
section
open Go.RowKit
def chk {α:Type}(c:Prop) [Decidable c] (x:Option α):Option α:=if c then x else none
def atI {α:Type}(l:List α) (i:Int):Option α:=if 0<=i then l[i.toNat]? else none
def Zm {α σ ρ:Type}(body:Nat->α->σ->Option (σ ⊕ ρ)) (fin:σ->Option ρ):List α->Nat->σ->Option ρ
 | [],_,s=>fin s
 |x::l,i,s=>match body i x s with
  |none=>none
  |some (.inl s')=>Zm body fin l (i+1) s'
  |some (.inr r)=>some r
def ZdC {σ ρ:Type}(body:σ->Option (σ ⊕ ρ)):Nat->σ->Option ρ
 |0,_=>none
 |n+1,s=>match body s with
  |none=>none
  |some (.inl s')=>ZdC body n s'
  |some (.inr r)=>some r
open Classical in
noncomputable def Ys {σ ρ:Type} (body:σ->Option (σ ⊕ ρ)) (s:σ):Option ρ:=if h:∃n,(ZdC body n s).isSome=true then ZdC body (Classical.choose h) s else none
section
variable {α β σ ρ:Type} {r:ρ}
theorem Zjr {body:σ->Option (σ ⊕ ρ)}:∀{n:Nat}(m:Nat) {s:σ}{r:ρ},ZdC body n s=some r->ZdC body (n+m) s=some r
 |0,_,_,_,h=>by simp [ZdC]at h
 |n+1,m,s,r,h=>by
  rw [show n+1+m=n+m+1 by omega];simp only[ZdC]at h ⊢;cases e:body s with
  |none=>rw [e]at h;simp at h
  |some y=>
   rw [e]at h;cases y with
   |inl s'=>exact Zjr m h
   |inr r'=>exact h
theorem ZjT {body:σ->Option (σ ⊕ ρ)}{s:σ}{r:ρ}:Ys body s=some r↔∃n,ZdC body n s=some r:=by
 constructor
 .intro h;unfold Ys at h;split at h
  .exact ⟨_,h⟩
  .simp at h
 .rintro ⟨n,c⟩;have a:∃n,(ZdC body n s).isSome=true:=⟨n,by simp [c]⟩
  unfold Ys;rw [dif_pos a];have h2:=Classical.choose_spec a;obtain ⟨d,b⟩:=Option.isSome_iff_exists.1 h2;rw [b];have a1:=Zjr n b;have a2:=Zjr (Classical.choose a) c;rw [Nat.add_comm]at a2;rw [a1]at a2;exact a2
theorem Zj3 (body:σ->Option (σ ⊕ ρ)) (s:σ):Ys body s=match body s with
  |none=>none
  |some (.inl s')=>Ys body s'
  |some (.inr r)=>some r:=by
 apply Option.ext;intro r;rw [ZjT];constructor
 .rintro ⟨n,a⟩;cases n with
  |zero=>simp [ZdC]at a
  |succ n=>
   simp only[ZdC]at a;cases e:body s with
   |none=>rw [e]at a;simp at a
   |some y=>
    rw [e]at a;cases y with
    |inl s'=>exact ZjT.2 ⟨n,a⟩
    |inr r'=>exact a
 .intro h;cases e:body s with
  |none=>rw [e]at h;simp at h
  |some y=>
   rw [e]at h;cases y with
   |inl s'=>
    obtain ⟨n,a⟩:=ZjT.1 h;exact ⟨n+1,by simp only[ZdC,e];exact a⟩
   |inr r'=>exact ⟨1,by simp only[ZdC,e];exact h⟩
theorem Zq {c:Prop}[Decidable c] {x:Option α}{r:α}(h:chk c x=some r):c/\x=some r:=by
 unfold chk at h;split at h
 .rename_i a;exact ⟨a,h⟩
 .simp at h
theorem Zi {c:Prop}[Decidable c] (x:Option α) (h:c):chk c x=x:=if_pos h
theorem Zb {α β:Type}{o:Option α}{f:α->Option β}{r:β}{G:Prop}(h:o.bind f=some r) (k:∀v,o=some v->f v=some r->G):G:=by
 cases o with
 |none=>simp at h
 |some v=>exact k v rfl h
theorem ZE {o:Option α}{f:α->Option β}{r:β}(h:o.bind f=some r):∃x,o=some x/\f x=some r:=by
 cases o with
 |none=>simp at h
 |some x=>exact ⟨x,rfl,h⟩
theorem ZaV {l:List α}{i:Int}{f:α->Option β}{r:β}(h:(atI l i).bind f=some r):∃x,0<=i/\i<(l.length:Int)/\l[i.toNat]?=some x/\f x=some r:=by
 unfold atI at h;split at h
 .rename_i c;obtain ⟨x,a,d⟩:=ZE h;obtain ⟨j,_⟩:=A9.1 a;exact ⟨x,c,yE,a,d⟩
 .simp at h
theorem Ze {G:Prop}{b:Bool}{x y:Option α}{r:α}(h:(if b=true then x else y)=some r) (c:b=true->x=some r->G) (a:b=false->y=some r->G):G:=by
 cases b with
 |true=>exact c rfl (by simpa using h)
 |false=>exact a rfl (by simpa using h)
theorem Zn {y:σ ⊕ ρ}{v r:ρ}(h:some (.inr v)=some y) (a:y=.inr r\/∃s,y=.inl s):some v=some r:=by
 obtain rfl:=AO h;rcases a with h|⟨_,h⟩
 .rw [Sum.inr.inj h]
 .cases h
end
section
variable {od:OD} {tt:Nat->Option TI} {S:Ctx}
def ZCR {σ ρ:Type}(I:σ->St->Prop) (y:σ ⊕ ρ) (st:St):Prop:=∃s' ms ρk,y=.inl s'/\ρk.Nodup/\I s' ((st.mats ms).ren ρk)
theorem Yr {σ ρ:Type}{b:Code}{Q:Ex->St->Prop}{st:St}{body:σ->Option (σ ⊕ ρ)}{o:σ}{r:ρ}(h:Ys body o=some r) (I:σ->St->Prop) (j:List (Bool×Nat×Nat)) (ρk:List Nat) (hρ:ρk.Nodup) (D:I o ((st.mats j).ren ρk))
  (c:∀s st y,I s st->WF st->body s=some y->(y=.inr r\/∃v,y=.inl v)->swp tt S od b (ZgI (ZCR I y) Q) st):swp tt S od (.loop b) Q st:=by
 obtain ⟨n,d⟩:=ZjT.1 h;have q:∀n s st,ZdC body n s=some r->(∃j ρk,ρk.Nodup/\I s ((st.mats j).ren ρk))->ZlL (swp tt S od b) Q n st:=by
  intro n;induction n with
  |zero=>intro s st h;simp [ZdC]at h
  |succ n ih=>
   rintro s st d ⟨j,ρk,C,A⟩;refine ⟨j,ρk,C,λw=>?_⟩;simp only[ZdC]at d;split at d
   .simp at d
   .rename_i v e;refine ZaP b _ _ _ (λu m i=>?_) (c s _ _ A w e (.inr ⟨_,rfl⟩));cases u with
    |normal=>
     obtain ⟨B,a,ρ',t,z,x⟩:=i;obtain rfl:=Ae t;exact ih _ m d ⟨a,ρ',z,x⟩
    |exit _=>exact i
    |ret=>exact i
   .rename_i E e;obtain rfl:=AO d;refine ZaP b _ _ _ (λu m i=>?_) (c s _ _ A w e (.inl rfl));cases u with
    |normal=>
     obtain ⟨B,a,ρ',t,z,x⟩:=i;cases t
    |exit _=>exact i
    |ret=>exact i
 exact ⟨n,q n o st d ⟨j,ρk,hρ,D⟩⟩
theorem Zh {α σ ρ:Type}{b:Code}{Q:Ex->St->Prop}{st:St}{body:Nat->α->σ->Option (σ ⊕ ρ)}{fin:σ->Option ρ}{l:List α}{v:σ}{r:ρ}(h:Zm body fin l 0 v=some r) (I:Nat->σ->St->Prop) (t:List (Bool×Nat×Nat)) (ρk:List Nat) (hρ:ρk.Nodup) (J:I 0 v ((st.mats t).ren ρk))
  (m:∀i x s st y,l[i]?=some x->I i s st->WF st->body i x s=some y->(y=.inr r\/∃C,y=.inl C)->swp tt S od b (ZgI (ZCR (I (i+1)) y) Q) st)
  (a:∀s st,I l.length s st->WF st->fin s=some r->swp tt S od b (ZgI (λ_=>False) Q) st):swp tt S od (.loop b) Q st:=by
 have w:∀n i s st,l.length - i<n->i<=l.length->Zm body fin (l.drop i) i s=some r->(∃t ρk,ρk.Nodup/\I i s ((st.mats t).ren ρk))->ZlL (swp tt S od b) Q n st:=by
  intro n;induction n with
  |zero=>intro i s st h;omega
  |succ n ih=>
   rintro i s st L M o ⟨t,ρk,H,B⟩;refine ⟨t,ρk,H,λz=>?_⟩;by_cases c:i<l.length
   .have D:l[i]?=some l[i]:=AR c;rw [List.drop_eq_getElem_cons c]at o;simp only[Zm]at o;split at o
    .simp at o
    .rename_i C e;refine ZaP b _ _ _ (λu q j=>?_) (m i _ s _ _ D B z e (.inr ⟨_,rfl⟩));cases u with
     |normal=>
      obtain ⟨G,d,ρ',A,F,E⟩:=j;obtain rfl:=Ae A;exact ih (i+1) _ q yE yE o ⟨d,ρ',F,E⟩
     |exit _=>exact j
     |ret=>exact j
    .rename_i K e;obtain rfl:=AO o;refine ZaP b _ _ _ (λu q j=>?_) (m i _ s _ _ D B z e (.inl rfl));cases u with
     |normal=>
      obtain ⟨G,d,ρ',A,F,E⟩:=j;cases A
     |exit _=>exact j
     |ret=>exact j
   .obtain rfl:i=l.length:=by omega
    rw [List.drop_length]at o;refine ZaP b _ _ _ (λu q j=>?_) (a s _ B z o);cases u with
    |normal=>exact j.elim
    |exit _=>exact j
    |ret=>exact j
 exact ⟨l.length+1,w _ 0 v st yE yE (by simpa using h) ⟨t,ρk,hρ,J⟩⟩
theorem Za {f:FuncId}{c:Nat}{d:Option Nat}{K:St->Prop}{j:St}{i:List SV}{l:List (Bool×List CT)}{a:List RT}(k:S.r f l a) (h:(!ZdD a||i.all Zia)=true/\(ZD c a).2.2<=c+16/\K ((j.put d (QH (ZD c a).1)).app (ZD c a).2.1)):Zs2 S f c d K j i l:=⟨a,k,h.1,h.2.1,h.2.2⟩
theorem Zkx {f:FuncId}{c:Nat}{d:Option Nat}{K:St->Prop}{h:St}{i:List SV}{l:List (Bool×List CT)}{a:List RT}(k:S.r f l a) (j:(ZD c a).2.2<=c+16/\K ((h.put d (QH (ZD c a).1)).app (ZM h (ZL i)++(ZD c a).2.1))):ZBO S f c d K h i l:=⟨a,k,j.1,j.2⟩
theorem ZHv {f:FuncId}{a:Nat}{d:Option Nat}{K:St->Prop}{h:St}{i:List SV}{l:List (Bool×List CT)}{t:Nat}{j:List CT}(k:S.b f l (.box t j)) (m:K ((h.put d (.bp a 0)).app (ZM h (ZL i)++[(a,.box t (j.map .c))]))):ZBJ S f a d K h i l:=⟨_,k,m⟩
theorem ZDp {f:FuncId}{a:Nat}{d:Option Nat}{K:St->Prop}{c:St}{h:List SV}{l:List (Bool×List CT)}{k i:PK}{j:List (Value×Value)}(m:S.b f l (.map k i j)) (o:K ((c.put d (.p false [.row a])).app (ZM c (ZL h)++[(a,.map k i j)]))):ZBJ S f a d K c h l:=⟨_,m,o⟩
theorem ZnB {f:FuncId}{c:Nat}{d:Option Nat}{K:St->Prop}{m:St}{k:List SV}{h:Nat×Nat×List (Bool×CT)×List Nat}{j:Option (Bool×List (Bool×CT))×List Nat}{l:List (Bool×List CT)}{b:List RT}{a:List (Bool×CT)}(q:S.o f h.2.1 h.2.2.1 j.1 l b a) (i:(h.2.2.2++j.2).Nodup/\(ZL k).all (ZiY (h.2.2.2++j.2))=true/\(ZD c b).2.2=c/\(ZI c a).2.2<=c+16/\K ((m.put d (QH (ZD c b).1)).app (ZM m (ZL k)++(Yk (h.2.2.2++j.2)++((h.1,.box h.2.1 (ZI c a).1)::(ZI c a).2.1))))):ZvP S f c d K m k h j l:=⟨b,a,q,i.1,i.2.1,i.2.2.1,i.2.2.2.1,i.2.2.2.2⟩
theorem Zan {f:FuncId}{c:Nat}{d:Option Nat}{K:St->Prop}{m:St}{k:List SV}{i:Nat×Zhs}{l:List (Bool×List CT)}{a:List RT}{q:Zhs}(s:S.h f i.2 l a q) (o:(ZL k).all (λj=>j != i.1)=true/\(ZD c a).2.2<=c+16/\K ((m.put d (QH (ZD c a).1)).app (ZM m (ZL k)++((i.1,XY q)::(ZD c a).2.1)))):ZAq S f c d K m k i l:=⟨a,q,s,o.1,o.2.1,o.2.2⟩
end
def sts:List (Nat×SV)->St->Prop
 | [],_=>True
 |p::r,st=>st.sl p.1=p.2/\sts r st
def obs:List Ob->Nat->St->Prop
 | [],k,st=>st.n=k
 |o::r,k,st=>st.ob k=o/\obs r (k+1) st
def IV (s:List (Nat×SV)) (o:List Ob) (st:St):Prop:=sts s st/\obs o 0 st
theorem ZA7 (a:St):sts [] a=True:=yi rfl
theorem ZAW (a:St) (t:Nat) (v:SV) (r:List (Nat×SV)):sts ((t,v)::r) a=(a.sl t=v/\sts r a):=yi rfl
theorem ZBf (a:St) (k:Nat):obs [] k a=(a.n=k):=yi rfl
theorem ZAX (a:St) (o:Ob) (k:Nat) (r:List Ob):obs (o::r) k a=(a.ob k=o/\obs r (k+1) a):=yi rfl
attribute [go_sem] IV ZAW ZA7 ZAX ZBf
theorem Zcp {α:Type}{g:α->List CT}(h:∀x,(g x).all CT.flat=true) (l:List α):Zby (l.map g)=true:=by
 simp only[Zby,List.all_map,List.all_eq_true];exact λx _=>h x
def ZB (s:ByteArray):List CT:=[.str s]
def ZH (n:Int):List CT:=[.int .i64 n]
def ZgK (b:Bool):List CT:=[.bool b]
def Zfx (n:Int):List CT:=[.int .u8 n]
theorem Zry (s:ByteArray):ZB s=[.str s]:=yi rfl
theorem ZBL (n:Int):ZH n=[.int .i64 n]:=yi rfl
theorem ZAb (b:Bool):ZgK b=[.bool b]:=yi rfl
theorem Zum (n:Int):Zfx n=[.int .u8 n]:=yi rfl
theorem Zyj (l:List ByteArray):Zby (l.map ZB)=true:=Zcp (λ_=>rfl) l
theorem Zp4 (l:List Int):Zby (l.map ZH)=true:=Zcp (λ_=>rfl) l
theorem Zux (l:List Bool):Zby (l.map ZgK)=true:=Zcp (λ_=>rfl) l
theorem ZuE (l:List Int):Zby (l.map Zfx)=true:=Zcp (λ_=>rfl) l
theorem ZqO {s:ByteArray}{i:Nat}{x:UInt8}(h:s.data.toList[i]?=some x):s[i]?=some x:=by
 obtain ⟨d,c⟩:=A9.1 h;have a:i<s.size:=by rw [AP];simpa using d
 rw [getElem?_pos s i a,<-c];rfl
theorem Zc (s:ByteArray):s.data.toList.length=s.size:=by rw [AP,AF]
theorem Zj {i n:Nat}(h:i<n) (a:n<=9223372036854775807):IntKind.i64.wrap ((i:Int)+1)=((i+1:Nat):Int):=by
 rw [Y2 yE yE];omega
theorem Zz {α:Type}{l:List α}{i:Nat}{x:α}(h:l[i]?=some x):decide ((i:Int)<(l.length:Int))=true:=by
 obtain ⟨a,_⟩:=A9.1 h;exact decide_eq_true yE
theorem ZC {α:Type}{l:List α}{i:Nat}{x:α}(h:l[i]?=some x):(i:Int)<(l.length:Int):=of_decide_eq_true (Zz h)
theorem ZA {α:Type}{l:List α}{i:Nat}{x:α}(h:l[i]?=some x):i<l.length:=(A9.1 h).1
theorem Zx (n:Nat):decide ((n:Int)<(n:Int))=false:=decide_eq_false yE
def sAt (s:ByteArray) (i:Int):Option UInt8:=if 0<=i then s[i.toNat]? else none
theorem Ztg {β:Type}{s:ByteArray}{i:Int}{f:UInt8->Option β}{r:β}(h:(sAt s i).bind f=some r):∃x,0<=i/\s[i.toNat]?=some x/\f x=some r:=by
 unfold sAt at h;split at h
 .rename_i a;obtain ⟨x,d,c⟩:=ZE h;exact ⟨x,a,d,c⟩
 .simp at h
theorem ZvR {s:ByteArray}{i:Nat}{x:UInt8}(h:s.data.toList[i]?=some x):i<s.size:=by
 have:=ZA h
 rwa [Zc]at this
theorem ZzJ {s:ByteArray}{i:Nat}{x:UInt8}(h:s.data.toList[i]?=some x):decide ((i:Int)<(s.size:Int))=true:=by
 have:=ZvR h;exact decide_eq_true yE
theorem Zib:∀{a:List AV}{j:Nat}{x:AV},ZAU a->a[j]?=some x->avD x
 | [],_,_,_,h=>by simp at h
 |_::_,0,_,h,e=>by simp at e;subst e;exact h.1
 |_::_,j+1,_,h,e=>Zib h.2 (by simpa using e)
theorem Zws:∀{a:List CT}{j:Nat}{x:CT},ctsD a->a[j]?=some x->ctD x
 | [],_,_,_,h=>by simp at h
 |_::_,0,_,h,e=>by simp at e;subst e;exact h.1
 |_::_,j+1,_,h,e=>Zws h.2 (by simpa using e)
section
variable {α:Type} {st:St} {t k j e m:Nat} {a:Bool} {d:Nat} {cs:List AV} {g:α->List CT} {l:List α} {s:ByteArray}
theorem WF.slotL (i:WF st) (h:st.sl t=.p a cs) (d:cs[j]?=some (.c (.sl e m (A5 g l)))):l.length<=9223372036854775807:=by
 have:=(Zib (i.sl _ _ _ h) d).1;simpa only [A6]using this
theorem WF.slotD (i:WF st) (h:st.sl t=.p a cs) (d:cs[j]?=some (.c (.sl e m (A5 g l)))):essD (A5 g l):=(Zib (i.sl _ _ _ h) d).2
theorem WF.slotS (i:WF st) (h:st.sl t=.p a cs) (d:cs[j]?=some (.c (.str s))):s.size<=9223372036854775807:=Zib (i.sl _ _ _ h) d
theorem WF.boxL (d:WF st) (h:st.ob k=.box t cs) (a:cs[j]?=some (.c (.sl e m (A5 g l)))):l.length<=9223372036854775807:=by
 have:=(Zib (d.box _ _ _ h) a).1;simpa only [A6]using this
theorem WF.boxD (d:WF st) (h:st.ob k=.box t cs) (a:cs[j]?=some (.c (.sl e m (A5 g l)))):essD (A5 g l):=(Zib (d.box _ _ _ h) a).2
theorem WF.rowL (a:WF st) (h:st.ob k=.row e m (A5 g l) d):l.length<=9223372036854775807:=by
 have:=(a.row _ _ _ _ _ h).1;simpa only [A6]using this
theorem WF.elL {β:Type}{k:β->List CT}{a:List β}{i:Nat}{x:α}(h:essD (A5 g l)) (c:l[i]?=some x) (d:(g x)[j]?=some (.sl e m (A5 k a))):a.length<=9223372036854775807:=by
 have:=(Zws (Zwc h c) d).1;simpa only [A6]using this
end
/- maps of plain keys, as lists of pairs -/
def eSB (p:ByteArray×Bool):Value×Value:=(.string p.1,.bool p.2)
def eSS (p:ByteArray×ByteArray):Value×Value:=(.string p.1,.string p.2)
def eIB (p:Int×Bool):Value×Value:=(.int .i64 p.1,.bool p.2)
def ZdK {α β:Type}[DecidableEq α]:List (α×β)->α->Option β
 | [],_=>none
 |p::r,k=>if k=p.1 then some p.2 else ZdK r k
def Zc8 {α β:Type}[DecidableEq α]:List (α×β)->α->β->List (α×β)
 | [],k,v=>[(k,v)]
 |p::r,k,v=>if k=p.1 then (k,v)::r else p::Zc8 r k v
def XU {α β:Type}[DecidableEq α] (l:List (α×β)) (k:α) (z:β):β:=(ZdK l k).getD z
def Zyu {α β:Type}[DecidableEq α] (l:List (α×β)) (k:α):Bool:=(ZdK l k).isSome
section
variable {α β:Type} [DecidableEq α] {e:α×β->Value×Value} {fk:α->Value} {fv:β->Value}
theorem Zeq (d:∀p,e p=(fk p.1,fv p.2)) (c:∀a b,vEq (fk a) (fk b)=decide (a=b)):∀(l:List (α×β)) (k:α),Zmg (l.map e) (fk k)=(ZdK l k).map fv
 | [],_=>rfl
 |p::r,k=>by
  simp only[AA,Zmg,ZdK,d,c,decide_eq_true_eq];split
  .rfl
  .exact Zeq d c r k
theorem Zkk (c:∀p,e p=(fk p.1,fv p.2)) (d:∀a b,vEq (fk a) (fk b)=decide (a=b)) (v:β):∀(l:List (α×β)) (k:α),ZfU (l.map e) (fk k) (fv v)=(Zc8 l k v).map e
 | [],k=>by simp [ZfU,Zc8,c]
 |p::r,k=>by
  simp only[AA,ZfU,Zc8,c,d,decide_eq_true_eq];split
  .simp [c]
  .rw [Zkk c d v r k];simp [c]
end
theorem ZpT (a b:ByteArray):vEq (.string a) (.string b)=decide (a=b):=rfl
theorem Zzd (a b:Int):vEq (.int .i64 a) (.int .i64 b)=decide (a=b):=by simp [vEq,BEq.beq]
theorem ZBV (l:List (ByteArray×Bool)) (k:ByteArray):ZbV (l.map eSB) (.string k) (.c (.bool false))=.c (.bool (XU l k false)):=by
 simp only[ZbV,Zeq (e:=eSB) (fk:=.string) (fv:=.bool) (λ_=>rfl) ZpT,XU];cases ZdK l k<;>rfl
theorem ZBx (l:List (ByteArray×ByteArray)) (k:ByteArray):ZbV (l.map eSS) (.string k) (.c (.str ⟨#[]⟩))=.c (.str (XU l k ⟨#[]⟩)):=by
 simp only[ZbV,Zeq (e:=eSS) (fk:=.string) (fv:=.string) (λ_=>rfl) ZpT,XU];cases ZdK l k<;>rfl
theorem ZCC (l:List (Int×Bool)) (k:Int):ZbV (l.map eIB) (.int .i64 k) (.c (.bool false))=.c (.bool (XU l k false)):=by
 simp only[ZbV,Zeq (e:=eIB) (fk:=.int .i64) (fv:=.bool) (λ_=>rfl) Zzd,XU];cases ZdK l k<;>rfl
theorem ZFI (l:List (ByteArray×Bool)) (k:ByteArray):Zfr (l.map eSB) (.string k)=Zyu l k:=by
 simp only[Zfr,Zeq (e:=eSB) (fk:=.string) (fv:=.bool) (λ_=>rfl) ZpT,Zyu];cases ZdK l k<;>rfl
theorem ZDs (l:List (ByteArray×ByteArray)) (k:ByteArray):Zfr (l.map eSS) (.string k)=Zyu l k:=by
 simp only[Zfr,Zeq (e:=eSS) (fk:=.string) (fv:=.string) (λ_=>rfl) ZpT,Zyu];cases ZdK l k<;>rfl
theorem ZDy (l:List (Int×Bool)) (k:Int):Zfr (l.map eIB) (.int .i64 k)=Zyu l k:=by
 simp only[Zfr,Zeq (e:=eIB) (fk:=.int .i64) (fv:=.bool) (λ_=>rfl) Zzd,Zyu];cases ZdK l k<;>rfl
theorem ZFb (l:List (ByteArray×Bool)) (k:ByteArray) (v:Bool):ZfU (l.map eSB) (.string k) (.bool v)=(Zc8 l k v).map eSB:=Zkk (fk:=.string) (fv:=.bool) (λ_=>rfl) ZpT v l k
theorem ZDP (l:List (ByteArray×ByteArray)) (k v:ByteArray):ZfU (l.map eSS) (.string k) (.string v)=(Zc8 l k v).map eSS:=Zkk (fk:=.string) (fv:=.string) (λ_=>rfl) ZpT v l k
theorem ZC8 (l:List (Int×Bool)) (k:Int) (v:Bool):ZfU (l.map eIB) (.int .i64 k) (.bool v)=(Zc8 l k v).map eIB:=Zkk (fk:=.int .i64) (fv:=.bool) (λ_=>rfl) Zzd v l k
theorem ZnM:∀l:List Int,Zff (l.map Zfx)=some l
 | []=>rfl
 |n::r=>by simp only[AA,Zum,Zff,ZnM r,AH]
theorem ZlT (a:St):∀l:List CT,ZT a (l.map ZlN)=some (l.map λc=>(false,[c]))
 | []=>rfl
 |c::r=>by
  have h:=ZlT a r;simp only[AA,ZT,h,ZlN,ZdE,YQ,Zck,Ac,AH]
theorem ZIr:((0:Nat):Int)=0:=yi rfl
attribute [go_sem] ZlT ZBV ZBx ZCC ZFI ZDs ZDy ZFb ZDP ZC8 ZnM ZIr ZEN List.map_replicate Zry ZBL ZAb Zum Zyj Zp4 Zux ZuE List.map_append List.getElem?_map List.map_set List.map_take List.map_drop AK List.length_set Ad
end
def toL (s:ByteArray):List UInt8:=s.data.toList
def ofL (l:List UInt8):ByteArray:=⟨l.toArray⟩
theorem Zks (s:ByteArray):ofL (toL s)=s:=by cases s;simp [ofL,toL]
theorem ZcT (l:List UInt8):toL (ofL l)=l:=by simp [ofL,toL]
def ZfA (l:List ByteArray):List ByteArray:=((l.map toL).mergeSort λx y=>decide (x<=y)).map ofL
def Zly (l:List Int):List Int:=l.mergeSort λx y=>decide (x<=y)
def ZcJ (l:List ByteArray):Option (List ByteArray):=chk (l.length<=4611686018427387903) (some (ZfA l))
def Zgl (l:List Int):Option (List Int):=chk (l.length<=4611686018427387903) (some (Zly l))
section
section
variable {α σ ρ:Type} {body:Nat->α->σ->Option (σ ⊕ ρ)} {fin:σ->Option ρ}
theorem Znv (i:Nat) (s:σ):Zm body fin [] i s=fin s:=rfl
theorem ZQ {x:α}{l:List α}{i:Nat}{s s':σ}(h:body i x s=some (.inl s')):Zm body fin (x::l) i s=Zm body fin l (i+1) s':=by simp only[Zm,h]
theorem Z4 {x:α}{l:List α}{i:Nat}{s:σ}{r:ρ}(h:body i x s=some (.inr r)):Zm body fin (x::l) i s=some r:=by simp only[Zm,h]
theorem Z1 {p:α->Bool}{r:ρ}:∀{l:List α}{i:Nat}{s:σ},(∀i x,x∈l->body i x s=some (bif p x then .inl s else .inr r))->Zm body fin l i s=if l.all p=true then fin s else some r
 | [],_,_,_=>by simp [Zm]
 |x::l,i,s,h=>by
  have hx:=h i x yG;by_cases a:p x=true
  .rw [a,cond_true]at hx;rw [ZQ hx,Z1 λj y c=>h j y (by simp [c])];simp [a]
  .rw [eq_false_of_ne_true a,cond_false]at hx;rw [Z4 hx];simp [a]
theorem Zbf {p:α->Bool}{r:ρ}:∀{l:List α}{i:Nat}{s:σ},(∀i x,x∈l->body i x s=some (bif p x then .inr r else .inl s))->Zm body fin l i s=if l.any p=true then some r else fin s
 | [],_,_,_=>by simp [Zm]
 |x::l,i,s,h=>by
  have hx:=h i x yG;by_cases a:p x=true
  .rw [a,cond_true]at hx;rw [Z4 hx];simp [a]
  .rw [eq_false_of_ne_true a,cond_false]at hx;rw [ZQ hx,Zbf λj y c=>h j y (by simp [c])];simp [a]
theorem YZ {f:σ->α->σ}(I:Nat->σ->Prop):∀{l:List α}{i:Nat}{s:σ},I i s->(∀j x s,x∈l->i<=j->j<i+l.length->I j s->body j x s=some (.inl (f s x))/\I (j+1) (f s x))->Zm body fin l i s=fin (l.foldl f s)
 | [],_,_,_,_=>rfl
 |x::l,i,s,h0,h=>by
  obtain ⟨k,d⟩:=h i x s yG yE yG h0;rw [ZQ k,YZ I d λj y s a m c=>h j y s (by simp [a]) yE (by simp at c ⊢;omega)];rfl
theorem Zeh {f:σ->α->σ}{l:List α}{i:Nat}{s:σ}(h:∀j x s,x∈l->body j x s=some (.inl (f s x))):Zm body fin l i s=fin (l.foldl f s):=
 YZ (λ_ _=>True) trivial λj x s a _ _ _=>⟨h j x s a,trivial⟩
theorem Za9 (g:List α->Nat->σ->Option ρ) (I:List α->Nat->σ->Prop) (k:∀i s,I [] i s->fin s=g [] i s)
  (j:∀x l i s,I (x::l) i s->(∃a,body i x s=some (.inl a)/\I l (i+1) a/\g (x::l) i s=g l (i+1) a)\/(∃r,body i x s=some (.inr r)/\g (x::l) i s=some r)):∀(l:List α) (i:Nat) (s:σ),I l i s->Zm body fin l i s=g l i s
 | [],i,s,h=>k i s h
 |x::l,i,s,h=>by
  rcases j x l i s h with ⟨a,d,c,m⟩|⟨r,d,c⟩
  .rw [ZQ d,Za9 g I k j l (i+1) a c,m]
  .rw [Z4 d,c]
end
def QG {α:Type}(p:Nat->α->Bool):List α->Nat->Bool
 | [],_=>true
 |x::l,i=>p i x&&QG p l (i+1)
theorem Zij {α:Type}{p:Nat->α->Bool}:∀{l:List α}{i:Nat},QG p l i=true->∀j x,l[j]?=some x->p (i+j) x=true
 | [],_,_,j,x,hx=>by simp at hx
 |y::l,i,h,0,x,hx=>by simp only[QG,Ag]at h;simp at hx;subst hx;exact h.1
 |y::l,i,h,j+1,x,hx=>by
  simp only[QG,Ag]at h;have:=Zij h.2 j x (by simpa using hx)
  rwa [show i+(j+1)=i+1+j by omega]
section
variable {α σ ρ:Type} {body:Nat->α->σ->Option (σ ⊕ ρ)} {fin:σ->Option ρ}
theorem Xf {p:Nat->α->Bool}{r:ρ}:∀{l:List α}{i:Nat}{s:σ},(∀j x,l[j]?=some x->body (i+j) x s=some (bif p (i+j) x then .inl s else .inr r))->Zm body fin l i s=if QG p l i=true then fin s else some r
 | [],_,_,_=>by simp [Zm,QG]
 |x::l,i,s,h=>by
  have hx:=h 0 x yG;simp only[Nat.add_zero]at hx;by_cases a:p i x=true
  .rw [a,cond_true]at hx;rw [ZQ hx,Xf λj y c=>by have:=h (j+1) y (by simpa using c);rwa [show i+(j+1)=i+1+j by omega]at this]
   simp [QG,a]
  .rw [eq_false_of_ne_true a,cond_false]at hx;rw [Z4 hx];simp [QG,a]
theorem YL {β:Type}{g:α->Option β}{fin:List β->Option ρ}{body:Nat->α->List β->Option (List β ⊕ ρ)}:∀{l:List α}{i:Nat}{a:List β},(∀j x s,x∈l->s.length+1<=a.length+l.length->body j x s=some (.inl (s++(g x).toList)))->Zm body fin l i a=fin (a++l.filterMap g)
 | [],_,a,_=>by simp [Zm]
 |x::l,i,a,h=>by
  rw [ZQ (h i x a yG yG)];rw [YL λj y s d k=>h j y s (by simp [d]) (by cases c:g x<;>simp [c]at k ⊢<;>omega)]
  congr 1
  cases c:g x<;>simp [c]
theorem QB {β:Type}{g:α->β}{fin:List β->Option ρ}{body:Nat->α->List β->Option (List β ⊕ ρ)}{l:List α}{i:Nat}{a:List β}(h:∀j x s,x∈l->s.length+1<=a.length+l.length->body j x s=some (.inl (s++[g x]))):Zm body fin l i a=fin (a++l.map g):=by
 rw [YL (g:=λx=>some (g x)) h,List.filterMap_eq_map']
theorem Ze5 {p:α->Bool}{fin:List α->Option ρ}{body:Nat->α->List α->Option (List α ⊕ ρ)}{l:List α}{i:Nat}{a:List α}(h:∀j x s,x∈l->s.length+1<=a.length+l.length->body j x s=some (.inl (if p x=true then s++[x] else s))):Zm body fin l i a=fin (a++l.filter p):=by
 rw [YL (g:=λx=>if p x=true then some x else none) λj x s k c=>by rw [h j x s k c];split<;>simp]
 congr 2
 induction l with
 |nil=>rfl
 |cons x l ih=>
  have ih:=ih λj y s d c=>h j y s (by simp [d]) (by simp at c ⊢;omega);by_cases m:p x=true<;>simp [m,ih]
end
/- texts -/
theorem ZP {x y:ByteArray}:sEq x y=true↔x=y:=by simp [sEq]
theorem ZxM {x y:ByteArray}:sEq x y=false↔¬x=y:=by simp [sEq]
theorem Zz5 (x:ByteArray):sEq x x=true:=ZP.2 rfl
theorem Zgd {x y:ByteArray}(h:toL x=toL y):x=y:=by rw [<-Zks x,<-Zks y,h]
theorem ZdG (x:ByteArray):(toL x).length=x.size:=by rw [toL,AP,AF]
theorem Zi1:∀(a b:List UInt8),Op.bytesLess a b=true↔a<b
 | [],[]=>by simp [Op.bytesLess]
 | [],_::_=>by simp [Op.bytesLess]
 |_::_,[]=>by simp [Op.bytesLess]
 |x::a,y::b=>by
  rw [List.cons_lt_cons_iff,<-Zi1 a b];simp only[Op.bytesLess];by_cases h:x<y
  .simp [h]
  .by_cases c:x=y
   .subst c;simp [h]
   .simp [h,c]
theorem ZgC {x y:ByteArray}:sLt x y=true↔toL x<toL y:=by
 unfold sLt toL;rw [Zi1,Ah,Ah]
theorem Zjq (x:ByteArray):sLt x x=false:=by
 cases h:sLt x x with
 |false=>rfl
 |true=>exact absurd (ZgC.1 h) (List.lt_irrefl _)
theorem ZfM {x y z:ByteArray}(c:sLt x y=true) (a:sLt y z=true):sLt x z=true:=ZgC.2 (List.lt_trans (ZgC.1 c) (ZgC.1 a))
theorem Zk8 {x y:ByteArray}(a:sLt x y=true):sLt y x=false:=by
 cases h:sLt y x with
 |false=>rfl
 |true=>have:=ZfM a h;rw [Zjq]at this;simp at this
theorem ZqN {x y:ByteArray}(h:sLt x y=true):¬x=y:=λe=>by rw [e,Zjq]at h;simp at h
theorem ZfQ {x y:ByteArray}(a:sLt x y=false) (c:¬x=y):sLt y x=true:=by
 rcases Std.lt_trichotomy (toL x) (toL y) with h|h|h
 .rw [ZgC.2 h]at a;simp at a
 .exact absurd (Zgd h) c
 .exact ZgC.2 h
def Asc (l:List ByteArray):Prop:=l.Pairwise λx y=>sLt x y=true
theorem ZqU:∀{a b:List ByteArray},Asc a->Asc b->(∀x,x∈a↔x∈b)->a=b
 | [],[],_,_,_=>rfl
 | [],y::b,_,_,h=>by have:=(h y).2 yG;simp at this
 |x::a,[],_,_,h=>by have:=(h x).1 yG;simp at this
 |x::a,y::b,ha,hb,h=>by
  unfold Asc at ha hb;rw [AI]at ha hb;have c:x=y:=by
   have h1:=(h x).1 yG;have h2:=(h y).2 yG;rcases A4.1 h1 with h1|h1
   .exact h1
   .rcases A4.1 h2 with h2|h2
    .exact h2.symm
    .have:=Zk8 (ha.1 y h2);rw [hb.1 x h1]at this;simp at this
  subst c;congr 1
  refine ZqU ha.2 hb.2 λz=>?_;have hz:=h z;simp only[A4]at hz;constructor
  .intro m;rcases hz.1 (.inr m) with e|d
   .exact absurd e.symm (ZqN (ha.1 z m))
   .exact d
  .intro m;rcases hz.2 (.inr m) with e|d
   .exact absurd e.symm (ZqN (hb.1 z m))
   .exact d
def QW:List ByteArray->ByteArray->List ByteArray
 | [],s=>[s]
 |x::r,s=>if sLt x s=true then x::QW r s else if sEq x s=true then x::r else s::x::r
theorem Zj0 {y s:ByteArray}:∀{l:List ByteArray},y∈QW l s↔y=s\/y∈l
 | []=>by simp [QW]
 |x::r=>by
  simp only[QW];split
  .simp only[A4,Zj0 (l:=r)];constructor<;>(intro h;rcases h with h|h|h<;>simp [h])
  .split
   .rename_i h;have:=ZP.1 h;subst this;simp
   .simp
theorem Zg4 {s:ByteArray}:∀{l:List ByteArray},Asc l->Asc (QW l s)
 | [],_=>by simp [QW,Asc]
 |x::r,h=>by
  have h':=h;unfold Asc at h';rw [AI]at h';simp only[QW];split
  .rename_i d;refine AI.2 ⟨λy c=>?_,Zg4 h'.2⟩;rcases Zj0.1 c with rfl|c
   .exact d
   .exact h'.1 y c
  .split
   .exact h
   .rename_i d b;have a:sLt s x=true:=ZfQ (by simpa using d) (λe=>b (ZP.2 e));refine AI.2 ⟨λy c=>?_,h⟩;rcases A4.1 c with rfl|c
    .exact a
    .exact ZfM a (h'.1 y c)
theorem ZeS (s:ByteArray):∀l:List ByteArray,(QW l s).length<=l.length+1
 | []=>by simp [QW]
 |x::r=>by
  have:=ZeS s r;simp only[QW];split
  .simp;omega
  .split<;>simp
def ZV (l:List ByteArray):List ByteArray:=l.foldl QW []
theorem Qn:∀(l a:List ByteArray),Asc a->Asc (l.foldl QW a)/\(∀x,x∈l.foldl QW a↔x∈l\/x∈a)/\(l.foldl QW a).length<=l.length+a.length
 | [],a,h=>⟨h,λx=>by simp,yG⟩
 |y::l,a,h=>by
  obtain ⟨d,c,i⟩:=Qn l (QW a y) (Zg4 h);refine ⟨d,λx=>?_,?_⟩
  .rw [Ai,c x,Zj0];rw [A4];constructor
   .rintro (h|h|h)<;>simp [h]
   .rintro ((h|h)|h)<;>simp [h]
  .have:=ZeS y a;rw [Ai];simp only[Ab];omega
theorem Zdh (l:List ByteArray):Asc (ZV l):=(Qn l [] AQ).1
theorem ZW {x:ByteArray}{l:List ByteArray}:x∈ZV l↔x∈l:=by have:=(Qn l [] AQ).2.1 x;rw [ZV,this];simp
theorem Ze6 (l:List ByteArray):(ZV l).length<=l.length:=(Qn l [] AQ).2.2
theorem Zgx {a l:List ByteArray}(h:Asc a) (c:∀x,x∈a↔x∈l):a=ZV l:=ZqU h (Zdh l) λx=>by rw [c,ZW]
theorem Zos {a b:List ByteArray}(h:∀x,x∈a↔x∈b):ZV a=ZV b:=Zgx (Zdh a) λx=>by rw [ZW,h]
def YI (l:List ByteArray) (s:ByteArray):Bool:=l.any λx=>sEq x s
theorem Qz {l:List ByteArray}{s:ByteArray}:YI l s=true↔s∈l:=by
 simp only[YI,List.any_eq_true,ZP];constructor
 .rintro ⟨x,h,rfl⟩;exact h
 .exact λh=>⟨s,h,rfl⟩
/- sorting -/
theorem ZxK {x:ByteArray}{l:List ByteArray}:x∈ZfA l↔x∈l:=by
 simp only[ZfA,List.mem_map,List.mem_mergeSort];constructor
 .rintro ⟨y,⟨z,a,rfl⟩,rfl⟩;rw [Zks];exact a
 .exact λh=>⟨toL x,⟨x,h,rfl⟩,Zks x⟩
theorem ZxC (l:List ByteArray):(ZfA l).length=l.length:=by simp [ZfA]
theorem ZAc (l:List ByteArray):(ZfA l).Pairwise λx y=>sLt y x=false:=by
 unfold ZfA;rw [List.pairwise_map];have:=List.pairwise_mergeSort (le:=λx y:List UInt8=>decide (x<=y)) (λa b c h1 d=>by simp at h1 d ⊢;exact List.le_trans h1 d) (λa b=>by simp;exact List.le_total a b) (l.map toL);refine this.imp λ{a b} h=>?_;cases hh:sLt (ofL b) (ofL a) with
 |false=>rfl
 |true=>
  have h1:=ZgC.1 hh;rw [ZcT,ZcT]at h1;have d:a<=b:=by simpa using h
  exact absurd h1 (List.not_lt.2 d)
end
def swq (d:Array Nat) (i j:Nat):Array Nat:=if i<d.size/\j<d.size then Go.Sort.swp d i j else d
def Pm (d d':Array Nat):Prop:=d'.size=d.size/\d'.toList.Perm d.toList
theorem Pm.refl (d:Array Nat):Pm d d:=⟨rfl,List.Perm.refl _⟩
theorem Pm.trans {a b c:Array Nat}(h:Pm a b) (k:Pm b c):Pm a c:=⟨k.1.trans h.1,k.2.trans h.2⟩
theorem ZkY (d:Array Nat) (i j:Nat):Pm d (swq d i j):=by
 unfold swq;split
 .rename_i h;have h1:=Go.Sort.swp_permIn d 0 d.size i j (AD _) h.1 (AD _) h.2 (AC _);refine ⟨h1.1,?_⟩;have h2:=h1.2.2;have a:(Go.Sort.swp d i j).extract 0 d.size=Go.Sort.swp d i j:=by
   have:=Aj (xs:=Go.Sort.swp d i j)
   rwa [h1.1]at this
  rwa [Aj,a]at h2
 .exact Pm.refl d
def Zfn (lt : Nat -> Nat -> Bool) (a : Nat) : Nat -> Array Nat -> Array Nat
  |0, d => d
  |j + 1, d => if a < j + 1 /\ lt d[j + 1]! d[j]! = true then Zfn lt a j (swq d (j + 1) j) else d
def Zr5 (lt:Nat->Nat->Bool) (a:Nat):Nat->Nat->Array Nat->Array Nat
 |0,_,d=>d
 |k+1,i,d=>Zr5 lt a k (i+1) (Zfn lt a i d)
def Zgw (lt:Nat->Nat->Bool) (d:Array Nat) (a b:Nat):Array Nat:=Zr5 lt a (b - (a+1)) (a+1) d
def Zsm (d:Array Nat) (a b:Nat):Nat->Array Nat
 |0=>d
 |k+1=>swq (Zsm d a b k) (a+k) (b+k)
def Zre (m:Nat):Nat->Nat->Nat->Array Nat->Array Nat
 |0,_,_,d=>d
 |f+1,i,j,d=>if i=j then Zsm d (m - i) m i else if j<i then Zre m f (i - j) j (Zsm d (m - i) m j) else Zre m f i (j - i) (Zsm d (m - i) (m+j - i) i)
def ZwK (d:Array Nat) (a m b:Nat):Array Nat:=Zre m (b - a) (m - a) (b - m) d
def Zev (p:Nat->Bool):Nat->Nat->Nat->Nat
 |0,i,_=>i
 |f+1,i,j=>if i<j then if p ((i+j) / 2)=true then Zev p f ((i+j) / 2+1) j else Zev p f i ((i+j) / 2) else i
def upR (d:Array Nat) (a:Nat):Nat->Array Nat
 |0=>d
 |k+1=>swq (upR d a k) (a+k) (a+k+1)
def Zsb (d:Array Nat) (m:Nat):Nat->Array Nat
 |0=>d
 |k+1=>swq (Zsb d m k) (m - k) (m - k - 1)
def ZgT (lt:Nat->Nat->Bool) (a m b:Nat) (d:Array Nat):Nat:=Zev (λc=>!lt d[(a+b) / 2+m - 1 - c]! d[c]!) (b - a) (if (a+b) / 2<m then (a+b) / 2+m - b else a) (if (a+b) / 2<m then (a+b) / 2 else m)
def ZdB (lt:Nat->Nat->Bool):Nat->Nat->Nat->Nat->Array Nat->Array Nat
 |0,_,_,_,d=>d
 |f+1,a,m,b,d=>
  if m - a=1 then upR d a (Zev (λh=>lt d[h]! d[a]!) (b - m) m b - 1 - a)
  else if b - m=1 then Zsb d m (m - Zev (λh=>!lt d[m]! d[h]!) (m - a) a m)
  else
   let s:=ZgT lt a m b d
   let mid:=(a+b) / 2
   let e:=mid+m - s
   let c:=if s<m/\m<e then ZwK d s m e else d
   let g:=if a<s/\s<mid then ZdB lt f a s mid c else c
   if mid<e/\e<b then ZdB lt f mid e b g else g
def Zlf (lt:Nat->Nat->Bool) (n:Nat):Nat->Nat->Array Nat->Nat×Array Nat
 |0,a,d=>(a,d)
 |f+1,a,d=>if a+20<=n then Zlf lt n f (a+20) (Zgw lt d a (a+20)) else (a,d)
def ZiC (lt:Nat->Nat->Bool) (n bs:Nat):Nat->Nat->Array Nat->Nat×Array Nat
 |0,a,d=>(a,d)
 |f+1,a,d=>if a+2*bs<=n then ZiC lt n bs f (a+2*bs) (ZdB lt n a (a+bs) (a+2*bs) d) else (a,d)
def ZoT (lt:Nat->Nat->Bool) (n bs:Nat) (d:Array Nat):Array Nat:=
 if (ZiC lt n bs n 0 d).1+bs<n then ZdB lt n (ZiC lt n bs n 0 d).1 ((ZiC lt n bs n 0 d).1+bs) n (ZiC lt n bs n 0 d).2 else (ZiC lt n bs n 0 d).2
def Znq (lt:Nat->Nat->Bool) (n:Nat):Nat->Nat->Array Nat->Array Nat
 |0,_,d=>d
 |f+1,bs,d=>if bs<n then Znq lt n f (2*bs) (ZoT lt n bs d) else d
def ZhF (lt:Nat->Nat->Bool) (n:Nat) (d:Array Nat):Array Nat:=Znq lt n n 20 (Zgw lt (Zlf lt n n 0 d).2 (Zlf lt n n 0 d).1 n)
theorem Zwt (c:Nat->Nat->Bool) (a:Nat):∀(j:Nat) (d:Array Nat),Pm d (Zfn c a j d)
 |0,d=>Pm.refl d
 |j+1,d=>by
  unfold Zfn;split
  .exact (ZkY d _ _).trans (Zwt c a j _)
  .exact Pm.refl d
theorem Zmk (c:Nat->Nat->Bool) (a:Nat):∀(k i:Nat) (d:Array Nat),Pm d (Zr5 c a k i d)
 |0,_,d=>Pm.refl d
 |k+1,i,d=>(Zwt c a i d).trans (Zmk c a k (i+1) _)
theorem Zmm (d:Array Nat) (a b:Nat):∀k:Nat,Pm d (Zsm d a b k)
 |0=>Pm.refl d
 |k+1=>(Zmm d a b k).trans (ZkY _ _ _)
theorem ZrR (m:Nat):∀(f i j:Nat) (d:Array Nat),Pm d (Zre m f i j d)
 |0,_,_,d=>Pm.refl d
 |f+1,i,j,d=>by
  unfold Zre;split
  .exact Zmm _ _ _ _
  .split
   .exact (Zmm _ _ _ _).trans (ZrR m f _ _ _)
   .exact (Zmm _ _ _ _).trans (ZrR m f _ _ _)
theorem ZAz (d:Array Nat) (a:Nat):∀k:Nat,Pm d (upR d a k)
 |0=>Pm.refl d
 |k+1=>(ZAz d a k).trans (ZkY _ _ _)
theorem Ztj (d:Array Nat) (m:Nat):∀k:Nat,Pm d (Zsb d m k)
 |0=>Pm.refl d
 |k+1=>(Ztj d m k).trans (ZkY _ _ _)
theorem Zmn (c:Nat->Nat->Bool):∀(f a m b:Nat) (d:Array Nat),Pm d (ZdB c f a m b d)
 |0,_,_,_,d=>Pm.refl d
 |f+1,a,m,b,d=>by
  unfold ZdB;split
  .exact ZAz _ _ _
  .split
   .exact Ztj _ _ _
   .have k:Pm d (if ZgT c a m b d<m/\m<(a+b) / 2+m - ZgT c a m b d then ZwK d (ZgT c a m b d) m ((a+b) / 2+m - ZgT c a m b d) else d):=by
     split
     .exact ZrR _ _ _ _ _
     .exact Pm.refl d
    have j:∀i,Pm d i->Pm d (if a<ZgT c a m b d/\ZgT c a m b d<(a+b) / 2 then ZdB c f a (ZgT c a m b d) ((a+b) / 2) i else i):=λi h=>by
     split
     .exact h.trans (Zmn c f _ _ _ _)
     .exact h
    have h3:=j _ k;simp only;split
    .exact h3.trans (Zmn c f _ _ _ _)
    .exact h3
theorem Zwi (c:Nat->Nat->Bool) (n:Nat):∀(f a:Nat) (d:Array Nat),Pm d (Zlf c n f a d).2
 |0,_,d=>Pm.refl d
 |f+1,a,d=>by
  unfold Zlf;split
  .exact (Zmk c a _ _ d).trans (Zwi c n f _ _)
  .exact Pm.refl d
theorem ZrK (c:Nat->Nat->Bool) (n h:Nat):∀(f a:Nat) (d:Array Nat),Pm d (ZiC c n h f a d).2
 |0,_,d=>Pm.refl d
 |f+1,a,d=>by
  unfold ZiC;split
  .exact (Zmn c n _ _ _ d).trans (ZrK c n h f _ _)
  .exact Pm.refl d
theorem ZCo (a:Nat->Nat->Bool) (n c:Nat) (d:Array Nat):Pm d (ZoT a n c d):=by
 unfold ZoT;split
 .exact (ZrK a n c n 0 d).trans (Zmn _ _ _ _ _ _)
 .exact ZrK a n c n 0 d
theorem Zwr (a:Nat->Nat->Bool) (n:Nat):∀(f c:Nat) (d:Array Nat),Pm d (Znq a n f c d)
 |0,_,d=>Pm.refl d
 |f+1,c,d=>by
  unfold Znq;split
  .exact (ZCo a n c d).trans (Zwr a n f _ _)
  .exact Pm.refl d
theorem Zn0 (a:Nat->Nat->Bool) (n:Nat) (d:Array Nat):Pm d (ZhF a n d):=
 ((Zwi a n n 0 d).trans (Zmk a _ _ _ _)).trans (Zwr a n n 20 _)
def Zqg (v:List Int):Array Nat:=Zgw (λi j=>decide ((v[j]?).getD 0<(v[i]?).getD 0)) (Ak v.length) 0 v.length
def ZlG (v:List Int):List Int:=(Zqg v).toList.map λk=>(v[k]?).getD 0
theorem Zr7 (v:List Int):Pm (Ak v.length) (Zqg v):=Zmk _ _ _ _ _
theorem Zlc (v:List Int):(ZlG v).length=v.length:=by
 have:=(Zr7 v).1;unfold ZlG;rw [A6,AF,this,Array.size_range]
section
open Go.RowKit
structure Zd where
 rel:ByteArray
 args:List ByteArray
def Zab:Xy Zd where
 size:=2
 rep:=λw cs x L=>∃A1 a L1,cs=[.string x.rel,.slice A1 x.args.length a]/\L=L1/\x.rel.size<=9223372036854775807/\x.args.length<=a/\a<=maxLen/\Sli ZCS w A1 x.args L1
 len:=λ⟨A1,a,L1,h,hL,d,e,f,c⟩=>by simp [h]
 keep:=λ⟨A1,a,L1,h,hL,d,e,f,c⟩ hk=>⟨A1,a,L1,h,hL,d,e,f,c.keep (λb m=>hk b (by simp [hL,m]))⟩
 lt:=λ⟨A1,a,L1,h,hL,d,e,f,c⟩=>by intro b m;simp only[hL,A0]at m;exact c.lt b m
 one:=λ⟨A1,a,L1,h,hL,d,e,f,c⟩=>by simp [h,Value.oneCell']
 pos:=by omega
structure Zv where
 rel:ByteArray
 args:List ByteArray
structure Zs where
 var:ByteArray
 value:ByteArray
def ZCJ:Xy Zs where
 size:=2
 rep:=λw cs x L=>cs=[.string x.var,.string x.value]/\L=[]/\x.var.size<=9223372036854775807/\x.value.size<=9223372036854775807
 len:=λh=>by simp [h.1]
 keep:=λh _=>h
 lt:=λh=>by simp [h.2.1]
 one:=λh=>by simp [h.1,Value.oneCell']
 pos:=by omega
structure Zp where
 kind:Int
 pattern:Zv
 left:ByteArray
 right:ByteArray
structure Zw where
 kind:Int
 pattern:Zv
structure Zf where
 name:ByteArray
 priority:Int
 cond:List Zp
 thn:List Zw
structure Zt where
 facts:List Zd
 binding:List Zs
structure Xb where
 rule:ByteArray
 facts:List Zd
 binding:List Zs
structure Zr where
 fact:Zd
 time:Int
def Zaa:Xy Zr where
 size:=3
 rep:=λw cs x L=>∃A1 a L1,cs=[.string x.fact.rel,.slice A1 x.fact.args.length a,.int .i64 x.time]/\L=L1/\x.fact.rel.size<=9223372036854775807/\x.fact.args.length<=a/\a<=maxLen/\Sli ZCS w A1 x.fact.args L1
 len:=λ⟨A1,a,L1,h,hL,d,e,f,c⟩=>by simp [h]
 keep:=λ⟨A1,a,L1,h,hL,d,e,f,c⟩ hk=>⟨A1,a,L1,h,hL,d,e,f,c.keep (λb m=>hk b (by simp [hL,m]))⟩
 lt:=λ⟨A1,a,L1,h,hL,d,e,f,c⟩=>by intro b m;simp only[hL,A0]at m;exact c.lt b m
 one:=λ⟨A1,a,L1,h,hL,d,e,f,c⟩=>by simp [h,Value.oneCell']
 pos:=by omega
structure ZF where
 mtch:Xb
 priority:Int
 times:List Int
 specific:Int
 ordr:Int
def Zrm:Xy ZF where
 size:=7
 rep:=λw cs x L=>∃A1 a L1 A2 c L2 A3 d L3,cs=[.string x.mtch.rule,.slice A1 x.mtch.facts.length a,.slice A2 x.mtch.binding.length c,.int .i64 x.priority,.slice A3 x.times.length d,.int .i64 x.specific,.int .i64 x.ordr]/\L=L1++(L2++L3)/\x.mtch.rule.size<=9223372036854775807/\x.mtch.facts.length<=a/\a<=maxLen/\Sli Zab w A1 x.mtch.facts L1/\x.mtch.binding.length<=c/\c<=maxLen/\Sli ZCJ w A2 x.mtch.binding L2/\x.times.length<=d/\d<=maxLen/\Sli ZHo w A3 x.times L3
 len:=λ⟨A1,a,L1,A2,c,L2,A3,d,L3,h,hL,i,j,k,e,l,n,f,o,p,g⟩=>by simp [h]
 keep:=λ⟨A1,a,L1,A2,c,L2,A3,d,L3,h,hL,i,j,k,e,l,n,f,o,p,g⟩ hk=>⟨A1,a,L1,A2,c,L2,A3,d,L3,h,hL,i,j,k,e.keep (λb m=>hk b (by simp [hL,m])),l,n,f.keep (λb m=>hk b (by simp [hL,m])),o,p,g.keep (λb m=>hk b (by simp [hL,m]))⟩
 lt:=λ⟨A1,a,L1,A2,c,L2,A3,d,L3,h,hL,i,j,k,e,l,n,f,o,p,g⟩=>by intro b m;simp only[hL,A0]at m;rcases m with m|m|m<;>first|exact e.lt b m|exact f.lt b m|exact g.lt b m
 one:=λ⟨A1,a,L1,A2,c,L2,A3,d,L3,h,hL,i,j,k,e,l,n,f,o,p,g⟩=>by simp [h,Value.oneCell']
 pos:=by omega
structure ZK where
 rule:ByteArray
 times:List Int
structure Yp where
 kind:Int
 rule:ByteArray
 fact:Zd
structure Zo where
 rules:List Zf
 memory:List Zr
 clock:Int
 fired:List ZK
 halted:Bool
 log:List Yp
structure Zg where
 for_:Int
 inn:List Int
 outs:List Int
structure Zu where
 nodes:Int
 reasons:List Zg
structure ZEH where
 beliefs:Zu
 assumed:List Int
 bad:List Int
end
noncomputable def Zrq (n:Int):Option ByteArray:=chk (-9223372036854775808<=n/\n<=9223372036854775807) (some (ofL (Lib.itoa n)))
def ZfS (a b:ByteArray):Option Int:=some (Lib.compareBytes (toL a) (toL b))
def ZmO (s:ByteArray):Option (Int×Bool):=chk (s.size<=18) (some (match Lib.atoi (toL s) with|some n=>(n,true)|none=>(0,false)))
end Go.Proofs.YthjnneiibkknhaaGreatDoor
