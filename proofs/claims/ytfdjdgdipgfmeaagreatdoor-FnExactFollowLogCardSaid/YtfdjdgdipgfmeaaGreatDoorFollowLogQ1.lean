/- Texts of this proof, joined: Base, Own, Codec, Types, BTree, BState, BSimp, BLoop, BDec, ExtD, ExtL. What each holds is said at its theorems. -/
import Derived.WalkKit
import Derived.Lib.Hide
import Derived.Deep.Draws
import Derived.Maps.AppendAt
import Derived.Deep.QuietTactic
import Derived.BigQuiet
import Derived.IntWalk
import Derived.Lib.ItoaNum
import Derived.Lib.Bytealg
import Derived.Lib.Join
import Derived.Lib.Atoi
open Array renaming getElem?_eq_some_iff→AB,getElem?_modify→AQ,length_toList→Ag
open ByteArray renaming size→AZ
open Int renaming toNat_natCast→Az
open List renaming mem_append→A0,map→A6,getElem?_eq_some_iff→AA,getElem?_append_right→AD,map_cons→AE,mem_cons→AF,append_assoc→AH,length_map→AI,getElem?_eq_getElem→AJ,length_append→AM,getElem?_append_left→AO,nodup_cons→AP,eq_nil_of_length_eq_zero→AR,length_take→AS,length_drop→AT,drop_eq_getElem_cons→AX,nodup_append→AY,nodup_nil→Ad,size_toArray→Ae,drop_take→Ah,take_left→Ai,drop_zero→Aj,take_zero→Ak,take_append_drop→Al,set_cons_zero→An,cons_append→Ao,append_nil→Aq,map_append→Ar,singleton_append→As,sublist_append_left→At,sublist_append_right→Au,length_set→Aw,getElem?_set→Ax
open Nat renaming le_trans→A9,add_mul→AC,mul_le_mul_right→AG,le_refl→AK,lt_of_lt_of_le→AL,add_sub_cancel_left→AU,sub_mul→AW,lt_or_ge→Aa,min_eq_left→Am
open Option renaming map_some→AN,bind_some→Ay
open Option.some renaming inj→Ac
open Sum.inl renaming inj→BB
set_option linter.unusedSimpArgs false
set_option linter.unusedVariables false
set_option maxRecDepth 1000000
set_option maxHeartbeats 4000000
namespace Go.Proofs.YtfdjdgdipgfmeaaGreatDoor
open Go.IntKind
theorem yp{c:Prop}{i:Decidable c}(h:c){α}{t e:α}:ite c t e=t:=if_pos h
theorem yn{c:Prop}{i:Decidable c}(h:Not c){α}{t e:α}:ite c t e=e:=if_neg h
abbrev BYT:=ByteArray
theorem yE{p:Prop}(h:p:=by omega):p:=h
theorem yF{p:Prop}(h:p:=by decide):p:=h
theorem yG{p:Prop}(h:p:=by simp):p:=h
theorem yH{p:Prop}(h:p:=by rfl):p:=h
theorem yK{p:Prop}(h:p:=by first | (simp;done) | (simp;omega) | omega):p:=h
theorem yI{p:Prop}(h:p:=by repeat (first | refine Below.setCell ?_ (by dsimp only;omega) _ | refine Below.alloc ?_ (by first | (simp;done) | (simp;omega) | omega) _ | exact Below.refl _ _)):p:=h
theorem yi{p:Prop}(h:p):p:=h
section
open Go.RowKit
theorem Zea (b off j:Nat):(⟨b,off,none⟩:Addr).add j=⟨b,off+j,none⟩:=by
 unfold Addr.add;split<;>simp_all
def Zal (w:World) (b off:Nat) (xs:List Value):Prop:=∀j u,xs[j]?=some u->w.cell? ⟨b,off+j,none⟩=some u
def Sl (w:World) (size:Nat) (A:Option Addr) (n:Nat) (xs:List Value) (L:List Nat):Prop:=
 xs.length=n*size/\((n=0/\L=[])\/(0<n/\∃b off,A=some ⟨b,off,none⟩/\L=[b]/\Zal w b off xs))
section
variable {w w':World} {size n:Nat} {A:Option Addr} {xs:List Value} {L:List Nat}
theorem Sl.zero:Sl w size A 0 [] []:=⟨yG,.inl ⟨rfl,rfl⟩⟩
theorem Sl.at_ (h:Sl w size A n xs L) (B:0<n):∃b off,A=some ⟨b,off,none⟩/\L=[b]/\Zal w b off xs:=by
 rcases h.2 with ⟨C,_⟩|⟨_,h⟩
 .omega
 .exact h
theorem Sl.keep (h:Sl w size A n xs L) (E:∀b∈L,w'.heap[b]?=w.heap[b]?):Sl w' size A n xs L:=by
 refine ⟨h.1,?_⟩;rcases h.2 with H|⟨D,b,off,G,B,F⟩
 .exact .inl H
 .refine .inr ⟨D,b,off,G,B,fun j u C=>?_⟩;rw [<-F j u C];exact World.cell?_of_block (E b (by simp [B]))
theorem Sl.lt (h:Sl w size A n xs L) (hs:0<size):∀b∈L,b<w.heap.size:=by
 rcases h.2 with G|⟨D,b,off,H,F,E⟩
 .simp [G.2]
 .intro x B;rw [F]at B;simp at B;subst B;have C:0<xs.length:=by rw [h.1];exact Nat.mul_pos D hs
  exact World.block_lt_of_cell? w _ (E 0 _ (AJ C))
end
structure Own (w:World) (base:Nat) (L:List Nat):Prop where
 nodup:L.Nodup
 ge:∀b∈L,base<=b
 plain:∀b∈L,∃cur e,w.heap[b]?=some (.cells cur e (0,0))
theorem Own.nil (w:World) (base:Nat):Own w base []:=⟨Ad,yG,yG⟩
theorem Own.lt {w:World}{base:Nat}{L:List Nat}(h:Own w base L):∀b∈L,b<w.heap.size:=by
 intro b B;obtain ⟨C,e,A⟩:=h.plain b B;exact (AB.1 A).1
theorem Own.keep {w w':World}{base:Nat}{L:List Nat}(h:Own w base L) (B:∀b∈L,w'.heap[b]?=w.heap[b]?):Own w' base L:=
 ⟨h.nodup,h.ge,fun b A=>by rw [B b A];exact h.plain b A⟩
theorem Own.mono {w:World}{base a:Nat}{L:List Nat}(h:Own w base L) (A:a<=base):Own w a L:=
 ⟨h.nodup,fun b m=>A9 A (h.ge b m),h.plain⟩
theorem Zr {B:Nat}{w w':World}{L:List Nat}(A:Below B w w') (h:∀b∈L,b<B):∀b∈L,w'.heap[b]?=w.heap[b]?:=
 fun b m=>A.block b (h b m)
structure Y1 (L:List Nat) (w w':World):Prop where
 os:w'.os=w.os
 tape:w'.tape=w.tape
 output:w'.output=w.output
 size:w.heap.size<=w'.heap.size
 block:∀k,k<w.heap.size->k∉L->w'.heap[k]?=w.heap[k]?
theorem Y1.refl (L:List Nat) (w:World):Y1 L w w:=⟨rfl,rfl,rfl,AK _,fun _ _ _=>rfl⟩
theorem Y1.trans {L:List Nat}{a b c:World}(h:Y1 L a b) (k:Y1 L b c):Y1 L a c:=
 ⟨k.os.trans h.os,k.tape.trans h.tape,k.output.trans h.output,A9 h.size k.size,fun i hi A=>(k.block i (AL hi h.size) A).trans (h.block i hi A)⟩
theorem Y1.mono {L L':List Nat}{w w':World}(h:Y1 L w w') (B:∀b∈L,b∈L'):Y1 L' w w':=
 ⟨h.os,h.tape,h.output,h.size,fun k C A=>h.block k C (fun m=>A (B k m))⟩
theorem Y1.below {L:List Nat}{B:Nat}{w w':World}(h:Y1 L w w') (D:B<=w.heap.size) (A:∀b∈L,B<=b):Below B w w':=
 ⟨h.os,h.tape,h.output,h.size,fun k C=>h.block k yE (fun m=>by have:=A k m;omega)⟩
theorem Y1.of_below {w w':World}(h:Below w.heap.size w w') (L:List Nat):Y1 L w w':=⟨h.os,h.tape,h.output,h.size,fun k A _=>h.block k A⟩
theorem Y1.keep {L M:List Nat}{w w':World}(h:Y1 L w w') (A:∀b∈M,b<w.heap.size) (B:∀b∈M,b∉L):∀b∈M,w'.heap[b]?=w.heap[b]?:=
 fun b m=>h.block b (A b m) (B b m)
theorem Y1.setCell {L:List Nat}{a w:World}(h:Y1 L a w) {p:Addr}(A:p.block∈L) (u:Value):Y1 L a (w.setCell p u):=
 h.trans ⟨rfl,rfl,rfl,by simp [World.setCell],fun k _ B=>Below.heap_setCell _ _ _ _ (fun e=>B (by rw [e];exact A))⟩
theorem ZtG {B:Nat}{a w:World}(h:Below B a w) (n:Nat):Below B a (w.drewN n):=⟨h.os,h.tape,h.output,h.size,h.block⟩
theorem ZiA (B:Nat) (w:World) (n:Nat):Below B w (w.drewN n):=ZtG (Below.refl _ _) n
theorem Zwt (w:World) (q p:Nat):∃r,(w.drewN q).drewN p=w.drewN r:=⟨q+p,World.drewN_drewN w q p⟩
theorem ZsQ (w:World) (q:Nat):∃r,w.drewN q=w.drewN r:=⟨q,rfl⟩
theorem ZlT {w:World}{b o:Nat}{u v:Value}(h:w.cell? ⟨b,o,none⟩=some v):(w.setCell ⟨b,o,none⟩ u).cell? ⟨b,o,none⟩=some u:=by
 unfold World.cell? at h ⊢;unfold World.setCell;simp only[AQ,if_true];cases hb:w.heap[b]? with
 |none=>simp [hb]at h
 |some ob=>
  cases ob<;>simp [hb]at h ⊢
  have a:=(AB.1 h).1;simp [Array.getElem?_setIfInBounds,a]
theorem ZQ {k:IntKind}{a b:Int}(h:a=b):Ending.returned (.int k a)=.returned (.int k b):=by rw [h]
section
variable {w w':World} {n:Nat} {A:Option Addr} {zs:List Int} {L:List Nat}
end
section
variable {P:Program} {f:FuncId} {args:Array Value} {w:World} {a n:Nat} {v:Value}
end
end
end Go.Proofs.YtfdjdgdipgfmeaaGreatDoor
namespace Go.Proofs.YtfdjdgdipgfmeaaGreatDoor
open Go.RowKit
end Go.Proofs.YtfdjdgdipgfmeaaGreatDoor
namespace Go
open Go.RowKit Go.Proofs.YtfdjdgdipgfmeaaGreatDoor
def World.ownsV (w : World) (base : Nat) (e : TypeId) (size : Nat) (v : Value) (n : Nat) (xs : List Value) : Prop :=
  xs.length = n*size /\ ((v = .slice none 0 0 /\ n = 0) \/
   ∃ g o cap cur, v = .slice (some ⟨g, o, none⟩) n cap /\ base <= g /\ w.heap[g]? = some (.cells cur e (0, 0)) /\ n <= cap /\ cap <= maxLen /\ o + cap*size <= cur.size /\ (cur.toList.drop o).take (n*size) = xs)
end Go
namespace Go.Proofs.YtfdjdgdipgfmeaaGreatDoor
open Go.RowKit
section
variable {w w':World} {base:Nat} {e:TypeId} {size n:Nat} {v:Value} {xs:List Value}
theorem Zju (h:w.ownsRow base e size v n xs):w.ownsV base e size v n xs:=by
 refine ⟨h.1,?_⟩;rcases h.2 with G|⟨g,cap,a,F,E,D,C,B,H,A⟩
 .exact .inl G
 .exact .inr ⟨g,0,cap,a,F,E,D,C,B,yE,by simpa using A⟩
theorem ZgR (w:World) (base:Nat) (e:TypeId) (size:Nat):w.ownsV base e size (.slice none 0 0) 0 []:=Zju (World.ownsRow_nil _ _ _ _)
theorem Zbt (h:w.ownsV base e size v n xs):∃A c,v=.slice A n c/\n<=c/\c<=maxLen:=by
 rcases h.2 with ⟨rfl,rfl⟩|⟨g,o,cap,C,rfl,F,E,a,B,hs,D⟩
 .exact ⟨none,0,rfl,AK _,Nat.zero_le _⟩
 .exact ⟨_,cap,rfl,a,B⟩
theorem Zk2 {a:Nat}(h:w.ownsV base e size v n xs) (A:a<=base):w.ownsV a e size v n xs:=by
 refine ⟨h.1,?_⟩;rcases h.2 with E|⟨g,o,cap,b,D,C,B⟩
 .exact .inl E
 .exact .inr ⟨g,o,cap,b,D,A9 A C,B⟩
theorem ZkW (h:w.ownsV base e size v n xs):∀b∈v.ownBlock.toList,b<w.heap.size:=by
 rcases h.2 with ⟨D,_⟩|⟨g,o,cap,E,B,_,C,_⟩
 .simp [D,Value.ownBlock]
 .intro b A;simp [B,Value.ownBlock]at A;subst A;exact (AB.1 C).1
theorem Zdy (h:w.ownsV base e size v n xs) (B:∀b∈v.ownBlock.toList,w'.heap[b]?=w.heap[b]?):w'.ownsV base e size v n xs:=by
 refine ⟨h.1,?_⟩;rcases h.2 with E|⟨g,o,cap,a,A,C,D,r⟩
 .exact .inl E
 .refine .inr ⟨g,o,cap,a,A,C,?_,r⟩;rw [B g (by simp [A,Value.ownBlock])];exact D
theorem ZlW {g o n' cap:Nat}(h:w.ownsV base e size v n xs) (a:v=.slice (some ⟨g,o,none⟩) n' cap):∀j u,xs[j]?=some u->w.cell? ⟨g,o+j,none⟩=some u:=by
 intro j u A;subst a;rcases h.2 with ⟨H,_⟩|⟨K,o',C,b,B,J,G,E,I,hs,D⟩
 .simp at H
 .simp only[Value.slice.injEq,Option.some.injEq,Addr.mk.injEq,and_true,true_and]at B;obtain ⟨⟨rfl,rfl⟩,rfl,rfl⟩:=B;rw [cell_of_row w g (o+j) b e (0,0) G];rw [<-D]at A;have F:j<n' * size:=by
   have:=(AA.1 A).1;simp at this;omega
  rw [List.getElem?_take_of_lt F,List.getElem?_drop]at A;simpa using A
theorem Sl.of_ownV {c:Nat}{A:Option Addr}(h:w.ownsV base e size (.slice A n c) n xs):∃L,Sl w size A n xs L/\Own w base L/\∀b∈L,∃o,A=some ⟨b,o,none⟩:=by
 rcases h.2 with ⟨C,F⟩|⟨g,o,cap,a,C,H,G,E,J,hs,I⟩
 .subst F;exact ⟨[],⟨h.1,.inl ⟨rfl,rfl⟩⟩,Own.nil _ _,yG⟩
 .injection C with hA _ hc;subst hA;subst hc;rcases Nat.eq_zero_or_pos n with B|B
  .subst B;exact ⟨[],⟨h.1,.inl ⟨rfl,rfl⟩⟩,Own.nil _ _,yG⟩
  .refine ⟨[g],⟨h.1,.inr ⟨B,g,o,rfl,rfl,fun j u D=>ZlW h rfl j u D⟩⟩,⟨yG,by simpa using H,fun b m=>?_⟩,yG⟩;simp at m;subst m;exact ⟨a,e,G⟩
end
section
variable {P:Program} (w:World)
theorem Zlx (t ty e:TypeId) (i:TypeInfo) (A:P.underlying t=some (.slice e)) (hi:P.info? e=some i)
  (g o d f:Nat) (k:Array Value) (C:w.heap[g]?=some (.cells k e (0,0)))
  (a:Addr) (m c:Nat) (b:List Value) (B:b.length=m*i.size) (l:∀j u,b[j]?=some u->w.cell? (a.add j)=some u) (D:∀u∈b,u.oneCell'=true)
  (p:d+m<=f) (q:o+d*i.size+b.length<=k.size):
  (Builtin.append_ #[t,t] ty #[.slice (some ⟨g,o,none⟩) d f,.slice (some a) m c]).run P w=
   .ok (.slice (some ⟨g,o,none⟩) (d+m) f) (w.setRow g (k.toList.take (o+d*i.size)++b++k.toList.drop (o+d*i.size+b.length)).toArray):=by
 have hf:=run_firstCells_some (P:=P) w i.size m a m c b B l;have v:=run_storeCells_at P g (o+d*i.size) e b 0 k w C (by simpa using q) D;simp only[Nat.add_zero]at v;simp [Builtin.append_,run_underlying A,sizeOf,typeInfo,hi,Builtin.lenOf,p,hf,Addr.add_lit,v]
theorem Zh9 (base:Nat) (t ty e:TypeId) (i:TypeInfo) (z:Value) (size f:Nat) (T:P.underlying t=some (.slice e)) (hi:P.info? e=some i) (V:i.zero=some z)
  (A:i.size=size) (F:i.bytes=f) (G:z.cells.size=size) (J:0<size)
  (v:Value) (n:Nat) (xs:List Value) (d:w.ownsV base e size v n xs)
  (a:Addr) (m c:Nat) (b:List Value) (O:b.length=m*size) (l:∀j u,b[j]?=some u->w.cell? (a.add j)=some u) (h1:∀u∈b,u.oneCell'=true)
  (C:n+m<=maxLen) (q:(n+m)*f<=140737488355328) (B:base<=w.heap.size):
  ∃N w',(Builtin.append_ #[t,t] ty #[v,.slice (some a) m c]).run P w=.ok N w'/\w'.ownsV base e size N (n+m) (xs++b)/\w.grownBy w' v.ownBlock/\
   (N.ownBlock=v.ownBlock\/N.ownBlock=some w.heap.size):=by
 rcases d.2 with ⟨rfl,rfl⟩|⟨g,o,cap,y,rfl,K,W,aa,L,ab,D⟩
 .have S:xs=[]:=AR (by simpa using d.1);subst S;obtain ⟨N,w',r1,r2,r3,_,r5⟩:=run_append_own_at (P:=P) w base t ty e i z size f T hi V A F G J _ 0 [] (World.ownsRow_nil w base e size) a m c b O l h1 C q B;exact ⟨N,w',r1,Zju r2,r3,r5⟩
 .subst A;subst F;have R:n+m<=9223372036854775807:=by simp only[maxLen]at C;omega
  have x:(xs++b).length=(n+m)*i.size:=by rw [AM,d.1,O,AC]
  by_cases p:n+m<=cap
  .have H:o+n*i.size+b.length<=y.size:=by
    have:=AG i.size p;rw [AC]at this;rw [O];omega
   have hr:=Zlx (P:=P) w t ty e i T hi g o n cap y W a m c b O l h1 p H;refine ⟨_,_,hr,⟨x,.inr ⟨g,o,cap,_,rfl,K,setRow_heap w g y _ e _ W,p,L,?_,?_⟩⟩,⟨rfl,rfl,rfl,yG,fun k _ U=>setRow_other w g k _ (fun e=>U (by simp [Value.ownBlock,e]))⟩,.inl rfl⟩
   .simp only[Ae,AM,AS,AT,Ag];omega
   .show List.take _ (List.drop o (y.toList.take (o+n*i.size)++b++_))=_
    have S:(y.toList.take (o+n*i.size)).drop o=xs:=by
     rw [Ah,AU];exact D
    have ho:o<=(y.toList.take (o+n*i.size)).length:=by simp;omega
    rw [AH,List.drop_append_of_le_length ho,S,<-AH,<-x];exact Ai
  .have E:∀j u,xs[j]?=some u->w.cell? ((⟨g,o,none⟩:Addr).add j)=some u:=fun j u hj=>by
    rw [Addr.add_lit];exact ZlW d rfl j u hj
   have hr:=run_append_grow (P:=P) w t ty e i z T hi V ⟨g,o,none⟩ n cap xs d.1 E a m c b O l yE yE (growslice_fits yE q);have M:=grownCap_ge w (n+m) cap e;have I:grownCap w (n+m) cap e<=maxLen:=grownCap_le_maxLen w (n+m) cap e C;refine ⟨_,_,hr,⟨x,.inr ⟨w.heap.size,0,_,_,rfl,B,heap_alloc_new w.drew _,M,I,?_,?_⟩⟩,⟨rfl,rfl,rfl,yG,fun k U _=>heap_alloc_old w.drew _ U⟩,.inr rfl⟩
   .simp only[Array.size_append,Ae,size_zeroCells,G,d.1,O,<-AC];rw [Nat.zero_add];exact AG _ yE
   .rw [Aj];simp only[Array.toList_append,AH];rw [<-AH,<-x];exact Ai
theorem Zvq {w:World}{base:Nat}{e:TypeId}{size n l c:Nat}{A:Option Addr}{xs:List Value}(h:w.ownsV base e size (.slice A n c) n xs) (K:l<=n):
  w.ownsV base e size (.slice (if c=l then A else A.map (·.add (l*size))) (n - l) (c - l)) (n - l) (xs.drop (l*size))/\(Value.slice (if c=l then A else A.map (·.add (l*size))) (n - l) (c - l)).ownBlock=(Value.slice A n c).ownBlock:=by
 have a:(xs.drop (l*size)).length=(n - l)*size:=by rw [AT,h.1,AW]
 rcases h.2 with ⟨E,H⟩|⟨g,o,cap,b,B,D,C,G,J,hs,F⟩
 .simp only[Value.slice.injEq]at E;obtain ⟨rfl,_,rfl⟩:=E;subst H;obtain rfl:l=0:=by omega
  exact ⟨⟨a,.inl ⟨yG,yE⟩⟩,yG⟩
 .simp only[Value.slice.injEq,true_and]at B;obtain ⟨rfl,rfl⟩:=B;by_cases d:c=l
  .subst d;rw [yp rfl];refine ⟨⟨a,.inr ⟨g,o,c - c,b,rfl,D,C,yE,yE,?_,?_⟩⟩,rfl⟩
   .rw [Nat.sub_self,Nat.zero_mul];omega
   .have I:(n - c)*size=0:=by rw [show n - c=0 by omega,Nat.zero_mul]
    rw [I]at a ⊢;rw [Ak];exact (AR a).symm
  .rw [yn d];refine ⟨⟨a,.inr ⟨g,o+l*size,c - l,b,by simp [Addr.add],D,C,yE,yE,?_,?_⟩⟩,by simp only[AN,Value.ownBlock,Addr.add_lit]⟩
   .rw [AW];have:=AG size (show l<=c by omega);omega
   .rw [<-F,Ah,List.drop_drop,AW]
end
end Go.Proofs.YtfdjdgdipgfmeaaGreatDoor
namespace Go.Proofs.YtfdjdgdipgfmeaaGreatDoor
section
open Go.RowKit
def Zem (n:Int):Prop:=-9223372036854775808<=n/\n<=9223372036854775807
structure YC (α:Type) where
 size:Nat
 rep:World->List Value->α->List Nat->Prop
 len:∀{w cs x L},rep w cs x L->cs.length=size
 keep:∀{w w' cs x L},rep w cs x L->(∀b∈L,w'.heap[b]?=w.heap[b]?)->rep w' cs x L
 lt:∀{w cs x L},rep w cs x L->∀b∈L,b<w.heap.size
 one:∀{w cs x L},rep w cs x L->∀u∈cs,u.oneCell'=true
 pos:0<size
def ZeD:YC Int where
 size:=1
 rep:=fun _ cs x L=>cs=[.int .i64 x]/\L=[]
 len:=fun h=>by simp [h.1]
 keep:=fun h _=>h
 lt:=fun h=>by simp [h.2]
 one:=fun h=>by simp [h.1,Value.oneCell']
 pos:=by omega
def ZbY:YC BYT where
 size:=1
 rep:=fun _ cs x L=>cs=[.string x]/\L=[]/\x.size<=9223372036854775807
 len:=fun h=>by simp [h.1]
 keep:=fun h _=>h
 lt:=fun h=>by simp [h.2.1]
 one:=fun h=>by simp [h.1,Value.oneCell']
 pos:=by omega
section
variable {α:Type} (c:YC α)
def YC.reps (w:World):List Value->List α->List Nat->Prop
 |xs,[],L=>xs=[]/\L=[]
 |xs,d::ds,L=>∃a b L1 L2,xs=a++b/\L=L1++L2/\c.rep w a d L1/\YC.reps w b ds L2
variable {c}
theorem Zjv {w:World}:∀{ds:List α}{xs:List Value}{L:List Nat},c.reps w xs ds L->xs.length=ds.length*c.size
 | [],_,_,h=>by simp [h.1]
 |d::ds,_,_,⟨c1,c2,L1,L2,rfl,rfl,h1,h2⟩=>by
  have:=Zjv h2;simp [c.len h1,this,AC];omega
theorem QU {w w':World}:∀{ds:List α}{xs:List Value}{L:List Nat},c.reps w xs ds L->(∀b∈L,w'.heap[b]?=w.heap[b]?)->c.reps w' xs ds L
 | [],_,_,h,_=>h
 |d::ds,_,_,⟨c1,c2,L1,L2,rfl,rfl,h1,h2⟩,hk=>
  ⟨c1,c2,L1,L2,rfl,rfl,c.keep h1 (fun b m=>hk b (by simp [m])),QU h2 (fun b m=>hk b (by simp [m]))⟩
theorem Zv8 {w:World}:∀{ds:List α}{xs:List Value}{L:List Nat},c.reps w xs ds L->∀b∈L,b<w.heap.size
 | [],_,_,h=>by simp [h.2]
 |d::ds,_,_,⟨c1,c2,L1,L2,rfl,rfl,h1,h2⟩=>by
  intro b m;rcases A0.1 m with m|m
  .exact c.lt h1 b m
  .exact Zv8 h2 b m
theorem ZcH {w:World}:∀{ds B:List α}{xs A:List Value}{L M:List Nat},c.reps w xs ds L->c.reps w A B M->c.reps w (xs++A) (ds++B) (L++M)
 | [],B,_,A,_,M,h,h'=>by obtain ⟨rfl,rfl⟩:=h;simpa using h'
 |d::ds,B,_,A,_,M,⟨c1,c2,L1,L2,rfl,rfl,h1,h2⟩,h'=>
  ⟨c1,c2++A,L1,L2++M,yG,yG,h1,ZcH h2 h'⟩
theorem Zd8 {w:World}{d:α}{cs:List Value}{L:List Nat}(h:c.rep w cs d L):c.reps w cs [d] L:=⟨cs,[],L,[],yG,yG,h,rfl,rfl⟩
theorem Zo7 {w:World}:∀{ds C:List α}{xs:List Value}{L:List Nat},c.reps w xs (ds++C) L->
  ∃A B L1 L2,xs=A++B/\L=L1++L2/\c.reps w A ds L1/\c.reps w B C L2
 | [],C,xs,L,h=>⟨[],xs,[],L,rfl,rfl,⟨rfl,rfl⟩,h⟩
 |d::ds,C,_,_,⟨c1,c2,L1,L2,rfl,rfl,h1,h2⟩=>by
  obtain ⟨A,B,M1,M2,rfl,rfl,E,D⟩:=Zo7 h2;exact ⟨c1++A,B,L1++M1,M2,yG,yG,⟨c1,A,L1,M1,rfl,rfl,h1,E⟩,D⟩
theorem Zwk {w:World}{ds:List α}{xs:List Value}{L:List Nat}(h:c.reps w xs ds L) {k:Nat}(D:k<ds.length):
  ∃A cs B L1 Lk L2,xs=A++(cs++B)/\A.length=k*c.size/\L=L1++(Lk++L2)/\c.reps w A (ds.take k) L1/\c.rep w cs ds[k] Lk/\c.reps w B (ds.drop (k+1)) L2:=by
 have e:ds=ds.take k++(ds[k]::ds.drop (k+1)):=by rw [<-AX D,Al]
 rw [e]at h;obtain ⟨A,B,L1,L2,rfl,rfl,C,G,c2,M1,M2,rfl,rfl,F,E⟩:=Zo7 h;refine ⟨A,G,c2,L1,M1,M2,rfl,?_,rfl,C,F,E⟩;have:=Zjv C;rw [this,AS,Am yE]
def Sli (c:YC α) (w:World) (A:Option Addr) (ds:List α) (L:List Nat):Prop:=
 ∃xs L0 L1,L=L0++L1/\Sl w c.size A ds.length xs L0/\c.reps w xs ds L1
theorem Sli.nil (w:World) (A:Option Addr):Sli c w A [] []:=⟨[],[],[],rfl,Sl.zero,rfl,rfl⟩
theorem Sli.keep {w w':World}{A:Option Addr}{ds:List α}{L:List Nat}(h:Sli c w A ds L) (B:∀b∈L,w'.heap[b]?=w.heap[b]?):Sli c w' A ds L:=by
 obtain ⟨xs,L0,L1,rfl,D,C⟩:=h;exact ⟨xs,L0,L1,rfl,D.keep (fun b m=>B b (by simp [m])),QU C (fun b m=>B b (by simp [m]))⟩
theorem Sli.lt {w:World}{A:Option Addr}{ds:List α}{L:List Nat}(h:Sli c w A ds L):∀b∈L,b<w.heap.size:=by
 obtain ⟨xs,L0,L1,rfl,C,B⟩:=h;intro b m;rcases A0.1 m with m|m
 .exact C.lt c.pos b m
 .exact Zv8 B b m
theorem Sli.below {w w':World}{A:Option Addr}{ds:List α}{L:List Nat}(h:Sli c w A ds L) (B:Below w.heap.size w w'):Sli c w' A ds L:=h.keep (Zr B h.lt)
theorem Sli.at_ {w:World}{A:Option Addr}{ds:List α}{L:List Nat}(h:Sli c w A ds L) {k:Nat}(D:k<ds.length):
  ∃b off cs Lk,A=some ⟨b,off,none⟩/\b∈L/\(∀x∈Lk,x∈L)/\c.rep w cs ds[k] Lk/\∀j u,cs[j]?=some u->w.cell? ⟨b,off+(k*c.size+j),none⟩=some u:=by
 obtain ⟨xs,L0,L1,rfl,J,I⟩:=h;obtain ⟨M,cs,K,M1,Mk,M2,rfl,C,rfl,_,H,_⟩:=Zwk I D;obtain ⟨b,off,G,F,E⟩:=J.at_ yE;subst F;refine ⟨b,off,cs,Mk,G,yG,fun x m=>by simp [m],H,fun j u B=>E _ u ?_⟩;rw [AD yE,C,AU,AO (AA.1 B).1];exact B
def Zz (c:YC α):YC (List α) where
 size:=1
 rep:=fun w cs ds L=>∃A cap,cs=[.slice A ds.length cap]/\ds.length<=cap/\cap<=maxLen/\Sli c w A ds L
 len:=fun ⟨_,_,h,_⟩=>by simp [h]
 keep:=fun ⟨A,cap,h,b,d,a⟩ hk=>⟨A,cap,h,b,d,a.keep hk⟩
 lt:=fun ⟨_,_,_,_,_,a⟩=>a.lt
 one:=fun ⟨_,_,h,_⟩=>by simp [h,Value.oneCell']
 pos:=by omega
theorem Own.append {w:World}{base c:Nat}{L M:List Nat}(h:Own w base L) (k:Own w c M) (B:base<=c) (A:∀b∈L,b<c):Own w base (L++M):=by
 refine ⟨?_,?_,?_⟩
 .rw [AY];refine ⟨h.nodup,k.nodup,fun a C b d e=>?_⟩;subst e;have:=A a C;have:=k.ge a d;omega
 .intro b m;rcases A0.1 m with m|m
  .exact h.ge b m
  .exact A9 B (k.ge b m)
 .intro b m;rcases A0.1 m with m|m
  .exact h.plain b m
  .exact k.plain b m
theorem Own.sub {w:World}{base:Nat}{L M:List Nat}(h:Own w base L) (hs:M.Sublist L):Own w base M:=
 ⟨h.nodup.sublist hs,fun b m=>h.ge b (hs.subset m),fun b m=>h.plain b (hs.subset m)⟩
structure Got (c:YC α) (base:Nat) (cs:List Value) (x:α) (L:List Nat) (w:World):Prop where
 rep:c.rep w cs x L
 own:Own w base L
section
variable {c:YC α} {base:Nat} {cs:List Value} {x:α} {L M:List Nat} {w w':World}
theorem Got.keep (h:Got c base cs x L w) (A:∀b∈L,w'.heap[b]?=w.heap[b]?):Got c base cs x L w':=⟨c.keep h.rep A,h.own.keep A⟩
theorem Got.later (h:Got c base cs x L w) (A:Below w.heap.size w w'):Got c base cs x L w':=h.keep (Zr A h.own.lt)
theorem Got.setCell (h:Got c base cs x L w) {p:Addr}(A:p.block<base) (u:Value):Got c base cs x L (w.setCell p u):=
 h.keep fun b m=>Below.heap_setCell w p u b (by have:=h.own.ge b m;omega)
theorem Got.alloc (h:Got c base cs x L w) (o:Obj):Got c base cs x L (w.alloc o):=h.keep fun b m=>Below.heap_alloc w o b (h.own.lt b m)
theorem Got.only (h:Got c base cs x L w) (A:Y1 M w w') (B:∀b∈L,b∉M):Got c base cs x L w':=h.keep (A.keep h.own.lt B)
theorem Got.lt (h:Got c base cs x L w):∀b∈L,b<w.heap.size:=h.own.lt
theorem Got.mono {a:Nat}(h:Got c base cs x L w) (A:a<=base):Got c a cs x L w:=⟨h.rep,h.own.mono A⟩
end
def Zg2 (c:YC α) (w:World) (x:α) (e:Ending) (w':World):Prop:=∃cs L,e=.returned (.agg cs.toArray)/\Got c w.heap.size cs x L w'/\Below w.heap.size w w'
theorem ZH {c:YC α}{w:World}{A:Option Addr}{n cap:Nat}{ds:List α}{L:List Nat}(h:(Zz c).rep w [.slice A n cap] ds L):ds.length<=cap/\cap<=maxLen/\Sli c w A ds L:=by
 obtain ⟨A',B,C,F,E,D⟩:=h;cases C;exact ⟨F,E,D⟩
structure ZgT (c:YC α) (E:TypeId) (W:World) (v:Value) (ds:List α) (w:World):Prop where
 ex:∃xs L1,w.ownsV W.heap.size E c.size v ds.length xs/\c.reps w xs ds L1/\Own w W.heap.size (v.ownBlock.toList++L1)
 below:Below W.heap.size W w
def ZdN (c:YC α) (E:TypeId) (w:World) (ds:List α) (e:Ending) (w':World):Prop:=∃v,e=.returned v/\ZgT c E w v ds w'
theorem ZgT.shape {c:YC α}{E:TypeId}{W w:World}{v:Value}{ds:List α}(h:ZgT c E W v ds w):∃A cap,v=.slice A ds.length cap:=by
 obtain ⟨xs,L1,C,_⟩:=h.ex;obtain ⟨A,cap,B,_⟩:=Zbt C;exact ⟨A,cap,B⟩
theorem ZgT.got {c:YC α}{E:TypeId}{W w:World}{v:Value}{ds:List α}(h:ZgT c E W v ds w):∃L,Got (Zz c) W.heap.size [v] ds L w:=by
 obtain ⟨xs,L1,C,H,G⟩:=h.ex;obtain ⟨A,cap,rfl,D,F⟩:=Zbt C;obtain ⟨L0,hs,I,J⟩:=Sl.of_ownV C;refine ⟨L0++L1,⟨A,cap,rfl,D,F,xs,L0,L1,rfl,hs,H⟩,G.sub ?_⟩;refine List.Sublist.append ?_ (List.Sublist.refl _);rcases hs.2 with ⟨_,B⟩|⟨_,b,off,rfl,B,_⟩
 .subst B;exact List.nil_sublist _
 .subst B;simp [Value.ownBlock]
end
def ZtN (w:World) (g p:Nat):List Value->World
 | []=>w
 |u::r=>ZtN (w.setCell ⟨g,p,none⟩ u) g (p+1) r
def Zll (xs:List Value) (p:Nat):List Value->List Value
 | []=>xs
 |u::r=>Zll (xs.set p u) (p+1) r
theorem Zi5 (A:List Value):∀(cs x2:List Value),cs.length<=x2.length->Zll (A++x2) A.length cs=A++(cs++x2.drop cs.length)
 | [],x2,_=>by simp [Zll]
 |u::r,[],h=>by simp at h
 |u::r,y::x2,h=>by
  rw [Zll,List.set_append_right _ _ (AK _),Nat.sub_self,An];have e:A++u::x2=(A++[u])++x2:=by simp
  have l:A.length+1=(A++[u]).length:=by simp
  rw [e,l,Zi5 (A++[u]) r x2 (by simpa using h)];simp
theorem Zm9 {base:Nat}{e:TypeId}{size g n cap:Nat}:∀(cs:List Value) (w:World) (xs:List Value) (p:Nat),w.ownsRow base e size (.slice (some ⟨g,0,none⟩) n cap) n xs->
  (ZtN w g p cs).ownsRow base e size (.slice (some ⟨g,0,none⟩) n cap) n (Zll xs p cs)/\w.grownBy (ZtN w g p cs) (some g)
 | [],w,xs,p,h=>⟨h,World.grownBy.refl _ _⟩
 |u::r,w,xs,p,h=>by
  obtain ⟨F,A⟩:=h.stored p u;obtain ⟨E,B⟩:=Zm9 r _ _ (p+1) F;exact ⟨E,⟨B.os.trans A.os,B.tape.trans A.tape,B.output.trans A.output,A9 A.size B.size,fun k D C=>(B.block k (AL D A.size) C).trans (A.block k D C)⟩⟩
structure ZX {α:Type}(c:YC α) (E:TypeId) (W:World) (n:Nat) (ds:List α) (k:Nat) (w:World):Prop where
 ex:∃x1 x2 L1,w.ownsRow W.heap.size E c.size (.slice (some ⟨W.heap.size,0,none⟩) n n) n (x1++x2)/\c.reps w x1 (ds.take k) L1/\x2.length=(n - k)*c.size/\Own w W.heap.size (W.heap.size::L1)
 below:Below W.heap.size W w
section
variable {α:Type} {c:YC α} {E:TypeId} {W:World} {n:Nat} {ds:List α} {k:Nat} {w w':World}
theorem ZX.start {B:List Value}(h:w.ownsRow W.heap.size E c.size (.slice (some ⟨W.heap.size,0,none⟩) n n) n B) (F:Below W.heap.size W w):ZX c E W n ds 0 w:=by
 refine ⟨⟨[],B,[],h,⟨rfl,rfl⟩,by simpa using h.1,yG,yG,?_⟩,F⟩;intro b m;simp at m;subst m;rcases h.2 with ⟨A,_⟩|⟨G,C,a,A,_,D,_⟩
 .simp at A
 .simp at A;obtain ⟨A,_⟩:=A;subst A;exact ⟨a,E,D⟩
theorem ZX.later (h:ZX c E W n ds k w) (A:Below w.heap.size w w'):ZX c E W n ds k w':=by
 obtain ⟨⟨F,D,L1,I,H,G,C⟩,B⟩:=h;have hk:=Zr A C.lt;refine ⟨⟨F,D,L1,?_,QU H (fun b m=>hk b (by simp [m])),G,C.keep hk⟩,B.trans (A.mono B.size)⟩;exact I.kept (row:=none) ⟨A.os,A.tape,A.output,A.size,fun k hk _=>A.block k hk⟩ (by simp [Value.ownBlock])
theorem ZX.cell (h:ZX c E W n ds k w) (B:k<n) {j:Nat}(F:j<c.size):∃d,w.cell? ⟨W.heap.size,k*c.size+j,none⟩=some d:=by
 obtain ⟨⟨D,C,L1,A,J,I,H⟩,G⟩:=h;have a:k*c.size+j<n*c.size:=by
  have:=AG c.size (show k+1<=n from B);rw [AC]at this;omega
 rw [A.cellAt _ a];exact ⟨_,AJ (by rw [A.1];exact a)⟩
theorem ZX.frozen (h:ZX c E W n ds k w) (j:Nat):w.frozen? ⟨W.heap.size,j,none⟩=false:=by
 obtain ⟨⟨C,B,L1,A,H,G,F⟩,D⟩:=h;exact A.frozenAt j
theorem ZX.store {cs:List Value}{x:α}{M:List Nat}{w2:World}(h:ZX c E W n ds k w) (N:k<n) (hn:n=ds.length) (T:∀L:k<ds.length,x=ds[k]) (A:Below w.heap.size w w2) (H:Got c w.heap.size cs x M w2):
  ZX c E W n ds (k+1) (ZtN w2 W.heap.size (k*c.size) cs):=by
 have g:=h;obtain ⟨⟨B,G,L1,V,P,O,D⟩,J⟩:=h;have a:=Zr A D.lt;have o:=(ZX.later g A).ex;clear o;have S:w2.ownsRow W.heap.size E c.size (.slice (some ⟨W.heap.size,0,none⟩) n n) n (B++G):=V.kept (row:=none) ⟨A.os,A.tape,A.output,A.size,fun k N _=>A.block k N⟩ (by simp [Value.ownBlock]);obtain ⟨K,C⟩:=Zm9 cs w2 (B++G) (k*c.size) S;have d:B.length=k*c.size:=by rw [Zjv P,AS,Am yE]
 have p:cs.length=c.size:=c.len H.rep;have U:c.size<=G.length:=by
  rw [O];have:=AG c.size (show 1<=n - k by omega);omega
 rw [<-d,Zi5 B cs G yE]at K;have j:∀b∈M,b≠W.heap.size:=fun b m e=>by have:=H.own.ge b m;have:=J.size;have:=D.lt W.heap.size yG;omega
 have q:∀b∈L1,b≠W.heap.size:=fun b m e=>by
  have:=D.nodup;rw [AP]at this;exact this.1 (e ▸ m)
 have f:∀b,b<w2.heap.size->b≠W.heap.size->(ZtN w2 W.heap.size B.length cs).heap[b]?=w2.heap[b]?:=fun b L t=>by
  rw [d];exact C.block b L (fun e=>t (by injection e))
 rw [<-d];refine ⟨⟨B++cs,G.drop cs.length,L1++M,by rw [AH];exact K,?_,?_,?_⟩,?_⟩
 .rw [List.take_succ_eq_append_getElem yE];refine ZcH (QU P (fun b m=>?_)) (Zd8 ?_)
  .rw [f b (AL (D.lt b (by simp [m])) A.size) (q b m)];exact a b (by simp [m])
  .rw [<-T yE];exact c.keep H.rep (fun b m=>f b (H.own.lt b m) (j b m))
 .rw [AT,O,p,show n - k=(n - (k+1))+1 by omega,AC];omega
 .have I:Own w2 W.heap.size ((W.heap.size::L1)++M):=Own.append (D.keep a) H.own J.size D.lt;rw [Ao]at I;refine ⟨I.nodup,I.ge,fun b m=>?_⟩;by_cases e:b=W.heap.size
  .subst e;rcases K.2 with ⟨F,_⟩|⟨g',R,u,F,_,l,_⟩
   .simp at F
   .simp at F;obtain ⟨F,_⟩:=F;rw [<-F]at l;exact ⟨u,E,l⟩
  .rw [f b (I.lt b m) e];exact I.plain b m
 .rw [d];refine (J.trans (A.mono J.size)).trans ⟨C.os,C.tape,C.output,C.size,fun i hi=>C.block i (AL hi (A9 J.size A.size)) (fun e=>by injection e with e;omega)⟩
theorem ZX.done (h:ZX c E W n ds n w) (F:n=ds.length):ZgT c E W (.slice (some ⟨W.heap.size,0,none⟩) n n) ds w:=by
 obtain ⟨⟨D,C,L1,B,A,I,H⟩,G⟩:=h;have e:C=[]:=AR (by simpa using I);subst e;rw [Aq]at B;rw [List.take_of_length_le yE]at A;subst F;exact ⟨⟨D,L1,Zju B,A,by simpa [Value.ownBlock]using H⟩,G⟩
end
theorem ZeM {α:Type}(f:α->Nat) (ds:List α) (k:Nat) (A:k<ds.length) {B:Nat}(h:(ds.map f).sum<=B):f ds[k]<=B:=by
 refine A9 ?_ h;have e:ds=ds.take k++(ds[k]::ds.drop (k+1)):=by rw [<-AX A,Al]
 have:(ds.map f).sum=((ds.take k).map f).sum+(f ds[k]+((ds.drop (k+1)).map f).sum):=by
  have h1:=congrArg (fun l=>(A6 f l).sum) e;simp only[Ar,AE,List.sum_append_nat,List.sum_cons]at h1;exact h1
 omega
theorem Zb9 {α:Type}{c:YC α}{w wr WF:World}{x:α}{cs:List Value}(L:List Nat) (A:Got c (w.heap.size+3) cs x L wr) (B:∀b,w.heap.size+3<=b->WF.heap[b]?=wr.heap[b]?) (C:Below w.heap.size w WF):
 Zg2 c w x (.returned (.agg cs.toArray)) WF:=⟨cs,L,rfl,(A.keep (fun b m=>B b (A.own.ge b m))).mono yE,C⟩
def szR (c:Nat) (l:Int):Int:=if (c:Int)<=l then l - c else -1
theorem Ya {c:Nat}{l:Int}(h:(c:Int)<=l):szR c l=l - c:=yp h
theorem Zy {c:Nat}{l:Int}(h:¬(c:Int)<=l):szR c l=-1:=yn h
theorem Xn (a b c:Nat) (l:Int) (B:(a:Int)<=l) (A:c=a+b):szR b (l - a)=szR c l:=by
 subst A;by_cases h:(b:Int)<=l - a
 .rw [Ya h,Ya yE];omega
 .rw [Zy h,Zy yE]
def XA (l:List BYT):Nat:=l.length+(l.map AZ).sum
theorem ZA1 {w:World}{cs:List Value}{x:BYT}{L:List Nat}(h:ZbY.rep w cs x L):cs=[.string x]/\L=[]/\x.size<=9223372036854775807:=h
def QP (c:Nat) (left:Int) (w:World) (e:Ending) (w':World):Prop:=e=.returned (.int .i64 (szR c left))/\Below w.heap.size w w'
def Blk (w:World) (g:Nat) (t:TypeId) (cs:Array Value):Prop:=w.heap[g]?=some (.cells cs t (0,0))
section
variable {w w':World} {g:Nat} {t:TypeId} {cs:Array Value}
theorem Blk.lt (h:Blk w g t cs):g<w.heap.size:=(AB.1 h).1
theorem Blk.at {i:Nat}{v:Value}(h:Blk w g t cs) (A:cs[i]?=some v):w.cell? ⟨g,i,none⟩=some v:=(cell_of_row w g i cs t (0,0) h).trans A
theorem Blk.frozen (h:Blk w g t cs) (i:Nat):w.frozen? ⟨g,i,none⟩=false:=by
 unfold Blk at h;simp [World.frozen?,h]
theorem Blk.new (w:World) (t:TypeId) (cs:Array Value):Blk (w.alloc (.cells cs t)) w.heap.size t cs:=heap_alloc_new w _
theorem Blk.new_at {w:World}{t:TypeId}{cs:Array Value}{g:Nat}(A:g=w.heap.size):Blk (w.alloc (.cells cs t)) g t cs:=by subst A;exact heap_alloc_new w _
theorem Blk.alloc (h:Blk w g t cs) (o:Obj):Blk (w.alloc o) g t cs:=(Below.heap_alloc w o g h.lt).trans h
theorem Blk.set_ (h:Blk w g t cs) (i:Nat) (u:Value):Blk (w.setCell ⟨g,i,none⟩ u) g t (cs.setIfInBounds i u):=by
 unfold Blk at h ⊢;simp [World.setCell,AQ,h]
theorem Blk.far (h:Blk w g t cs) {p:Addr}(A:g≠p.block) (u:Value):Blk (w.setCell p u) g t cs:=(Below.heap_setCell w p u g A).trans h
theorem Blk.later (h:Blk w g t cs) (A:Below w.heap.size w w'):Blk w' g t cs:=(A.block g h.lt).trans h
end
theorem Got.focus {α:Type}{c:YC α}{base:Nat}{A:Option Addr}{n cap:Nat}{ds:List α}{L:List Nat}{w:World}{k:Nat}(h:Got (Zz c) base [.slice A n cap] ds L w) (P:k<ds.length):
  ∃b off cs Lk,A=some ⟨b,off,none⟩/\b∈L/\(∀x∈Lk,x∈L)/\Own w base (b::Lk)/\c.rep w cs ds[k] Lk/\Zal w b (off+k*c.size) cs/\
   ∀w' a I,Y1 (b::Lk) w w'->Zal w' b (off+k*c.size) a->(∀o,o<off+k*c.size\/off+k*c.size+c.size<=o->w'.cell? ⟨b,o,none⟩=w.cell? ⟨b,o,none⟩)->
    c.rep w' a I Lk->Own w' base (b::Lk)->Got (Zz c) base [.slice A n cap] (ds.set k I) L w':=by
 obtain ⟨⟨A',T,hv,hn,hm,xs,L0,L1,rfl,S,h2⟩,F⟩:=h;cases hv;obtain ⟨H,cs,M,M1,Mk,M2,rfl,W,rfl,V,N,U⟩:=Zwk h2 P;obtain ⟨b,off,rfl,rfl,K⟩:=S.at_ yE;have B:cs.length=c.size:=c.len N;have l:∀x∈Mk,x∈[b]++(M1++(Mk++M2)):=fun x m=>by simp [m]
 have p:=F.nodup;have q:(b::Mk).Sublist ([b]++(M1++(Mk++M2))):=by
  simp only[As];exact List.Sublist.cons_cons b ((At Mk M2).trans (Au M1 _))
 refine ⟨b,off,cs,Mk,rfl,yG,l,F.sub q,N,fun j u E=>?_,?_⟩
 .have:=K (H.length+j) u (by rw [AD yE,AU,AO (AA.1 E).1];exact E);rw [W]at this;rw [<-this,Nat.add_assoc]
 .intro w' a I f g d e t;have v:a.length=c.size:=c.len e;simp only[As,AP,AY,A0]at p;obtain ⟨R,ac,⟨aa,ab,C⟩,D⟩:=p;have e1:∀y∈M1,y∉b::Mk:=fun y m G=>by
   rcases AF.1 G with rfl|G
   .exact R (.inl m)
   .exact D y m y (.inl G) rfl
  have e2:∀y∈M2,y∉b::Mk:=fun y m G=>by
   rcases AF.1 G with rfl|G
   .exact R (.inr (.inr m))
   .exact C y G y m rfl
  have k1:=f.keep (fun y m=>F.lt y (by simp [m])) e1;have k2:=f.keep (fun y m=>F.lt y (by simp [m])) e2;have z:ds.set k I=ds.take k++(I::ds.drop (k+1)):=by rw [List.set_eq_take_append_cons_drop,yp P]
  refine ⟨⟨some ⟨b,off,none⟩,cap,yG,by simpa using hn,hm,H++(a++M),[b],M1++(Mk++M2),rfl,⟨?_,.inr ⟨by simp;omega,b,off,rfl,rfl,?_⟩⟩,?_⟩,?_⟩
  .have:=S.1;simp only[AM,Aw]at this ⊢;omega
  .intro j u E;rcases Aa j H.length with J|J
   .rw [d _ (.inl yE)];exact K j u (by rw [AO J]at E ⊢;exact E)
   .rw [AD J]at E;rcases Aa (j - H.length) a.length with i|i
    .rw [AO i]at E;have:=g _ u E;rw [show off+k*c.size+(j - H.length)=off+j by omega]at this;exact this
    .rw [AD i]at E;rw [d _ (.inr yE)];exact K j u (by rw [AD J,AD yE,B,<-v];exact E)
  .rw [z];refine ZcH (QU V k1) ⟨a,M,Mk,M2,rfl,rfl,e,QU U k2⟩
  .refine ⟨F.nodup,F.ge,fun y m=>?_⟩;by_cases O:y∈b::Mk
   .exact t.plain y O
   .rw [f.block y (F.lt y m) O];exact F.plain y m
structure Zci (w0:World) (base b lo m:Nat) (Lk:List Nat) (cs:List Value) (w:World):Prop where
 cells:Zal w b lo cs
 len:cs.length=m
 only:Y1 (b::Lk) w0 w
 rest:∀o,o<lo\/lo+m<=o->w.cell? ⟨b,o,none⟩=w0.cell? ⟨b,o,none⟩
 plain:∃cur e,w.heap[b]?=some (.cells cur e (0,0))
section
variable {w0:World} {base b lo m:Nat} {Lk M:List Nat} {cs:List Value} {w w':World}
theorem Zci.start (h:Zal w b lo cs) (B:cs.length=m) (A:Own w base (b::Lk)):Zci w base b lo m Lk cs w:=⟨h,B,Y1.refl _ _,fun _ _=>rfl,A.plain b yG⟩
theorem Zci.lt (h:Zci w0 base b lo m Lk cs w):b<w.heap.size:=by obtain ⟨B,e,A⟩:=h.plain;exact (AB.1 A).1
theorem Zci.keepb (h:Zci w0 base b lo m Lk cs w) (A:w'.heap[b]?=w.heap[b]?) (D:Y1 (b::Lk) w w'):Zci w0 base b lo m Lk cs w':=by
 refine ⟨fun j u B=>?_,h.len,h.only.trans D,fun o C=>?_,?_⟩
 .rw [<-h.cells j u B];exact World.cell?_of_block A
 .rw [<-h.rest o C];exact World.cell?_of_block A
 .rw [A];exact h.plain
theorem Zci.later (h:Zci w0 base b lo m Lk cs w) (A:Below w.heap.size w w'):Zci w0 base b lo m Lk cs w':=h.keepb (A.block b h.lt) (Y1.of_below A _)
theorem Zci.marked (h:Zci w0 base b lo m Lk cs w) (A:Y1 M w w') (hs:∀y∈M,y∈Lk) (B:b∉M):Zci w0 base b lo m Lk cs w':=
 h.keepb (A.block b h.lt B) (A.mono (fun y m=>by simp [hs y m]))
theorem Zci.at (h:Zci w0 base b lo m Lk cs w) {j:Nat}{u:Value}(A:cs[j]?=some u):w.cell? ⟨b,lo+j,none⟩=some u:=h.cells j u A
theorem Zci.frozen (h:Zci w0 base b lo m Lk cs w) (o:Nat):w.frozen? ⟨b,o,none⟩=false:=by
 obtain ⟨B,e,A⟩:=h.plain;simp [World.frozen?,A]
theorem Zci.set (h:Zci w0 base b lo m Lk cs w) (j:Nat) (D:j<m) (u:Value):Zci w0 base b lo m Lk (cs.set j u) (w.setCell ⟨b,lo+j,none⟩ u):=by
 have hl:=h.len;refine ⟨fun i v A=>?_,by simp [h.len],h.only.setCell yG _,fun o B=>?_,?_⟩
 .by_cases a:i=j
  .subst a;rw [Ax]at A;simp [show i<cs.length by omega]at A;subst A;exact ZlT (h.cells i _ (AJ yE))
  .rw [Ax,yn (fun e=>a e.symm)]at A;rw [World.cell?_setCell_other _ _ _ _ (by intro e;injection e with _ e;omega)];exact h.cells i v A
 .rw [World.cell?_setCell_other _ _ _ _ (by intro e;injection e with _ e;omega)];exact h.rest o B
 .obtain ⟨c,e,C⟩:=h.plain;exact ⟨c.setIfInBounds (lo+j) u,e,by simp [World.setCell,AQ,C]⟩
end
theorem Got.setFar {α:Type}{c:YC α}{base:Nat}{cs:List Value}{x:α}{L:List Nat}{w:World}(h:Got c base cs x L w) {p:Addr}(A:p.block∉L) (u:Value):Got c base cs x L (w.setCell p u):=
 h.keep fun b m=>Below.heap_setCell w p u b (fun e=>A (e ▸ m))
theorem Xa {w w':World}{base b:Nat}{Lk:List Nat}(h:Own w base (b::Lk)) (A:∃a e,w'.heap[b]?=some (.cells a e (0,0))) (_ho:Y1 (b::Lk) w w') (B:∀y∈Lk,∃a e,w'.heap[y]?=some (.cells a e (0,0))):Own w' base (b::Lk):=
 ⟨h.nodup,h.ge,fun y m=>by
  rcases AF.1 m with rfl|m
  .exact A
  .exact B y m⟩
theorem Own.tail {w:World}{base b:Nat}{L:List Nat}(h:Own w base (b::L)):Own w base L:=h.sub (List.sublist_cons_self b L)
theorem Own.left {w:World}{base:Nat}{L M:List Nat}(h:Own w base (L++M)):Own w base L:=h.sub (At L M)
theorem Own.right {w:World}{base:Nat}{L M:List Nat}(h:Own w base (L++M)):Own w base M:=h.sub (Au L M)
theorem Own.head {w:World}{base b:Nat}{L:List Nat}(h:Own w base (b::L)):b∉L:=(AP.1 h.nodup).1
theorem Own.apart {w:World}{base:Nat}{L M:List Nat}(h:Own w base (L++M)):∀y∈L,y∉M:=fun y m A=>(AY.1 h.nodup).2.2 y m y A rfl
end
section
open Go.RowKit
structure Zf where
 rel:BYT
 args:List BYT
def Ys:YC Zf where
 size:=2
 rep:=fun w cs x L=>∃A1 a L1,cs=[.string x.rel,.slice A1 x.args.length a]/\L=L1/\x.rel.size<=9223372036854775807/\x.args.length<=a/\a<=maxLen/\Sli ZbY w A1 x.args L1
 len:=fun ⟨A1,a,L1,h,hL,d,e,f,c⟩=>by simp [h]
 keep:=fun ⟨A1,a,L1,h,hL,d,e,f,c⟩ hk=>⟨A1,a,L1,h,hL,d,e,f,c.keep (fun b m=>hk b (by simp [hL,m]))⟩
 lt:=fun ⟨A1,a,L1,h,hL,d,e,f,c⟩=>by intro b m;simp only[hL,A0]at m;exact c.lt b m
 one:=fun ⟨A1,a,L1,h,hL,d,e,f,c⟩=>by simp [h,Value.oneCell']
 pos:=by omega
theorem Zcz {w:World}{cs:List Value}{x:Zf}{L:List Nat}(h:Ys.rep w cs x L):∃A1 A,cs=[.string x.rel,.slice A1 x.args.length A]:=by
 obtain ⟨A1,A,L1,h,F,B,D,E,C⟩:=h;exact ⟨A1,A,h⟩
def YV (x:Zf):Nat:=x.rel.size+XA x.args
def Yi (l:List Zf):Nat:=l.length+(l.map YV).sum
def Zok (x:Zf):Prop:=(fun _=>True) x.rel/\(fun ds=>∀d∈ds,(fun _=>True) d) x.args
structure Zm where
 rel:BYT
 args:List BYT
def QY:YC Zm where
 size:=2
 rep:=fun w cs x L=>∃A1 a L1,cs=[.string x.rel,.slice A1 x.args.length a]/\L=L1/\x.rel.size<=9223372036854775807/\x.args.length<=a/\a<=maxLen/\Sli ZbY w A1 x.args L1
 len:=fun ⟨A1,a,L1,h,hL,d,e,f,c⟩=>by simp [h]
 keep:=fun ⟨A1,a,L1,h,hL,d,e,f,c⟩ hk=>⟨A1,a,L1,h,hL,d,e,f,c.keep (fun b m=>hk b (by simp [hL,m]))⟩
 lt:=fun ⟨A1,a,L1,h,hL,d,e,f,c⟩=>by intro b m;simp only[hL,A0]at m;exact c.lt b m
 one:=fun ⟨A1,a,L1,h,hL,d,e,f,c⟩=>by simp [h,Value.oneCell']
 pos:=by omega
theorem ZfP {w:World}{cs:List Value}{x:Zm}{L:List Nat}(h:QY.rep w cs x L):∃A1 A,cs=[.string x.rel,.slice A1 x.args.length A]:=by
 obtain ⟨A1,A,L1,h,F,B,D,E,C⟩:=h;exact ⟨A1,A,h⟩
def ZL (x:Zm):Nat:=x.rel.size+XA x.args
def ZjZ (x:Zm):Prop:=(fun _=>True) x.rel/\(fun ds=>∀d∈ds,(fun _=>True) d) x.args
structure Zj where
 var:BYT
 value:BYT
def XK:YC Zj where
 size:=2
 rep:=fun w cs x L=>cs=[.string x.var,.string x.value]/\L=[]/\x.var.size<=9223372036854775807/\x.value.size<=9223372036854775807
 len:=fun h=>by simp [h.1]
 keep:=fun h _=>h
 lt:=fun h=>by simp [h.2.1]
 one:=fun h=>by simp [h.1,Value.oneCell']
 pos:=by omega
theorem Zef {w:World}{cs:List Value}{x:Zj}{L:List Nat}(h:XK.rep w cs x L):cs=[.string x.var,.string x.value]:=by
 exact h.1
def XY (x:Zj):Nat:=x.var.size+x.value.size
def XP (l:List Zj):Nat:=l.length+(l.map XY).sum
def Zzp (x:Zj):Prop:=(fun _=>True) x.var/\(fun _=>True) x.value
structure Zh where
 kind:Int
 pattern:Zm
 left:BYT
 right:BYT
def X8:YC Zh where
 size:=5
 rep:=fun w cs x L=>∃A1 a L1,cs=[.int .i64 x.kind,.string x.pattern.rel,.slice A1 x.pattern.args.length a,.string x.left,.string x.right]/\L=L1/\x.pattern.rel.size<=9223372036854775807/\x.left.size<=9223372036854775807/\x.right.size<=9223372036854775807/\x.pattern.args.length<=a/\a<=maxLen/\Sli ZbY w A1 x.pattern.args L1
 len:=fun ⟨A1,a,L1,h,hL,d,e,f,g,i,c⟩=>by simp [h]
 keep:=fun ⟨A1,a,L1,h,hL,d,e,f,g,i,c⟩ hk=>⟨A1,a,L1,h,hL,d,e,f,g,i,c.keep (fun b m=>hk b (by simp [hL,m]))⟩
 lt:=fun ⟨A1,a,L1,h,hL,d,e,f,g,i,c⟩=>by intro b m;simp only[hL,A0]at m;exact c.lt b m
 one:=fun ⟨A1,a,L1,h,hL,d,e,f,g,i,c⟩=>by simp [h,Value.oneCell']
 pos:=by omega
theorem Zcu {w:World}{cs:List Value}{x:Zh}{L:List Nat}(h:X8.rep w cs x L):∃A1 A,cs=[.int .i64 x.kind,.string x.pattern.rel,.slice A1 x.pattern.args.length A,.string x.left,.string x.right]:=by
 obtain ⟨A1,A,L1,h,G,C,B,t2,E,F,D⟩:=h;exact ⟨A1,A,h⟩
def Yf (x:Zh):Nat:=ZL x.pattern+x.left.size+x.right.size
def Xp (l:List Zh):Nat:=l.length+(l.map Yf).sum
def Zu5 (x:Zh):Prop:=Zem x.kind/\ZjZ x.pattern/\(fun _=>True) x.left/\(fun _=>True) x.right
structure ZV where
 kind:Int
 pattern:Zm
def YT:YC ZV where
 size:=3
 rep:=fun w cs x L=>∃A1 a L1,cs=[.int .i64 x.kind,.string x.pattern.rel,.slice A1 x.pattern.args.length a]/\L=L1/\x.pattern.rel.size<=9223372036854775807/\x.pattern.args.length<=a/\a<=maxLen/\Sli ZbY w A1 x.pattern.args L1
 len:=fun ⟨A1,a,L1,h,hL,d,e,f,c⟩=>by simp [h]
 keep:=fun ⟨A1,a,L1,h,hL,d,e,f,c⟩ hk=>⟨A1,a,L1,h,hL,d,e,f,c.keep (fun b m=>hk b (by simp [hL,m]))⟩
 lt:=fun ⟨A1,a,L1,h,hL,d,e,f,c⟩=>by intro b m;simp only[hL,A0]at m;exact c.lt b m
 one:=fun ⟨A1,a,L1,h,hL,d,e,f,c⟩=>by simp [h,Value.oneCell']
 pos:=by omega
theorem Zb4 {w:World}{cs:List Value}{x:ZV}{L:List Nat}(h:YT.rep w cs x L):∃A1 A,cs=[.int .i64 x.kind,.string x.pattern.rel,.slice A1 x.pattern.args.length A]:=by
 obtain ⟨A1,A,L1,h,F,B,D,E,C⟩:=h;exact ⟨A1,A,h⟩
def Y6 (x:ZV):Nat:=ZL x.pattern
def YN (l:List ZV):Nat:=l.length+(l.map Y6).sum
def Zuj (x:ZV):Prop:=Zem x.kind/\ZjZ x.pattern
structure Zq where
 name:BYT
 priority:Int
 cond:List Zh
 thn:List ZV
def X6:YC Zq where
 size:=4
 rep:=fun w cs x L=>∃A1 a L1 A2 c L2,cs=[.string x.name,.int .i64 x.priority,.slice A1 x.cond.length a,.slice A2 x.thn.length c]/\L=L1++L2/\x.name.size<=9223372036854775807/\x.cond.length<=a/\a<=maxLen/\Sli X8 w A1 x.cond L1/\x.thn.length<=c/\c<=maxLen/\Sli YT w A2 x.thn L2
 len:=fun ⟨A1,a,L1,A2,c,L2,h,hL,f,g,i,d,j,k,e⟩=>by simp [h]
 keep:=fun ⟨A1,a,L1,A2,c,L2,h,hL,f,g,i,d,j,k,e⟩ hk=>⟨A1,a,L1,A2,c,L2,h,hL,f,g,i,d.keep (fun b m=>hk b (by simp [hL,m])),j,k,e.keep (fun b m=>hk b (by simp [hL,m]))⟩
 lt:=fun ⟨A1,a,L1,A2,c,L2,h,hL,f,g,i,d,j,k,e⟩=>by intro b m;simp only[hL,A0]at m;rcases m with m|m<;>first|exact d.lt b m|exact e.lt b m
 one:=fun ⟨A1,a,L1,A2,c,L2,h,hL,f,g,i,d,j,k,e⟩=>by simp [h,Value.oneCell']
 pos:=by omega
theorem Zeo {w:World}{cs:List Value}{x:Zq}{L:List Nat}(h:X6.rep w cs x L):∃A1 A A2 c2,cs=[.string x.name,.int .i64 x.priority,.slice A1 x.cond.length A,.slice A2 x.thn.length c2]:=by
 obtain ⟨A1,A,L1,A2,c2,L2,h,I,B,F,H,D,E,G,C⟩:=h;exact ⟨A1,A,A2,c2,h⟩
def YW (x:Zq):Nat:=x.name.size+Xp x.cond+YN x.thn
def YS (l:List Zq):Nat:=l.length+(l.map YW).sum
def ZyV (x:Zq):Prop:=(fun _=>True) x.name/\Zem x.priority/\(fun ds=>∀d∈ds,Zu5 d) x.cond/\(fun ds=>∀d∈ds,Zuj d) x.thn
structure Zi where
 facts:List Zf
 binding:List Zj
def Yt:YC Zi where
 size:=2
 rep:=fun w cs x L=>∃A1 a L1 A2 c L2,cs=[.slice A1 x.facts.length a,.slice A2 x.binding.length c]/\L=L1++L2/\x.facts.length<=a/\a<=maxLen/\Sli Ys w A1 x.facts L1/\x.binding.length<=c/\c<=maxLen/\Sli XK w A2 x.binding L2
 len:=fun ⟨A1,a,L1,A2,c,L2,h,hL,f,g,d,i,j,e⟩=>by simp [h]
 keep:=fun ⟨A1,a,L1,A2,c,L2,h,hL,f,g,d,i,j,e⟩ hk=>⟨A1,a,L1,A2,c,L2,h,hL,f,g,d.keep (fun b m=>hk b (by simp [hL,m])),i,j,e.keep (fun b m=>hk b (by simp [hL,m]))⟩
 lt:=fun ⟨A1,a,L1,A2,c,L2,h,hL,f,g,d,i,j,e⟩=>by intro b m;simp only[hL,A0]at m;rcases m with m|m<;>first|exact d.lt b m|exact e.lt b m
 one:=fun ⟨A1,a,L1,A2,c,L2,h,hL,f,g,d,i,j,e⟩=>by simp [h,Value.oneCell']
 pos:=by omega
theorem Zda {w:World}{cs:List Value}{x:Zi}{L:List Nat}(h:Yt.rep w cs x L):∃A1 A A2 c2,cs=[.slice A1 x.facts.length A,.slice A2 x.binding.length c2]:=by
 obtain ⟨A1,A,L1,A2,c2,L2,h,H,E,G,C,D,F,B⟩:=h;exact ⟨A1,A,A2,c2,h⟩
def YF (x:Zi):Nat:=Yi x.facts+XP x.binding
def YX (l:List Zi):Nat:=l.length+(l.map YF).sum
def Zwu (x:Zi):Prop:=(fun ds=>∀d∈ds,Zok d) x.facts/\(fun ds=>∀d∈ds,Zzp d) x.binding
structure ZO where
 shape:Zm
 facts:List Zf
def Xd:YC ZO where
 size:=3
 rep:=fun w cs x L=>∃A1 a L1 A2 c L2,cs=[.string x.shape.rel,.slice A1 x.shape.args.length a,.slice A2 x.facts.length c]/\L=L1++L2/\x.shape.rel.size<=9223372036854775807/\x.shape.args.length<=a/\a<=maxLen/\Sli ZbY w A1 x.shape.args L1/\x.facts.length<=c/\c<=maxLen/\Sli Ys w A2 x.facts L2
 len:=fun ⟨A1,a,L1,A2,c,L2,h,hL,f,g,i,d,j,k,e⟩=>by simp [h]
 keep:=fun ⟨A1,a,L1,A2,c,L2,h,hL,f,g,i,d,j,k,e⟩ hk=>⟨A1,a,L1,A2,c,L2,h,hL,f,g,i,d.keep (fun b m=>hk b (by simp [hL,m])),j,k,e.keep (fun b m=>hk b (by simp [hL,m]))⟩
 lt:=fun ⟨A1,a,L1,A2,c,L2,h,hL,f,g,i,d,j,k,e⟩=>by intro b m;simp only[hL,A0]at m;rcases m with m|m<;>first|exact d.lt b m|exact e.lt b m
 one:=fun ⟨A1,a,L1,A2,c,L2,h,hL,f,g,i,d,j,k,e⟩=>by simp [h,Value.oneCell']
 pos:=by omega
theorem Zc3 {w:World}{cs:List Value}{x:ZO}{L:List Nat}(h:Xd.rep w cs x L):∃A1 A A2 c2,cs=[.string x.shape.rel,.slice A1 x.shape.args.length A,.slice A2 x.facts.length c2]:=by
 obtain ⟨A1,A,L1,A2,c2,L2,h,I,B,F,H,D,E,G,C⟩:=h;exact ⟨A1,A,A2,c2,h⟩
def Yz (x:ZO):Nat:=ZL x.shape+Yi x.facts
def Y5 (l:List ZO):Nat:=l.length+(l.map Yz).sum
def Zwp (x:ZO):Prop:=ZjZ x.shape/\(fun ds=>∀d∈ds,Zok d) x.facts
structure ZA where
 parent:Int
 cond:Zh
 alpha:Int
 tokens:List Zi
def QC:YC ZA where
 size:=8
 rep:=fun w cs x L=>∃A1 a L1 A2 c L2,cs=[.int .i64 x.parent,.int .i64 x.cond.kind,.string x.cond.pattern.rel,.slice A1 x.cond.pattern.args.length a,.string x.cond.left,.string x.cond.right,.int .i64 x.alpha,.slice A2 x.tokens.length c]/\L=L1++L2/\x.cond.pattern.rel.size<=9223372036854775807/\x.cond.left.size<=9223372036854775807/\x.cond.right.size<=9223372036854775807/\x.cond.pattern.args.length<=a/\a<=maxLen/\Sli ZbY w A1 x.cond.pattern.args L1/\x.tokens.length<=c/\c<=maxLen/\Sli Yt w A2 x.tokens L2
 len:=fun ⟨A1,a,L1,A2,c,L2,h,hL,f,g,i,j,k,d,l,n,e⟩=>by simp [h]
 keep:=fun ⟨A1,a,L1,A2,c,L2,h,hL,f,g,i,j,k,d,l,n,e⟩ hk=>⟨A1,a,L1,A2,c,L2,h,hL,f,g,i,j,k,d.keep (fun b m=>hk b (by simp [hL,m])),l,n,e.keep (fun b m=>hk b (by simp [hL,m]))⟩
 lt:=fun ⟨A1,a,L1,A2,c,L2,h,hL,f,g,i,j,k,d,l,n,e⟩=>by intro b m;simp only[hL,A0]at m;rcases m with m|m<;>first|exact d.lt b m|exact e.lt b m
 one:=fun ⟨A1,a,L1,A2,c,L2,h,hL,f,g,i,j,k,d,l,n,e⟩=>by simp [h,Value.oneCell']
 pos:=by omega
theorem Zeh {w:World}{cs:List Value}{x:ZA}{L:List Nat}(h:QC.rep w cs x L):∃A1 A A2 c2,cs=[.int .i64 x.parent,.int .i64 x.cond.kind,.string x.cond.pattern.rel,.slice A1 x.cond.pattern.args.length A,.string x.cond.left,.string x.cond.right,.int .i64 x.alpha,.slice A2 x.tokens.length c2]:=by
 obtain ⟨A1,A,L1,A2,c2,L2,h,J,C,B,t2,G,I,E,F,H,D⟩:=h;exact ⟨A1,A,A2,c2,h⟩
def YU (x:ZA):Nat:=Yf x.cond+YX x.tokens
def XO (l:List ZA):Nat:=l.length+(l.map YU).sum
def Zy7 (x:ZA):Prop:=Zem x.parent/\Zu5 x.cond/\Zem x.alpha/\(fun ds=>∀d∈ds,Zwu d) x.tokens
structure Zc where
 rules:List Zq
 ends:List Int
 alphas:List ZO
 nodes:List ZA
 facts:List Zf
 tries:Int
def Yr:YC Zc where
 size:=6
 rep:=fun w cs x L=>∃A1 a L1 A2 c L2 A3 d L3 A4 e L4 A5 f L5,cs=[.slice A1 x.rules.length a,.slice A2 x.ends.length c,.slice A3 x.alphas.length d,.slice A4 x.nodes.length e,.slice A5 x.facts.length f,.int .i64 x.tries]/\L=L1++(L2++(L3++(L4++L5)))/\x.rules.length<=a/\a<=maxLen/\Sli X6 w A1 x.rules L1/\x.ends.length<=c/\c<=maxLen/\Sli ZeD w A2 x.ends L2/\x.alphas.length<=d/\d<=maxLen/\Sli Xd w A3 x.alphas L3/\x.nodes.length<=e/\e<=maxLen/\Sli QC w A4 x.nodes L4/\x.facts.length<=f/\f<=maxLen/\Sli Ys w A5 x.facts L5
 len:=fun ⟨A1,a,L1,A2,c,L2,A3,d,L3,A4,e,L4,A5,f,L5,h,hL,n,o,g,p,q,i,r,s,j,t,u,k,v,y,l⟩=>by simp [h]
 keep:=fun ⟨A1,a,L1,A2,c,L2,A3,d,L3,A4,e,L4,A5,f,L5,h,hL,n,o,g,p,q,i,r,s,j,t,u,k,v,y,l⟩ hk=>⟨A1,a,L1,A2,c,L2,A3,d,L3,A4,e,L4,A5,f,L5,h,hL,n,o,g.keep (fun b m=>hk b (by simp [hL,m])),p,q,i.keep (fun b m=>hk b (by simp [hL,m])),r,s,j.keep (fun b m=>hk b (by simp [hL,m])),t,u,k.keep (fun b m=>hk b (by simp [hL,m])),v,y,l.keep (fun b m=>hk b (by simp [hL,m]))⟩
 lt:=fun ⟨A1,a,L1,A2,c,L2,A3,d,L3,A4,e,L4,A5,f,L5,h,hL,n,o,g,p,q,i,r,s,j,t,u,k,v,y,l⟩=>by intro b m;simp only[hL,A0]at m;rcases m with m|m|m|m|m<;>first|exact g.lt b m|exact i.lt b m|exact j.lt b m|exact k.lt b m|exact l.lt b m
 one:=fun ⟨A1,a,L1,A2,c,L2,A3,d,L3,A4,e,L4,A5,f,L5,h,hL,n,o,g,p,q,i,r,s,j,t,u,k,v,y,l⟩=>by simp [h,Value.oneCell']
 pos:=by omega
theorem X5 {w:World}{cs:List Value}{x:Zc}{L:List Nat}(h:Yr.rep w cs x L):∃A1 D A2 c2 A3 C A4 B A5 A,cs=[.slice A1 x.rules.length D,.slice A2 x.ends.length c2,.slice A3 x.alphas.length C,.slice A4 x.nodes.length B,.slice A5 x.facts.length A,.int .i64 x.tries]:=by
 obtain ⟨A1,D,L1,A2,c2,L2,A3,C,L3,A4,B,L4,A5,A,L5,h,V,O,U,I,N,T,H,M,S,G,K,R,F,J,P,E⟩:=h;exact ⟨A1,D,A2,c2,A3,C,A4,B,A5,A,h⟩
def ZZ (x:Zc):Nat:=YS x.rules+x.ends.length+Y5 x.alphas+XO x.nodes+Yi x.facts
def Zml (x:Zc):Prop:=(fun ds=>∀d∈ds,ZyV d) x.rules/\(fun ds=>∀d∈ds,Zem d) x.ends/\(fun ds=>∀d∈ds,Zwp d) x.alphas/\(fun ds=>∀d∈ds,Zy7 d) x.nodes/\(fun ds=>∀d∈ds,Zok d) x.facts/\Zem x.tries
structure YB where
 kind:Int
 rule:BYT
 fact:Zf
def XG:YC YB where
 size:=4
 rep:=fun w cs x L=>∃A1 a L1,cs=[.int .i64 x.kind,.string x.rule,.string x.fact.rel,.slice A1 x.fact.args.length a]/\L=L1/\x.rule.size<=9223372036854775807/\x.fact.rel.size<=9223372036854775807/\x.fact.args.length<=a/\a<=maxLen/\Sli ZbY w A1 x.fact.args L1
 len:=fun ⟨A1,a,L1,h,hL,d,e,f,g,c⟩=>by simp [h]
 keep:=fun ⟨A1,a,L1,h,hL,d,e,f,g,c⟩ hk=>⟨A1,a,L1,h,hL,d,e,f,g,c.keep (fun b m=>hk b (by simp [hL,m]))⟩
 lt:=fun ⟨A1,a,L1,h,hL,d,e,f,g,c⟩=>by intro b m;simp only[hL,A0]at m;exact c.lt b m
 one:=fun ⟨A1,a,L1,h,hL,d,e,f,g,c⟩=>by simp [h,Value.oneCell']
 pos:=by omega
theorem Zdj {w:World}{cs:List Value}{x:YB}{L:List Nat}(h:XG.rep w cs x L):∃A1 A,cs=[.int .i64 x.kind,.string x.rule,.string x.fact.rel,.slice A1 x.fact.args.length A]:=by
 obtain ⟨A1,A,L1,h,G,C,B,E,F,D⟩:=h;exact ⟨A1,A,h⟩
def XM (x:YB):Nat:=x.rule.size+YV x.fact
def Xl (l:List YB):Nat:=l.length+(l.map XM).sum
def Zrw (x:YB):Prop:=Zem x.kind/\(fun _=>True) x.rule/\Zok x.fact
end
section
open Go.RowKit
inductive PK where
 |int (k:IntKind)
 |bool
 |str
def Zj7:PK->Value->Prop
 |.int k,.int k' _=>k=k'
 |.bool,.bool _=>True
 |.str,.string s=>s.size<=9223372036854775807
 |_,_=>False
def ZlO (kk vk:PK) (kv:List (Value×Value)):Prop:=∀p∈kv,Zj7 kk p.1/\Zj7 vk p.2
inductive CT where
 | int (k:IntKind) (n:Int)
 | bool (b:Bool)
 | str (s:BYT)
 | sl (e m:Nat) (xs:List (List CT))
 /-- a pointer to cells that are only read -/
 | pt (es:List CT)
 /-- a function value with what it has captured -/
 | fn (f:Nat) (cs:List CT)
 /-- a map of plain keys and plain values that is only read -/
 | mp (kk vk:PK) (kv:List (Value × Value))
 /-- an interface value: nil or not -/
 | ifc (isNil:Bool)
 /-- a cell of which nothing is known -/
 | any
 /-- the nil slice -/
 | nl (e m:Nat)
def ZfJ (es:Array MapEntry):List (Value×Value):=es.toList.map fun e=>(e.key,e.val)
mutual
def RC (w:World):CT->Value->List Nat->Prop
 |.int k n,v,L=>v=.int k n/\L=[]
 |.bool b,v,L=>v=.bool b/\L=[]
 |.str s,v,L=>v=.string s/\L=[]/\s.size<=9223372036854775807
 |.sl _ m xs,v,L=>∃A cap cs L0 L1,v=.slice A xs.length cap/\xs.length<=cap/\cap<=maxLen/\L=L0++L1/\0<m/\Sl w m A xs.length cs L0/\REs w m xs cs L1
 |.pt es,v,L=>∃b cs L1,v=.pointer (some ⟨b,0,none⟩)/\b<w.heap.size/\L=b::L1/\Zal w b 0 cs/\RCs w es cs L1
 |.fn f es,v,L=>∃vs:List Value,v=.func (.func f) #[] vs.toArray/\RCs w es vs L
 |.mp kk vk kv,v,L=>∃b es c,v=.map (some b)/\w.heap[b]?=some (.map es c)/\ZfJ es=kv/\ZlO kk vk kv/\L=[b]
 |.ifc b,v,L=>L=[]/\v.oneCell'=true/\(match b with|true=>v=.nilIface|false=>∃t x,v=.iface t x)
 |.any,v,L=>L=[]/\v.oneCell'=true
 |.nl _ _,v,L=>v=.slice none 0 0/\L=[]
def RCs (w:World):List CT->List Value->List Nat->Prop
 | [],cs,L=>cs=[]/\L=[]
 |x::r,cs,L=>∃v cs' L1 L2,cs=v::cs'/\L=L1++L2/\RC w x v L1/\RCs w r cs' L2
def REs (w:World) (m:Nat):List (List CT)->List Value->List Nat->Prop
 | [],cs,L=>cs=[]/\L=[]
 |e::r,cs,L=>∃a b L1 L2,cs=a++b/\L=L1++L2/\(RCs w e a L1/\a.length=m)/\REs w m r b L2
end
mutual
theorem RC.keep {w w':World}:∀{x:CT}{v:Value}{L:List Nat},RC w x v L->(∀b∈L,w'.heap[b]?=w.heap[b]?)->RC w' x v L
 |.int _ _,_,_,h,_=>h
 |.bool _,_,_,h,_=>h
 |.str _,_,_,h,_=>h
 |.sl _ _ _,_,_,⟨A,cap,cs,L0,L1,h1,h2,h3,h4,h5,h6,h7⟩,hk=>⟨A,cap,cs,L0,L1,h1,h2,h3,h4,h5,h6.keep fun b m=>hk b (by simp [h4,m]),h7.keep fun b m=>hk b (by simp [h4,m])⟩
 |.pt _,_,_,⟨b,cs,L1,h1,h2,h3,h4,h5⟩,hk=>⟨b,cs,L1,h1,by
   have e:=hk b (by simp [h3]);rcases Aa b w'.heap.size with h|h
   .exact h
   .rw [Array.getElem?_eq_none h]at e;have:=Array.getElem?_eq_none_iff.1 e.symm;omega,h3,fun j u B=>by rw [<-h4 j u B];exact World.cell?_of_block (hk b (by simp [h3])),h5.keep fun b m=>hk b (by simp [h3,m])⟩
 |.fn _ _,_,_,⟨vs,h1,h2⟩,hk=>⟨vs,h1,h2.keep hk⟩
 |.mp _ _ _,_,_,⟨b,es,c,h1,h2,h3,a,h4⟩,hk=>⟨b,es,c,h1,by rw [hk b (by simp [h4])];exact h2,h3,a,h4⟩
 |.ifc _,_,_,h,_=>h
 |.any,_,_,h,_=>h
 |.nl _ _,_,_,h,_=>h
theorem RCs.keep {w w':World}:∀{x:List CT}{v:List Value}{L:List Nat},RCs w x v L->(∀b∈L,w'.heap[b]?=w.heap[b]?)->RCs w' x v L
 | [],_,_,h,_=>h
 |_::_,_,_,⟨v,cs,L1,L2,h1,h2,h3,h4⟩,hk=>⟨v,cs,L1,L2,h1,h2,h3.keep fun b m=>hk b (by simp [h2,m]),h4.keep fun b m=>hk b (by simp [h2,m])⟩
theorem REs.keep {w w':World}{m:Nat}:∀{x:List (List CT)}{v:List Value}{L:List Nat},REs w m x v L->(∀b∈L,w'.heap[b]?=w.heap[b]?)->REs w' m x v L
 | [],_,_,h,_=>h
 |_::_,_,_,⟨c1,c2,L1,L2,h1,h2,h3,h4⟩,hk=>⟨c1,c2,L1,L2,h1,h2,⟨h3.1.keep fun b m=>hk b (by simp [h2,m]),h3.2⟩,h4.keep fun b m=>hk b (by simp [h2,m])⟩
end
mutual
theorem RC.lt {w:World}:∀{x:CT}{v:Value}{L:List Nat},RC w x v L->∀b∈L,b<w.heap.size
 |.int _ _,_,_,h=>by simp [h.2]
 |.bool _,_,_,h=>by simp [h.2]
 |.str _,_,_,h=>by simp [h.2.1]
 |.sl _ _ _,_,_,⟨A,cap,cs,L0,L1,h1,h2,h3,h4,h5,h6,h7⟩=>fun b m=>by
  rw [h4]at m;rcases A0.1 m with m|m
  .exact h6.lt h5 b m
  .exact h7.lt b m
 |.pt _,_,_,⟨b,cs,L1,h1,h2,h3,h4,h5⟩=>fun x m=>by
  rw [h3]at m;rcases AF.1 m with rfl|m
  .exact h2
  .exact h5.lt x m
 |.fn _ _,_,_,⟨vs,h1,h2⟩=>h2.lt
 |.mp _ _ _,_,_,⟨b,es,c,h1,h2,h3,h3',h4⟩=>fun x m=>by
  rw [h4]at m;simp at m;subst m;exact (AB.1 h2).1
 |.ifc _,_,_,h=>by simp [h.1]
 |.any,_,_,h=>by simp [h.1]
 |.nl _ _,_,_,h=>by simp [h.2]
theorem RCs.lt {w:World}:∀{x:List CT}{v:List Value}{L:List Nat},RCs w x v L->∀b∈L,b<w.heap.size
 | [],_,_,h=>by simp [h.2]
 |_::_,_,_,⟨v,cs,L1,L2,h1,h2,h3,h4⟩=>fun b m=>by
  rw [h2]at m;rcases A0.1 m with m|m
  .exact h3.lt b m
  .exact h4.lt b m
theorem REs.lt {w:World}{m:Nat}:∀{x:List (List CT)}{v:List Value}{L:List Nat},REs w m x v L->∀b∈L,b<w.heap.size
 | [],_,_,h=>by simp [h.2]
 |_::_,_,_,⟨c1,c2,L1,L2,h1,h2,h3,h4⟩=>fun b m=>by
  rw [h2]at m;rcases A0.1 m with m|m
  .exact h3.1.lt b m
  .exact h4.lt b m
end
theorem RC.one {w:World}:∀{x:CT}{v:Value}{L:List Nat},RC w x v L->v.oneCell'=true
 |.int _ _,_,_,h=>by simp [h.1,Value.oneCell']
 |.bool _,_,_,h=>by simp [h.1,Value.oneCell']
 |.str _,_,_,h=>by simp [h.1,Value.oneCell']
 |.sl _ _ _,_,_,⟨A,cap,cs,L0,L1,h1,_⟩=>by simp [h1,Value.oneCell']
 |.pt _,_,_,⟨b,cs,L1,h1,_⟩=>by simp [h1,Value.oneCell']
 |.fn _ _,_,_,⟨vs,h1,_⟩=>by simp [h1,Value.oneCell']
 |.mp _ _ _,_,_,⟨b,es,c,h1,_⟩=>by simp [h1,Value.oneCell']
 |.ifc _,_,_,h=>h.2.1
 |.any,_,_,h=>h.2
 |.nl _ _,_,_,h=>by simp [h.1,Value.oneCell']
theorem RCs.one {w:World}:∀{x:List CT}{v:List Value}{L:List Nat},RCs w x v L->∀u∈v,u.oneCell'=true
 | [],_,_,h=>by simp [h.1]
 |_::_,_,_,⟨v,cs,L1,L2,h1,h2,h3,h4⟩=>fun u m=>by
  rw [h1]at m;rcases AF.1 m with rfl|m
  .exact h3.one
  .exact h4.one u m
theorem RCs.len {w:World}:∀{x:List CT}{v:List Value}{L:List Nat},RCs w x v L->v.length=x.length
 | [],_,_,h=>by simp [h.1]
 |_::_,_,_,⟨v,cs,L1,L2,h1,h2,h3,h4⟩=>by simp [h1,h4.len]
theorem RCs.append {w:World}:∀{xs A:List CT}{B vs:List Value}{L M:List Nat},RCs w xs B L->RCs w A vs M->RCs w (xs++A) (B++vs) (L++M)
 | [],_,_,_,_,_,h,h'=>by obtain ⟨rfl,rfl⟩:=h;simpa using h'
 |_::_,_,_,_,_,_,⟨v,cs,L1,L2,h1,h2,h3,h4⟩,h'=>⟨v,cs++_,L1,L2++_,by simp [h1],by simp [h2],h3,h4.append h'⟩
end
section
open Go.RowKit
inductive AV where
 | c (x:CT)
 /-- a row that the call has made with all that it leads to,from now on only read,maybe through others too -/
 | n (x:CT)
 | row (k:Nat)
 | nil (e m:Nat)
 | dead
inductive SV where
 |any
 |und
 |p (agg:Bool) (cs:List AV)
 |tup (xs:List (Bool×List AV))
 |bp (k off:Nat)
 |rp (k m i off:Nat)
 |ep (e:List CT) (off:Nat)
 |fn (f:FuncId)
inductive Ob where
 |gone
 |box (t:TypeId) (cs:List AV)
 |row (e m:Nat) (xs:List (List CT)) (deep:Nat)
 |map (kk vk:PK) (kv:List (Value×Value))
def upd {α:Type}(f:Nat->α) (k:Nat) (v:α):Nat->α:=fun j=>if j=k then v else f j
def Zb1 (a b:Nat):Nat:=if a<=b then a else b
structure St where
 sl:Nat->SV
 ob:Nat->Ob
 n:Nat
def St.put (st:St) (d:Option Nat) (v:SV):St:=match d with|none=>st|some t=>{ st with sl:=upd st.sl t v }
def Zl (ob:Nat->Ob):List (Nat×Ob)->Nat->Ob
 | []=>ob
 |p::r=>Zl (upd ob p.1 p.2) r
def St.app (st:St) (u:List (Nat×Ob)):St:={ st with ob:=Zl st.ob u }
structure FI where
 off:Nat
 size:Nat
 agg:Bool
inductive TI where
 |atom (z:AV)
 |strct (fs:List FI) (n:Nat) (z:List AV)
 |slice (e m bytes:Nat) (z:List AV)
 |map (kk vk:PK)
 |eqs (ks:List PK)
 |ifc
def ZyT:Option TI->Bool
 |some .ifc=>true
 |_=>false
def ZnW:Option TI->Option (List AV)
 |some (.atom z)=>some [z]
 |some (.strct _ _ z)=>some z
 |some (.slice e m _ _)=>some [.nil e m]
 |_=>none
def Zcs (s:BYT):Bool:=Nat.ble s.data.toList.length 9223372036854775807
def cvT (ti:Option TI):Value->SV
 |.int k n=>.p false [.c (.int k n)]
 |.bool b=>.p false [.c (.bool b)]
 |.string s=>if Zcs s then .p false [.c (.str s)] else .any
 |.slice none 0 0=>match ti with|some (.slice e m _ _)=>.p false [.nil e m]|_=>.any
 |_=>.any
section
variable (tt:Nat->Option TI)
def St.ev (st:St) (t:Nat):Operand->SV
 |.tmp s=>st.sl s
 |.const v=>cvT (tt t) v
 |.func f=>.fn f
 |.global _=>.any
def ZFY (k:IntKind) (x y:Int):Int:=k.wrap (BitVec.ofInt k.bits x &&& BitVec.ofInt k.bits y).toNat
def orI (k:IntKind) (x y:Int):Int:=k.wrap (BitVec.ofInt k.bits x ||| BitVec.ofInt k.bits y).toNat
def ZGK (k:IntKind) (x y:Int):Int:=k.wrap (BitVec.ofInt k.bits x ^^^ BitVec.ofInt k.bits y).toNat
def Zwv (k:IntKind) (x y:Int):Int:=k.wrap (BitVec.ofInt k.bits x &&& ~~~ BitVec.ofInt k.bits y).toNat
def ZGP (k:IntKind) (x y:Int):Int:=k.wrap (x*2 ^ (min y.toNat k.bits))
def ZGa (k:IntKind) (x y:Int):Int:=x.fdiv (2 ^ (min y.toNat k.bits))
def ZFh (op:BinOp) (k:IntKind) (x y:Int):Option Int:=
 match op with
 |.and=>some (ZFY k x y)
 |.or=>some (orI k x y)
 |.xor=>some (ZGK k x y)
 |.andNot=>some (Zwv k x y)
 |_=>none
def ZBz (op:BinOp) (k:IntKind) (x y:Int):Option CT:=
 match op with
 |.add=>some (.int k (k.wrap (x+y)))
 |.sub=>some (.int k (k.wrap (x - y)))
 |.mul=>some (.int k (k.wrap (x*y)))
 |.quo=>if y=0 then none else some (.int k (k.wrap (x.tdiv y)))
 |.rem=>if y=0 then none else some (.int k (x.tmod y))
 |.eql=>some (.bool (x==y))
 |.neq=>some (.bool (x != y))
 |.lss=>some (.bool (decide (x<y)))
 |.leq=>some (.bool (decide (x<=y)))
 |.gtr=>some (.bool (decide (y<x)))
 |.geq=>some (.bool (decide (y<=x)))
 |.shl=>if y<0 then none else some (.int k (ZGP k x y))
 |.shr=>if y<0 then none else some (.int k (ZGa k x y))
 |op=>(ZFh op k x y).map (.int k)
def sLt (x y:BYT):Bool:=Op.bytesLess x.toList y.toList
def sEq (x y:BYT):Bool:=decide (x=y)
def ZBH (op:BinOp) (x y:BYT):Option CT:=
 match op with
 |.add=>if x.size+y.size<=9223372036854775807 then some (.str (x++y)) else none
 |.eql=>some (.bool (sEq x y))
 |.neq=>some (.bool (!sEq x y))
 |.lss=>some (.bool (sLt x y))
 |.leq=>some (.bool (sLt x y||sEq x y))
 |.gtr=>some (.bool (!(sLt x y||sEq x y)))
 |.geq=>some (.bool (!sLt x y))
 |_=>none
def eqC:PK->AV->AV->Option Bool
 |.int _,.c (.int k x),.c (.int k' y)=>if k=k' then some (x==y) else none
 |.str,.c (.str x),.c (.str y)=>some (sEq x y)
 |.bool,.c (.bool x),.c (.bool y)=>some (x==y)
 |_,_,_=>none
def Zqe:List PK->List AV->List AV->Option Bool
 | [],[],[]=>some true
 |k::ks,x::r,y::q=>(eqC k x y).bind fun a=>(Zqe ks r q).map fun b=>a&&b
 |_,_,_=>none
def Zy9:Option TI->Option (List PK)
 |some (.eqs ks)=>some ks
 |_=>none
def ZtU (op:BinOp) (b:Bool):Option SV:=
 match op with
 |.eql=>some (.p false [.c (.bool b)])
 |.neq=>some (.p false [.c (.bool (!b))])
 |_=>none
def ZBi (t:Option TI) (op:BinOp):SV->SV->Option SV
 |.p true xs,.p true ys=>(Zy9 t).bind fun ks=>(Zqe ks xs ys).bind (ZtU op)
 |_,_=>none
def ZvI:Value->Bool
 |.nilIface=>true
 |.int _ _=>false
 |.string _=>false
 |.bool _=>false
 |.slice _ _ _=>false
 |_=>false
def Zmt:Operand->Bool
 |.const v=>ZvI v
 |.tmp _=>false
 |.func _=>false
 |.global _=>false
def ZDg (op:BinOp):SV->Option SV
 |.p false [.c (.ifc b)]=>ZtU op b
 |_=>none
def ZzW:SV->Bool
 |.p ag _=>ag
 |_=>false
def ZBe (t:Option TI) (op:BinOp):SV->SV->Option SV
 |.p false [.c (.int k x)],.p false [.c (.int k' y)]=>if k=k'\/op=.shl\/op=.shr then (ZBz op k x y).map fun z=>.p false [.c z] else none
 |.p false [.c (.str x)],.p false [.c (.str y)]=>(ZBH op x y).map fun z=>.p false [.c z]
 |.p false [.c (.bool x)],.p false [.c (.bool y)]=>
  match t,op with
  |some (.atom (.c (.bool _))),.eql=>some (.p false [.c (.bool (x==y))])
  |some (.atom (.c (.bool _))),.neq=>some (.p false [.c (.bool (!(x==y)))])
  |_,_=>none
 |_,_=>none
def unV (op:UnOp):SV->Option SV
 |.p false [.c (.bool b)]=>match op with | .not=>some (.p false [.c (.bool (!b))])|_=>none
 |.p false [.c (.int k n)]=>match op with | .neg=>some (.p false [.c (.int k (k.wrap (0 - n)))])|_=>none
 |_=>none
def Zzw (tt:Nat->Option TI) (t:Nat) (n:Bool) (op:BinOp) (x y:SV):Option SV:=
 if n=true then (if ZyT (tt t)=true then ZDg op x else none) else if ZzW x=true then ZBi (tt (t+4000)) op x y else ZBe (tt t) op x y
def ZgJ:List (List CT)->Option (List Int)
 | []=>some []
 | [.int .u8 n]::r=>(ZgJ r).map fun l=>n::l
 |_::_=>none
def Ql (l:List Int):BYT:=⟨(l.map fun n=>UInt8.ofNat n.toNat).toArray⟩
def Zpx:Option TI->Bool
 |some (.atom (.c (.int .u8 _)))=>true
 |_=>false
def ZtK (s t:Option TI):SV->Option SV
 |.p false [.c (.int _ n)]=>match s,t with|some (.atom _),some (.atom (.c (.int k _)))=>some (.p false [.c (.int k (k.wrap n))])|_,_=>none
 |_=>none
def ZcW:Option TI->Bool
 |some (.slice _ _ _ _)=>true
 |_=>false
def Zd6:Option TI->Bool
 |some (.atom (.c (.str _)))=>true
 |_=>false
def Zqx (st:St) (t:Option TI):SV->Option SV
 |.p false [.c (.sl _ _ xs)]=>if ZcW t=true then some (.p false [.c (.int .i64 xs.length)]) else none
 |.p false [.n (.sl _ _ xs)]=>if ZcW t=true then some (.p false [.c (.int .i64 xs.length)]) else none
 |.p false [.c (.str s)]=>if Zd6 t=true then some (.p false [.c (.int .i64 s.size)]) else none
 |.p false [.nil _ _]=>if ZcW t=true then some (.p false [.c (.int .i64 0)]) else none
 |.p false [.row k]=>match st.ob k with | .row _ _ xs _=>if ZcW t=true then some (.p false [.c (.int .i64 xs.length)]) else none|_=>none
 |_=>none
def Za1 (st:St) (m:Nat):SV->SV->Option SV
 |.p false [.c (.sl _ m' xs)],.p false [.c (.int _ i)]=>if 0<=i/\m=m' then (xs[i.toNat]?).map fun e=>.ep e 0 else none
 |.p false [.row k],.p false [.c (.int _ i)]=>match st.ob k with
  |.row _ m' xs _=>if 0<=i/\i<xs.length/\m=m' then some (.rp k m i.toNat 0) else none
  |_=>none
 |_,_=>none
def Zor (t:Option TI):SV->SV->Option SV
 |.p false [.c (.str s)],.p false [.c (.int _ i)]=>if 0<=i/\Zd6 t=true then (s[i.toNat]?).map fun b=>.p false [.c (.int .u8 b.toNat)] else none
 |_,_=>none
def cut (t:Option TI) (cs:List AV) (off:Nat):Option SV:=
 match t with
 |some (.strct _ n _)=>if off+n<=cs.length then some (.p true ((cs.drop off).take n)) else none
 |some (.eqs _)=>none
 |some _=>(cs[off]?).map fun x=>.p false [x]
 |none=>none
def Zap (st:St) (t:Option TI):SV->Option SV
 |.bp k off=>match st.ob k with | .box _ cs=>cut t cs off|_=>none
 |.rp k m i off=>match st.ob k with | .row _ m' xs _=>(xs[i]?).bind fun e=>if m=m' then cut t (e.map .c) off else none|_=>none
 |.ep e off=>cut t (e.map .c) off
 |.p false [.c (.pt e)]=>cut t (e.map .c) 0
 |_=>none
def splice {α:Type}(cs:List α) (off:Nat) (vs:List α):List α:=cs.take off++(vs++cs.drop (off+vs.length))
def ZwR:AV->Option CT
 |.c (.int k n)=>some (.int k n)
 |.c (.bool b)=>some (.bool b)
 |.c (.str s)=>some (.str s)
 |_=>none
def Zhp:List AV->Option (List CT)
 | []=>some []
 |x::r=>(ZwR x).bind fun a=>(Zhp r).map fun b=>a::b
def ZhE:Option TI->Nat
 |some (.strct _ n _)=>n
 |some (.atom _)=>1
 |some (.slice _ _ _ _)=>1
 |_=>0
def Zmg (d:Nat):SV->Option SV
 |.bp k off=>some (.bp k (off+d))
 |.rp k m i off=>some (.rp k m i (off+d))
 |.ep e off=>some (.ep e (off+d))
 |.p false [.c (.pt e)]=>some (.ep e d)
 |_=>none
def Zoq (fs:List FI) (f:Nat):SV->Option SV
 |.p true cs=>(fs[f]?).bind fun i=>if i.agg then (if i.off+i.size<=cs.length then some (.p true ((cs.drop i.off).take i.size)) else none) else (cs[i.off]?).map fun x=>.p false [x]
 |_=>none
def ZlI (fs:List FI) (cs:List AV):List (Nat×SV)->Option (List AV)
 | []=>some cs
 |(i,.p _ vs)::r=>(fs[i]?).bind fun f=>if vs.length=f.size/\f.off+vs.length<=cs.length then ZlI fs (splice cs f.off vs) r else none
 |_::_=>none
def Zh5 (st:St) (fs:List FI) (z:List AV) (p:Nat×Operand):Nat×SV:=
 match p.2 with
 |.const (.slice none 0 0)=>(p.1,match (fs[p.1]?).bind fun f=>z[f.off]? with|some (.nil e m)=>.p false [.nil e m]|_=>.any)
 |x=>(p.1,st.ev tt 0 x)
def avT (st:St):AV->Option (CT×List Nat×Nat)
 |.c (.int k n)=>some (.int k n,[],2)
 |.c (.bool b)=>some (.bool b,[],2)
 |.c (.str s)=>some (.str s,[],2)
 |.c x=>some (x,[],1)
 |.nil e m=>if 0<m then some (.sl e m [],[],2) else none
 |.row k=>match st.ob k with | .row e m xs d=>(if d=0 then some (.sl e m xs,[],1) else some (.sl e m xs,[k],d))|_=>none
 |.n _=>none
 |.dead=>none
def Zd1 (st:St):List AV->Option (List CT×List Nat×Nat)
 | []=>some ([],[],2)
 |x::r=>(avT st x).bind fun a=>(Zd1 st r).map fun b=>(a.1::b.1,a.2.1++b.2.1,Zb1 a.2.2 b.2.2)
def Qf (st:St) (m:Nat):List SV->Option (List (List CT)×List Nat×Nat)
 | []=>some ([],[],2)
 |.p _ cs::r=>if cs.length=m then (Zd1 st cs).bind fun a=>(Qf st m r).map fun b=>(a.1::b.1,a.2.1++b.2.1,Zb1 a.2.2 b.2.2) else none
 |_::_=>none
def Zmm:AV->Bool
 |.c _=>true
 |_=>false
def Yy:Ob->Ob
 |.row e m xs _=>.row e m xs 0
 |o=>o
def ZT (st:St):List Nat->List (Nat×Ob)
 | []=>[]
 |k::r=>(k,Yy (st.ob k))::ZT st r
def YE (ks:List Nat):List (Nat×Ob):=ks.map fun k=>(k,Ob.gone)
def ZnU (st:St) (k e m m':Nat) (xs:List (List CT)) (d i off:Nat) (x:List CT) (n:Nat) (vs:List AV):Option (List CT)->Option (List (Nat×Ob))
 |some ys=>if m=m'/\vs.length=n/\0<vs.length/\off+vs.length<=m/\0<d then some [(k,.row e m (xs.set i (splice x off ys)) d)] else none
 |none=>(Zd1 st vs).bind fun a=>if m=m'/\vs.length=n/\0<vs.length/\off+vs.length<=m/\0<d/\(k::a.2.1).Nodup then some (YE a.2.1++[(k,.row e m (xs.set i (splice x off a.1)) (Zb1 d a.2.2))]) else none
def Zhh (st:St) (t:Option TI):SV->SV->Option (List (Nat×Ob))
 |.bp k off,.p _ vs=>match st.ob k with
  |.box tb cs=>if vs.length=ZhE t/\0<vs.length/\off+vs.length<=cs.length then some [(k,.box tb (splice cs off vs))] else none
  |_=>none
 |.rp k m i off,.p _ vs=>match st.ob k with
  |.row e m' xs d=>(xs[i]?).bind fun x=>ZnU st k e m m' xs d i off x (ZhE t) vs (Zhp vs)
  |_=>none
 |_,_=>none
def CT.flat:CT->Bool
 |.int _ _=>true
 |.bool _=>true
 |.str _=>true
 |_=>false
def Zco (xs:List (List CT)):Bool:=xs.all fun e=>e.all CT.flat
def Zl8 (fl:Bool) (xs:List (List CT)):Nat:=if (fl&&Zco xs)=true then 2 else 1
def ZhD (st:St) (fl:Bool):SV->Option (List (List CT)×List Nat×Nat)
 |.p false [.c (.sl _ _ ys)]=>some (ys,[],Zl8 fl ys)
 |.p false [.nil _ _]=>some ([],[],2)
 |.p false [.row j]=>match st.ob j with | .row _ _ ys d=>(if d=0 then some (ys,[],Zl8 fl ys) else some (ys,[j],d))|_=>none
 |_=>none
def ZhJ (st:St):SV->Option (List (List CT)×List Nat×Nat)
 |.p false [.nil _ _]=>some ([],[],2)
 |.p false [.row k]=>match st.ob k with | .row _ _ xs d=>(if d=0 then none else some (xs,[k],d))|_=>none
 |_=>none
def Zpz (st:St) (e m:Nat):SV->Bool
 |.p false [.row k]=>match st.ob k with | .row e' m' _ _=>e==e'&&m==m'|_=>false
 |.p false [.nil _ _]=>true
 |_=>false
def ZmT (st:St) (m:Nat):SV->Bool
 |.p false [.row k]=>match st.ob k with | .row _ m' _ _=>m==m'|_=>false
 |.p false [.c (.sl _ m' _)]=>m==m'
 |.p false [.nil _ _]=>true
 |_=>false
def ZpZ (st:St) (key:Nat) (t:Option TI) (s x:SV):Option (SV×List (Nat×Ob)):=
 match t with
 |some (.slice e m _ z)=>
  (ZhJ st s).bind fun a=>(ZhD st (z.all Zmm) x).bind fun b=>
   if Zpz st e m s=true/\ZmT st m x=true/\(a.2.1++b.2.1).Nodup/\a.1.length+b.1.length<=1073741824 then
    some (.p false [.row key],YE (a.2.1++b.2.1)++[(key,.row e m (a.1++b.1) (Zb1 a.2.2 b.2.2))]) else none
 |_=>none
def Zzq (lo:Bool):SV->SV->Option SV
 |.p false [.c (.int k x)],.p false [.c (.int _ y)]=>some (.p false [.c (.int k (if lo then (if y<x then y else x) else (if x<y then y else x)))])
 |_,_=>none
def ZmD:Option TI->Nat
 |some (.slice _ m _ _)=>m
 |_=>0
def hiB (n:Nat):Option SV->Option Nat
 |none=>some n
 |some (.p false [.c (.int _ h)])=>if 0<=h/\h<=n then some h.toNat else none
 |_=>none
def loB (n:Nat):Option SV->Option Nat
 |none=>some 0
 |some (.p false [.c (.int _ l)])=>if 0<=l/\l<=n then some l.toNat else none
 |_=>none
def ZoB (t:Option TI) (lo hi:Option SV):SV->Option SV
 |.p false [.c (.str s)]=>if Zd6 t=true then (hiB s.size hi).bind fun h=>(loB h lo).map fun l=>.p false [.c (.str (s.extract l h))] else none
 |.p false [.c (.sl e m xs)]=>if ZmD t=m then (hiB xs.length hi).bind fun h=>(loB h lo).map fun l=>.p false [.c (.sl e m ((xs.take h).drop l))] else none
 |_=>none
def mvS (d:Nat):Option SV->Option SV->Bool
 |some _,none=>if d=0 then false else true
 |_,_=>false
def Zbf (st:St) (key:Nat) (t:Option TI) (lo hi:Option SV):SV->Option (SV×List (Nat×Ob))
 |.p false [.row k]=>if ZcW t=true then (match st.ob k with
  |.row e m xs d=>if ZmD t=m then if mvS d lo hi=true then (loB xs.length lo).map fun l=>(.p false [.row key],[(k,.gone),(key,.row e m (xs.drop l) d)]) else (hiB xs.length hi).bind fun h=>(loB h lo).map fun l=>(.p false [.c (.sl e m ((xs.take h).drop l))],[(k,.row e m xs 0)]) else none
  |_=>none) else none
 |.p false [.c x]=>(ZoB t lo hi (.p false [.c x])).map fun v=>(v,[])
 |_=>none
def vEq:Value->Value->Bool
 |.int k a,.int k' b=>k==k'&&a==b
 |.string a,.string b=>sEq a b
 |.bool a,.bool b=>a==b
 |_,_=>false
def Zni:List (Value×Value)->Value->Option Value
 | [],_=>none
 |p::r,k=>if vEq k p.1=true then some p.2 else Zni r k
def Zg0:List (Value×Value)->Value->Value->List (Value×Value)
 | [],k,v=>[(k,v)]
 |p::r,k,v=>if vEq k p.1=true then (k,v)::r else p::Zg0 r k v
def avV:Value->AV
 |.int k n=>.c (.int k n)
 |.bool b=>.c (.bool b)
 |.string s=>.c (.str s)
 |_=>.dead
def ZcZ (kv:List (Value×Value)) (k:Value) (z:AV):AV:=match Zni kv k with|some v=>avV v|none=>z
def ZgI (kv:List (Value×Value)) (k:Value):Bool:=(Zni kv k).isSome
def Zgw:PK->AV
 |.int k=>.c (.int k 0)
 |.bool=>.c (.bool false)
 |.str=>.c (.str ⟨#[]⟩)
def ZxF:PK->SV->Option Value
 |.int k,.p false [.c (.int k' n)]=>if k=k' then some (.int k' n) else none
 |.str,.p false [.c (.str s)]=>some (.string s)
 |.bool,.p false [.c (.bool b)]=>some (.bool b)
 |_,_=>none
def ZtV (kk vk:PK) (kv:List (Value×Value)) (i:SV) (ok:Bool):Option SV:=
 (ZxF kk i).map fun k=>match ok with
  |true=>.tup [(false,[ZcZ kv k (Zgw vk)]),(false,[.c (.bool (ZgI kv k))])]
  |false=>.p false [ZcZ kv k (Zgw vk)]
instance pkDec:DecidableEq PK:=fun a b=>match a,b with
 |.int k,.int k'=>if h:k=k' then isTrue (h ▸ rfl) else isFalse (fun e=>h (PK.int.inj e))
 |.bool,.bool=>isTrue rfl
 |.str,.str=>isTrue rfl
 |.int _,.bool=>isFalse (fun e=>by cases e)
 |.int _,.str=>isFalse (fun e=>by cases e)
 |.bool,.int _=>isFalse (fun e=>by cases e)
 |.bool,.str=>isFalse (fun e=>by cases e)
 |.str,.int _=>isFalse (fun e=>by cases e)
 |.str,.bool=>isFalse (fun e=>by cases e)
def Zf6 (kk vk:PK):Option TI->Bool
 |some (.map a b)=>decide (a=kk)&&decide (b=vk)
 |_=>false
def ZiS (st:St) (t:Option TI) (x i:SV) (ok:Bool):Option SV:=
 match x with
 |.p false [.row k]=>match st.ob k with | .map kk vk kv=>if Zf6 kk vk t=true then ZtV kk vk kv i ok else none|_=>none
 |.p false [.c (.mp kk vk kv)]=>if Zf6 kk vk t=true then ZtV kk vk kv i ok else none
 |_=>none
def Zxb (st:St) (t:Option TI) (x i v:SV):Option (List (Nat×Ob)):=
 match x with
 |.p false [.row k]=>match st.ob k with | .map kk vk kv=>if Zf6 kk vk t=true then (ZxF kk i).bind fun a=>(ZxF vk v).map fun b=>[(k,.map kk vk (Zg0 kv a b))] else none|_=>none
 |_=>none
def Zqy (key:Nat):Option TI->Option (SV×List (Nat×Ob))
 |some (.map kk vk)=>some (.p false [.row key],[(key,.map kk vk [])])
 |_=>none
def Zli (st:St):SV->Option (CT×List (Nat×Ob))
 |.bp k 0=>match st.ob k with | .box _ cs=>(zBox cs).map fun l=>(.pt l,[(k,.gone)])|_=>none
 |.p false [.c (.pt e)]=>some (.pt e,[])
 |_=>none
where zBox:List AV->Option (List CT)
 | []=>some []
 |.c x::r=>(zBox r).map fun b=>x::b
 |_::_=>none
def Zf9 (st:St):List SV->Option (List CT×List (Nat×Ob))
 | []=>some ([],[])
 |x::r=>(Zli st x).bind fun a=>(Zf9 st r).map fun b=>(a.1::b.1,a.2++b.2)
def Zno:List AV->Option (List CT)
 | []=>some []
 |.c x::r=>(Zno r).map fun b=>x::b
 |.nil e m::r=>if 0<m then (Zno r).map fun b=>.sl e m []::b else none
 |_::_=>none
def Zte (key:Nat) (t:Option TI):SV->SV->Option (SV×List (Nat×Ob))
 |.p false [.c (.int .i64 n)],.p false [.c (.int .i64 c)]=>
  match t with
  |some (.slice e m _ z)=>(Zno z).bind fun ze=>if 0<=n/\n=c/\n<=1073741824 then some (.p false [.row key],[(key,.row e m (List.replicate n.toNat ze) 2)]) else none
  |_=>none
 |_,_=>none
def Zzv (i:Nat):SV->Option SV
 |.tup xs=>(xs[i]?).map fun x=>.p x.1 x.2
 |_=>none
def Zct (v:Option SV):Option (SV×List (Nat×Ob)):=v.map fun v=>(v,[])
def Zkn (st:St):SV->Option SV
 |.p false [.row k]=>match st.ob k with | .row _ _ xs _=>(ZgJ xs).map fun l=>.p false [.c (.str (Ql l))]|_=>none
 |.p false [.c (.sl _ _ xs)]=>(ZgJ xs).map fun l=>.p false [.c (.str (Ql l))]
 |_=>none
def ZrA (tt:Nat->Option TI):Option TI->Option TI
 |some (.slice e _ _ _)=>tt e
 |_=>none
def ZiN (tt:Nat->Option TI) (st:St) (s t:Nat) (x:SV):Option SV:=
 if (Zd6 (tt t)&&Zpx (ZrA tt (tt s)))=true then Zkn st x else ZtK (tt s) (tt t) x
def ZlK:List TypeId->List Operand->List (TypeId×Operand)
 |t::ts,x::xs=>(t,x)::ZlK ts xs
 | [],x::xs=>(0,x)::ZlK [] xs
 |_,[]=>[]
def evs (st:St) (ts:List TypeId) (xs:List Operand):List SV:=(ZlK ts xs).map fun p=>st.ev tt p.1 p.2
def Zhv (st:St) (key:Nat) (b:Builtin) (ts:List TypeId) (vs:List SV):Option (SV×List (Nat×Ob)):=
 match b,ts,vs with
 |.len,t::_,[x]=>Zct (Zqx st (tt t) x)
 |.append,[t,u],[s,x]=>if t=u then ZpZ st key (tt t) s x else none
 |.max,_,[x,y]=>Zct (Zzq false x y)
 |.min,_,[x,y]=>Zct (Zzq true x y)
 |_,_,_=>none
def opE (key:Nat) (o:Oper) (st:St):Option (SV×List (Nat×Ob)):=
 match o.op with
 |.move x=>some (st.ev tt o.type x,[])
 |.assign x=>some (st.ev tt o.type x,[])
 |.pick c a b=>match st.ev tt 0 c with | .p false [.c (.bool t)]=>some (if t=true then st.ev tt o.type a else st.ev tt o.type b,[])|_=>none
 |.alloc t=>(ZnW (tt t)).map fun z=>(.bp key 0,[(key,.box t z)])
 |.box t x=>match st.ev tt t x with | .p _ cs=>some (.bp key 0,[(key,.box t cs)])|_=>none
 |.build t parts=>match tt t with|some (.strct fs _ z)=>(ZlI fs z (parts.toList.map (Zh5 tt st fs z))).map fun cs=>(.p true cs,[])|_=>none
 |.buildSlice t len parts=>match tt t with
  |some (.slice e m _ z)=>(Qf st m (parts.toList.map fun p=>st.ev tt e p.2)).bind fun a=>
   if parts.toList.map (·.1)=List.range len/\len*m<=16777216/\a.2.1.Nodup/\(!z.all Zmm||a.2.1.isEmpty)=true then some (.p false [.row key],ZT st a.2.1++[(key,.row e m a.1 a.2.2)]) else none
  |_=>none
 |.load t x=>Zct (Zap st (tt t) (st.ev tt 0 x))
 |.store t x v=>(Zhh st (tt t) (st.ev tt 0 x) (st.ev tt t v)).map fun u=>(.und,u)
 |.nilCheck x=>match st.ev tt 0 x with | .bp k i=>some (.bp k i,[]) | .rp k m i j=>some (.rp k m i j,[]) | .ep e i=>some (.ep e i,[]) | .p false [.c (.pt e)]=>some (.p false [.c (.pt e)],[])|_=>none
 |.makeFunc (.func f) first caps=>if first.size=0 then (Zf9 st (caps.toList.map (st.ev tt 0))).bind fun r=>if (r.2.map (·.1)).Nodup then some (.p false [.c (.fn f r.1)],r.2) else none else none
 |.makeMap t none=>Zqy key (tt t)
 |.lookup t x i ok=>Zct (ZiS st (tt t) (st.ev tt 0 x) (st.ev tt 0 i) ok)
 |.mapUpdate t x i v=>(Zxb st (tt t) (st.ev tt 0 x) (st.ev tt 0 i) (st.ev tt 0 v)).map fun u=>(.und,u)
 |.binOp op t x y _=>Zct (Zzw tt t (Zmt y) op (st.ev tt t x) (st.ev tt t y))
 |.unOp op _ x=>Zct (unV op (st.ev tt 0 x))
 |.convert s t x=>Zct (ZiN tt st s t (st.ev tt 0 x))
 |.makeSlice t n c=>Zte key (tt t) (st.ev tt 0 n) (st.ev tt 0 c)
 |.slice t x lo hi none=>Zbf st key (tt t) (lo.map (st.ev tt 0)) (hi.map (st.ev tt 0)) (st.ev tt 0 x)
 |.fieldAddr t x f=>match tt t with|some (.strct fs _ _)=>Zct ((fs[f]?).bind fun i=>Zmg i.off (st.ev tt 0 x))|_=>none
 |.field t x f=>match tt t with|some (.strct fs _ _)=>Zct (Zoq fs f (st.ev tt 0 x))|_=>none
 |.indexAddr t x i=>match tt t with|some (.slice _ m _ _)=>Zct (Za1 st m (st.ev tt 0 x) (st.ev tt 0 i))|_=>none
 |.index t x i=>Zct (Zor (tt t) (st.ev tt 0 x) (st.ev tt 0 i))
 |.extract x i=>Zct (Zzv i (st.ev tt 0 x))
 |.call c=>match c.callee with
  |.builtin b=>Zhv tt st key b c.argTypes.toList (evs tt st c.argTypes.toList c.args.toList)
  |_=>none
 |_=>none
end
def Zdr (st:St):AV->Option CT
 |.c x=>some x
 |.nil e m=>if 0<m then some (.sl e m []) else none
 |.row k=>match st.ob k with | .row e m xs _=>some (.sl e m xs)|_=>none
 |.n x=>some x
 |.dead=>none
def XF (st:St):List AV->Option (List CT)
 | []=>some []
 |x::r=>(Zdr st x).bind fun a=>(XF st r).map fun b=>a::b
def ZeG (st:St):SV->Option (Bool×List CT)
 |.p a cs=>(XF st cs).map fun l=>(a,l)
 |_=>none
def Z8 (st:St):List SV->Option (List (Bool×List CT))
 | []=>some []
 |x::r=>(ZeG st x).bind fun a=>(Z8 st r).map fun b=>a::b
def nlA:AV->AV
 |.nil e m=>.c (.nl e m)
 |.c x=>.c x
 |.n x=>.n x
 |.row k=>.row k
 |.dead=>.dead
def nlS:SV->SV
 |.p a cs=>.p a (cs.map nlA)
 |x=>x
def Zr5:CT->AV
 |.nl e m=>.nil e m
 |.int k n=>.c (.int k n)
 |.bool b=>.c (.bool b)
 |.str s=>.c (.str s)
 |.sl e m xs=>.c (.sl e m xs)
 |.pt es=>.c (.pt es)
 |.fn f es=>.c (.fn f es)
 |.mp k v kv=>.c (.mp k v kv)
 |.ifc b=>.c (.ifc b)
 |.any=>.c .any
abbrev RT:=Bool×List (Bool×CT)
def ZHm (l:List CT):List (Bool×CT):=l.map fun x=>(false,x)
def ZGG (l:List CT):List (Bool×CT):=l.map fun x=>(true,x)
def ZE (key:Nat):List (Bool×CT)->List AV×List (Nat×Ob)×Nat
 | []=>([],[],key)
 |(false,.sl e m xs)::r=>let b:=ZE (key+1) r;(.row key::b.1,(key,.row e m xs 2)::b.2.1,b.2.2)
 |(false,.int k n)::r=>let b:=ZE key r;(.c (.int k n)::b.1,b.2.1,b.2.2)
 |(false,.bool k)::r=>let b:=ZE key r;(.c (.bool k)::b.1,b.2.1,b.2.2)
 |(false,.str s)::r=>let b:=ZE key r;(.c (.str s)::b.1,b.2.1,b.2.2)
 |(false,.ifc x)::r=>let b:=ZE key r;(.c (.ifc x)::b.1,b.2.1,b.2.2)
 |(false,.any)::r=>let b:=ZE key r;(.c .any::b.1,b.2.1,b.2.2)
 |(false,.nl e m)::r=>let b:=ZE key r;(.c (.nl e m)::b.1,b.2.1,b.2.2)
 |(false,.pt x)::r=>let b:=ZE key r;(.c (.pt x)::b.1,b.2.1,b.2.2)
 |(false,.fn f x)::r=>let b:=ZE key r;(.c (.fn f x)::b.1,b.2.1,b.2.2)
 |(false,.mp k v x)::r=>let b:=ZE key r;(.c (.mp k v x)::b.1,b.2.1,b.2.2)
 |(true,x)::r=>let b:=ZE key r;(.c x::b.1,b.2.1,b.2.2)
def ZC (key:Nat):List RT->List (Bool×List AV)×List (Nat×Ob)×Nat
 | []=>([],[],key)
 |x::r=>let a:=ZE key x.2;let b:=ZC a.2.2 r;((x.1,a.1)::b.1,a.2.1++b.2.1,b.2.2)
def ZaA:List (Bool×List AV)->SV
 | [x]=>.p x.1 x.2
 |xs=>.tup xs
inductive Zpy where
 |row (e m:Nat) (xs:List (List CT))
 |box (t:Nat) (cs:List CT)
inductive NB where
 |box (t:Nat) (cs:List CT)
 |map (kk vk:PK) (kv:List (Value×Value))
def ZGX (key:Nat):NB->SV
 |.box _ _=>.bp key 0
 |.map _ _ _=>.p false [.row key]
def ZzM:NB->Ob
 |.box t cs=>.box t (cs.map .c)
 |.map kk vk kv=>.map kk vk kv
structure Ctx where
 r:FuncId→List (Bool × List CT)→List RT→Prop
 h:FuncId→Zpy→List (Bool × List CT)→List RT→Zpy→Prop
 hd:FuncId→Nat
 b:FuncId→List (Bool × List CT)→NB→Prop
 /-- a box with rows of the call's own is handed in: its type and cells,what is given besides,and its cells behind the call -/
 o:FuncId→Nat→List (Bool × CT)→Option (Bool × List (Bool × CT))→List (Bool × List CT)→List RT→List (Bool × CT)→Prop
 /-- something is given,and what is made of it may be among the results -/
 g:FuncId→Bool × List (Bool × CT)→List (Bool × List CT)→List RT→Prop
def gvC:Option (Bool×List (Bool×CT))->List (Bool×CT)
 |none=>[]
 |some g=>g.2
def Zd0:AV->Bool
 |.row _=>false
 |.dead=>false
 |_=>true
def Zj2:SV->Bool
 |.p _ cs=>cs.all Zd0
 |_=>true
def ZdH:List (Bool×CT)->Bool
 | []=>false
 |p::r=>p.1||ZdH r
def ZeH:List RT->Bool
 | []=>false
 |x::r=>ZdH x.2||ZeH r
def ZkC:List AV->List Nat
 | []=>[]
 |.row k::r=>k::ZkC r
 |_::r=>ZkC r
def ZR:List SV->List Nat
 | []=>[]
 |.p _ cs::r=>ZkC cs++ZR r
 |_::r=>ZR r
def Zhz (st:St):SV->Option (Nat×Zpy)
 |.bp k 0=>match st.ob k with | .box t cs=>(if cs.all Zd0=true then (XF st cs).map fun l=>(k,.box t l) else none)|_=>none
 |.p false [.row k]=>match st.ob k with | .row e m xs d=>(if d=2/\Zco xs=true then some (k,.row e m xs) else none)|_=>none
 |_=>none
def ZgW (st:St):AV->Option ((Bool×CT)×List Nat)
 |.c (.sl e m xs)=>some ((true,.sl e m xs),[])
 |.c (.int k n)=>some ((false,.int k n),[])
 |.c (.bool b)=>some ((false,.bool b),[])
 |.c (.str s)=>some ((false,.str s),[])
 |.nil e m=>if 0<m then some ((false,.sl e m []),[]) else none
 |.row k=>match st.ob k with | .row e m xs d=>(if d=2 then some ((false,.sl e m xs),[k]) else none)|_=>none
 |_=>none
def XB (st:St):List AV->Option (List (Bool×CT)×List Nat)
 | []=>some ([],[])
 |x::r=>(ZgW st x).bind fun a=>(XB st r).map fun b=>(a.1::b.1,a.2++b.2)
def Zez (st:St):SV->Option (Nat×Nat×List (Bool×CT)×List Nat)
 |.bp k 0=>match st.ob k with | .box t cs=>((XB st cs).bind fun x=>if x.2.Nodup then some (k,t,x.1,x.2) else none)|_=>none
 |_=>none
def Zfp:Zpy->Ob
 |.row e m xs=>.row e m xs 2
 |.box t cs=>.box t (cs.map .c)
inductive Ex where
 |normal
 |exit (id:Nat)
 |ret
section
variable (tt:Nat->Option TI) (S:Ctx)
def YM {α:Type}(r:Option α) (K:α->Prop):Prop:=match r with|some v=>K v|none=>False
def Zj5 (dst:Option Nat) (K:St->Prop) (st:St) (v:SV):Prop:=K (st.put dst v)
def Znu (dst:Option Nat) (K:St->Prop) (st:St) (r:SV×List (Nat×Ob)):Prop:=K ((st.put dst r.1).app r.2)
def Ztj (f:FuncId) (key:Nat) (dst:Option Nat) (K:St->Prop) (st:St) (vs:List SV) (l:List (Bool×List CT)):Prop:=
 ∃res,S.r f l res/\(!ZeH res||vs.all Zj2)=true/\(ZC key res).2.2<=key+16/\K ((st.put dst (ZaA (ZC key res).1)).app (ZC key res).2.1)
def ZDC (f:FuncId) (key:Nat) (dst:Option Nat) (K:St->Prop) (st:St) (vs:List SV) (l:List (Bool×List CT)):Prop:=
 ∃res,S.r f l res/\(ZC key res).2.2<=key+16/\K ((st.put dst (ZaA (ZC key res).1)).app (ZT st (ZR vs)++(ZC key res).2.1))
def Zy6 (f:FuncId) (key:Nat) (dst:Option Nat) (K:St->Prop) (st:St) (vs:List SV) (kh:Nat×Zpy) (l:List (Bool×List CT)):Prop:=
 ∃res h',S.h f kh.2 l res h'/\(ZR vs).all (fun j=>j != kh.1)=true/\(ZC key res).2.2<=key+16/\K ((st.put dst (ZaA (ZC key res).1)).app (ZT st (ZR vs)++((kh.1,Zfp h')::(ZC key res).2.1)))
def ZkJ (st:St):List SV->Option (Option (Bool×List (Bool×CT))×List Nat)
 | []=>some (none,[])
 | [.p a xs]=>(XB st xs).map fun x=>(some (a,x.1),x.2)
 |_=>none
def Zjx (ks:List Nat) (j:Nat):Bool:=!ks.contains j
def ZwG (f:FuncId) (key:Nat) (dst:Option Nat) (K:St->Prop) (st:St) (vs:List SV) (kh:Nat×Nat×List (Bool×CT)×List Nat) (gh:Option (Bool×List (Bool×CT))×List Nat) (l:List (Bool×List CT)):Prop:=
 ∃res cs',S.o f kh.2.1 kh.2.2.1 gh.1 l res cs'/\(kh.2.2.2++gh.2).Nodup/\(ZR vs).all (Zjx (kh.2.2.2++gh.2))=true/\(ZC key res).2.2=key/\(ZE key cs').2.2<=key+16/\K ((st.put dst (ZaA (ZC key res).1)).app (ZT st (ZR vs)++(YE (kh.2.2.2++gh.2)++((kh.1,.box kh.2.1 (ZE key cs').1)::(ZE key cs').2.1))))
def Zv0 (f:FuncId) (key:Nat) (dst:Option Nat) (K:St->Prop) (st:St) (vs:List SV) (gh:Option (Bool×List (Bool×CT))×List Nat) (l:List (Bool×List CT)):Prop:=
 ∃gv res,gh.1=some gv/\S.g f gv l res/\gh.2.Nodup/\(ZR vs).all (Zjx gh.2)=true/\(ZC key res).2.2<=key+16/\K ((st.put dst (ZaA (ZC key res).1)).app (ZT st (ZR vs)++(YE gh.2++(ZC key res).2.1)))
def ZF8 (f:FuncId) (key:Nat) (dst:Option Nat) (K:St->Prop) (st:St) (vs:List SV) (l:List (Bool×List CT)):Prop:=
 ∃nb,S.b f l nb/\K ((st.put dst (ZGX key nb)).app (ZT st (ZR vs)++[(key,ZzM nb)]))
def ZwF (f:FuncId) (key:Nat) (dst:Option Nat) (K:St->Prop) (st:St):List SV->Prop
 | []=>False
 |v::r=>YM (Zhz st v) fun kh=>YM (Z8 st r) (Zy6 S f key dst K st r kh)
def ZmP (f:FuncId) (n key:Nat) (dst:Option Nat) (K:St->Prop) (st:St):List SV->Prop
 | []=>False
 |v::r=>YM (Zez st v) fun kh=>YM (ZkJ st (r.take n)) fun gh=>YM (Z8 st (r.drop n)) (ZwG S f key dst K st (r.drop n) kh gh)
def ZwI (f:FuncId) (key:Nat) (dst:Option Nat) (K:St->Prop) (st:St):List SV->Prop
 | []=>False
 |v::r=>YM (ZkJ st [v]) fun gh=>YM (Z8 st r) (Zv0 S f key dst K st r gh)
def spK (f:FuncId) (n key:Nat) (dst:Option Nat) (K:St->Prop) (st:St) (vs:List SV):Prop:=
 match n with
 |0=>YM (Z8 st vs) (Ztj S f key dst K st vs)
 |1=>ZwF S f key dst K st vs
 |3=>YM (Z8 st vs) (ZF8 S f key dst K st vs)
 |4=>YM (Z8 st (vs.map nlS)) (Ztj S f key dst K st (vs.map nlS))
 |5=>ZmP S f 0 key dst K st vs
 |6=>ZmP S f 1 key dst K st vs
 |7=>ZwI S f key dst K st vs
 |_=>YM (Z8 st vs) (ZDC S f key dst K st vs)
def XE:Op->Option (FuncId×List TypeId×List Operand)
 |.call ⟨.value (.func f),args,ts⟩=>some (f,ts.toList,args.toList)
 |_=>none
def Qk:Op->Option (Nat×List TypeId×List Operand)
 |.call ⟨.value (.tmp s),args,ts⟩=>some (s,ts.toList,args.toList)
 |_=>none
def Zrs:SV->Option (FuncId×List CT)
 |.p false [.c (.fn f es)]=>some (f,es)
 |.fn f=>some (f,[])
 |_=>none
def ZmJ (c:CT):SV:=.p false [.c c]
def ZCP (key:Nat) (dst:Option Nat) (K:St->Prop) (st:St) (vs:List SV) (fc:FuncId×List CT):Prop:=S.hd fc.1=0/\spK S fc.1 0 key dst K st (vs++fc.2.map ZmJ)
def opS (key:Nat) (o:Oper) (K:St->Prop) (st:St):Prop:=
 match XE o.op with
 |some c=>spK S c.1 (S.hd c.1) key o.dst K st (evs tt st c.2.1 c.2.2)
 |none=>match Qk o.op with
  |some c=>YM (Zrs (st.sl c.1)) (ZCP S key o.dst K st (evs tt st c.2.1 c.2.2))
  |none=>YM (opE tt key o st) (Znu o.dst K st)
def Zb8 (all:List Oper) (o:Oper):Option (Option Nat×Bool):=
 match o.guard with
 |none=>none
 |some g=>some ((all[g.1]?).bind (·.dst),g.2)
def ZbE:SV->Bool
 |.p false [.c (.bool _)]=>true
 |_=>false
def Zak:SV->Bool
 |.p false [.c (.bool b)]=>b
 |_=>false
def Zux:SV->Bool
 |.und=>true
 |_=>false
def gK (v:SV) (want:Bool) (A B:Prop):Prop:=if ZbE v=true then (if (Zak v==want)=true then A else B) else (if Zux v=true then B else False)
def opG (all:List Oper) (key:Nat) (o:Oper) (K:St->Prop) (st:St):Prop:=
 match Zb8 all o with
 |none=>opS tt S key o K st
 |some (none,_)=>K (st.put o.dst .und)
 |some (some t,want)=>gK (st.sl t) want (opS tt S key o K st) (K (st.put o.dst .und))
def Yu (all:List Oper) (key:Nat):List Oper->(St->Prop)->St->Prop
 | [],K,st=>K st
 |o::r,K,st=>opG tt S all key o (Yu all (key+16) r K) st
def ZsG (n:Nat) (K:St->Prop) (st:St):Prop:=K { st with n:=n }
def ZA3 (ops:List Oper) (K:St->Prop) (st:St):Prop:=Yu tt S ops st.n ops (ZsG (st.n+16*ops.length) K) st
def Zjy (k:St->Prop) (Q:Ex->St->Prop):Ex->St->Prop
 |.normal,st=>k st
 |e,st=>Q e st
def ZiQ (id:Nat) (Q:Ex->St->Prop):Ex->St->Prop
 |.exit j,st=>if j=id then Q .normal st else Q (.exit j) st
 |e,st=>Q e st
def ZqN (v:SV) (a b:Prop):Prop:=if ZbE v=true then (if Zak v=true then a else b) else False
def ZrE:List Nat->Nat->Nat->Option Nat
 | [],_,_=>none
 |x::r,k,i=>if x=k then some i else ZrE r k (i+1)
def rAV (ρ:List Nat):AV->AV
 |.row k=>match ZrE ρ k 0 with|some j=>.row j|none=>.dead
 |x=>x
def rSV (ρ:List Nat):SV->SV
 |.p a cs=>.p a (cs.map (rAV ρ))
 |.tup xs=>.tup (xs.map fun x=>(x.1,x.2.map (rAV ρ)))
 |.bp k off=>match ZrE ρ k 0 with|some j=>.bp j off|none=>.any
 |.rp k m i off=>match ZrE ρ k 0 with|some j=>.rp j m i off|none=>.any
 |x=>x
def rOb (ρ:List Nat):Ob->Ob
 |.box t cs=>.box t (cs.map (rAV ρ))
 |x=>x
def St.ren (st:St) (ρ:List Nat):St:=⟨fun t=>rSV ρ (st.sl t),fun j=>match ρ[j]? with|some k=>rOb ρ (st.ob k)|none=>.gone,ρ.length⟩
def St.mat (st:St) (m:Bool×Nat×Nat):St:=
 match m.1 with
 |false=>match st.sl m.2.1 with
  |.p ag cs=>match cs[m.2.2]? with
   |some (.nil e q)=>if 0<q then ⟨upd st.sl m.2.1 (.p ag (cs.set m.2.2 (.row st.n))),upd st.ob st.n (.row e q [] 2),st.n+1⟩ else st
   |some (.row k)=>match st.ob k with
    |.row e q xs _=>⟨upd st.sl m.2.1 (.p ag (cs.set m.2.2 (.c (.sl e q xs)))),upd st.ob k (.row e q xs 0),st.n⟩
    |_=>st
   |_=>st
  |_=>st
 |true=>match st.ob m.2.1 with
  |.box ty cs=>match cs[m.2.2]? with
   |some (.nil e q)=>if 0<q then ⟨st.sl,upd (upd st.ob m.2.1 (.box ty (cs.set m.2.2 (.row st.n)))) st.n (.row e q [] 2),st.n+1⟩ else st
   |some (.row k)=>match st.ob k with
    |.row e q xs _=>⟨st.sl,upd (upd st.ob k (.row e q xs 0)) m.2.1 (.box ty (cs.set m.2.2 (.c (.sl e q xs)))),st.n⟩
    |_=>st
   |_=>st
  |.row e q xs d=>if m.2.2<d then ⟨st.sl,upd st.ob m.2.1 (.row e q xs m.2.2),st.n⟩ else st
  |_=>st
def St.matN (st:St) (m:Bool×Nat×Nat):St:=
 match st.sl m.2.1 with
 |.p ag cs=>match cs[m.2.2 - 4096]? with
  |some (.row k)=>match st.ob k with
   |.row e q xs d=>if d=2 then ⟨upd st.sl m.2.1 (.p ag (cs.set (m.2.2 - 4096) (.n (.sl e q xs)))),upd st.ob k (.row e q xs 0),st.n⟩ else st
   |_=>st
  |_=>st
 |_=>st
def St.mats (st:St):List (Bool×Nat×Nat)->St
 | []=>st
 |m::r=>(if m.1=false/\4096<=m.2.2 then st.matN m else st.mat m).mats r
/- no slice and no text is longer than Go allows, at any depth -/
mutual
def ctD:CT->Prop
 |.sl _ _ xs=>xs.length<=9223372036854775807/\essD xs
 |.pt es=>ctsD es
 |.fn _ es=>ctsD es
 |.str s=>s.size<=9223372036854775807
 |_=>True
def ctsD:List CT->Prop
 | []=>True
 |x::r=>ctD x/\ctsD r
def essD:List (List CT)->Prop
 | []=>True
 |e::r=>ctsD e/\essD r
end
def avD:AV->Prop
 |.c x=>ctD x
 |.n x=>ctD x
 |_=>True
def ZzG:List AV->Prop
 | []=>True
 |x::r=>avD x/\ZzG r
structure WF (st:St):Prop where
 sl:∀t a cs,st.sl t=.p a cs->ZzG cs
 box:∀k t cs,st.ob k=.box t cs->ZzG cs
 row:∀k e m xs d,st.ob k=.row e m xs d->xs.length<=9223372036854775807/\essD xs
theorem Zwa {α:Type}{g:α->List CT}:∀{l:List α}{i:Nat}{x:α},essD (l.map g)->l[i]?=some x->ctsD (g x)
 | [],_,_,_,h=>by simp at h
 |_::_,0,_,h,e=>by simp at e;subst e;exact h.1
 |_::_,i+1,_,h,e=>Zwa h.2 (by simpa using e)
def Zm3 (F:(Ex->St->Prop)->St->Prop) (Q:Ex->St->Prop):Nat->St->Prop
 |0,_=>False
 |n+1,st=>∃(ms:List (Bool×Nat×Nat)) (ρ:List Nat),ρ.Nodup/\(WF ((st.mats ms).ren ρ)->F (Zjy (Zm3 F Q n) Q) ((st.mats ms).ren ρ))
def ldB:SV->Bool
 |.bp k _=>!decide (k=0)
 |.rp k _ _ _=>!decide (k=0)
 |_=>true
def hdB:SV->Bool
 |.bp k _=>decide (k=0)
 |_=>false
def hdC (n:Nat) (x:Option Operand) (st:St):Bool:=match n with
 |1=>match x with|some x=>hdB (st.ev tt 0 x)|none=>false
 |_=>true
def slB:SV->Bool
 |.p false [.c _]=>true
 |_=>false
def orB:Bool->Bool->Bool
 |true,_=>true
 |false,b=>b
def alO (s:Nat):Op->Option Nat->Bool->Bool
 |.alloc _,some d,b=>orB (decide (d=s)) b
 |_,_,b=>b
def alN (s:Nat):List Oper->Bool
 | []=>false
 |o::r=>alO s o.op o.dst (alN s r)
def stX (all:List Oper):Operand->Bool
 |.tmp s=>alN s all
 |_=>false
def Xo (all:List Oper):Op->Bool
 |.store _ x _=>stX all x
 |_=>false
def Zon (all:List Oper):List Oper->Bool
 | []=>false
 |o::r=>orB (Xo all o.op) (Zon all r)
def ldN (n:Nat):SV->Bool
 |.bp k _=>decide (k<n)
 |_=>true
def stB (n:Nat):SV->Bool
 |.bp k _=>decide (n<=k)
 |_=>false
def ldX:Bool->Nat->SV->Bool
 |true,n,v=>ldN n v
 |false,_,v=>ldB v
def stY:Bool->Nat->SV->Bool
 |true,n,v=>stB n v
 |false,_,_=>true
def stk (all:List Oper) (o:Op) (st:St):Bool:=match o with
 |.load _ x=>ldX (Zon all all) st.n (st.ev tt 0 x)
 |.store _ x _=>stY (stX all x) st.n (st.ev tt 0 x)
 |.slice _ x _ _ _=>slB (st.ev tt 0 x)
 |o=>match XE o with|some c=>hdC tt (S.hd c.1) c.2.2.head? st|none=>true
def ifB (b:Bool) (c:Bool) (P:Prop):Prop:=match b with
 |true=>c=true/\P
 |false=>P
def ZhO (b:Bool) (all:List Oper) (base:Nat):List Nat->(St->Prop)->St->Prop
 | [],K,st=>K st
 |i::r,K,st=>match all[i]? with
  |some o=>ifB b (stk tt S all o.op st) (opG tt S all (base+16*i) o (ZhO b all base r K) st)
  |none=>ZhO b all base r K st
def ZvR (od:Option (List Nat×Bool)) (ops:List Oper) (K:St->Prop) (st:St):Prop:=match od with
 |none=>ZA3 tt S ops K st
 |some l=>ZhO tt S l.2 ops st.n l.1 (ZsG (st.n+16*ops.length) K) st
abbrev OD:=Nat->Option (List Nat×Bool)
def swp (od:OD):Code->(Ex->St->Prop)->St->Prop
 |.skip,Q,st=>Q .normal st
 |.region id ops _,Q,st=>ZvR tt S (od id) ops.toList (Q .normal) st
 |.seq a b,Q,st=>swp od a (Zjy (swp od b Q) Q) st
 |.cond c a b,Q,st=>ZqN (st.ev tt 0 c) (swp od a Q st) (swp od b Q st)
 |.block id b,Q,st=>swp od b (ZiQ id Q) st
 |.loop b,Q,st=>∃n,Zm3 (swp od b) Q n st
 |.exit id,Q,st=>Q (.exit id) st
 |.ret,Q,st=>Q .ret st
 |_,_,_=>False
end
def ZgS (st:St):AV->Option ((Bool×CT)×List Nat)
 |.c (.sl e m xs)=>some ((true,.sl e m xs),[])
 |.c (.int k n)=>some ((false,.int k n),[])
 |.c (.bool b)=>some ((false,.bool b),[])
 |.c (.str s)=>some ((false,.str s),[])
 |.nil e m=>if 0<m then some ((false,.sl e m []),[]) else none
 |.c (.ifc x)=>some ((false,.ifc x),[])
 |.c x=>some ((true,x),[])
 |.row k=>match st.ob k with | .row e m xs d=>(if d=2 then some ((false,.sl e m xs),[k]) else some ((true,.sl e m xs),[])) | .map kk vk kv=>some ((true,.mp kk vk kv),[])|_=>none
 |.n x=>some ((true,x),[])
 |.dead=>some ((true,.any),[])
def ZeA (st:St):List AV->Option (List (Bool×CT)×List Nat)
 | []=>some ([],[])
 |x::r=>(ZgS st x).bind fun a=>(ZeA st r).map fun b=>(a.1::b.1,a.2++b.2)
def Zdf (tt:Nat->Option TI) (st:St):List ResultVar->Option (List RT×List Nat)
 | []=>some ([],[])
 |.tmp t::r=>match st.sl t with
  |.p a cs=>(ZeA st cs).bind fun x=>(Zdf tt st r).map fun b=>((a,x.1)::b.1,x.2++b.2)
  |_=>none
 |.cell t ty::r=>match Zap st (tt ty) (st.sl t) with
  |some (.p a cs)=>(ZeA st cs).bind fun x=>(Zdf tt st r).map fun b=>((a,x.1)::b.1,x.2++b.2)
  |_=>none
def Zv6:CT->Bool
 |.any=>true
 |.int _ _=>false
 |.bool _=>false
 |.str _=>false
 |.sl _ _ _=>false
 |.pt _=>false
 |.fn _ _=>false
 |.mp _ _ _=>false
 |.ifc _=>false
 |.nl _ _=>false
def wk1 (x y:Bool×CT) (R:Prop):Prop:=if Zv6 y.2=true then R else x.2=y.2/\(x.1=y.1\/y.1=true)/\R
def wkC:List (Bool×CT)->List (Bool×CT)->Prop
 | [],[]=>True
 |x::r,y::q=>wk1 x y (wkC r q)
 |_,_=>False
def wkR:List RT->List RT->Prop
 | [],[]=>True
 |x::r,y::q=>x.1=y.1/\wkC x.2 y.2/\wkR r q
 |_,_=>False
def Zu (args:List (Bool×List CT)):St:=⟨fun t=>match args[t]? with|some x=>.p x.1 (x.2.map Zr5)|none=>.und,fun _=>.gone,0⟩
def ZuJ (tt:Nat->Option TI) (rs:List ResultVar) (R:St->List RT->List Nat->Prop):Ex->St->Prop
 |.exit _,_=>False
 |_,st=>match Zdf tt st rs with|some x=>x.2.Nodup/\R st x.1 x.2|none=>False
def fnS (od:OD) (tt:Nat->Option TI) (S:Ctx) (rs:List ResultVar) (body:Code) (args:List (Bool×List CT)) (res:List RT):Prop:=swp tt S od body (ZuJ tt rs fun _ r _=>wkR r res) (Zu args)
def ZAA (st:St) (ks:List Nat) (h':Zpy):Prop:=
 match h' with
 |.row e m xs=>∃k,st.sl 0=.p false [.row k]/\st.ob k=.row e m xs 2/\Zco xs=true/\k∉ks
 |.box t cs=>∃k ds,st.sl 0=.bp k 0/\st.ob k=.box t ds/\ds.all Zd0=true/\XF st ds=some cs
def ZgG (t:Nat) (cs:List (Bool×CT)) (gv:Option (Bool×List (Bool×CT))) (args:List (Bool×List CT)):St:=⟨fun s=>match s with|0=>.bp 0 0|s+1=>(match gv with|none=>(match args[s]? with|some x=>.p x.1 (x.2.map .c)|none=>.und)|some g=>(match s with|0=>.p g.1 ((ZE 1 (cs++g.2)).1.drop cs.length)|s+1=>(match args[s]? with|some x=>.p x.1 (x.2.map .c)|none=>.und))),fun k=>if k=0 then .box t ((ZE 1 (cs++gvC gv)).1.take cs.length) else Zl (fun _=>.gone) (ZE 1 (cs++gvC gv)).2.1 k,(ZE 1 (cs++gvC gv)).2.2⟩
def Zrh (gv:Bool×List (Bool×CT)) (args:List (Bool×List CT)):St:=⟨fun s=>match s with|0=>.p gv.1 (ZE 0 gv.2).1|s+1=>(match args[s]? with|some x=>.p x.1 (x.2.map .c)|none=>.und),fun k=>Zl (fun _=>.gone) (ZE 0 gv.2).2.1 k,(ZE 0 gv.2).2.2⟩
def fnG (od:OD) (tt:Nat->Option TI) (S:Ctx) (rs:List ResultVar) (body:Code) (gv:Bool×List (Bool×CT)) (args:List (Bool×List CT)) (res:List RT):Prop:=swp tt S od body (ZuJ tt rs fun _ r _=>wkR r res) (Zrh gv args)
def opO (st:St) (t:Nat) (cs:List (Bool×CT)):Ob->Prop
 |.box t' ds=>t'=t/\(match XB st ds with|some x=>x.2.Nodup/\x.1=cs|none=>False)
 |_=>False
def opB (st:St) (t:Nat) (cs:List (Bool×CT)):SV->Prop
 |.bp k 0=>opO st t cs (st.ob k)
 |_=>False
def fnO (od:OD) (tt:Nat->Option TI) (S:Ctx) (rs:List ResultVar) (body:Code) (t:Nat) (cs:List (Bool×CT)) (gv:Option (Bool×List (Bool×CT))) (args:List (Bool×List CT)) (res:List RT) (cs':List (Bool×CT)):Prop:=swp tt S od body (ZuJ tt rs fun st r ks=>wkR r res/\ks=[]/\opB st t cs' (st.sl 0)) (ZgG t cs gv args)
theorem ZE1 {st:St}{t k:Nat}{cs:List (Bool×CT)}:opB st t cs (.bp k 0)=opO st t cs (st.ob k):=yi rfl
theorem ZBs {st:St}{t A:Nat}{cs:List (Bool×CT)}{ds:List AV}:opO st t cs (.box A ds)=(A=t/\(match XB st ds with|some x=>x.2.Nodup/\x.1=cs|none=>False)):=yi rfl
theorem ZA7 {st:St}{t:Nat}{cs:List (Bool×CT)}{v:SV}(h:opB st t cs v):∃k ds ks,v=.bp k 0/\st.ob k=.box t ds/\XB st ds=some (cs,ks)/\ks.Nodup:=by
 unfold opB at h;split at h
 .rename_i k;unfold opO at h;split at h
  .rename_i E ds B;obtain ⟨rfl,h⟩:=h;split at h
   .rename_i x A;obtain ⟨D,C⟩:=h;exact ⟨k,ds,x.2,rfl,B,by rw [A,<-C],D⟩
   .exact h.elim
  .exact h.elim
 .exact h.elim
def Zlm (st:St) (rs:List ResultVar) (nb:NB):Prop:=
 match rs with
 | [.tmp s]=>(match nb with
  |.box t cs=>∃k ds,st.sl s=.bp k 0/\st.ob k=.box t ds/\ds.all Zd0=true/\XF st ds=some cs
  |.map kk vk kv=>∃k,st.sl s=.p false [.row k]/\st.ob k=.map kk vk kv)
 |_=>False
def ZGu (rs:List ResultVar) (nb:NB):Ex->St->Prop
 |.exit _,_=>False
 |_,st=>Zlm st rs nb
def hbO (st:St) (t:Nat) (cs:List CT):Ob->Prop
 |.box t' ds=>t'=t/\ds.all Zd0=true/\XF st ds=some cs
 |_=>False
def hbS (st:St) (t:Nat) (cs:List CT):SV->Prop
 |.bp k 0=>hbO st t cs (st.ob k)
 |_=>False
theorem ZwE {st:St}{t:Nat}{cs:List CT}{v:SV}:hbS st t cs v↔∃k ds,v=.bp k 0/\st.ob k=.box t ds/\ds.all Zd0=true/\XF st ds=some cs:=by
 constructor
 .intro h;unfold hbS at h;split at h
  .rename_i k;unfold hbO at h;split at h
   .rename_i E ds C;obtain ⟨rfl,B,A⟩:=h;exact ⟨k,ds,rfl,C,B,A⟩
   .exact h.elim
  .exact h.elim
 .rintro ⟨k,ds,rfl,D,B,A⟩;show hbO st t cs (st.ob k)
  rw [D];exact ⟨rfl,B,A⟩
theorem ZrM {st:St}{ks:List Nat}{t:Nat}{cs:List CT}:ZAA st ks (.box t cs)=hbS st t cs (st.sl 0):=propext ZwE.symm
theorem Zta {st:St}{s t:Nat}{cs:List CT}:Zlm st [.tmp s] (.box t cs)=hbS st t cs (st.sl s):=propext ZwE.symm
def mbO (kk vk:PK) (kv:List (Value×Value)):Ob->Prop
 |.map kk' vk' kv'=>kk'=kk/\vk'=vk/\kv'=kv
 |_=>False
def mbS (st:St) (kk vk:PK) (kv:List (Value×Value)):SV->Prop
 |.p false [.row k]=>mbO kk vk kv (st.ob k)
 |_=>False
theorem ZAK {st:St}{B A:PK}{kv:List (Value×Value)}{v:SV}:mbS st B A kv v↔∃k,v=.p false [.row k]/\st.ob k=.map B A kv:=by
 constructor
 .intro h;unfold mbS at h;split at h
  .rename_i k;unfold mbO at h;split at h
   .rename_i a b c C;obtain ⟨rfl,rfl,rfl⟩:=h;exact ⟨k,rfl,C⟩
   .exact h.elim
  .exact h.elim
 .rintro ⟨k,rfl,D⟩;show mbO B A kv (st.ob k)
  rw [D];exact ⟨rfl,rfl,rfl⟩
theorem Zt6 {st:St}{s:Nat}{C A:PK}{B:List (Value×Value)}:Zlm st [.tmp s] (.map C A B)=mbS st C A B (st.sl s):=propext ZAK.symm
theorem ZA8 {st:St}{k:Nat}{C A:PK}{B:List (Value×Value)}:mbS st C A B (.p false [.row k])=mbO C A B (st.ob k):=yi rfl
theorem ZBQ {C A a b:PK}{B c:List (Value×Value)}:mbO C A B (.map a b c)=(a=C/\b=A/\c=B):=yi rfl
theorem ZCK {st:St}{t k:Nat}{cs:List CT}:hbS st t cs (.bp k 0)=hbO st t cs (st.ob k):=yi rfl
theorem ZBg {st:St}{t A:Nat}{cs:List CT}{ds:List AV}:hbO st t cs (.box A ds)=(A=t/\ds.all Zd0=true/\XF st ds=some cs):=yi rfl
theorem Zzg {A:List ResultVar}{nb:NB}{st:St}:ZGu A nb .ret st=Zlm st A nb:=yi rfl
theorem Zxj {A:List ResultVar}{nb:NB}{st:St}:ZGu A nb .normal st=Zlm st A nb:=yi rfl
def ZB7 (k:Nat):Ob->AV
 |.row _ _ _ d=>if d=2 then .row k else .dead
 |.gone=>.dead
 |.box _ _=>.dead
 |.map _ _ _=>.dead
def ZzH (st:St):AV->AV
 |.c (.int k n)=>.c (.int k n)
 |.c (.bool b)=>.c (.bool b)
 |.c (.str s)=>.c (.str s)
 |.row k=>ZB7 k (st.ob k)
 |_=>.dead
def ZBX (st:St):SV->SV
 |.p ag cs=>.p ag (cs.map (ZzH st))
 |.bp k off=>.bp k off
 |_=>.any
def ZB2 (st:St):Ob->Ob
 |.row e m xs d=>if d=2 then .row e m xs d else .gone
 |.gone=>.gone
 |.box t cs=>.box t (cs.map (ZzH st))
 |.map _ _ _=>.gone
def ZzR (st:St) (t:Nat):SV->St
 |.p false [.n (.sl e m xs)]=>⟨fun s=>if s=t then .p false [.row st.n] else ZBX st (st.sl s),fun k=>if k=st.n then .row e m xs 2 else ZB2 st (st.ob k),st.n+1⟩
 |_=>st
def St.thaw (st:St) (t:Nat):St:=ZzR st t (st.sl t)
def ZHY (t:Nat) (Q:Ex->St->Prop):Ex->St->Prop
 |e,st=>Q e (st.thaw t)
theorem ZBq (A:Nat->SV) (ob:Nat->Ob) (n t:Nat):St.thaw ⟨A,ob,n⟩ t=ZzR ⟨A,ob,n⟩ t (A t):=yi rfl
theorem ZBI (t:Nat) (Q:Ex->St->Prop) (e:Ex) (st:St):ZHY t Q e st=Q e (st.thaw t):=yi rfl
end
section
section
variable {tt:Nat->Option TI} {S:Ctx} {all:List Oper} {key:Nat} {d:Option Nat} {ty:TypeId} {pos:String} {af:Array Edge} {r:List Oper} {K:St->Prop} {st:St}
theorem ZCS:Yu tt S all key [] K st=K st:=yi rfl
theorem ZAI (x:Operand):Yu tt S all key (⟨d,.move x,ty,pos,af,none⟩::r) K st=Yu tt S all (key+16) r K (st.put d (st.ev tt ty x)):=yi rfl
theorem Zx3 (x:Operand):Yu tt S all key (⟨d,.assign x,ty,pos,af,none⟩::r) K st=Yu tt S all (key+16) r K (st.put d (st.ev tt ty x)):=yi rfl
def Zq8 (v a b:SV) (K:SV->Prop):Prop:=if ZbE v=true then (if Zak v=true then K a else K b) else False
theorem ZHe (a b:SV) (K:SV->Prop):Zq8 (.p false [.c (.bool true)]) a b K=K a:=by simp [Zq8,ZbE,Zak]
theorem ZHN (a b:SV) (K:SV->Prop):Zq8 (.p false [.c (.bool false)]) a b K=K b:=by simp [Zq8,ZbE,Zak]
theorem ZBr (c a b:Operand):Yu tt S all key (⟨d,.pick c a b,ty,pos,af,none⟩::r) K st=Zq8 (st.ev tt 0 c) (st.ev tt ty a) (st.ev tt ty b) (Zj5 d (Yu tt S all (key+16) r K) st):=by
 simp only[Yu,opG,Zb8,opS,XE,Qk,opE,Zq8];generalize st.ev tt 0 c=v
 unfold ZbE;split
 .simp only[Zak,YM,if_true];split<;>simp [Znu,Zj5,St.app,Zl, *]
 .simp [YM]
theorem ZAe (t:TypeId):Yu tt S all key (⟨d,.alloc t,ty,pos,af,none⟩::r) K st=YM ((ZnW (tt t)).map fun z=>(SV.bp key 0,[(key,Ob.box t z)])) (Znu d (Yu tt S all (key+16) r K) st):=yi rfl
def ZF3 (key:Nat) (t:TypeId):SV->Option (SV×List (Nat×Ob))
 |.p _ cs=>some (.bp key 0,[(key,.box t cs)])
 |_=>none
theorem ZED (t:TypeId) (x:Operand):Yu tt S all key (⟨d,.box t x,ty,pos,af,none⟩::r) K st=YM (ZF3 key t (st.ev tt t x)) (Znu d (Yu tt S all (key+16) r K) st):=yi rfl
def Zvv (tt:Nat->Option TI) (st:St) (parts:List (Nat×Operand)):Option TI->Option SV
 |some (.strct fs _ z)=>(ZlI fs z (parts.map (Zh5 tt st fs z))).map (.p true)
 |_=>none
theorem Zcf (v:Option SV):YM (Zct v) (Znu d K st)=YM v (Zj5 d K st):=by cases v<;>rfl
theorem Zyv (t:TypeId) (a:Array (Nat×Operand)):Yu tt S all key (⟨d,.build t a,ty,pos,af,none⟩::r) K st=YM (Zvv tt st a.toList (tt t)) (Zj5 d (Yu tt S all (key+16) r K) st):=by
 rw [<-Zcf];simp only[Yu,opG,Zb8,opS,XE,Qk,opE,Zvv];cases tt t with
 |none=>rfl
 |some ti=>cases ti<;>first|rfl|(simp [Zct,Option.map_map];rfl)
def ZEo (st:St) (key len:Nat) (is:List Nat) (xs:List SV) (e:Nat):Option TI->Option (SV×List (Nat×Ob))
 |some (.slice _ m _ z)=>(Qf st m xs).bind fun a=>if is=List.range len/\len*m<=16777216/\a.2.1.Nodup/\(!z.all Zmm||a.2.1.isEmpty)=true then some (.p false [.row key],ZT st a.2.1++[(key,.row e m a.1 a.2.2)]) else none
 |_=>none
def Zsq:Option TI->Nat
 |some (.slice e _ _ _)=>e
 |_=>0
theorem ZE9 (t:TypeId) (len:Nat) (a:Array (Nat×Operand)):Yu tt S all key (⟨d,.buildSlice t len a,ty,pos,af,none⟩::r) K st=YM (ZEo st key len (a.toList.map (·.1)) (a.toList.map fun p=>st.ev tt (Zsq (tt t)) p.2) (Zsq (tt t)) (tt t)) (Znu d (Yu tt S all (key+16) r K) st):=by
 simp only[Yu,opG,Zb8,opS,XE,Qk,opE,ZEo,Zsq];cases tt t with
 |none=>rfl
 |some ti=>cases ti<;>rfl
theorem ZAO (t:TypeId) (x:Operand):Yu tt S all key (⟨d,.load t x,ty,pos,af,none⟩::r) K st=YM (Zap st (tt t) (st.ev tt 0 x)) (Zj5 d (Yu tt S all (key+16) r K) st):=Zcf _
def ZDA (d:Option Nat) (K:St->Prop) (st:St) (u:List (Nat×Ob)):Prop:=K ((st.put d .und).app u)
theorem ZyC (t:TypeId) (x v:Operand):Yu tt S all key (⟨d,.store t x v,ty,pos,af,none⟩::r) K st=YM (Zhh st (tt t) (st.ev tt 0 x) (st.ev tt t v)) (ZDA d (Yu tt S all (key+16) r K) st):=by
 simp only[Yu,opG,Zb8,opS,XE,Qk,opE];cases Zhh st (tt t) (st.ev tt 0 x) (st.ev tt t v)<;>rfl
def ZCG:SV->Option SV
 |.bp k i=>some (.bp k i)
 |.rp k m i j=>some (.rp k m i j)
 |.ep e i=>some (.ep e i)
 |.p false [.c (.pt e)]=>some (.p false [.c (.pt e)])
 |_=>none
theorem ZFs (x:Operand):Yu tt S all key (⟨d,.nilCheck x,ty,pos,af,none⟩::r) K st=YM (ZCG (st.ev tt 0 x)) (Zj5 d (Yu tt S all (key+16) r K) st):=by
 simp only[Yu,opG,Zb8,opS,XE,Qk,opE,<-Zcf,ZCG];generalize st.ev tt 0 x=v
 cases v with
 |p ag cs=>cases ag with
  |true=>rfl
  |false=>cases cs with
   |nil=>rfl
   |cons y r=>cases r<;>cases y<;>first|rfl|(rename_i z;cases z<;>rfl)|(rename_i z _ _;cases z<;>rfl)
 |_=>rfl
theorem ZFl (A:BinOp) (t u:TypeId) (x y:Operand):Yu tt S all key (⟨d,.binOp A t x y u,ty,pos,af,none⟩::r) K st=YM (Zzw tt t (Zmt y) A (st.ev tt t x) (st.ev tt t y)) (Zj5 d (Yu tt S all (key+16) r K) st):=Zcf _
theorem ZGM (A:UnOp) (t:TypeId) (x:Operand):Yu tt S all key (⟨d,.unOp A t x,ty,pos,af,none⟩::r) K st=YM (unV A (st.ev tt 0 x)) (Zj5 d (Yu tt S all (key+16) r K) st):=Zcf _
theorem ZBF (s t:TypeId) (x:Operand):Yu tt S all key (⟨d,.convert s t x,ty,pos,af,none⟩::r) K st=YM (ZiN tt st s t (st.ev tt 0 x)) (Zj5 d (Yu tt S all (key+16) r K) st):=Zcf _
theorem ZAJ (t:TypeId) (n c:Operand):Yu tt S all key (⟨d,.makeSlice t n c,ty,pos,af,none⟩::r) K st=YM (Zte key (tt t) (st.ev tt 0 n) (st.ev tt 0 c)) (Znu d (Yu tt S all (key+16) r K) st):=yi rfl
theorem Zzu (t:TypeId) (x:Operand) (A hi:Option Operand):Yu tt S all key (⟨d,.slice t x A hi none,ty,pos,af,none⟩::r) K st=YM (Zbf st key (tt t) (A.map (st.ev tt 0)) (hi.map (st.ev tt 0)) (st.ev tt 0 x)) (Znu d (Yu tt S all (key+16) r K) st):=yi rfl
def ZFj (fs:Option TI) (f:Nat):Option Nat:=match fs with|some (.strct fs _ _)=>(fs[f]?).map FI.off|_=>none
def ZD6 (fs:Option TI) (f:Nat) (v:SV):Option SV:=(ZFj fs f).bind fun o=>Zmg o v
theorem ZEb (t:TypeId) (x:Operand) (f:Nat):Yu tt S all key (⟨d,.fieldAddr t x f,ty,pos,af,none⟩::r) K st=YM (ZD6 (tt t) f (st.ev tt 0 x)) (Zj5 d (Yu tt S all (key+16) r K) st):=by
 rw [<-Zcf];simp only[Yu,opG,Zb8,opS,XE,Qk,opE,ZD6,ZFj];cases tt t with
 |none=>rfl
 |some ti=>cases ti<;>first|rfl|(simp only[Option.bind_map];rfl)
def ZEj (fs:Option TI) (f:Nat) (v:SV):Option SV:=match fs with|some (.strct fs _ _)=>Zoq fs f v|_=>none
theorem ZC4 (t:TypeId) (x:Operand) (f:Nat):Yu tt S all key (⟨d,.field t x f,ty,pos,af,none⟩::r) K st=YM (ZEj (tt t) f (st.ev tt 0 x)) (Zj5 d (Yu tt S all (key+16) r K) st):=by
 rw [<-Zcf];simp only[Yu,opG,Zb8,opS,XE,Qk,opE,ZEj];cases tt t with
 |none=>rfl
 |some ti=>cases ti<;>rfl
def ZCY (st:St) (t:Option TI) (x i:SV):Option SV:=match t with|some (.slice _ m _ _)=>Za1 st m x i|_=>none
theorem ZCm (t:TypeId) (x i:Operand):Yu tt S all key (⟨d,.indexAddr t x i,ty,pos,af,none⟩::r) K st=YM (ZCY st (tt t) (st.ev tt 0 x) (st.ev tt 0 i)) (Zj5 d (Yu tt S all (key+16) r K) st):=by
 rw [<-Zcf];simp only[Yu,opG,Zb8,opS,XE,Qk,opE,ZCY];cases tt t with
 |none=>rfl
 |some ti=>cases ti<;>rfl
theorem ZCl (t:TypeId) (x i:Operand):Yu tt S all key (⟨d,.index t x i,ty,pos,af,none⟩::r) K st=YM (Zor (tt t) (st.ev tt 0 x) (st.ev tt 0 i)) (Zj5 d (Yu tt S all (key+16) r K) st):=Zcf _
theorem ZCr (x:Operand) (i:Nat):Yu tt S all key (⟨d,.extract x i,ty,pos,af,none⟩::r) K st=YM (Zzv i (st.ev tt 0 x)) (Zj5 d (Yu tt S all (key+16) r K) st):=Zcf _
theorem ZCw (b:Builtin) (args:Array Operand) (ts:Array TypeId):Yu tt S all key (⟨d,.call ⟨.builtin b,args,ts⟩,ty,pos,af,none⟩::r) K st=YM (Zhv tt st key b ts.toList (evs tt st ts.toList args.toList)) (Znu d (Yu tt S all (key+16) r K) st):=yi rfl
def ZG4 (f:FuncId) (n:Nat) (st:St) (vs:List SV):Option (SV×List (Nat×Ob)):=if n=0 then (Zf9 st vs).bind fun r=>if (r.2.map (·.1)).Nodup then some (.p false [.c (.fn f r.1)],r.2) else none else none
theorem ZD9 (f:FuncId) (first a:Array Operand):Yu tt S all key (⟨d,.makeFunc (.func f) first a,ty,pos,af,none⟩::r) K st=YM (ZG4 f first.size st (a.toList.map (st.ev tt 0))) (Znu d (Yu tt S all (key+16) r K) st):=yi rfl
theorem ZEq (t:TypeId):Yu tt S all key (⟨d,.makeMap t none,ty,pos,af,none⟩::r) K st=YM (Zqy key (tt t)) (Znu d (Yu tt S all (key+16) r K) st):=yi rfl
theorem ZAN (t:TypeId) (x i:Operand) (A:Bool):Yu tt S all key (⟨d,.lookup t x i A,ty,pos,af,none⟩::r) K st=YM (ZiS st (tt t) (st.ev tt 0 x) (st.ev tt 0 i) A) (Zj5 d (Yu tt S all (key+16) r K) st):=Zcf _
theorem ZFE (t:TypeId) (x i v:Operand):Yu tt S all key (⟨d,.mapUpdate t x i v,ty,pos,af,none⟩::r) K st=YM (Zxb st (tt t) (st.ev tt 0 x) (st.ev tt 0 i) (st.ev tt 0 v)) (ZDA d (Yu tt S all (key+16) r K) st):=by
 simp only[Yu,opG,Zb8,opS,XE,Qk,opE];cases Zxb st (tt t) (st.ev tt 0 x) (st.ev tt 0 i) (st.ev tt 0 v)<;>rfl
theorem ZDF (s:Nat) (args:Array Operand) (ts:Array TypeId):Yu tt S all key (⟨d,.call ⟨.value (.tmp s),args,ts⟩,ty,pos,af,none⟩::r) K st=YM (Zrs (st.sl s)) (ZCP S key d (Yu tt S all (key+16) r K) st (evs tt st ts.toList args.toList)):=yi rfl
theorem ZBN (vs:List SV) (f:FuncId) (A:List CT):ZCP S key d K st vs (f,A)=(S.hd f=0/\spK S f 0 key d K st (vs++A.map ZmJ)):=yi rfl
theorem ZAL (f:FuncId) (args:Array Operand) (ts:Array TypeId):Yu tt S all key (⟨d,.call ⟨.value (.func f),args,ts⟩,ty,pos,af,none⟩::r) K st=spK S f (S.hd f) key d (Yu tt S all (key+16) r K) st (evs tt st ts.toList args.toList):=yi rfl
theorem ZHR (f:FuncId) (vs:List SV):spK S f 0 key d K st vs=YM (Z8 st vs) (Ztj S f key d K st vs):=yi rfl
theorem ZHV (f:FuncId) (v:SV) (vs:List SV):spK S f 1 key d K st (v::vs)=YM (Zhz st v) fun A=>YM (Z8 st vs) (Zy6 S f key d K st vs A):=yi rfl
theorem ZHX (f:FuncId) (vs:List SV):spK S f 3 key d K st vs=YM (Z8 st vs) (ZF8 S f key d K st vs):=yi rfl
theorem ZH3 (f:FuncId) (vs:List SV):spK S f 4 key d K st vs=YM (Z8 st (vs.map nlS)) (Ztj S f key d K st (vs.map nlS)):=yi rfl
theorem ZH2 (f:FuncId) (v:SV) (vs:List SV):spK S f 5 key d K st (v::vs)=YM (Zez st v) fun A=>YM (ZkJ st (vs.take 0)) fun B=>YM (Z8 st (vs.drop 0)) (ZwG S f key d K st (vs.drop 0) A B):=yi rfl
theorem ZHM (f:FuncId) (v u:SV) (vs:List SV):spK S f 6 key d K st (v::u::vs)=YM (Zez st v) fun A=>YM (ZkJ st [u]) fun B=>YM (Z8 st vs) (ZwG S f key d K st vs A B):=yi rfl
theorem ZHc (f:FuncId) (v:SV) (vs:List SV):spK S f 7 key d K st (v::vs)=YM (ZkJ st [v]) fun A=>YM (Z8 st vs) (Zv0 S f key d K st vs A):=yi rfl
theorem ZHF (f:FuncId) (vs:List SV):spK S f 2 key d K st vs=YM (Z8 st vs) (ZDC S f key d K st vs):=yi rfl
def gOf (all:List Oper) (j:Nat):Option Nat:=(all[j]?).bind (·.dst)
def gL (tt:Nat->Option TI) (S:Ctx) (all:List Oper) (key:Nat) (v:SV) (w:Bool) (o:Oper) (r:List Oper) (K:St->Prop) (st:St):Prop:=gK v w (Yu tt S all key (o::r) K st) (Yu tt S all (key+16) r K (st.put o.dst .und))
def Ztm (st:St):Option Nat->SV
 |some t=>st.sl t
 |none=>.und
theorem ZvF (A:Nat->SV) (ob:Nat->Ob) (n t:Nat):Ztm ⟨A,ob,n⟩ (some t)=A t:=yi rfl
theorem ZvX:Ztm st none=.und:=yi rfl
theorem ZzS (A:Op) (j:Nat) (w:Bool):Yu tt S all key (⟨d,A,ty,pos,af,some (j,w)⟩::r) K st=gL tt S all key (Ztm st (gOf all j)) w ⟨d,A,ty,pos,af,none⟩ r K st:=by
 cases hg:gOf all j with
 |none=>
  have h:Zb8 all ⟨d,A,ty,pos,af,some (j,w)⟩=some (none,w):=by simp only[Zb8];rw [show (all[j]?).bind (·.dst)=none from hg]
  simp only[Yu,opG,h,gL,Ztm];simp [gK,ZbE,Zux]
 |some t=>
  have h:Zb8 all ⟨d,A,ty,pos,af,some (j,w)⟩=some (some t,w):=by simp only[Zb8];rw [show (all[j]?).bind (·.dst)=some t from hg]
  simp only[Yu,opG,h,gL,Ztm];rfl
theorem ZGE (o:Oper):gL tt S all key (.p false [.c (.bool true)]) true o r K st=Yu tt S all key (o::r) K st:=by simp [gL,gK,ZbE,Zak]
theorem ZGQ (o:Oper):gL tt S all key (.p false [.c (.bool false)]) false o r K st=Yu tt S all key (o::r) K st:=by simp [gL,gK,ZbE,Zak]
theorem ZGh (o:Oper):gL tt S all key (.p false [.c (.bool true)]) false o r K st=Yu tt S all (key+16) r K (st.put o.dst .und):=by simp [gL,gK,ZbE,Zak]
theorem ZGA (o:Oper):gL tt S all key (.p false [.c (.bool false)]) true o r K st=Yu tt S all (key+16) r K (st.put o.dst .und):=by simp [gL,gK,ZbE,Zak]
theorem ZCD (o:Oper) (w:Bool):gL tt S all key .und w o r K st=Yu tt S all (key+16) r K (st.put o.dst .und):=by simp [gL,gK,ZbE,Zux]
theorem ZBf (v:SV):Zj5 d K st v=K (st.put d v):=yi rfl
theorem ZBa (v:SV) (u:List (Nat×Ob)):Znu d K st (v,u)=K ((st.put d v).app u):=yi rfl
theorem ZAV (u:List (Nat×Ob)):ZDA d K st u=K ((st.put d .und).app u):=yi rfl
theorem ZxL {α:Type}(v:α) (K:α->Prop):YM (some v) K=K v:=yi rfl
theorem Zw1 {α:Type}(K:α->Prop):YM none K=False:=yi rfl
theorem ZAT (n m:Nat) (A:Nat->SV) (ob:Nat->Ob):ZsG n K ⟨A,ob,m⟩=K ⟨A,ob,n⟩:=yi rfl
theorem ZAW (a:List Oper) (A:Nat->SV) (ob:Nat->Ob) (n:Nat):ZA3 tt S a K ⟨A,ob,n⟩=Yu tt S a n a (ZsG (n+16*a.length) K) ⟨A,ob,n⟩:=yi rfl
theorem ZyR (A:Nat->SV) (ob:Nat->Ob) (n t:Nat) (v:SV):St.put ⟨A,ob,n⟩ (some t) v=⟨upd A t v,ob,n⟩:=yi rfl
theorem ZAi (v:SV):St.put st none v=st:=yi rfl
theorem ZAM (A:Nat->SV) (ob:Nat->Ob) (n:Nat):St.app ⟨A,ob,n⟩ []=⟨A,ob,n⟩:=yi rfl
theorem ZyQ (A:Nat->SV) (ob:Nat->Ob) (n:Nat) (p:Nat×Ob) (u:List (Nat×Ob)):St.app ⟨A,ob,n⟩ (p::u)=St.app ⟨A,upd ob p.1 p.2,n⟩ u:=yi rfl
theorem ZDJ (ob:Nat->Ob):Zl ob []=ob:=yi rfl
theorem ZBk (ob:Nat->Ob) (p:Nat×Ob) (r:List (Nat×Ob)):Zl ob (p::r)=Zl (upd ob p.1 p.2) r:=yi rfl
theorem ZDE {α:Type}(f:Nat->α) (k j:Nat) (v:α):upd f k v j=if j=k then v else f j:=yi rfl
end
section
variable {od:OD} {tt:Nat->Option TI} {S:Ctx} {Q:Ex->St->Prop} {st:St}
theorem ZAU:swp tt S od .skip Q st=Q .normal st:=yi rfl
theorem Zw3 (id:Nat) (a:Array Oper) (A:Bool):swp tt S (fun _=>none) (.region id a A) Q st=ZA3 tt S a.toList (Q .normal) st:=yi rfl
def Ztz:List (Nat×List Nat×Bool)->OD
 | [],_=>none
 |p::r,i=>if i=p.1 then some p.2 else Ztz r i
theorem Zs (m:List (Nat×List Nat×Bool)) (id:Nat) (a:Array Oper) (A:Bool):swp tt S (Ztz m) (.region id a A) Q st=ZvR tt S (Ztz m id) a.toList (Q .normal) st:=yi rfl
theorem ZCV (i:Nat):Ztz [] i=none:=yi rfl
theorem ZBc (p:Nat×List Nat×Bool) (m:List (Nat×List Nat×Bool)) (i:Nat):Ztz (p::m) i=if i=p.1 then some p.2 else Ztz m i:=yi rfl
theorem ZBl (a:List Oper) (K:St->Prop):ZvR tt S none a K st=ZA3 tt S a K st:=yi rfl
theorem ZA4 (l:List Nat) (b:Bool) (a:List Oper) (K:St->Prop) (A:Nat->SV) (ob:Nat->Ob) (n:Nat):ZvR tt S (some (l,b)) a K ⟨A,ob,n⟩=ZhO tt S b a n l (ZsG (n+16*a.length) K) ⟨A,ob,n⟩:=yi rfl
def ZEN (tt:Nat->Option TI) (S:Ctx) (b:Bool) (all:List Oper) (key:Nat) (K:St->Prop) (st:St):Option Oper->Prop
 |some o=>ifB b (stk tt S all o.op st) (Yu tt S all key [o] K st)
 |none=>K st
theorem ZEJ (b:Bool) (all:List Oper) (base:Nat) (K:St->Prop):ZhO tt S b all base [] K st=K st:=yi rfl
theorem ZA6 (b:Bool) (all:List Oper) (base i:Nat) (r:List Nat) (K:St->Prop):ZhO tt S b all base (i::r) K st=ZEN tt S b all (base+16*i) (ZhO tt S b all base r K) st (all[i]?):=by
 simp only[ZhO];cases all[i]?<;>rfl
theorem ZBT (all:List Oper) (key:Nat) (K:St->Prop) (o:Oper):ZEN tt S true all key K st (some o)=ifB true (stk tt S all o.op st) (Yu tt S all key [o] K st):=yi rfl
theorem ZBK (all:List Oper) (key:Nat) (K:St->Prop) (o:Oper):ZEN tt S false all key K st (some o)=Yu tt S all key [o] K st:=yi rfl
theorem ZFS (c:Bool) (P:Prop):ifB true c P=(c=true/\P):=yi rfl
theorem ZGe (c:Bool) (P:Prop):ifB false c P=P:=yi rfl
theorem ZE3 (a b:Code):swp tt S od (.seq a b) Q st=swp tt S od a (Zjy (swp tt S od b Q) Q) st:=yi rfl
def Zud (tt:Nat->Option TI) (S:Ctx) (od:OD) (v:SV) (a b:Code) (Q:Ex->St->Prop) (st:St):Prop:=ZqN v (swp tt S od a Q st) (swp tt S od b Q st)
theorem ZAE (c:Operand) (a b:Code):swp tt S od (.cond c a b) Q st=Zud tt S od (st.ev tt 0 c) a b Q st:=yi rfl
theorem ZHn (a b:Code):Zud tt S od (.p false [.c (.bool true)]) a b Q st=swp tt S od a Q st:=by simp [Zud,ZqN,ZbE,Zak]
theorem ZHQ (a b:Code):Zud tt S od (.p false [.c (.bool false)]) a b Q st=swp tt S od b Q st:=by simp [Zud,ZqN,ZbE,Zak]
theorem ZyU (id:Nat) (b:Code):swp tt S od (.block id b) Q st=swp tt S od b (ZiQ id Q) st:=yi rfl
theorem ZBp (id:Nat):swp tt S od (.exit id) Q st=Q (.exit id) st:=yi rfl
theorem ZFt:swp tt S od .ret Q st=Q .ret st:=yi rfl
theorem ZHW (k:St->Prop):Zjy k Q .normal st=k st:=yi rfl
theorem ZHu (k:St->Prop) (i:Nat):Zjy k Q (.exit i) st=Q (.exit i) st:=yi rfl
theorem ZHs (k:St->Prop):Zjy k Q .ret st=Q .ret st:=yi rfl
theorem ZHC (i:Nat):ZiQ i Q .normal st=Q .normal st:=yi rfl
theorem ZHy (i:Nat):ZiQ i Q .ret st=Q .ret st:=yi rfl
theorem ZHq (i j:Nat):ZiQ i Q (.exit j) st=if j=i then Q .normal st else Q (.exit j) st:=yi rfl
theorem ZFf (A:Nat->SV) (ob:Nat->Ob) (n t s:Nat):St.ev tt ⟨A,ob,n⟩ t (.tmp s)=A s:=yi rfl
theorem ZzZ (t:Nat) (v:Value):St.ev tt st t (.const v)=cvT (tt t) v:=yi rfl
theorem ZBb (t f:Nat):St.ev tt st t (.func f)=.fn f:=yi rfl
theorem ZG8 (A:List ResultVar) (R:St->List RT->List Nat->Prop):ZuJ tt A R .ret st=match Zdf tt st A with|some x=>x.2.Nodup/\R st x.1 x.2|none=>False:=yi rfl
theorem ZHI (A:List ResultVar) (R:St->List RT->List Nat->Prop):ZuJ tt A R .normal st=match Zdf tt st A with|some x=>x.2.Nodup/\R st x.1 x.2|none=>False:=yi rfl
end
section
theorem ZzE (all:List Oper):∀a,Xo all (.move a)=false:=by intros;rfl
theorem ZAu (s:Nat) (d:Option Nat) (b:Bool):∀a,alO s (.move a) d b=b:=by intros;rfl
theorem Zv3 (all:List Oper):∀a,Xo all (.assign a)=false:=by intros;rfl
theorem ZvN (s:Nat) (d:Option Nat) (b:Bool):∀a,alO s (.assign a) d b=b:=by intros;rfl
theorem Zzj (all:List Oper):∀a b c,Xo all (.pick a b c)=false:=by intros;rfl
theorem Zz8 (s:Nat) (d:Option Nat) (b:Bool):∀a c e,alO s (.pick a c e) d b=b:=by intros;rfl
theorem ZBM (all:List Oper):∀a b,Xo all (.box a b)=false:=by intros;rfl
theorem ZAD (s:Nat) (d:Option Nat) (b:Bool):∀a c,alO s (.box a c) d b=b:=by intros;rfl
theorem Zxk (all:List Oper):∀a b,Xo all (.build a b)=false:=by intros;rfl
theorem ZxD (s:Nat) (d:Option Nat) (b:Bool):∀a c,alO s (.build a c) d b=b:=by intros;rfl
theorem Zod (all:List Oper):∀a b c,Xo all (.buildSlice a b c)=false:=by intros;rfl
theorem Zpb (s:Nat) (d:Option Nat) (b:Bool):∀a c e,alO s (.buildSlice a c e) d b=b:=by intros;rfl
theorem Zvp (all:List Oper):∀a b c d,Xo all (.insert a b c d)=false:=by intros;rfl
theorem Zvc (s:Nat) (d:Option Nat) (b:Bool):∀a c e f,alO s (.insert a c e f) d b=b:=by intros;rfl
theorem ZyJ (all:List Oper):∀a b,Xo all (.load a b)=false:=by intros;rfl
theorem ZAo (s:Nat) (d:Option Nat) (b:Bool):∀a c,alO s (.load a c) d b=b:=by intros;rfl
theorem ZxP (all:List Oper):∀a,Xo all (.ready a)=false:=by intros;rfl
theorem Zxr (s:Nat) (d:Option Nat) (b:Bool):∀a,alO s (.ready a) d b=b:=by intros;rfl
theorem Zxm (all:List Oper):∀a,Xo all (.waits a)=false:=by intros;rfl
theorem Zxu (s:Nat) (d:Option Nat) (b:Bool):∀a,alO s (.waits a) d b=b:=by intros;rfl
theorem ZrF (all:List Oper):∀a,Xo all (.nilCheck a)=false:=by intros;rfl
theorem Zsu (s:Nat) (d:Option Nat) (b:Bool):∀a,alO s (.nilCheck a) d b=b:=by intros;rfl
theorem Zw7 (all:List Oper):∀a b c d e,Xo all (.binOp a b c d e)=false:=by intros;rfl
theorem Zxy (s:Nat) (d:Option Nat) (b:Bool):∀a c e f g,alO s (.binOp a c e f g) d b=b:=by intros;rfl
theorem Zz7 (all:List Oper):∀a b c,Xo all (.unOp a b c)=false:=by intros;rfl
theorem Zzc (s:Nat) (d:Option Nat) (b:Bool):∀a c e,alO s (.unOp a c e) d b=b:=by intros;rfl
theorem Ztx (all:List Oper):∀a b c,Xo all (.convert a b c)=false:=by intros;rfl
theorem Zua (s:Nat) (d:Option Nat) (b:Bool):∀a c e,alO s (.convert a c e) d b=b:=by intros;rfl
theorem Zhc (all:List Oper):∀a b,Xo all (.sliceToArrayPointer a b)=false:=by intros;rfl
theorem Zhb (s:Nat) (d:Option Nat) (b:Bool):∀a c,alO s (.sliceToArrayPointer a c) d b=b:=by intros;rfl
theorem ZlJ (all:List Oper):∀a b,Xo all (.makeInterface a b)=false:=by intros;rfl
theorem Zl2 (s:Nat) (d:Option Nat) (b:Bool):∀a c,alO s (.makeInterface a c) d b=b:=by intros;rfl
theorem Zsj (all:List Oper):∀a b c,Xo all (.makeFunc a b c)=false:=by intros;rfl
theorem Zsz (s:Nat) (d:Option Nat) (b:Bool):∀a c e,alO s (.makeFunc a c e) d b=b:=by intros;rfl
theorem ZsR (all:List Oper):∀a b,Xo all (.makeMap a b)=false:=by intros;rfl
theorem ZtB (s:Nat) (d:Option Nat) (b:Bool):∀a c,alO s (.makeMap a c) d b=b:=by intros;rfl
theorem Zso (all:List Oper):∀a b,Xo all (.makeChan a b)=false:=by intros;rfl
theorem ZrC (s:Nat) (d:Option Nat) (b:Bool):∀a c,alO s (.makeChan a c) d b=b:=by intros;rfl
theorem Zqs (all:List Oper):∀a b c,Xo all (.makeSlice a b c)=false:=by intros;rfl
theorem ZpW (s:Nat) (d:Option Nat) (b:Bool):∀a c e,alO s (.makeSlice a c e) d b=b:=by intros;rfl
theorem Zxn (all:List Oper):∀a b c d e,Xo all (.slice a b c d e)=false:=by intros;rfl
theorem Zxt (s:Nat) (d:Option Nat) (b:Bool):∀a c e f g,alO s (.slice a c e f g) d b=b:=by intros;rfl
theorem Zp4 (all:List Oper):∀a b c,Xo all (.fieldAddr a b c)=false:=by intros;rfl
theorem Zqf (s:Nat) (d:Option Nat) (b:Bool):∀a c e,alO s (.fieldAddr a c e) d b=b:=by intros;rfl
theorem ZxS (all:List Oper):∀a b c,Xo all (.field a b c)=false:=by intros;rfl
theorem Zxi (s:Nat) (d:Option Nat) (b:Bool):∀a c e,alO s (.field a c e) d b=b:=by intros;rfl
theorem Zp6 (all:List Oper):∀a b c,Xo all (.indexAddr a b c)=false:=by intros;rfl
theorem Zqb (s:Nat) (d:Option Nat) (b:Bool):∀a c e,alO s (.indexAddr a c e) d b=b:=by intros;rfl
theorem Zxl (all:List Oper):∀a b c,Xo all (.index a b c)=false:=by intros;rfl
theorem ZxX (s:Nat) (d:Option Nat) (b:Bool):∀a c e,alO s (.index a c e) d b=b:=by intros;rfl
theorem Zyy (all:List Oper):∀a,Xo all (.call a)=false:=by intros;rfl
theorem ZzB (s:Nat) (d:Option Nat) (b:Bool):∀a,alO s (.call a) d b=b:=by intros;rfl
theorem ZvQ (all:List Oper):∀a b c d,Xo all (.lookup a b c d)=false:=by intros;rfl
theorem ZvM (s:Nat) (d:Option Nat) (b:Bool):∀a c e f,alO s (.lookup a c e f) d b=b:=by intros;rfl
theorem Zqa (all:List Oper):∀a b c d,Xo all (.mapUpdate a b c d)=false:=by intros;rfl
theorem Zp3 (s:Nat) (d:Option Nat) (b:Bool):∀a c e f,alO s (.mapUpdate a c e f) d b=b:=by intros;rfl
theorem Zt4 (all:List Oper):∀a b,Xo all (.extract a b)=false:=by intros;rfl
theorem Ztl (s:Nat) (d:Option Nat) (b:Bool):∀a c,alO s (.extract a c) d b=b:=by intros;rfl
theorem ZxK (all:List Oper) (t:TypeId):Xo all (.alloc t)=false:=yi rfl
theorem Zw5 (all:List Oper) (t:TypeId) (x v:Operand):Xo all (.store t x v)=stX all x:=yi rfl
theorem Zxc (s:Nat) (d:Option Nat) (b:Bool) (t:TypeId) (x v:Operand):alO s (.store t x v) d b=b:=yi rfl
theorem Zyb (s d:Nat) (b:Bool) (t:TypeId):alO s (.alloc t) (some d) b=orB (decide (d=s)) b:=yi rfl
end
attribute [go_sem] ZzE ZAu Zv3 ZvN Zzj Zz8 ZBM ZAD Zxk ZxD Zod Zpb Zvp Zvc ZyJ ZAo ZxP Zxr Zxm Zxu ZrF Zsu Zw7 Zxy Zz7 Zzc Ztx Zua Zhc Zhb ZlJ Zl2 Zsj Zsz ZsR ZtB Zso ZrC Zqs ZpW Zxn Zxt Zp4 Zqf ZxS Zxi Zp6 Zqb Zxl ZxX Zyy ZzB ZvQ ZvM Zqa Zp3 Zt4 Ztl ZxK Zw5 Zxc Zyb alN stX Zon ldN stB ldX stY orB
attribute [go_sem] ZCS ZAI Zx3 ZBr ZAe ZED Zyv ZE9 ZAO ZyC ZFs ZFl ZGM ZBF ZAJ Zzu ZEb ZC4 ZCm ZCl ZCr ZCw ZAL ZD9 ZEq ZAN ZFE ZDF ZBN ZG4 Zqy ZiS ZtV Zxb ZxF Zf6 Zgw Zf9 Zli Zli.zBox Zrs ZmJ eqC Zqe ZBi Zy9 ZtU ZvI Zmt ZDg ZzW ZyT Zzw ZgJ Zpx Zkn ZrA ZiN ZzS ZBf ZBa ZAV ZxL Zw1 ZAT ZAW ZyR ZAi ZAM ZyQ ZDE ZDJ ZBk ZAU Zw3 ZBl ZA4 ZEJ ZA6 ZBT ZBK ZCV ZBc ZFS ZGe stk hdC ldB hdB XE List.head?_cons ZE3 ZAE ZyU ZBp ZFt ZHW ZHu ZHs ZHC ZHy ZHq ZFf ZzZ ZBb ZG8 ZHI ZHe ZHN ZHn ZHQ ZGE ZGQ ZGh ZGA ZCD ZvF ZvX ZF3 Zvv ZEo Zsq Zmm List.all_cons List.all_nil List.isEmpty_nil Bool.true_or Bool.false_or Bool.or_true Bool.or_false Bool.false_and ZCG ZFj ZD6 ZEj ZCY gOf cvT ZnW ZBe ZBz ZBH unV ZtK Zqx Za1 Zor cut Zap splice ZhE Zhh ZnU Zmg Zoq ZlI Zh5 avT Zb1 Zl8 Zd1 Qf YE ZhD ZhJ Zpz ZmT ZpZ Zzq ZoB Zbf mvS hiB loB ZmD ZcW Zd6 Zte Zzv Zct Zhv evs Zdr XF ZeG Z8 ZlK ZHR ZHV ZHF Zhz Zfp Zd0 Zj2 ZeH ZdH ZkC ZR Yy ZT ZHm ZGG wkC wkR ZrM Zta Zt6 ZA8 ZBQ ZCK ZBg Zzg Zxj ZHX ZH3 ZH2 ZHM ZHc ZkJ gvC ZgW XB Zez ZE1 ZBs Zjx List.contains_cons List.contains_nil List.contains_eq_mem nlA nlS Zr5 ZBI ZBq ZzR ZBX ZzH ZB7 ZB2 Zv6 wk1 ZgS ZeA Zdf ZC ZE ZaA List.length_cons List.length_nil AI List.length_replicate List.getElem?_cons_zero List.getElem?_cons_succ List.getElem?_nil AE List.map_nil Ay Option.bind_none AN Option.map_none Ao List.nil_append Aq Ad Aj List.drop_succ_cons List.drop_nil List.take_succ_cons Ak List.take_nil An List.set_cons_succ List.range_zero Bool.and_true Bool.true_and Bool.and_self and_true true_and and_self Nat.zero_le AK beq_self_eq_true Option.getD_some ite_true ite_false Nat.zero_add Nat.lt_add_one Nat.zero_lt_succ eq_self or_false false_or and_false false_and or_self Nat.lt_irrefl true_or or_true List.not_mem_nil AP AF Bool.false_eq_true if_true if_false decide_true decide_false Bool.not_true Bool.not_false Az ne_eq not_true_eq_false not_false_eq_true
end
section
open Go.RowKit
section
variable {od:OD} {tt:Nat->Option TI} {S:Ctx}
theorem Xq {α:Type}{r:Option α}{K K':α->Prop}(h:∀x,K x->K' x) (A:YM r K):YM r K':=by
 cases r with
 |none=>exact A
 |some v=>exact h v A
theorem Zub {key:Nat}{o:Oper}{K K':St->Prop}{st:St}(h:∀st,K st->K' st) (A:opS tt S key o K st):opS tt S key o K' st:=by
 unfold opS at A ⊢;split
 .rename_i c J;rw [J]at A;simp only[spK]at A ⊢;split
  .rename_i e;rw [e]at A;exact Xq (fun l ⟨f,B,F,E,D⟩=>⟨f,B,F,E,h _ D⟩) A
  .rename_i e;rw [e]at A;simp only[ZwF]at A ⊢;split
   .rename_i C;rw [C]at A;exact A
   .rename_i C;rw [C]at A;exact Xq (fun L=>Xq fun l ⟨f,h',B,F,E,D⟩=>⟨f,h',B,F,E,h _ D⟩) A
  .rename_i e;rw [e]at A;exact Xq (fun l ⟨N,B,D⟩=>⟨N,B,h _ D⟩) A
  .rename_i e;rw [e]at A;exact Xq (fun l ⟨f,B,F,E,D⟩=>⟨f,B,F,E,h _ D⟩) A
  .rename_i e;rw [e]at A;simp only[ZmP]at A ⊢;split
   .rename_i C;rw [C]at A;exact A
   .rename_i C;rw [C]at A;exact Xq (fun L=>Xq fun M=>Xq fun l ⟨f,g,B,F,E,D,H,G⟩=>⟨f,g,B,F,E,D,H,h _ G⟩) A
  .rename_i e;rw [e]at A;simp only[ZmP]at A ⊢;split
   .rename_i C;rw [C]at A;exact A
   .rename_i C;rw [C]at A;exact Xq (fun L=>Xq fun M=>Xq fun l ⟨f,g,B,F,E,D,H,G⟩=>⟨f,g,B,F,E,D,H,h _ G⟩) A
  .rename_i e;rw [e]at A;simp only[ZwI]at A ⊢;split
   .rename_i C;rw [C]at A;exact A
   .rename_i C;rw [C]at A;exact Xq (fun M=>Xq fun l ⟨gv,f,B,F,E,D,H,G⟩=>⟨gv,f,B,F,E,D,H,h _ G⟩) A
  .rename_i W V U T R P O;have i:YM (Z8 st (evs tt st c.2.1 c.2.2)) (ZDC S c.1 key o.dst K st (evs tt st c.2.1 c.2.2)):=by
    revert A
    split
    .rename_i e;exact absurd e W
    .rename_i e;exact absurd e V
    .rename_i e;exact absurd e U
    .rename_i e;exact absurd e T
    .rename_i e;exact absurd e R
    .rename_i e;exact absurd e P
    .rename_i e;exact absurd e O
    .exact id
   exact Xq (fun l ⟨f,B,F,E⟩=>⟨f,B,F,h _ E⟩) i
 .rename_i J;rw [J]at A;simp only at A;split
  .rename_i c I;rw [I]at A;simp only at A;exact Xq (fun fc ⟨h0,B⟩=>⟨h0,Xq (fun l ⟨f,a,b,c,d⟩=>⟨f,a,b,c,h _ d⟩) B⟩) A
  .rename_i I;rw [I]at A;simp only at A;exact Xq (fun r hr=>h _ hr) A
theorem ZoG {all:List Oper}{key:Nat}{o:Oper}{K K':St->Prop}{st:St}(h:∀st,K st->K' st) (A:opG tt S all key o K st):opG tt S all key o K' st:=by
 unfold opG at A ⊢;split
 .rename_i C;rw [C]at A;exact Zub h A
 .rename_i C;rw [C]at A;exact h _ A
 .rename_i C;rw [C]at A;simp only[gK]at A ⊢;split
  .rename_i D;rw [yp D]at A;split
   .rename_i B;rw [yp B]at A;exact Zub h A
   .rename_i B;rw [yn B]at A;exact h _ A
  .rename_i D;rw [yn D]at A;split
   .rename_i B;rw [yp B]at A;exact h _ A
   .rename_i B;rw [yn B]at A;exact A
theorem ZqO {all:List Oper}{K K':St->Prop}(h:∀st,K st->K' st):∀(r:List Oper) (key:Nat) (st:St),Yu tt S all key r K st->Yu tt S all key r K' st
 | [],_,st,hh=>h st hh
 |o::r,key,st,hh=>ZoG (fun st' A=>ZqO h r (key+16) st' A) hh
theorem Zpv {F:(Ex->St->Prop)->St->Prop}(A:∀Q Q' st,(∀e st,Q e st->Q' e st)->F Q st->F Q' st) {Q Q':Ex->St->Prop}(h:∀e st,Q e st->Q' e st):∀(n:Nat) (st:St),Zm3 F Q n st->Zm3 F Q' n st
 |0,_,hh=>hh
 |n+1,st,⟨ms,ρ,h1,h2⟩=>⟨ms,ρ,h1,fun C=>A _ _ _ (fun e st' B=>by cases e<;>first|exact Zpv A h n st' B|exact h _ _ B) (h2 C)⟩
theorem Zj3 {b:Bool}{all:List Oper}{base:Nat}{K K':St->Prop}(h:∀st,K st->K' st):∀(l:List Nat) (st:St),ZhO tt S b all base l K st->ZhO tt S b all base l K' st
 | [],st,hh=>h st hh
 |i::r,st,hh=>by
  simp only[ZhO]at hh ⊢;split
  .rename_i o A;rw [A]at hh;cases b with
   |true=>exact ⟨hh.1,ZoG (fun st' B=>Zj3 h r st' B) hh.2⟩
   |false=>exact ZoG (fun st' B=>Zj3 h r st' B) hh
  .rename_i A;rw [A]at hh;exact Zj3 h r st hh
theorem Zbh:∀(c:Code) (Q Q':Ex->St->Prop) (st:St),(∀e st,Q e st->Q' e st)->swp tt S od c Q st->swp tt S od c Q' st
 |.skip,Q,Q',st,h,hh=>h _ _ hh
 |.exit _,Q,Q',st,h,hh=>h _ _ hh
 |.ret,Q,Q',st,h,hh=>h _ _ hh
 |.region id d _,Q,Q',st,h,hh=>by
  simp only[swp,ZvR]at hh ⊢;split
  .rename_i e;rw [e]at hh;exact ZqO (fun st' A=>h _ _ A) d.toList st.n st hh
  .rename_i l e;rw [e]at hh;exact Zj3 (fun st' A=>h _ _ A) l.1 st hh
 |.seq a b,Q,Q',st,h,hh=>Zbh a _ _ st (fun e st' A=>by cases e<;>first|exact Zbh b Q Q' st' h A|exact h _ _ A) hh
 |.cond c a b,Q,Q',st,h,hh=>by
  simp only[swp,ZqN]at hh ⊢;split
  .rename_i C;rw [yp C]at hh;split
   .rename_i B;rw [yp B]at hh;exact Zbh a Q Q' st h hh
   .rename_i B;rw [yn B]at hh;exact Zbh b Q Q' st h hh
  .rename_i C;rw [yn C]at hh;exact hh
 |.block id b,Q,Q',st,h,hh=>Zbh b _ _ st (fun e st' A=>by
   cases e with
   |normal=>exact h _ _ A
   |ret=>exact h _ _ A
   |exit j=>
    simp only[ZiQ]at A ⊢;split
    .rename_i e;rw [yp e]at A;exact h _ _ A
    .rename_i e;rw [yn e]at A;exact h _ _ A) hh
 |.loop b,Q,Q',st,h,⟨n,hh⟩=>⟨n,Zpv (fun Q Q' st D hs=>Zbh b Q Q' st D hs) h n st hh⟩
 |.rangeFunc _ _ _ _,_,_,_,_,hh=>hh.elim
 |.scope _,_,_,_,_,hh=>hh.elim
 |.label _,_,_,_,_,hh=>hh.elim
 |.goto _,_,_,_,_,hh=>hh.elim
 |.refuse _,_,_,_,_,hh=>hh.elim
end
theorem Qj {x:Int}(B:-9223372036854775808<=x) (A:x<=9223372036854775807):IntKind.i64.wrap x=x:=IntWalk.i64_in _ ⟨B,A⟩
theorem ZCT (sl:Nat->SV) (ob:Nat->Ob) (n:Nat) (ρ:List Nat) (t:Nat):(St.ren ⟨sl,ob,n⟩ ρ).sl t=rSV ρ (sl t):=yi rfl
theorem ZEg (A:Nat->SV) (ob:Nat->Ob) (n:Nat) (ρ:List Nat) (j:Nat):(St.ren ⟨A,ob,n⟩ ρ).ob j=match ρ[j]? with|some k=>rOb ρ (ob k)|none=>.gone:=yi rfl
theorem ZG7 (st:St) (ρ:List Nat):(st.ren ρ).n=ρ.length:=yi rfl
theorem Zzr (st:St):st.mats []=st:=yi rfl
theorem Zx1 (sl:Nat->SV) (ob:Nat->Ob) (n t j:Nat) (r:List (Bool×Nat×Nat)):St.mats ⟨sl,ob,n⟩ ((false,t,j)::r)=if 4096<=j then St.mats (match sl t with
  |.p ag cs=>(match cs[j - 4096]? with
   |some (.row k)=>(match ob k with
    |.row e q xs d=>if d=2 then ⟨upd sl t (.p ag (cs.set (j - 4096) (.n (.sl e q xs)))),upd ob k (.row e q xs 0),n⟩ else ⟨sl,ob,n⟩
    |_=>⟨sl,ob,n⟩)
   |_=>⟨sl,ob,n⟩)
  |_=>⟨sl,ob,n⟩) r else St.mats (match sl t with
  |.p ag cs=>(match cs[j]? with
   |some (.nil e q)=>if 0<q then ⟨upd sl t (.p ag (cs.set j (.row n))),upd ob n (.row e q [] 2),n+1⟩ else ⟨sl,ob,n⟩
   |some (.row k)=>(match ob k with
    |.row e q xs _=>⟨upd sl t (.p ag (cs.set j (.c (.sl e q xs)))),upd ob k (.row e q xs 0),n⟩
    |_=>⟨sl,ob,n⟩)
   |_=>⟨sl,ob,n⟩)
  |_=>⟨sl,ob,n⟩) r:=by
 by_cases h:4096<=j
 .rw [yp h,St.mats,yp ⟨rfl,h⟩];rfl
 .rw [yn h,St.mats,yn (fun e=>h e.2)];rfl
theorem ZyK (sl:Nat->SV) (ob:Nat->Ob) (n k i:Nat) (r:List (Bool×Nat×Nat)):St.mats ⟨sl,ob,n⟩ ((true,k,i)::r)=St.mats (match ob k with
  |.box ty cs=>(match cs[i]? with
   |some (.nil e q)=>if 0<q then ⟨sl,upd (upd ob k (.box ty (cs.set i (.row n)))) n (.row e q [] 2),n+1⟩ else ⟨sl,ob,n⟩
   |some (.row j)=>(match ob j with
    |.row e q xs _=>⟨sl,upd (upd ob j (.row e q xs 0)) k (.box ty (cs.set i (.c (.sl e q xs)))),n⟩
    |_=>⟨sl,ob,n⟩)
   |_=>⟨sl,ob,n⟩)
  |.row e q xs d=>(if i<d then ⟨sl,upd ob k (.row e q xs i),n⟩ else ⟨sl,ob,n⟩)
  |_=>⟨sl,ob,n⟩) r:=yi rfl
theorem nn (k:Nat):(0<=(k:Int))=True:=by simp
theorem ZFN:(true==true)=true:=yi rfl
theorem ZFL:(false==true)=false:=yi rfl
theorem ZF2:(true==false)=false:=yi rfl
theorem ZF0:(false==false)=true:=yi rfl
attribute [go_sem] ZwR Zhp Zno Zzr Zx1 ZyK nn ZFN ZFL ZF2 ZF0 ZCT ZEg ZG7 rSV rAV rOb ZrE
end
section
open Go.RowKit
def chk {α:Type}(c:Prop) [Decidable c] (x:Option α):Option α:=if c then x else none
def atI {α:Type}(l:List α) (i:Int):Option α:=if 0<=i then l[i.toNat]? else none
def Zx {α σ ρ:Type}(body:Nat->α->σ->Option (σ ⊕ ρ)) (fin:σ->Option ρ):List α->Nat->σ->Option ρ
 | [],_,s=>fin s
 |x::l,i,s=>match body i x s with
  |none=>none
  |some (.inl s')=>Zx body fin l (i+1) s'
  |some (.inr r)=>some r
def ZeI {σ ρ:Type}(body:σ->Option (σ ⊕ ρ)):Nat->σ->Option ρ
 |0,_=>none
 |n+1,s=>match body s with
  |none=>none
  |some (.inl s')=>ZeI body n s'
  |some (.inr r)=>some r
open Classical in
noncomputable def Zb2 {σ ρ:Type} (body:σ->Option (σ ⊕ ρ)) (s:σ):Option ρ:=if h:∃n,(ZeI body n s).isSome=true then ZeI body (Classical.choose h) s else none
section
variable {α β σ ρ:Type} {r:ρ}
theorem Zk6 {body:σ->Option (σ ⊕ ρ)}:∀{n:Nat}(m:Nat) {s:σ}{r:ρ},ZeI body n s=some r->ZeI body (n+m) s=some r
 |0,_,_,_,h=>by simp [ZeI]at h
 |n+1,m,s,r,h=>by
  rw [show n+1+m=n+m+1 by omega];simp only[ZeI]at h ⊢;cases e:body s with
  |none=>rw [e]at h;simp at h
  |some y=>
   rw [e]at h;cases y with
   |inl s'=>exact Zk6 m h
   |inr r'=>exact h
theorem Zly {body:σ->Option (σ ⊕ ρ)}{s:σ}{r:ρ}:Zb2 body s=some r↔∃n,ZeI body n s=some r:=by
 constructor
 .intro h;unfold Zb2 at h;split at h
  .exact ⟨_,h⟩
  .simp at h
 .rintro ⟨n,A⟩;have a:∃n,(ZeI body n s).isSome=true:=⟨n,by simp [A]⟩
  unfold Zb2;rw [dif_pos a];have h2:=Classical.choose_spec a;obtain ⟨B,b⟩:=Option.isSome_iff_exists.1 h2;rw [b];have a1:=Zk6 n b;have a2:=Zk6 (Classical.choose a) A;rw [Nat.add_comm]at a2;rw [a1]at a2;exact a2
theorem ZnP (body:σ->Option (σ ⊕ ρ)) (s:σ):Zb2 body s=match body s with
  |none=>none
  |some (.inl s')=>Zb2 body s'
  |some (.inr r)=>some r:=by
 apply Option.ext;intro r;rw [Zly];constructor
 .rintro ⟨n,A⟩;cases n with
  |zero=>simp [ZeI]at A
  |succ n=>
   simp only[ZeI]at A;cases e:body s with
   |none=>rw [e]at A;simp at A
   |some y=>
    rw [e]at A;cases y with
    |inl s'=>exact Zly.2 ⟨n,A⟩
    |inr r'=>exact A
 .intro h;cases e:body s with
  |none=>rw [e]at h;simp at h
  |some y=>
   rw [e]at h;cases y with
   |inl s'=>
    obtain ⟨n,A⟩:=Zly.1 h;exact ⟨n+1,by simp only[ZeI,e];exact A⟩
   |inr r'=>exact ⟨1,by simp only[ZeI,e];exact h⟩
theorem ZD {c:Prop}[Decidable c] {x:Option α}{r:α}(h:chk c x=some r):c/\x=some r:=by
 unfold chk at h;split at h
 .rename_i A;exact ⟨A,h⟩
 .simp at h
theorem Zn {c:Prop}[Decidable c] (x:Option α) (h:c):chk c x=x:=yp h
theorem Zb {α β:Type}{o:Option α}{f:α->Option β}{r:β}{G:Prop}(h:o.bind f=some r) (k:∀v,o=some v->f v=some r->G):G:=by
 cases o with
 |none=>simp at h
 |some v=>exact k v rfl h
theorem XH {o:Option α}{f:α->Option β}{r:β}(h:o.bind f=some r):∃x,o=some x/\f x=some r:=by
 cases o with
 |none=>simp at h
 |some x=>exact ⟨x,rfl,h⟩
theorem Za4 {l:List α}{i:Int}{f:α->Option β}{r:β}(h:(atI l i).bind f=some r):∃x,0<=i/\i<(l.length:Int)/\l[i.toNat]?=some x/\f x=some r:=by
 unfold atI at h;split at h
 .rename_i hi;obtain ⟨x,A,B⟩:=XH h;obtain ⟨C,_⟩:=AA.1 A;exact ⟨x,hi,yE,A,B⟩
 .simp at h
theorem Ze {G:Prop}{b:Bool}{x y:Option α}{r:α}(h:(if b=true then x else y)=some r) (B:b=true->x=some r->G) (A:b=false->y=some r->G):G:=by
 cases b with
 |true=>exact B rfl (by simpa using h)
 |false=>exact A rfl (by simpa using h)
theorem Zv {y:σ ⊕ ρ}{v r:ρ}(h:some (.inr v)=some y) (A:y=.inr r\/∃s,y=.inl s):some v=some r:=by
 obtain rfl:=Ac h;rcases A with h|⟨_,h⟩
 .rw [Sum.inr.inj h]
 .cases h
end
section
variable {od:OD} {tt:Nat->Option TI} {S:Ctx}
def ZBW {σ ρ:Type}(I:σ->St->Prop) (y:σ ⊕ ρ) (st:St):Prop:=∃s' ms ρk,y=.inl s'/\ρk.Nodup/\I s' ((st.mats ms).ren ρk)
theorem Zba {σ ρ:Type}{b:Code}{Q:Ex->St->Prop}{st:St}{body:σ->Option (σ ⊕ ρ)}{D:σ}{r:ρ}(h:Zb2 body D=some r) (I:σ->St->Prop) (C:List (Bool×Nat×Nat)) (ρk:List Nat) (hρ:ρk.Nodup) (N:I D ((st.mats C).ren ρk))
  (a:∀s st y,I s st->WF st->body s=some y->(y=.inr r\/∃s',y=.inl s')->swp tt S od b (Zjy (ZBW I y) Q) st):swp tt S od (.loop b) Q st:=by
 obtain ⟨n,A⟩:=Zly.1 h;have key:∀n s st,ZeI body n s=some r->(∃C ρk,ρk.Nodup/\I s ((st.mats C).ren ρk))->Zm3 (swp tt S od b) Q n st:=by
  intro n;induction n with
  |zero=>intro s st h;simp [ZeI]at h
  |succ n ih=>
   rintro s st A ⟨C,ρk,M,K⟩;refine ⟨C,ρk,M,fun G=>?_⟩;simp only[ZeI]at A;split at A
   .simp at A
   .rename_i s' e;refine Zbh b _ _ _ (fun F st' B=>?_) (a s _ _ K G e (.inr ⟨_,rfl⟩));cases F with
    |normal=>
     obtain ⟨L,c,ρ',E,J,H⟩:=B;obtain rfl:=BB E;exact ih _ st' A ⟨c,ρ',J,H⟩
    |exit _=>exact B
    |ret=>exact B
   .rename_i O e;obtain rfl:=Ac A;refine Zbh b _ _ _ (fun F st' B=>?_) (a s _ _ K G e (.inl rfl));cases F with
    |normal=>
     obtain ⟨L,c,ρ',E,J,H⟩:=B;cases E
    |exit _=>exact B
    |ret=>exact B
 exact ⟨n,key n D st A ⟨C,ρk,hρ,N⟩⟩
theorem Zk {α σ ρ:Type}{b:Code}{Q:Ex->St->Prop}{st:St}{body:Nat->α->σ->Option (σ ⊕ ρ)}{fin:σ->Option ρ}{l:List α}{E:σ}{r:ρ}(h:Zx body fin l 0 E=some r) (I:Nat->σ->St->Prop) (C:List (Bool×Nat×Nat)) (ρk:List Nat) (hρ:ρk.Nodup) (O:I 0 E ((st.mats C).ren ρk))
  (a:∀i x s st y,l[i]?=some x->I i s st->WF st->body i x s=some y->(y=.inr r\/∃s',y=.inl s')->swp tt S od b (Zjy (ZBW (I (i+1)) y) Q) st)
  (c:∀s st,I l.length s st->WF st->fin s=some r->swp tt S od b (Zjy (fun _=>False) Q) st):swp tt S od (.loop b) Q st:=by
 have key:∀n i s st,l.length - i<n->i<=l.length->Zx body fin (l.drop i) i s=some r->(∃C ρk,ρk.Nodup/\I i s ((st.mats C).ren ρk))->Zm3 (swp tt S od b) Q n st:=by
  intro n;induction n with
  |zero=>intro i s st h;omega
  |succ n ih=>
   rintro i s st R hi B ⟨C,ρk,N,H⟩;refine ⟨C,ρk,N,fun F=>?_⟩;by_cases d:i<l.length
   .have J:l[i]?=some l[i]:=AJ d;rw [AX d]at B;simp only[Zx]at B;split at B
    .simp at B
    .rename_i s' e;refine Zbh b _ _ _ (fun D st' A=>?_) (a i _ s _ _ J H F e (.inr ⟨_,rfl⟩));cases D with
     |normal=>
      obtain ⟨M,f,ρ',G,L,K⟩:=A;obtain rfl:=BB G;exact ih (i+1) _ st' yE yE B ⟨f,ρ',L,K⟩
     |exit _=>exact A
     |ret=>exact A
    .rename_i P e;obtain rfl:=Ac B;refine Zbh b _ _ _ (fun D st' A=>?_) (a i _ s _ _ J H F e (.inl rfl));cases D with
     |normal=>
      obtain ⟨M,f,ρ',G,L,K⟩:=A;cases G
     |exit _=>exact A
     |ret=>exact A
   .obtain rfl:i=l.length:=by omega
    rw [List.drop_length]at B;refine Zbh b _ _ _ (fun D st' A=>?_) (c s _ H F B);cases D with
    |normal=>exact A.elim
    |exit _=>exact A
    |ret=>exact A
 exact ⟨l.length+1,key _ 0 E st yE yE (by simpa using h) ⟨C,ρk,hρ,O⟩⟩
theorem Za {f:FuncId}{key:Nat}{d:Option Nat}{K:St->Prop}{st:St}{vs:List SV}{l:List (Bool×List CT)}{a:List RT}(hs:S.r f l a) (A:(!ZeH a||vs.all Zj2)=true/\(ZC key a).2.2<=key+16/\K ((st.put d (ZaA (ZC key a).1)).app (ZC key a).2.1)):Ztj S f key d K st vs l:=⟨a,hs,A.1,A.2.1,A.2.2⟩
theorem ZnK {f:FuncId}{key:Nat}{d:Option Nat}{K:St->Prop}{st:St}{vs:List SV}{B:Bool×List (Bool×CT)}{ks:List Nat}{l:List (Bool×List CT)}{a:List RT}(hs:S.g f B l a) (A:ks.Nodup/\(ZR vs).all (Zjx ks)=true/\(ZC key a).2.2<=key+16/\K ((st.put d (ZaA (ZC key a).1)).app (ZT st (ZR vs)++(YE ks++(ZC key a).2.1)))):Zv0 S f key d K st vs (some B,ks) l:=⟨B,a,rfl,hs,A.1,A.2.1,A.2.2.1,A.2.2.2⟩
theorem Zjk {f:FuncId}{key:Nat}{d:Option Nat}{K:St->Prop}{st:St}{vs:List SV}{A:Nat×Nat×List (Bool×CT)×List Nat}{C:Option (Bool×List (Bool×CT))×List Nat}{l:List (Bool×List CT)}{b:List RT}{a:List (Bool×CT)}(hs:S.o f A.2.1 A.2.2.1 C.1 l b a) (B:(A.2.2.2++C.2).Nodup/\(ZR vs).all (Zjx (A.2.2.2++C.2))=true/\(ZC key b).2.2=key/\(ZE key a).2.2<=key+16/\K ((st.put d (ZaA (ZC key b).1)).app (ZT st (ZR vs)++(YE (A.2.2.2++C.2)++((A.1,.box A.2.1 (ZE key a).1)::(ZE key a).2.1))))):ZwG S f key d K st vs A C l:=⟨b,a,hs,B.1,B.2.1,B.2.2.1,B.2.2.2.1,B.2.2.2.2⟩
theorem ZEe {f:FuncId}{key:Nat}{d:Option Nat}{K:St->Prop}{st:St}{vs:List SV}{A:Nat×Zpy}{l:List (Bool×List CT)}{a:List RT}{C:Zpy}(hs:S.h f A.2 l a C) (B:(ZR vs).all (fun j=>j != A.1)=true/\(ZC key a).2.2<=key+16/\K ((st.put d (ZaA (ZC key a).1)).app (ZT st (ZR vs)++((A.1,Zfp C)::(ZC key a).2.1)))):Zy6 S f key d K st vs A l:=⟨a,C,hs,B.1,B.2.1,B.2.2⟩
end
def sts:List (Nat×SV)->St->Prop
 | [],_=>True
 |p::r,st=>st.sl p.1=p.2/\sts r st
def obs:List Ob->Nat->St->Prop
 | [],k,st=>st.n=k
 |o::r,k,st=>st.ob k=o/\obs r (k+1) st
def IV (s:List (Nat×SV)) (o:List Ob) (st:St):Prop:=sts s st/\obs o 0 st
theorem ZBL (st:St):sts [] st=True:=yi rfl
theorem ZyI (st:St) (t:Nat) (v:SV) (r:List (Nat×SV)):sts ((t,v)::r) st=(st.sl t=v/\sts r st):=yi rfl
theorem ZAG (st:St) (k:Nat):obs [] k st=(st.n=k):=yi rfl
theorem Zzh (st:St) (o:Ob) (k:Nat) (r:List Ob):obs (o::r) k st=(st.ob k=o/\obs r (k+1) st):=yi rfl
attribute [go_sem] IV ZyI ZBL Zzh ZAG
theorem Zds {α:Type}{g:α->List CT}(h:∀x,(g x).all CT.flat=true) (l:List α):Zco (l.map g)=true:=by
 simp only[Zco,List.all_map,List.all_eq_true];exact fun x _=>h x
def ZM (s:BYT):List CT:=[.str s]
def Ye (n:Int):List CT:=[.int .i64 n]
def Zwm (b:Bool):List CT:=[.bool b]
def Zy1 (n:Int):List CT:=[.int .u8 n]
theorem ZBm (s:BYT):ZM s=[.str s]:=yi rfl
theorem Zsm (n:Int):Ye n=[.int .i64 n]:=yi rfl
theorem Zy4 (b:Bool):Zwm b=[.bool b]:=yi rfl
theorem ZtD (n:Int):Zy1 n=[.int .u8 n]:=yi rfl
theorem Zw2 (l:List BYT):Zco (l.map ZM)=true:=Zds (fun _=>rfl) l
theorem Zxs (l:List Int):Zco (l.map Ye)=true:=Zds (fun _=>rfl) l
theorem ZvY (l:List Bool):Zco (l.map Zwm)=true:=Zds (fun _=>rfl) l
theorem ZvW (l:List Int):Zco (l.map Zy1)=true:=Zds (fun _=>rfl) l
theorem Zr4 {s:BYT}{i:Nat}{x:UInt8}(h:s.data.toList[i]?=some x):s[i]?=some x:=by
 obtain ⟨B,A⟩:=AA.1 h;have hs:i<s.size:=by rw [AZ];simpa using B
 rw [getElem?_pos s i hs,<-A];rfl
theorem Zd (s:BYT):s.data.toList.length=s.size:=by rw [AZ,Ag]
theorem Zt {i n:Nat}(h:i<n) (A:n<=9223372036854775807):IntKind.i64.wrap ((i:Int)+1)=((i+1:Nat):Int):=by
 rw [Qj yE yE];omega
theorem Z1 {α:Type}{l:List α}{i:Nat}{x:α}(h:l[i]?=some x):decide ((i:Int)<(l.length:Int))=true:=by
 obtain ⟨A,_⟩:=AA.1 h;exact decide_eq_true yE
theorem Z3 {α:Type}{l:List α}{i:Nat}{x:α}(h:l[i]?=some x):(i:Int)<(l.length:Int):=of_decide_eq_true (Z1 h)
theorem Z0 {α:Type}{l:List α}{i:Nat}{x:α}(h:l[i]?=some x):i<l.length:=(AA.1 h).1
theorem ZY (n:Nat):decide ((n:Int)<(n:Int))=false:=decide_eq_false yE
def sAt (s:BYT) (i:Int):Option UInt8:=if 0<=i then s[i.toNat]? else none
theorem Zwe {β:Type}{s:BYT}{i:Int}{f:UInt8->Option β}{r:β}(h:(sAt s i).bind f=some r):∃x,0<=i/\s[i.toNat]?=some x/\f x=some r:=by
 unfold sAt at h;split at h
 .rename_i hi;obtain ⟨x,B,A⟩:=XH h;exact ⟨x,hi,B,A⟩
 .simp at h
theorem ZwQ {s:BYT}{i:Nat}{x:UInt8}(h:s.data.toList[i]?=some x):i<s.size:=by
 have:=Z0 h
 rwa [Zd]at this
theorem ZAw {s:BYT}{i:Nat}{x:UInt8}(h:s.data.toList[i]?=some x):decide ((i:Int)<(s.size:Int))=true:=by
 have:=ZwQ h;exact decide_eq_true yE
theorem Zl1:∀{cs:List AV}{j:Nat}{x:AV},ZzG cs->cs[j]?=some x->avD x
 | [],_,_,_,h=>by simp at h
 |_::_,0,_,h,e=>by simp at e;subst e;exact h.1
 |_::_,j+1,_,h,e=>Zl1 h.2 (by simpa using e)
theorem ZwX:∀{cs:List CT}{j:Nat}{x:CT},ctsD cs->cs[j]?=some x->ctD x
 | [],_,_,_,h=>by simp at h
 |_::_,0,_,h,e=>by simp at e;subst e;exact h.1
 |_::_,j+1,_,h,e=>ZwX h.2 (by simpa using e)
section
variable {α:Type} {st:St} {t k j e m:Nat} {a:Bool} {d:Nat} {cs:List AV} {g:α->List CT} {l:List α} {s:ByteArray}
theorem WF.slotL (B:WF st) (h:st.sl t=.p a cs) (A:cs[j]?=some (.c (.sl e m (A6 g l)))):l.length<=9223372036854775807:=by
 have:=(Zl1 (B.sl _ _ _ h) A).1;simpa only [AI]using this
theorem WF.slotS (B:WF st) (h:st.sl t=.p a cs) (A:cs[j]?=some (.c (.str s))):s.size<=9223372036854775807:=Zl1 (B.sl _ _ _ h) A
theorem WF.boxL (B:WF st) (h:st.ob k=.box t cs) (A:cs[j]?=some (.c (.sl e m (A6 g l)))):l.length<=9223372036854775807:=by
 have:=(Zl1 (B.box _ _ _ h) A).1;simpa only [AI]using this
theorem WF.boxD (B:WF st) (h:st.ob k=.box t cs) (A:cs[j]?=some (.c (.sl e m (A6 g l)))):essD (A6 g l):=(Zl1 (B.box _ _ _ h) A).2
theorem WF.rowL (A:WF st) (h:st.ob k=.row e m (A6 g l) d):l.length<=9223372036854775807:=by
 have:=(A.row _ _ _ _ _ h).1;simpa only [AI]using this
theorem WF.elL {β:Type}{D:β->List CT}{A:List β}{i:Nat}{x:α}(h:essD (A6 g l)) (B:l[i]?=some x) (C:(g x)[j]?=some (.sl e m (A6 D A))):A.length<=9223372036854775807:=by
 have:=(ZwX (Zwa h B) C).1;simpa only [AI]using this
end
/- maps of plain keys, as lists of pairs -/
def eSB (p:BYT×Bool):Value×Value:=(.string p.1,.bool p.2)
def eSS (p:BYT×BYT):Value×Value:=(.string p.1,.string p.2)
def eIB (p:Int×Bool):Value×Value:=(.int .i64 p.1,.bool p.2)
def Zjz {α β:Type}[DecidableEq α]:List (α×β)->α->Option β
 | [],_=>none
 |p::r,k=>if k=p.1 then some p.2 else Zjz r k
def Zmz {α β:Type}[DecidableEq α]:List (α×β)->α->β->List (α×β)
 | [],k,v=>[(k,v)]
 |p::r,k,v=>if k=p.1 then (k,v)::r else p::Zmz r k v
def ZgK {α β:Type}[DecidableEq α] (l:List (α×β)) (k:α) (z:β):β:=(Zjz l k).getD z
def Zyg {α β:Type}[DecidableEq α] (l:List (α×β)) (k:α):Bool:=(Zjz l k).isSome
section
variable {α β:Type} [DecidableEq α] {e:α×β->Value×Value} {fk:α->Value} {fv:β->Value}
theorem ZfF (B:∀p,e p=(fk p.1,fv p.2)) (A:∀a b,vEq (fk a) (fk b)=decide (a=b)):∀(l:List (α×β)) (k:α),Zni (l.map e) (fk k)=(Zjz l k).map fv
 | [],_=>rfl
 |p::r,k=>by
  simp only[AE,Zni,Zjz,B,A,decide_eq_true_eq];split
  .rfl
  .exact ZfF B A r k
theorem Zmb (A:∀p,e p=(fk p.1,fv p.2)) (B:∀a b,vEq (fk a) (fk b)=decide (a=b)) (v:β):∀(l:List (α×β)) (k:α),Zg0 (l.map e) (fk k) (fv v)=(Zmz l k v).map e
 | [],k=>by simp [Zg0,Zmz,A]
 |p::r,k=>by
  simp only[AE,Zg0,Zmz,A,B,decide_eq_true_eq];split
  .simp [A]
  .rw [Zmb A B v r k];simp [A]
end
theorem ZqJ (a b:BYT):vEq (.string a) (.string b)=decide (a=b):=rfl
theorem Zy2 (a b:Int):vEq (.int .i64 a) (.int .i64 b)=decide (a=b):=by simp [vEq,BEq.beq]
theorem ZBE (l:List (BYT×Bool)) (k:BYT):ZcZ (l.map eSB) (.string k) (.c (.bool false))=.c (.bool (ZgK l k false)):=by
 simp only[ZcZ,ZfF (e:=eSB) (fk:=.string) (fv:=.bool) (fun _=>rfl) ZqJ,ZgK];cases Zjz l k<;>rfl
theorem ZBC (l:List (BYT×BYT)) (k:BYT):ZcZ (l.map eSS) (.string k) (.c (.str ⟨#[]⟩))=.c (.str (ZgK l k ⟨#[]⟩)):=by
 simp only[ZcZ,ZfF (e:=eSS) (fk:=.string) (fv:=.string) (fun _=>rfl) ZqJ,ZgK];cases Zjz l k<;>rfl
theorem ZAR (l:List (Int×Bool)) (k:Int):ZcZ (l.map eIB) (.int .i64 k) (.c (.bool false))=.c (.bool (ZgK l k false)):=by
 simp only[ZcZ,ZfF (e:=eIB) (fk:=.int .i64) (fv:=.bool) (fun _=>rfl) Zy2,ZgK];cases Zjz l k<;>rfl
theorem ZCC (l:List (BYT×Bool)) (k:BYT):ZgI (l.map eSB) (.string k)=Zyg l k:=by
 simp only[ZgI,ZfF (e:=eSB) (fk:=.string) (fv:=.bool) (fun _=>rfl) ZqJ,Zyg];cases Zjz l k<;>rfl
theorem ZEn (l:List (BYT×BYT)) (k:BYT):ZgI (l.map eSS) (.string k)=Zyg l k:=by
 simp only[ZgI,ZfF (e:=eSS) (fk:=.string) (fv:=.string) (fun _=>rfl) ZqJ,Zyg];cases Zjz l k<;>rfl
theorem ZD0 (l:List (Int×Bool)) (k:Int):ZgI (l.map eIB) (.int .i64 k)=Zyg l k:=by
 simp only[ZgI,ZfF (e:=eIB) (fk:=.int .i64) (fv:=.bool) (fun _=>rfl) Zy2,Zyg];cases Zjz l k<;>rfl
theorem ZCs (l:List (BYT×Bool)) (k:BYT) (v:Bool):Zg0 (l.map eSB) (.string k) (.bool v)=(Zmz l k v).map eSB:=Zmb (fk:=.string) (fv:=.bool) (fun _=>rfl) ZqJ v l k
theorem ZDs (l:List (BYT×BYT)) (k v:BYT):Zg0 (l.map eSS) (.string k) (.string v)=(Zmz l k v).map eSS:=Zmb (fk:=.string) (fv:=.string) (fun _=>rfl) ZqJ v l k
theorem ZCM (l:List (Int×Bool)) (k:Int) (v:Bool):Zg0 (l.map eIB) (.int .i64 k) (.bool v)=(Zmz l k v).map eIB:=Zmb (fk:=.int .i64) (fv:=.bool) (fun _=>rfl) Zy2 v l k
theorem Zo0:∀l:List Int,ZgJ (l.map Zy1)=some l
 | []=>rfl
 |n::r=>by simp only[AE,ZtD,ZgJ,Zo0 r,AN]
theorem Zm1 (st:St):∀l:List CT,Z8 st (l.map ZmJ)=some (l.map fun c=>(false,[c]))
 | []=>rfl
 |c::r=>by
  have h:=Zm1 st r;simp only[AE,Z8,h,ZmJ,ZeG,XF,Zdr,Ay,AN]
theorem ZGk:((0:Nat):Int)=0:=yi rfl
attribute [go_sem] Zm1 ZBE ZBC ZAR ZCC ZEn ZD0 ZCs ZDs ZCM Zo0 ZGk ZFh List.map_replicate ZBm Zsm Zy4 ZtD Zw2 Zxs ZvY ZvW Ar List.getElem?_map List.map_set List.map_take List.map_drop AM Aw Az
end
def toL (s:BYT):List UInt8:=s.data.toList
def ofL (l:List UInt8):BYT:=⟨l.toArray⟩
theorem Zlp (s:BYT):ofL (toL s)=s:=by cases s;simp [ofL,toL]
theorem ZdS (l:List UInt8):toL (ofL l)=l:=by simp [ofL,toL]
def ZgZ (l:List BYT):List BYT:=((l.map toL).mergeSort fun x y=>decide (x<=y)).map ofL
def ZdX (l:List BYT):Option (List BYT):=chk (l.length<=4611686018427387903) (some (ZgZ l))
noncomputable def Zst (n:Int):Option BYT:=chk (-9223372036854775808<=n/\n<=9223372036854775807) (some (ofL (Lib.itoa n)))
def ZgV (a b:BYT):Option Int:=some (Lib.compareBytes (toL a) (toL b))
def ZoV (s:BYT):Option (Int×Bool):=chk (s.size<=18) (some (match Lib.atoi (toL s) with|some n=>(n,true)|none=>(0,false)))
end Go.Proofs.YtfdjdgdipgfmeaaGreatDoor
