/- Parts of this proof, joined; what they hold is said at the theorems. -/
import Derived.WalkKit
import Derived.Lib.Hide
import Derived.Deep.Draws
import Derived.Maps.AppendAt
import Derived.Deep.QuietTactic
import Derived.BigQuiet
import Derived.IntWalk
import Derived.Lib.ItoaNum
import Derived.Lib.Bytealg
import Derived.Lib.Join
import Derived.Lib.Atoi
open Array renaming getElem?_eq_some_iff→AI,length_toList→AQ
open Bool renaming and_eq_true→Ay
open ByteArray renaming size→AM
open Go.ByteArray renaming toList_eq→Az
open Int renaming toNat_natCast→Aw
open List renaming mem_append→A0,mem_cons→A9,map→AA,map_cons→AB,getElem?_eq_some_iff→AC,append_assoc→AD,length_map→AE,pairwise_cons→AH,length_append→AN,getElem?_eq_getElem→AX,nodup_nil→AY,map_nil→AZ,eq_nil_of_length_eq_zero→Aa,size_toArray→Ab,length_take→Ac,length_drop→Ad,drop_take→Ae,take_left→Aj,drop_zero→Ak,take_zero→Am,drop_eq_getElem_cons→An,nodup_append→Ap,length_cons→Aq,cons_append→As,foldl_cons→B3,append_inj'→B4
open List.Pairwise renaming nil→AW
open Nat renaming le_trans→AJ,add_mul→AK,mul_le_mul_right→AP,sub_mul→AS,add_sub_cancel_left→Ah
open Option renaming map_some→AL,bind_some→AT
open Option.some renaming inj→AU
open Sum.inl renaming inj→Ax
set_option linter.unusedSimpArgs false
set_option linter.unusedVariables false
set_option maxRecDepth 1000000
set_option maxHeartbeats 4000000
namespace Go.Proofs.YtnacpkmpdlodoaaGreatDoor
open Go.IntKind
theorem yp{c:Prop}{i:Decidable c}(h:c){α}{t e:α}:ite c t e=t:=if_pos h
theorem yn{c:Prop}{i:Decidable c}(h:Not c){α}{t e:α}:ite c t e=e:=if_neg h
abbrev BYT:=ByteArray
theorem yE{p:Prop}(h:p:=by omega):p:=h
theorem yF{p:Prop}(h:p:=by decide):p:=h
theorem yG{p:Prop}(h:p:=by simp):p:=h
theorem yH{p:Prop}(h:p:=by rfl):p:=h
theorem yK{p:Prop}(h:p:=by first | (simp;done) | (simp;omega) | omega):p:=h
theorem yI{p:Prop}(h:p:=by repeat (first | refine Below.setCell ?_ (by dsimp only;omega) _ | refine Below.alloc ?_ (by first | (simp;done) | (simp;omega) | omega) _ | exact Below.refl _ _)):p:=h
theorem yi{p:Prop}(h:p):p:=h
section
open Go.RowKit
theorem Zcl(b off j:Nat):(⟨b,off,none⟩:Addr).add j=⟨b,off+j,none⟩:=by
 unfold Addr.add;split<;>simp_all
def ZbE(w:World)(b off:Nat)(xs:List Value):Prop:=∀j u,xs[j]?=some u->w.cell? ⟨b,off+j,none⟩=some u
def Sl(w:World)(size:Nat)(A:Option Addr)(n:Nat)(xs:List Value)(L:List Nat):Prop:=
 xs.length=n*size/\((n=0/\L=[])\/(0<n/\∃b off,A=some ⟨b,off,none⟩/\L=[b]/\ZbE w b off xs))
section
variable {w w':World} {size n:Nat} {A:Option Addr} {xs:List Value} {L:List Nat}
theorem Sl.zero:Sl w size A 0 [] []:=⟨yG,.inl ⟨rfl,rfl⟩⟩
theorem Sl.at_(h:Sl w size A n xs L)(hn:0<n):∃b off,A=some ⟨b,off,none⟩/\L=[b]/\ZbE w b off xs:=by
 rcases h.2 with ⟨h0,_⟩|⟨_,h⟩
 .omega
 .exact h
theorem Sl.keep(h:Sl w size A n xs L)(hk:∀b∈L,w'.heap[b]?=w.heap[b]?):Sl w' size A n xs L:=by
 refine ⟨h.1,?_⟩;rcases h.2 with h0|⟨hn,b,off,hA,hL,hc⟩
 .exact .inl h0
 .refine .inr ⟨hn,b,off,hA,hL,fun j u hu=>?_⟩;rw [<-hc j u hu];exact World.cell?_of_block (hk b (by simp [hL]))
theorem Sl.lt(h:Sl w size A n xs L)(hs:0<size):∀b∈L,b<w.heap.size:=by
 rcases h.2 with h0|⟨hn,b,off,hA,hL,hc⟩
 .simp [h0.2]
 .intro x hx;rw [hL]at hx;simp at hx;subst hx;have hp:0<xs.length:=by rw [h.1];exact Nat.mul_pos hn hs
  exact World.block_lt_of_cell? w _ (hc 0 _ (AX hp))
end
structure Own (w:World) (base:Nat) (L:List Nat):Prop where
 nodup:L.Nodup
 ge:∀b∈L,base<=b
 plain:∀b∈L,∃cur e,w.heap[b]?=some (.cells cur e (0,0))
theorem Own.nil(w:World)(base:Nat):Own w base []:=⟨AY,yG,yG⟩
theorem Own.lt{w:World}{base:Nat}{L:List Nat}(h:Own w base L):∀b∈L,b<w.heap.size:=by
 intro b hb;obtain ⟨cur,e,hc⟩:=h.plain b hb;exact (AI.1 hc).1
theorem Own.keep{w w':World}{base:Nat}{L:List Nat}(h:Own w base L)(hk:∀b∈L,w'.heap[b]?=w.heap[b]?):Own w' base L:=
 ⟨h.nodup,h.ge,fun b hb=>by rw [hk b hb];exact h.plain b hb⟩
theorem Own.mono{w:World}{base a:Nat}{L:List Nat}(h:Own w base L)(hb:a<=base):Own w a L:=
 ⟨h.nodup,fun b m=>AJ hb (h.ge b m),h.plain⟩
theorem Qu{B:Nat}{w w':World}{L:List Nat}(hb:Below B w w')(h:∀b∈L,b<B):∀b∈L,w'.heap[b]?=w.heap[b]?:=
 fun b m=>hb.block b (h b m)
theorem ZCm{P:Program}{l:Array Oper}{f:List Oper}{o:Oper}{a:Act}{Q:Exit->Act->World->Prop}{w0:World}(q:o.guard=none)(s x:Operand)(t:TypeId)
  (ho:o.op=.call { callee:=.builtin .append,args:=#[s,x],argTypes:=#[t,t] })
  (e:TypeId) (z:Value) (size c:Nat) (ht:P.underlying t=some (.slice e)) (hi:(P.info? e).map (fun i=>(i.zero,i.size,i.bytes))=some (some z,size,c)) (w:z.cells.size=size) (y:0<size)
  (base:Nat) (v:Value) (n:Nat) (xs b:List Value) (hs:a.eval s=v) (hx:a.eval x=.slice (some ⟨w0.heap.size,0,none⟩) 1 1) (m:w0.ownsRow base e size v n xs)
  (hl:b.length=size) (h1:∀u∈b,u.oneCell'=true) (h63:n+1<=9223372036854775807) (d:(n+1)*c<=140737488355328) (hbase:base<=w0.heap.size)
  (h:∀v' w',w'.ownsRow base e size v' (n+1) (xs++b)->w0.grownBy w' v.ownBlock->(∀g,v'.ownBlock=some g->v.ownBlock=some g\/w0.heap.size<=g)->wpList P l Q f (a.put o.dst v') w'):
  wpList P l Q (o::f) a (w0.alloc (.cells b.toArray e)):=by
 obtain ⟨i,A,B,C,D⟩:=info_parts hi;refine wpList_plain q fun K hK=>?_;obtain ⟨v',w',p,h2,h3,_,h5⟩:=run_append_own_at (P:=P) (w0.alloc (.cells b.toArray e)) base t o.type e i z size c ht A B C D w y v n xs (m.alloc _) ⟨w0.heap.size,0,none⟩ 1 1 b
  yE (fun j u hu=>by rw [Zcl];rw [cell_of_row _ w0.heap.size (0+j) b.toArray e (0,0) (heap_alloc_new w0 _)];simpa using hu) h1 (by unfold maxLen;omega) d (by simp;omega)
 unfold Oper.wp execOp;simp only[ho,resolve,invoke,builtin,Sem.run_bind,Sem.run_pure,Result.andThen_ok,List.map_toArray,AB,AZ,hs,hx,p];refine hK _ _ (h v' w' h2 ?_ ?_)
 .exact ⟨h3.os,h3.tape,h3.output,AJ yG h3.size,fun k hk hn=>(h3.block k (by simp;omega) hn).trans (Below.heap_alloc w0 _ k hk)⟩
 .intro g hg;rcases h5 with h5|h5<;>rw [h5]at hg
  .exact .inl hg
  .simp at hg;exact .inr yE
theorem ZsH{w:World}{base:Nat}{e:TypeId}{size n:Nat}{v:Value}{xs:List Value}(h:w.ownsRow base e size v n xs):∀k,v.ownBlock=some k->base<=k:=fun k hk=>(h.lt k hk).1
section
variable {w w':World} {n:Nat} {A:Option Addr} {zs:List Int} {L:List Nat}
end
section
variable {P:Program} {f:FuncId} {args:Array Value} {w:World} {a n:Nat} {v:Value}
end
end
end Go.Proofs.YtnacpkmpdlodoaaGreatDoor
namespace Go.Proofs.YtnacpkmpdlodoaaGreatDoor
open Go.RowKit
end Go.Proofs.YtnacpkmpdlodoaaGreatDoor
namespace Go
open Go.RowKit Go.Proofs.YtnacpkmpdlodoaaGreatDoor
def World.ownsV(w : World)(base : Nat)(e : TypeId)(size : Nat)(v : Value)(n : Nat)(xs : List Value) : Prop :=
  xs.length = n*size /\ ((v = .slice none 0 0 /\ n = 0) \/
   ∃ g o cap cur, v = .slice (some ⟨g, o, none⟩) n cap /\ base <= g /\ w.heap[g]? = some (.cells cur e (0, 0)) /\ n <= cap /\ cap <= maxLen /\ o + cap*size <= cur.size /\ (cur.toList.drop o).take (n*size) = xs)
end Go
namespace Go.Proofs.YtnacpkmpdlodoaaGreatDoor
open Go.RowKit
section
variable {w w':World} {base:Nat} {e:TypeId} {size n:Nat} {v:Value} {xs:List Value}
theorem Zet(h:w.ownsRow base e size v n xs):w.ownsV base e size v n xs:=by
 refine ⟨h.1,?_⟩;rcases h.2 with h0|⟨g,cap,a,h1,h2,h3,h4,h5,h6,h7⟩
 .exact .inl h0
 .exact .inr ⟨g,0,cap,a,h1,h2,h3,h4,h5,yE,by simpa using h7⟩
theorem ZiU(w:World)(base:Nat)(e:TypeId)(size:Nat):w.ownsV base e size (.slice none 0 0) 0 []:=Zet (World.ownsRow_nil _ _ _ _)
theorem YH(h:w.ownsV base e size v n xs):∃A c,v=.slice A n c/\n<=c/\c<=maxLen:=by
 rcases h.2 with ⟨rfl,rfl⟩|⟨g,o,cap,cur,rfl,hb,hg,a,hm,hs,ht⟩
 .exact ⟨none,0,rfl,Nat.le_refl _,Nat.zero_le _⟩
 .exact ⟨_,cap,rfl,a,hm⟩
theorem Zoj{a:Nat}(h:w.ownsV base e size v n xs)(hb:a<=base):w.ownsV a e size v n xs:=by
 refine ⟨h.1,?_⟩;rcases h.2 with h0|⟨g,o,cap,b,h1,h2,h3⟩
 .exact .inl h0
 .exact .inr ⟨g,o,cap,b,h1,AJ hb h2,h3⟩
theorem Zj2(h:w.ownsV base e size v n xs):∀b∈v.ownBlock.toList,b<w.heap.size:=by
 rcases h.2 with ⟨h0,_⟩|⟨g,o,cap,cur,hv,_,hc,_⟩
 .simp [h0,Value.ownBlock]
 .intro b mb;simp [hv,Value.ownBlock]at mb;subst mb;exact (AI.1 hc).1
theorem YG(h:w.ownsV base e size v n xs)(hk:∀b∈v.ownBlock.toList,w'.heap[b]?=w.heap[b]?):w'.ownsV base e size v n xs:=by
 refine ⟨h.1,?_⟩;rcases h.2 with h0|⟨g,o,cap,a,hv,hg,hc,r⟩
 .exact .inl h0
 .refine .inr ⟨g,o,cap,a,hv,hg,?_,r⟩;rw [hk g (by simp [hv,Value.ownBlock])];exact hc
theorem Zah{g o n' cap:Nat}(h:w.ownsV base e size v n xs)(a:v=.slice (some ⟨g,o,none⟩) n' cap):∀j u,xs[j]?=some u->w.cell? ⟨g,o+j,none⟩=some u:=by
 intro j u hj;subst a;rcases h.2 with ⟨h0,_⟩|⟨g',o',cap',b,hv,hb,hg,hnc,hm,hs,ht⟩
 .simp at h0
 .simp only[Value.slice.injEq,Option.some.injEq,Addr.mk.injEq,and_true,true_and]at hv;obtain ⟨⟨rfl,rfl⟩,rfl,rfl⟩:=hv;rw [cell_of_row w g (o+j) b e (0,0) hg];rw [<-ht]at hj;have hl:j<n' * size:=by
   have:=(AC.1 hj).1;simp at this;omega
  rw [List.getElem?_take_of_lt hl,List.getElem?_drop]at hj;simpa using hj
theorem Sl.of_ownV{c:Nat}{A:Option Addr}(h:w.ownsV base e size (.slice A n c) n xs):∃L,Sl w size A n xs L/\Own w base L/\∀b∈L,∃o,A=some ⟨b,o,none⟩:=by
 rcases h.2 with ⟨hv,hn⟩|⟨g,o,cap,a,hv,hb,hg,hnc,hm,hs,ht⟩
 .subst hn;exact ⟨[],⟨h.1,.inl ⟨rfl,rfl⟩⟩,Own.nil _ _,yG⟩
 .injection hv with hA _ hc;subst hA;subst hc;rcases Nat.eq_zero_or_pos n with h0|h0
  .subst h0;exact ⟨[],⟨h.1,.inl ⟨rfl,rfl⟩⟩,Own.nil _ _,yG⟩
  .refine ⟨[g],⟨h.1,.inr ⟨h0,g,o,rfl,rfl,fun j u hu=>Zah h rfl j u hu⟩⟩,⟨yG,by simpa using hb,fun b m=>?_⟩,yG⟩;simp at m;subst m;exact ⟨a,e,hg⟩
end
section
variable {P:Program} (w:World)
theorem Zlk(t ty e:TypeId)(i:TypeInfo)(ht:P.underlying t=some (.slice e))(hi:P.info? e=some i)
  (g o d f:Nat) (k:Array Value) (hg:w.heap[g]?=some (.cells k e (0,0)))
  (a:Addr) (m c:Nat) (b:List Value) (hl:b.length=m*i.size) (l:∀j u,b[j]?=some u->w.cell? (a.add j)=some u) (h1:∀u∈b,u.oneCell'=true)
  (p:d+m<=f) (q:o+d*i.size+b.length<=k.size):
  (Builtin.append_ #[t,t] ty #[.slice (some ⟨g,o,none⟩) d f,.slice (some a) m c]).run P w=
   .ok (.slice (some ⟨g,o,none⟩) (d+m) f) (w.setRow g (k.toList.take (o+d*i.size)++b++k.toList.drop (o+d*i.size+b.length)).toArray):=by
 have hf:=run_firstCells_some (P:=P) w i.size m a m c b hl l;have v:=run_storeCells_at P g (o+d*i.size) e b 0 k w hg (by simpa using q) h1;simp only[Nat.add_zero]at v;simp [Builtin.append_,run_underlying ht,sizeOf,typeInfo,hi,Builtin.lenOf,p,hf,Addr.add_lit,v]
theorem Zhr(base:Nat)(t ty e:TypeId)(i:TypeInfo)(z:Value)(size f:Nat)(ht:P.underlying t=some (.slice e))(hi:P.info? e=some i)(hz:i.zero=some z)
  (A:i.size=size) (F:i.bytes=f) (G:z.cells.size=size) (J:0<size)
  (v:Value) (n:Nat) (xs:List Value) (d:w.ownsV base e size v n xs)
  (a:Addr) (m c:Nat) (b:List Value) (hl:b.length=m*size) (l:∀j u,b[j]?=some u->w.cell? (a.add j)=some u) (h1:∀u∈b,u.oneCell'=true)
  (C:n+m<=maxLen) (q:(n+m)*f<=140737488355328) (B:base<=w.heap.size):
  ∃v' w',(Builtin.append_ #[t,t] ty #[v,.slice (some a) m c]).run P w=.ok v' w'/\w'.ownsV base e size v' (n+m) (xs++b)/\w.grownBy w' v.ownBlock/\
   (v'.ownBlock=v.ownBlock\/v'.ownBlock=some w.heap.size):=by
 rcases d.2 with ⟨rfl,rfl⟩|⟨g,o,cap,y,rfl,K,hg,hnc,L,hcs,D⟩
 .have hx:xs=[]:=Aa (by simpa using d.1);subst hx;obtain ⟨v',w',r1,r2,r3,_,r5⟩:=run_append_own_at (P:=P) w base t ty e i z size f ht hi hz A F G J _ 0 [] (World.ownsRow_nil w base e size) a m c b hl l h1 C q B;exact ⟨v',w',r1,Zet r2,r3,r5⟩
 .subst A;subst F;have hsmall:n+m<=9223372036854775807:=by simp only[maxLen]at C;omega
  have x:(xs++b).length=(n+m)*i.size:=by rw [AN,d.1,hl,AK]
  by_cases p:n+m<=cap
  .have H:o+n*i.size+b.length<=y.size:=by
    have:=AP i.size p;rw [AK]at this;rw [hl];omega
   have hr:=Zlk (P:=P) w t ty e i ht hi g o n cap y hg a m c b hl l h1 p H;refine ⟨_,_,hr,⟨x,.inr ⟨g,o,cap,_,rfl,K,setRow_heap w g y _ e _ hg,p,L,?_,?_⟩⟩,⟨rfl,rfl,rfl,yG,fun k _ hk=>setRow_other w g k _ (fun e=>hk (by simp [Value.ownBlock,e]))⟩,.inl rfl⟩
   .simp only[Ab,AN,Ac,Ad,AQ];omega
   .show List.take _ (List.drop o (y.toList.take (o+n*i.size)++b++_))=_
    have hx:(y.toList.take (o+n*i.size)).drop o=xs:=by
     rw [Ae,Ah];exact D
    have ho:o<=(y.toList.take (o+n*i.size)).length:=by simp;omega
    rw [AD,List.drop_append_of_le_length ho,hx,<-AD,<-x];exact Aj
  .have E:∀j u,xs[j]?=some u->w.cell? ((⟨g,o,none⟩:Addr).add j)=some u:=fun j u hj=>by
    rw [Addr.add_lit];exact Zah d rfl j u hj
   have hr:=run_append_grow (P:=P) w t ty e i z ht hi hz ⟨g,o,none⟩ n cap xs d.1 E a m c b hl l yE yE (growslice_fits yE q);have M:=grownCap_ge w (n+m) cap e;have I:grownCap w (n+m) cap e<=maxLen:=grownCap_le_maxLen w (n+m) cap e C;refine ⟨_,_,hr,⟨x,.inr ⟨w.heap.size,0,_,_,rfl,B,heap_alloc_new w.drew _,M,I,?_,?_⟩⟩,⟨rfl,rfl,rfl,yG,fun k hk _=>heap_alloc_old w.drew _ hk⟩,.inr rfl⟩
   .simp only[Array.size_append,Ab,size_zeroCells,G,d.1,hl,<-AK];rw [Nat.zero_add];exact AP _ yE
   .rw [Ak];simp only[Array.toList_append,AD];rw [<-AD,<-x];exact Aj
theorem ZoS{w:World}{base:Nat}{e:TypeId}{size n l c:Nat}{A:Option Addr}{xs:List Value}(h:w.ownsV base e size (.slice A n c) n xs)(hl:l<=n):
  w.ownsV base e size (.slice (if c=l then A else A.map (·.add (l*size))) (n - l) (c - l)) (n - l) (xs.drop (l*size))/\(Value.slice (if c=l then A else A.map (·.add (l*size))) (n - l) (c - l)).ownBlock=(Value.slice A n c).ownBlock:=by
 have a:(xs.drop (l*size)).length=(n - l)*size:=by rw [Ad,h.1,AS]
 rcases h.2 with ⟨h0,hn⟩|⟨g,o,cap,b,hv,hb,hg,hnc,hm,hs,ht⟩
 .simp only[Value.slice.injEq]at h0;obtain ⟨rfl,_,rfl⟩:=h0;subst hn;obtain rfl:l=0:=by omega
  exact ⟨⟨a,.inl ⟨yG,yE⟩⟩,yG⟩
 .simp only[Value.slice.injEq,true_and]at hv;obtain ⟨rfl,rfl⟩:=hv;by_cases d:c=l
  .subst d;rw [yp rfl];refine ⟨⟨a,.inr ⟨g,o,c - c,b,rfl,hb,hg,yE,yE,?_,?_⟩⟩,rfl⟩
   .rw [Nat.sub_self,Nat.zero_mul];omega
   .have e0:(n - c)*size=0:=by rw [show n - c=0 by omega,Nat.zero_mul]
    rw [e0]at a ⊢;rw [Am];exact (Aa a).symm
  .rw [yn d];refine ⟨⟨a,.inr ⟨g,o+l*size,c - l,b,by simp [Addr.add],hb,hg,yE,yE,?_,?_⟩⟩,by simp only[AL,Value.ownBlock,Addr.add_lit]⟩
   .rw [AS];have:=AP size (show l<=c by omega);omega
   .rw [<-ht,Ae,List.drop_drop,AS]
end
end Go.Proofs.YtnacpkmpdlodoaaGreatDoor
namespace Go.Proofs.YtnacpkmpdlodoaaGreatDoor
section
open Go.RowKit
def ZqJ(n:Int):Prop:=-9223372036854775808<=n/\n<=9223372036854775807
structure Yk (α:Type) where
 size:Nat
 rep:World->List Value->α->List Nat->Prop
 len:∀{w cs x L},rep w cs x L->cs.length=size
 keep:∀{w w' cs x L},rep w cs x L->(∀b∈L,w'.heap[b]?=w.heap[b]?)->rep w' cs x L
 lt:∀{w cs x L},rep w cs x L->∀b∈L,b<w.heap.size
 one:∀{w cs x L},rep w cs x L->∀u∈cs,u.oneCell'=true
 pos:0<size
def Zj7:Yk Int where
 size:=1
 rep:=fun _ cs x L=>cs=[.int .i64 x]/\L=[]
 len:=fun h=>by simp [h.1]
 keep:=fun h _=>h
 lt:=fun h=>by simp [h.2]
 one:=fun h=>by simp [h.1,Value.oneCell']
 pos:=by omega
def ZsX:Yk BYT where
 size:=1
 rep:=fun _ cs x L=>cs=[.string x]/\L=[]/\x.size<=9223372036854775807
 len:=fun h=>by simp [h.1]
 keep:=fun h _=>h
 lt:=fun h=>by simp [h.2.1]
 one:=fun h=>by simp [h.1,Value.oneCell']
 pos:=by omega
def ZBv:Yk Int where
 size:=1
 rep:=fun _ cs x L=>cs=[.int .u8 x]/\L=[]
 len:=fun h=>by simp [h.1]
 keep:=fun h _=>h
 lt:=fun h=>by simp [h.2]
 one:=fun h=>by simp [h.1,Value.oneCell']
 pos:=by omega
section
variable {α:Type} (c:Yk α)
def Yk.reps(w:World):List Value->List α->List Nat->Prop
 |xs,[],L=>xs=[]/\L=[]
 |xs,d::ds,L=>∃a b L1 L2,xs=a++b/\L=L1++L2/\c.rep w a d L1/\Yk.reps w b ds L2
variable {c}
theorem Zko{w:World}:∀{ds:List α}{xs:List Value}{L:List Nat},c.reps w xs ds L->xs.length=ds.length*c.size
 | [],_,_,h=>by simp [h.1]
 |d::ds,_,_,⟨c1,c2,L1,L2,rfl,rfl,h1,h2⟩=>by
  have:=Zko h2;simp [c.len h1,this,AK];omega
theorem Xd{w w':World}:∀{ds:List α}{xs:List Value}{L:List Nat},c.reps w xs ds L->(∀b∈L,w'.heap[b]?=w.heap[b]?)->c.reps w' xs ds L
 | [],_,_,h,_=>h
 |d::ds,_,_,⟨c1,c2,L1,L2,rfl,rfl,h1,h2⟩,hk=>
  ⟨c1,c2,L1,L2,rfl,rfl,c.keep h1 (fun b m=>hk b (by simp [m])),Xd h2 (fun b m=>hk b (by simp [m]))⟩
theorem ZxE{w:World}:∀{ds:List α}{xs:List Value}{L:List Nat},c.reps w xs ds L->∀b∈L,b<w.heap.size
 | [],_,_,h=>by simp [h.2]
 |d::ds,_,_,⟨c1,c2,L1,L2,rfl,rfl,h1,h2⟩=>by
  intro b m;rcases A0.1 m with m|m
  .exact c.lt h1 b m
  .exact ZxE h2 b m
theorem ZfG{w:World}:∀{ds es:List α}{xs ys:List Value}{L M:List Nat},c.reps w xs ds L->c.reps w ys es M->c.reps w (xs++ys) (ds++es) (L++M)
 | [],es,_,ys,_,M,h,h'=>by obtain ⟨rfl,rfl⟩:=h;simpa using h'
 |d::ds,es,_,ys,_,M,⟨c1,c2,L1,L2,rfl,rfl,h1,h2⟩,h'=>
  ⟨c1,c2++ys,L1,L2++M,yG,yG,h1,ZfG h2 h'⟩
theorem Zmk{w:World}{d:α}{cs:List Value}{L:List Nat}(h:c.rep w cs d L):c.reps w cs [d] L:=⟨cs,[],L,[],yG,yG,h,rfl,rfl⟩
theorem Zof{w:World}:∀{ds es:List α}{xs:List Value}{L:List Nat},c.reps w xs (ds++es) L->
  ∃x1 x2 L1 L2,xs=x1++x2/\L=L1++L2/\c.reps w x1 ds L1/\c.reps w x2 es L2
 | [],es,xs,L,h=>⟨[],xs,[],L,rfl,rfl,⟨rfl,rfl⟩,h⟩
 |d::ds,es,_,_,⟨c1,c2,L1,L2,rfl,rfl,h1,h2⟩=>by
  obtain ⟨x1,x2,M1,M2,rfl,rfl,h3,h4⟩:=Zof h2;exact ⟨c1++x1,x2,L1++M1,M2,yG,yG,⟨c1,x1,L1,M1,rfl,rfl,h1,h3⟩,h4⟩
theorem Zxy{w:World}{ds:List α}{xs:List Value}{L:List Nat}(h:c.reps w xs ds L){k:Nat}(hk:k<ds.length):
  ∃x1 cs x2 L1 Lk L2,xs=x1++(cs++x2)/\x1.length=k*c.size/\L=L1++(Lk++L2)/\c.reps w x1 (ds.take k) L1/\c.rep w cs ds[k] Lk/\c.reps w x2 (ds.drop (k+1)) L2:=by
 have e:ds=ds.take k++(ds[k]::ds.drop (k+1)):=by rw [<-An hk,List.take_append_drop]
 rw [e]at h;obtain ⟨x1,x2,L1,L2,rfl,rfl,h1,c1,c2,M1,M2,rfl,rfl,h2,h3⟩:=Zof h;refine ⟨x1,c1,c2,L1,M1,M2,rfl,?_,rfl,h1,h2,h3⟩;have:=Zko h1;rw [this,Ac,Nat.min_eq_left yE]
def Sli(c:Yk α)(w:World)(A:Option Addr)(ds:List α)(L:List Nat):Prop:=
 ∃xs L0 L1,L=L0++L1/\Sl w c.size A ds.length xs L0/\c.reps w xs ds L1
theorem Sli.nil(w:World)(A:Option Addr):Sli c w A [] []:=⟨[],[],[],rfl,Sl.zero,rfl,rfl⟩
theorem Sli.keep{w w':World}{A:Option Addr}{ds:List α}{L:List Nat}(h:Sli c w A ds L)(hk:∀b∈L,w'.heap[b]?=w.heap[b]?):Sli c w' A ds L:=by
 obtain ⟨xs,L0,L1,rfl,h1,h2⟩:=h;exact ⟨xs,L0,L1,rfl,h1.keep (fun b m=>hk b (by simp [m])),Xd h2 (fun b m=>hk b (by simp [m]))⟩
theorem Sli.lt{w:World}{A:Option Addr}{ds:List α}{L:List Nat}(h:Sli c w A ds L):∀b∈L,b<w.heap.size:=by
 obtain ⟨xs,L0,L1,rfl,h1,h2⟩:=h;intro b m;rcases A0.1 m with m|m
 .exact h1.lt c.pos b m
 .exact ZxE h2 b m
theorem Sli.at_{w:World}{A:Option Addr}{ds:List α}{L:List Nat}(h:Sli c w A ds L){k:Nat}(hk:k<ds.length):
  ∃b off cs Lk,A=some ⟨b,off,none⟩/\b∈L/\(∀x∈Lk,x∈L)/\c.rep w cs ds[k] Lk/\∀j u,cs[j]?=some u->w.cell? ⟨b,off+(k*c.size+j),none⟩=some u:=by
 obtain ⟨xs,L0,L1,rfl,h1,h2⟩:=h;obtain ⟨x1,cs,x2,M1,Mk,M2,rfl,hx,rfl,_,h3,_⟩:=Zxy h2 hk;obtain ⟨b,off,hA,hL,hc⟩:=h1.at_ yE;subst hL;refine ⟨b,off,cs,Mk,hA,yG,fun x m=>by simp [m],h3,fun j u hu=>hc _ u ?_⟩;rw [List.getElem?_append_right yE,hx,Ah,List.getElem?_append_left (AC.1 hu).1];exact hu
def ZQ(c:Yk α):Yk (List α) where
 size:=1
 rep:=fun w cs ds L=>∃A cap,cs=[.slice A ds.length cap]/\ds.length<=cap/\cap<=maxLen/\Sli c w A ds L
 len:=fun ⟨_,_,h,_⟩=>by simp [h]
 keep:=fun ⟨A,cap,h,b,d,a⟩ hk=>⟨A,cap,h,b,d,a.keep hk⟩
 lt:=fun ⟨_,_,_,_,_,a⟩=>a.lt
 one:=fun ⟨_,_,h,_⟩=>by simp [h,Value.oneCell']
 pos:=by omega
theorem Own.append{w:World}{base c:Nat}{L M:List Nat}(h:Own w base L)(k:Own w c M)(hb:base<=c)(hl:∀b∈L,b<c):Own w base (L++M):=by
 refine ⟨?_,?_,?_⟩
 .rw [Ap];refine ⟨h.nodup,k.nodup,fun a ha b d e=>?_⟩;subst e;have:=hl a ha;have:=k.ge a d;omega
 .intro b m;rcases A0.1 m with m|m
  .exact h.ge b m
  .exact AJ hb (k.ge b m)
 .intro b m;rcases A0.1 m with m|m
  .exact h.plain b m
  .exact k.plain b m
theorem Own.sub{w:World}{base:Nat}{L M:List Nat}(h:Own w base L)(hs:M.Sublist L):Own w base M:=
 ⟨h.nodup.sublist hs,fun b m=>h.ge b (hs.subset m),fun b m=>h.plain b (hs.subset m)⟩
structure Got (c:Yk α) (base:Nat) (cs:List Value) (x:α) (L:List Nat) (w:World):Prop where
 rep:c.rep w cs x L
 own:Own w base L
section
variable {c:Yk α} {base:Nat} {cs:List Value} {x:α} {L M:List Nat} {w w':World}
theorem Got.keep(h:Got c base cs x L w)(hk:∀b∈L,w'.heap[b]?=w.heap[b]?):Got c base cs x L w':=⟨c.keep h.rep hk,h.own.keep hk⟩
theorem Got.alloc(h:Got c base cs x L w)(o:Obj):Got c base cs x L (w.alloc o):=h.keep fun b m=>Below.heap_alloc w o b (h.own.lt b m)
theorem Got.lt(h:Got c base cs x L w):∀b∈L,b<w.heap.size:=h.own.lt
end
def ZIj(c:Yk α)(w:World)(x:α)(e:Ending)(w':World):Prop:=∃cs L,e=.returned (.agg cs.toArray)/\Got c w.heap.size cs x L w'/\Below w.heap.size w w'
theorem ZeR{c:Yk α}{w:World}{A:Option Addr}{n cap:Nat}{ds:List α}{L:List Nat}(h:(ZQ c).rep w [.slice A n cap] ds L):ds.length<=cap/\cap<=maxLen/\Sli c w A ds L:=by
 obtain ⟨A',cap',hv,h1,h2,h3⟩:=h;cases hv;exact ⟨h1,h2,h3⟩
structure ZhA (c:Yk α) (E:TypeId) (W:World) (v:Value) (ds:List α) (w:World):Prop where
 ex:∃xs L1,w.ownsV W.heap.size E c.size v ds.length xs/\c.reps w xs ds L1/\Own w W.heap.size (v.ownBlock.toList++L1)
 below:Below W.heap.size W w
def Zsu(c:Yk α)(E:TypeId)(w:World)(ds:List α)(e:Ending)(w':World):Prop:=∃v,e=.returned v/\ZhA c E w v ds w'
theorem ZhA.shape{c:Yk α}{E:TypeId}{W w:World}{v:Value}{ds:List α}(h:ZhA c E W v ds w):∃A cap,v=.slice A ds.length cap:=by
 obtain ⟨xs,L1,h1,_⟩:=h.ex;obtain ⟨A,cap,hv,_⟩:=YH h1;exact ⟨A,cap,hv⟩
theorem ZhA.got{c:Yk α}{E:TypeId}{W w:World}{v:Value}{ds:List α}(h:ZhA c E W v ds w):∃L,Got (ZQ c) W.heap.size [v] ds L w:=by
 obtain ⟨xs,L1,h1,h2,h3⟩:=h.ex;obtain ⟨A,cap,rfl,hn,hm⟩:=YH h1;obtain ⟨L0,hs,ho,hb⟩:=Sl.of_ownV h1;refine ⟨L0++L1,⟨A,cap,rfl,hn,hm,xs,L0,L1,rfl,hs,h2⟩,h3.sub ?_⟩;refine List.Sublist.append ?_ (List.Sublist.refl _);rcases hs.2 with ⟨_,h0⟩|⟨_,b,off,rfl,h0,_⟩
 .subst h0;exact List.nil_sublist _
 .subst h0;simp [Value.ownBlock]
end
section
variable {α:Type} {c:Yk α} {E:TypeId} {W:World} {n:Nat} {ds:List α} {k:Nat} {w w':World}
end
def Zkn(l:List BYT):Nat:=l.length+(l.map AM).sum
def Blk(w:World)(g:Nat)(t:TypeId)(cs:Array Value):Prop:=w.heap[g]?=some (.cells cs t (0,0))
section
variable {w w':World} {g:Nat} {t:TypeId} {cs:Array Value}
theorem Blk.lt(h:Blk w g t cs):g<w.heap.size:=(AI.1 h).1
theorem Blk.at{i:Nat}{v:Value}(h:Blk w g t cs)(hv:cs[i]?=some v):w.cell? ⟨g,i,none⟩=some v:=(cell_of_row w g i cs t (0,0) h).trans hv
theorem Blk.frozen(h:Blk w g t cs)(i:Nat):w.frozen? ⟨g,i,none⟩=false:=by
 unfold Blk at h;simp [World.frozen?,h]
theorem Blk.new(w:World)(t:TypeId)(cs:Array Value):Blk (w.alloc (.cells cs t)) w.heap.size t cs:=heap_alloc_new w _
theorem Blk.new_at{w:World}{t:TypeId}{cs:Array Value}{g:Nat}(hg:g=w.heap.size):Blk (w.alloc (.cells cs t)) g t cs:=by subst hg;exact heap_alloc_new w _
theorem Blk.alloc(h:Blk w g t cs)(o:Obj):Blk (w.alloc o) g t cs:=(Below.heap_alloc w o g h.lt).trans h
theorem Blk.set_(h:Blk w g t cs)(i:Nat)(u:Value):Blk (w.setCell ⟨g,i,none⟩ u) g t (cs.setIfInBounds i u):=by
 unfold Blk at h ⊢;simp [World.setCell,Array.getElem?_modify,h]
theorem Blk.later(h:Blk w g t cs)(hb:Below w.heap.size w w'):Blk w' g t cs:=(hb.block g h.lt).trans h
end
section
variable {w0:World} {base b lo m:Nat} {Lk M:List Nat} {cs:List Value} {w w':World}
end
end
section
open Go.RowKit
inductive PK where
 |int (k:IntKind)
 |bool
 |str
def Zjg:PK->Value->Prop
 |.int k,.int k' _=>k=k'
 |.bool,.bool _=>True
 |.str,.string s=>s.size<=9223372036854775807
 |_,_=>False
def Zlz(kk vk:PK)(kv:List (Value×Value)):Prop:=∀p∈kv,Zjg kk p.1/\Zjg vk p.2
inductive CT where
 | int (k:IntKind) (n:Int)
 | bool (b:Bool)
 | str (s:BYT)
 | sl (e m:Nat) (xs:List (List CT))
 /-- a pointer to cells that are only read -/
 | pt (es:List CT)
 /-- a function value with what it has captured -/
 | fn (f:Nat) (cs:List CT)
 /-- a map of plain keys and plain values that is only read -/
 | mp (kk vk:PK) (kv:List (Value × Value))
 /-- an interface value: nil or not -/
 | ifc (isNil:Bool)
 /-- a cell of which nothing is known -/
 | any
 /-- the nil slice -/
 | nl (e m:Nat)
def Zfh(es:Array MapEntry):List (Value×Value):=es.toList.map fun e=>(e.key,e.val)
mutual
def RC(w:World):CT->Value->List Nat->Prop
 |.int k n,v,L=>v=.int k n/\L=[]
 |.bool b,v,L=>v=.bool b/\L=[]
 |.str s,v,L=>v=.string s/\L=[]/\s.size<=9223372036854775807
 |.sl _ m xs,v,L=>∃A cap cs L0 L1,v=.slice A xs.length cap/\xs.length<=cap/\cap<=maxLen/\L=L0++L1/\0<m/\Sl w m A xs.length cs L0/\REs w m xs cs L1
 |.pt es,v,L=>∃b cs L1,v=.pointer (some ⟨b,0,none⟩)/\b<w.heap.size/\L=b::L1/\ZbE w b 0 cs/\RCs w es cs L1
 |.fn f es,v,L=>∃vs:List Value,v=.func (.func f) #[] vs.toArray/\RCs w es vs L
 |.mp kk vk kv,v,L=>∃b es c,v=.map (some b)/\w.heap[b]?=some (.map es c)/\Zfh es=kv/\Zlz kk vk kv/\L=[b]
 |.ifc b,v,L=>L=[]/\v.oneCell'=true/\(match b with|true=>v=.nilIface|false=>∃t x,v=.iface t x)
 |.any,v,L=>L=[]/\v.oneCell'=true
 |.nl _ _,v,L=>v=.slice none 0 0/\L=[]
def RCs(w:World):List CT->List Value->List Nat->Prop
 | [],cs,L=>cs=[]/\L=[]
 |x::r,cs,L=>∃v cs' L1 L2,cs=v::cs'/\L=L1++L2/\RC w x v L1/\RCs w r cs' L2
def REs(w:World)(m:Nat):List (List CT)->List Value->List Nat->Prop
 | [],cs,L=>cs=[]/\L=[]
 |e::r,cs,L=>∃a b L1 L2,cs=a++b/\L=L1++L2/\(RCs w e a L1/\a.length=m)/\REs w m r b L2
end
mutual
theorem RC.keep{w w':World}:∀{x:CT}{v:Value}{L:List Nat},RC w x v L->(∀b∈L,w'.heap[b]?=w.heap[b]?)->RC w' x v L
 |.int _ _,_,_,h,_=>h
 |.bool _,_,_,h,_=>h
 |.str _,_,_,h,_=>h
 |.sl _ _ _,_,_,⟨A,cap,cs,L0,L1,h1,h2,h3,h4,h5,h6,h7⟩,hk=>⟨A,cap,cs,L0,L1,h1,h2,h3,h4,h5,h6.keep fun b m=>hk b (by simp [h4,m]),h7.keep fun b m=>hk b (by simp [h4,m])⟩
 |.pt _,_,_,⟨b,cs,L1,h1,h2,h3,h4,h5⟩,hk=>⟨b,cs,L1,h1,by
   have e:=hk b (by simp [h3]);rcases Nat.lt_or_ge b w'.heap.size with h|h
   .exact h
   .rw [Array.getElem?_eq_none h]at e;have:=Array.getElem?_eq_none_iff.1 e.symm;omega,h3,fun j u hu=>by rw [<-h4 j u hu];exact World.cell?_of_block (hk b (by simp [h3])),h5.keep fun b m=>hk b (by simp [h3,m])⟩
 |.fn _ _,_,_,⟨vs,h1,h2⟩,hk=>⟨vs,h1,h2.keep hk⟩
 |.mp _ _ _,_,_,⟨b,es,c,h1,h2,h3,a,h4⟩,hk=>⟨b,es,c,h1,by rw [hk b (by simp [h4])];exact h2,h3,a,h4⟩
 |.ifc _,_,_,h,_=>h
 |.any,_,_,h,_=>h
 |.nl _ _,_,_,h,_=>h
theorem RCs.keep{w w':World}:∀{x:List CT}{v:List Value}{L:List Nat},RCs w x v L->(∀b∈L,w'.heap[b]?=w.heap[b]?)->RCs w' x v L
 | [],_,_,h,_=>h
 |_::_,_,_,⟨v,cs,L1,L2,h1,h2,h3,h4⟩,hk=>⟨v,cs,L1,L2,h1,h2,h3.keep fun b m=>hk b (by simp [h2,m]),h4.keep fun b m=>hk b (by simp [h2,m])⟩
theorem REs.keep{w w':World}{m:Nat}:∀{x:List (List CT)}{v:List Value}{L:List Nat},REs w m x v L->(∀b∈L,w'.heap[b]?=w.heap[b]?)->REs w' m x v L
 | [],_,_,h,_=>h
 |_::_,_,_,⟨c1,c2,L1,L2,h1,h2,h3,h4⟩,hk=>⟨c1,c2,L1,L2,h1,h2,⟨h3.1.keep fun b m=>hk b (by simp [h2,m]),h3.2⟩,h4.keep fun b m=>hk b (by simp [h2,m])⟩
end
mutual
theorem RC.lt{w:World}:∀{x:CT}{v:Value}{L:List Nat},RC w x v L->∀b∈L,b<w.heap.size
 |.int _ _,_,_,h=>by simp [h.2]
 |.bool _,_,_,h=>by simp [h.2]
 |.str _,_,_,h=>by simp [h.2.1]
 |.sl _ _ _,_,_,⟨A,cap,cs,L0,L1,h1,h2,h3,h4,h5,h6,h7⟩=>fun b m=>by
  rw [h4]at m;rcases A0.1 m with m|m
  .exact h6.lt h5 b m
  .exact h7.lt b m
 |.pt _,_,_,⟨b,cs,L1,h1,h2,h3,h4,h5⟩=>fun x m=>by
  rw [h3]at m;rcases A9.1 m with rfl|m
  .exact h2
  .exact h5.lt x m
 |.fn _ _,_,_,⟨vs,h1,h2⟩=>h2.lt
 |.mp _ _ _,_,_,⟨b,es,c,h1,h2,h3,h3',h4⟩=>fun x m=>by
  rw [h4]at m;simp at m;subst m;exact (AI.1 h2).1
 |.ifc _,_,_,h=>by simp [h.1]
 |.any,_,_,h=>by simp [h.1]
 |.nl _ _,_,_,h=>by simp [h.2]
theorem RCs.lt{w:World}:∀{x:List CT}{v:List Value}{L:List Nat},RCs w x v L->∀b∈L,b<w.heap.size
 | [],_,_,h=>by simp [h.2]
 |_::_,_,_,⟨v,cs,L1,L2,h1,h2,h3,h4⟩=>fun b m=>by
  rw [h2]at m;rcases A0.1 m with m|m
  .exact h3.lt b m
  .exact h4.lt b m
theorem REs.lt{w:World}{m:Nat}:∀{x:List (List CT)}{v:List Value}{L:List Nat},REs w m x v L->∀b∈L,b<w.heap.size
 | [],_,_,h=>by simp [h.2]
 |_::_,_,_,⟨c1,c2,L1,L2,h1,h2,h3,h4⟩=>fun b m=>by
  rw [h2]at m;rcases A0.1 m with m|m
  .exact h3.1.lt b m
  .exact h4.lt b m
end
theorem RC.one{w:World}:∀{x:CT}{v:Value}{L:List Nat},RC w x v L->v.oneCell'=true
 |.int _ _,_,_,h=>by simp [h.1,Value.oneCell']
 |.bool _,_,_,h=>by simp [h.1,Value.oneCell']
 |.str _,_,_,h=>by simp [h.1,Value.oneCell']
 |.sl _ _ _,_,_,⟨A,cap,cs,L0,L1,h1,_⟩=>by simp [h1,Value.oneCell']
 |.pt _,_,_,⟨b,cs,L1,h1,_⟩=>by simp [h1,Value.oneCell']
 |.fn _ _,_,_,⟨vs,h1,_⟩=>by simp [h1,Value.oneCell']
 |.mp _ _ _,_,_,⟨b,es,c,h1,_⟩=>by simp [h1,Value.oneCell']
 |.ifc _,_,_,h=>h.2.1
 |.any,_,_,h=>h.2
 |.nl _ _,_,_,h=>by simp [h.1,Value.oneCell']
theorem RCs.one{w:World}:∀{x:List CT}{v:List Value}{L:List Nat},RCs w x v L->∀u∈v,u.oneCell'=true
 | [],_,_,h=>by simp [h.1]
 |_::_,_,_,⟨v,cs,L1,L2,h1,h2,h3,h4⟩=>fun u m=>by
  rw [h1]at m;rcases A9.1 m with rfl|m
  .exact h3.one
  .exact h4.one u m
theorem RCs.len{w:World}:∀{x:List CT}{v:List Value}{L:List Nat},RCs w x v L->v.length=x.length
 | [],_,_,h=>by simp [h.1]
 |_::_,_,_,⟨v,cs,L1,L2,h1,h2,h3,h4⟩=>by simp [h1,h4.len]
theorem RCs.append{w:World}:∀{xs ys:List CT}{us vs:List Value}{L M:List Nat},RCs w xs us L->RCs w ys vs M->RCs w (xs++ys) (us++vs) (L++M)
 | [],_,_,_,_,_,h,h'=>by obtain ⟨rfl,rfl⟩:=h;simpa using h'
 |_::_,_,_,_,_,_,⟨v,cs,L1,L2,h1,h2,h3,h4⟩,h'=>⟨v,cs++_,L1,L2++_,by simp [h1],by simp [h2],h3,h4.append h'⟩
end
section
open Go.RowKit
inductive AV where
 | c (x:CT)
 /-- a row that the call has made with all that it leads to,from now on only read,maybe through others too -/
 | n (x:CT)
 | row (k:Nat)
 | nil (e m:Nat)
 | dead
inductive SV where
 |any
 |und
 |p (agg:Bool) (cs:List AV)
 |tup (xs:List (Bool×List AV))
 |bp (k off:Nat)
 |rp (k m i off:Nat)
 |ep (e:List CT) (off:Nat)
 |fn (f:FuncId)
inductive Ob where
 |gone
 |box (t:TypeId) (cs:List AV)
 |row (e m:Nat) (xs:List (List CT)) (deep:Nat)
 |map (kk vk:PK) (kv:List (Value×Value))
def upd{α:Type}(f:Nat->α)(k:Nat)(v:α):Nat->α:=fun j=>if j=k then v else f j
def Zg6(a b:Nat):Nat:=if a<=b then a else b
structure St where
 sl:Nat->SV
 ob:Nat->Ob
 n:Nat
def St.put(st:St)(d:Option Nat)(v:SV):St:=match d with|none=>st|some t=>{ st with sl:=upd st.sl t v }
def Zv(ob:Nat->Ob):List (Nat×Ob)->Nat->Ob
 | []=>ob
 |p::r=>Zv (upd ob p.1 p.2) r
def St.app(st:St)(u:List (Nat×Ob)):St:={ st with ob:=Zv st.ob u }
structure FI where
 off:Nat
 size:Nat
 agg:Bool
inductive TI where
 |atom (z:AV)
 |strct (fs:List FI) (n:Nat) (z:List AV)
 |slice (e m bytes:Nat) (z:List AV)
 |map (kk vk:PK)
 |eqs (ks:List PK)
 |ifc
def ZBB:Option TI->Bool
 |some .ifc=>true
 |_=>false
def ZoJ:Option TI->Option (List AV)
 |some (.atom z)=>some [z]
 |some (.strct _ _ z)=>some z
 |some (.slice e m _ _)=>some [.nil e m]
 |_=>none
def ZB(s:BYT):Bool:=Nat.ble s.data.toList.length 9223372036854775807
def cvT(ti:Option TI):Value->SV
 |.int k n=>.p false [.c (.int k n)]
 |.bool b=>.p false [.c (.bool b)]
 |.string s=>if ZB s then .p false [.c (.str s)] else .any
 |.slice none 0 0=>match ti with|some (.slice e m _ _)=>.p false [.nil e m]|_=>.any
 |_=>.any
section
variable (tt:Nat->Option TI)
def St.ev(st:St)(t:Nat):Operand->SV
 |.tmp s=>st.sl s
 |.const v=>cvT (tt t) v
 |.func f=>.fn f
 |.global _=>.any
def ZoB(k:IntKind)(x y:Int):Int:=k.wrap (BitVec.ofInt k.bits x &&& BitVec.ofInt k.bits y).toNat
def orI(k:IntKind)(x y:Int):Int:=k.wrap (BitVec.ofInt k.bits x ||| BitVec.ofInt k.bits y).toNat
def ZCs(k:IntKind)(x y:Int):Int:=k.wrap (BitVec.ofInt k.bits x ^^^ BitVec.ofInt k.bits y).toNat
def Zxl(k:IntKind)(x y:Int):Int:=k.wrap (BitVec.ofInt k.bits x &&& ~~~ BitVec.ofInt k.bits y).toNat
def ZGQ(k:IntKind)(x y:Int):Int:=k.wrap (x*2 ^ (min y.toNat k.bits))
def Zzc(k:IntKind)(x y:Int):Int:=x.fdiv (2 ^ (min y.toNat k.bits))
def ZDu(op:BinOp)(k:IntKind)(x y:Int):Option Int:=
 match op with
 |.and=>some (ZoB k x y)
 |.or=>some (orI k x y)
 |.xor=>some (ZCs k x y)
 |.andNot=>some (Zxl k x y)
 |_=>none
def ZB3(op:BinOp)(k:IntKind)(x y:Int):Option CT:=
 match op with
 |.add=>some (.int k (k.wrap (x+y)))
 |.sub=>some (.int k (k.wrap (x - y)))
 |.mul=>some (.int k (k.wrap (x*y)))
 |.quo=>if y=0 then none else some (.int k (k.wrap (x.tdiv y)))
 |.rem=>if y=0 then none else some (.int k (x.tmod y))
 |.eql=>some (.bool (x==y))
 |.neq=>some (.bool (x != y))
 |.lss=>some (.bool (decide (x<y)))
 |.leq=>some (.bool (decide (x<=y)))
 |.gtr=>some (.bool (decide (y<x)))
 |.geq=>some (.bool (decide (y<=x)))
 |.shl=>if y<0 then none else some (.int k (ZGQ k x y))
 |.shr=>if y<0 then none else some (.int k (Zzc k x y))
 |op=>(ZDu op k x y).map (.int k)
def sLt(x y:BYT):Bool:=Op.bytesLess x.toList y.toList
def sEq(x y:BYT):Bool:=decide (x=y)
def ZBQ(op:BinOp)(x y:BYT):Option CT:=
 match op with
 |.add=>if x.size+y.size<=9223372036854775807 then some (.str (x++y)) else none
 |.eql=>some (.bool (sEq x y))
 |.neq=>some (.bool (!sEq x y))
 |.lss=>some (.bool (sLt x y))
 |.leq=>some (.bool (sLt x y||sEq x y))
 |.gtr=>some (.bool (!(sLt x y||sEq x y)))
 |.geq=>some (.bool (!sLt x y))
 |_=>none
def eqC:PK->AV->AV->Option Bool
 |.int _,.c (.int k x),.c (.int k' y)=>if k=k' then some (x==y) else none
 |.str,.c (.str x),.c (.str y)=>some (sEq x y)
 |.bool,.c (.bool x),.c (.bool y)=>some (x==y)
 |_,_,_=>none
def ZpZ:List PK->List AV->List AV->Option Bool
 | [],[],[]=>some true
 |k::ks,x::r,y::q=>(eqC k x y).bind fun a=>(ZpZ ks r q).map fun b=>a&&b
 |_,_,_=>none
def ZA2:Option TI->Option (List PK)
 |some (.eqs ks)=>some ks
 |_=>none
def Ztd(op:BinOp)(b:Bool):Option SV:=
 match op with
 |.eql=>some (.p false [.c (.bool b)])
 |.neq=>some (.p false [.c (.bool (!b))])
 |_=>none
def ZBV(t:Option TI)(op:BinOp):SV->SV->Option SV
 |.p true xs,.p true ys=>(ZA2 t).bind fun ks=>(ZpZ ks xs ys).bind (Ztd op)
 |_,_=>none
def ZvS:Value->Bool
 |.nilIface=>true
 |.int _ _=>false
 |.string _=>false
 |.bool _=>false
 |.slice _ _ _=>false
 |_=>false
def ZlU:Operand->Bool
 |.const v=>ZvS v
 |.tmp _=>false
 |.func _=>false
 |.global _=>false
def ZFe(op:BinOp):SV->Option SV
 |.p false [.c (.ifc b)]=>Ztd op b
 |_=>none
def Zz1:SV->Bool
 |.p ag _=>ag
 |_=>false
def ZBZ(t:Option TI)(op:BinOp):SV->SV->Option SV
 |.p false [.c (.int k x)],.p false [.c (.int k' y)]=>if k=k'\/op=.shl\/op=.shr then (ZB3 op k x y).map fun z=>.p false [.c z] else none
 |.p false [.c (.str x)],.p false [.c (.str y)]=>(ZBQ op x y).map fun z=>.p false [.c z]
 |.p false [.c (.bool x)],.p false [.c (.bool y)]=>
  match t,op with
  |some (.atom (.c (.bool _))),.eql=>some (.p false [.c (.bool (x==y))])
  |some (.atom (.c (.bool _))),.neq=>some (.p false [.c (.bool (!(x==y)))])
  |_,_=>none
 |_,_=>none
def unV(op:UnOp):SV->Option SV
 |.p false [.c (.bool b)]=>match op with | .not=>some (.p false [.c (.bool (!b))])|_=>none
 |.p false [.c (.int k n)]=>match op with | .neg=>some (.p false [.c (.int k (k.wrap (0 - n)))])|_=>none
 |_=>none
def ZzV(tt:Nat->Option TI)(t:Nat)(n:Bool)(op:BinOp)(x y:SV):Option SV:=
 if n=true then (if ZBB (tt t)=true then ZFe op x else none) else if Zz1 x=true then ZBV (tt (t+4000)) op x y else ZBZ (tt t) op x y
def ZfW:List (List CT)->Option (List Int)
 | []=>some []
 | [.int .u8 n]::r=>(ZfW r).map fun l=>n::l
 |_::_=>none
def Xz(l:List Int):BYT:=⟨(l.map fun n=>UInt8.ofNat n.toNat).toArray⟩
def ZnO:Option TI->Bool
 |some (.atom (.c (.int .u8 _)))=>true
 |_=>false
def Zuy(s t:Option TI):SV->Option SV
 |.p false [.c (.int _ n)]=>match s,t with|some (.atom _),some (.atom (.c (.int k _)))=>some (.p false [.c (.int k (k.wrap n))])|_,_=>none
 |_=>none
def Zcs:Option TI->Bool
 |some (.slice _ _ _ _)=>true
 |_=>false
def Zdu:Option TI->Bool
 |some (.atom (.c (.str _)))=>true
 |_=>false
def ZpB(st:St)(t:Option TI):SV->Option SV
 |.p false [.c (.sl _ _ xs)]=>if Zcs t=true then some (.p false [.c (.int .i64 xs.length)]) else none
 |.p false [.n (.sl _ _ xs)]=>if Zcs t=true then some (.p false [.c (.int .i64 xs.length)]) else none
 |.p false [.c (.str s)]=>if Zdu t=true then some (.p false [.c (.int .i64 s.size)]) else none
 |.p false [.nil _ _]=>if Zcs t=true then some (.p false [.c (.int .i64 0)]) else none
 |.p false [.row k]=>match st.ob k with | .row _ _ xs _=>if Zcs t=true then some (.p false [.c (.int .i64 xs.length)]) else none|_=>none
 |_=>none
def Zcy(st:St)(m:Nat):SV->SV->Option SV
 |.p false [.c (.sl _ m' xs)],.p false [.c (.int _ i)]=>if 0<=i/\m=m' then (xs[i.toNat]?).map fun e=>.ep e 0 else none
 |.p false [.row k],.p false [.c (.int _ i)]=>match st.ob k with
  |.row _ m' xs _=>if 0<=i/\i<xs.length/\m=m' then some (.rp k m i.toNat 0) else none
  |_=>none
 |_,_=>none
def Zpb(t:Option TI):SV->SV->Option SV
 |.p false [.c (.str s)],.p false [.c (.int _ i)]=>if 0<=i/\Zdu t=true then (s[i.toNat]?).map fun b=>.p false [.c (.int .u8 b.toNat)] else none
 |_,_=>none
def cut(t:Option TI)(cs:List AV)(off:Nat):Option SV:=
 match t with
 |some (.strct _ n _)=>if off+n<=cs.length then some (.p true ((cs.drop off).take n)) else none
 |some (.eqs _)=>none
 |some _=>(cs[off]?).map fun x=>.p false [x]
 |none=>none
def Zat(st:St)(t:Option TI):SV->Option SV
 |.bp k off=>match st.ob k with | .box _ cs=>cut t cs off|_=>none
 |.rp k m i off=>match st.ob k with | .row _ m' xs _=>(xs[i]?).bind fun e=>if m=m' then cut t (e.map .c) off else none|_=>none
 |.ep e off=>cut t (e.map .c) off
 |.p false [.c (.pt e)]=>cut t (e.map .c) 0
 |_=>none
def splice{α:Type}(cs:List α)(off:Nat)(vs:List α):List α:=cs.take off++(vs++cs.drop (off+vs.length))
def Zxj:AV->Option CT
 |.c (.int k n)=>some (.int k n)
 |.c (.bool b)=>some (.bool b)
 |.c (.str s)=>some (.str s)
 |_=>none
def ZjN:List AV->Option (List CT)
 | []=>some []
 |x::r=>(Zxj x).bind fun a=>(ZjN r).map fun b=>a::b
def Zj5:Option TI->Nat
 |some (.strct _ n _)=>n
 |some (.atom _)=>1
 |some (.slice _ _ _ _)=>1
 |_=>0
def Zol(st:St)(t:Option TI):SV->SV->Option (List (Nat×Ob))
 |.bp k off,.p _ vs=>match st.ob k with
  |.box tb cs=>if vs.length=Zj5 t/\0<vs.length/\off+vs.length<=cs.length then some [(k,.box tb (splice cs off vs))] else none
  |_=>none
 |.rp k m i off,.p _ vs=>match st.ob k with
  |.row e m' xs d=>(xs[i]?).bind fun x=>(ZjN vs).bind fun ys=>if m=m'/\vs.length=Zj5 t/\0<vs.length/\off+vs.length<=m/\0<d then some [(k,.row e m (xs.set i (splice x off ys)) d)] else none
  |_=>none
 |_,_=>none
def ZlW(d:Nat):SV->Option SV
 |.bp k off=>some (.bp k (off+d))
 |.rp k m i off=>some (.rp k m i (off+d))
 |.ep e off=>some (.ep e (off+d))
 |.p false [.c (.pt e)]=>some (.ep e d)
 |_=>none
def ZnM(fs:List FI)(f:Nat):SV->Option SV
 |.p true cs=>(fs[f]?).bind fun i=>if i.agg then (if i.off+i.size<=cs.length then some (.p true ((cs.drop i.off).take i.size)) else none) else (cs[i.off]?).map fun x=>.p false [x]
 |_=>none
def Zlp(fs:List FI)(cs:List AV):List (Nat×SV)->Option (List AV)
 | []=>some cs
 |(i,.p _ vs)::r=>(fs[i]?).bind fun f=>if vs.length=f.size/\f.off+vs.length<=cs.length then Zlp fs (splice cs f.off vs) r else none
 |_::_=>none
def Zhs(st:St)(fs:List FI)(z:List AV)(p:Nat×Operand):Nat×SV:=
 match p.2 with
 |.const (.slice none 0 0)=>(p.1,match (fs[p.1]?).bind fun f=>z[f.off]? with|some (.nil e m)=>.p false [.nil e m]|_=>.any)
 |x=>(p.1,st.ev tt 0 x)
def avT(st:St):AV->Option (CT×List Nat×Nat)
 |.c (.int k n)=>some (.int k n,[],2)
 |.c (.bool b)=>some (.bool b,[],2)
 |.c (.str s)=>some (.str s,[],2)
 |.c x=>some (x,[],1)
 |.nil e m=>if 0<m then some (.sl e m [],[],2) else none
 |.row k=>match st.ob k with | .row e m xs d=>(if d=0 then some (.sl e m xs,[],1) else some (.sl e m xs,[k],d))|_=>none
 |.n _=>none
 |.dead=>none
def ZhB(st:St):List AV->Option (List CT×List Nat×Nat)
 | []=>some ([],[],2)
 |x::r=>(avT st x).bind fun a=>(ZhB st r).map fun b=>(a.1::b.1,a.2.1++b.2.1,Zg6 a.2.2 b.2.2)
def Xt(st:St)(m:Nat):List SV->Option (List (List CT)×List Nat×Nat)
 | []=>some ([],[],2)
 |.p _ cs::r=>if cs.length=m then (ZhB st cs).bind fun a=>(Xt st m r).map fun b=>(a.1::b.1,a.2.1++b.2.1,Zg6 a.2.2 b.2.2) else none
 |_::_=>none
def Zma:AV->Bool
 |.c _=>true
 |_=>false
def Yv:Ob->Ob
 |.row e m xs _=>.row e m xs 0
 |o=>o
def Z8(st:St):List Nat->List (Nat×Ob)
 | []=>[]
 |k::r=>(k,Yv (st.ob k))::Z8 st r
def ZbD(ks:List Nat):List (Nat×Ob):=ks.map fun k=>(k,Ob.gone)
def CT.flat:CT->Bool
 |.int _ _=>true
 |.bool _=>true
 |.str _=>true
 |_=>false
def ZbI(xs:List (List CT)):Bool:=xs.all fun e=>e.all CT.flat
def Zk6(fl:Bool)(xs:List (List CT)):Nat:=if (fl&&ZbI xs)=true then 2 else 1
def ZgX(st:St)(fl:Bool):SV->Option (List (List CT)×List Nat×Nat)
 |.p false [.c (.sl _ _ ys)]=>some (ys,[],Zk6 fl ys)
 |.p false [.nil _ _]=>some ([],[],2)
 |.p false [.row j]=>match st.ob j with | .row _ _ ys d=>(if d=0 then some (ys,[],Zk6 fl ys) else some (ys,[j],d))|_=>none
 |_=>none
def Zha(st:St):SV->Option (List (List CT)×List Nat×Nat)
 |.p false [.nil _ _]=>some ([],[],2)
 |.p false [.row k]=>match st.ob k with | .row _ _ xs d=>(if d=0 then none else some (xs,[k],d))|_=>none
 |_=>none
def ZnV(st:St)(e m:Nat):SV->Bool
 |.p false [.row k]=>match st.ob k with | .row e' m' _ _=>e==e'&&m==m'|_=>false
 |.p false [.nil _ _]=>true
 |_=>false
def Zmf(st:St)(m:Nat):SV->Bool
 |.p false [.row k]=>match st.ob k with | .row _ m' _ _=>m==m'|_=>false
 |.p false [.c (.sl _ m' _)]=>m==m'
 |.p false [.nil _ _]=>true
 |_=>false
def ZpD(st:St)(key:Nat)(t:Option TI)(s x:SV):Option (SV×List (Nat×Ob)):=
 match t with
 |some (.slice e m _ z)=>
  (Zha st s).bind fun a=>(ZgX st (z.all Zma) x).bind fun b=>
   if ZnV st e m s=true/\Zmf st m x=true/\(a.2.1++b.2.1).Nodup/\a.1.length+b.1.length<=1073741824 then
    some (.p false [.row key],ZbD (a.2.1++b.2.1)++[(key,.row e m (a.1++b.1) (Zg6 a.2.2 b.2.2))]) else none
 |_=>none
def ZAD(lo:Bool):SV->SV->Option SV
 |.p false [.c (.int k x)],.p false [.c (.int _ y)]=>some (.p false [.c (.int k (if lo then (if y<x then y else x) else (if x<y then y else x)))])
 |_,_=>none
def Zl4:Option TI->Nat
 |some (.slice _ m _ _)=>m
 |_=>0
def hiB(n:Nat):Option SV->Option Nat
 |none=>some n
 |some (.p false [.c (.int _ h)])=>if 0<=h/\h<=n then some h.toNat else none
 |_=>none
def loB(n:Nat):Option SV->Option Nat
 |none=>some 0
 |some (.p false [.c (.int _ l)])=>if 0<=l/\l<=n then some l.toNat else none
 |_=>none
def Zou(t:Option TI)(lo hi:Option SV):SV->Option SV
 |.p false [.c (.str s)]=>if Zdu t=true then (hiB s.size hi).bind fun h=>(loB h lo).map fun l=>.p false [.c (.str (s.extract l h))] else none
 |.p false [.c (.sl e m xs)]=>if Zl4 t=m then (hiB xs.length hi).bind fun h=>(loB h lo).map fun l=>.p false [.c (.sl e m ((xs.take h).drop l))] else none
 |_=>none
def mvS(d:Nat):Option SV->Option SV->Bool
 |some _,none=>if d=0 then false else true
 |_,_=>false
def ZaE(st:St)(key:Nat)(t:Option TI)(lo hi:Option SV):SV->Option (SV×List (Nat×Ob))
 |.p false [.row k]=>if Zcs t=true then (match st.ob k with
  |.row e m xs d=>if Zl4 t=m then if mvS d lo hi=true then (loB xs.length lo).map fun l=>(.p false [.row key],[(k,.gone),(key,.row e m (xs.drop l) d)]) else (hiB xs.length hi).bind fun h=>(loB h lo).map fun l=>(.p false [.c (.sl e m ((xs.take h).drop l))],[(k,.row e m xs 0)]) else none
  |_=>none) else none
 |.p false [.c x]=>(Zou t lo hi (.p false [.c x])).map fun v=>(v,[])
 |_=>none
def vEq:Value->Value->Bool
 |.int k a,.int k' b=>k==k'&&a==b
 |.string a,.string b=>sEq a b
 |.bool a,.bool b=>a==b
 |_,_=>false
def ZmY:List (Value×Value)->Value->Option Value
 | [],_=>none
 |p::r,k=>if vEq k p.1=true then some p.2 else ZmY r k
def Zf3:List (Value×Value)->Value->Value->List (Value×Value)
 | [],k,v=>[(k,v)]
 |p::r,k,v=>if vEq k p.1=true then (k,v)::r else p::Zf3 r k v
def avV:Value->AV
 |.int k n=>.c (.int k n)
 |.bool b=>.c (.bool b)
 |.string s=>.c (.str s)
 |_=>.dead
def ZcF(kv:List (Value×Value))(k:Value)(z:AV):AV:=match ZmY kv k with|some v=>avV v|none=>z
def ZfH(kv:List (Value×Value))(k:Value):Bool:=(ZmY kv k).isSome
def ZfL:PK->AV
 |.int k=>.c (.int k 0)
 |.bool=>.c (.bool false)
 |.str=>.c (.str ⟨#[]⟩)
def ZxT:PK->SV->Option Value
 |.int k,.p false [.c (.int k' n)]=>if k=k' then some (.int k' n) else none
 |.str,.p false [.c (.str s)]=>some (.string s)
 |.bool,.p false [.c (.bool b)]=>some (.bool b)
 |_,_=>none
def Zu7(kk vk:PK)(kv:List (Value×Value))(i:SV)(ok:Bool):Option SV:=
 (ZxT kk i).map fun k=>match ok with
  |true=>.tup [(false,[ZcF kv k (ZfL vk)]),(false,[.c (.bool (ZfH kv k))])]
  |false=>.p false [ZcF kv k (ZfL vk)]
instance pkDec:DecidableEq PK:=fun a b=>match a,b with
 |.int k,.int k'=>if h:k=k' then isTrue (h ▸ rfl) else isFalse (fun e=>h (PK.int.inj e))
 |.bool,.bool=>isTrue rfl
 |.str,.str=>isTrue rfl
 |.int _,.bool=>isFalse (fun e=>by cases e)
 |.int _,.str=>isFalse (fun e=>by cases e)
 |.bool,.int _=>isFalse (fun e=>by cases e)
 |.bool,.str=>isFalse (fun e=>by cases e)
 |.str,.int _=>isFalse (fun e=>by cases e)
 |.str,.bool=>isFalse (fun e=>by cases e)
def Zfu(kk vk:PK):Option TI->Bool
 |some (.map a b)=>decide (a=kk)&&decide (b=vk)
 |_=>false
def ZhF(st:St)(t:Option TI)(x i:SV)(ok:Bool):Option SV:=
 match x with
 |.p false [.row k]=>match st.ob k with | .map kk vk kv=>if Zfu kk vk t=true then Zu7 kk vk kv i ok else none|_=>none
 |.p false [.c (.mp kk vk kv)]=>if Zfu kk vk t=true then Zu7 kk vk kv i ok else none
 |_=>none
def Zyf(st:St)(t:Option TI)(x i v:SV):Option (List (Nat×Ob)):=
 match x with
 |.p false [.row k]=>match st.ob k with | .map kk vk kv=>if Zfu kk vk t=true then (ZxT kk i).bind fun a=>(ZxT vk v).map fun b=>[(k,.map kk vk (Zf3 kv a b))] else none|_=>none
 |_=>none
def ZqV(key:Nat):Option TI->Option (SV×List (Nat×Ob))
 |some (.map kk vk)=>some (.p false [.row key],[(key,.map kk vk [])])
 |_=>none
def ZlB(st:St):SV->Option (CT×List (Nat×Ob))
 |.bp k 0=>match st.ob k with | .box _ cs=>(zBox cs).map fun l=>(.pt l,[(k,.gone)])|_=>none
 |.p false [.c (.pt e)]=>some (.pt e,[])
 |_=>none
where zBox:List AV->Option (List CT)
 | []=>some []
 |.c x::r=>(zBox r).map fun b=>x::b
 |_::_=>none
def Zfr(st:St):List SV->Option (List CT×List (Nat×Ob))
 | []=>some ([],[])
 |x::r=>(ZlB st x).bind fun a=>(Zfr st r).map fun b=>(a.1::b.1,a.2++b.2)
def Zm4:List AV->Option (List CT)
 | []=>some []
 |.c x::r=>(Zm4 r).map fun b=>x::b
 |.nil e m::r=>if 0<m then (Zm4 r).map fun b=>.sl e m []::b else none
 |_::_=>none
def Zuu(key:Nat)(t:Option TI):SV->SV->Option (SV×List (Nat×Ob))
 |.p false [.c (.int .i64 n)],.p false [.c (.int .i64 c)]=>
  match t with
  |some (.slice e m _ z)=>(Zm4 z).bind fun ze=>if 0<=n/\n=c/\n<=1073741824 then some (.p false [.row key],[(key,.row e m (List.replicate n.toNat ze) 2)]) else none
  |_=>none
 |_,_=>none
def ZzC(i:Nat):SV->Option SV
 |.tup xs=>(xs[i]?).map fun x=>.p x.1 x.2
 |_=>none
def Zce(v:Option SV):Option (SV×List (Nat×Ob)):=v.map fun v=>(v,[])
def ZjB(st:St):SV->Option SV
 |.p false [.row k]=>match st.ob k with | .row _ _ xs _=>(ZfW xs).map fun l=>.p false [.c (.str (Xz l))]|_=>none
 |.p false [.c (.sl _ _ xs)]=>(ZfW xs).map fun l=>.p false [.c (.str (Xz l))]
 |_=>none
def ZsW(tt:Nat->Option TI):Option TI->Option TI
 |some (.slice e _ _ _)=>tt e
 |_=>none
def ZhW(tt:Nat->Option TI)(st:St)(s t:Nat)(x:SV):Option SV:=
 if (Zdu (tt t)&&ZnO (ZsW tt (tt s)))=true then ZjB st x else Zuy (tt s) (tt t) x
def Zlg:List TypeId->List Operand->List (TypeId×Operand)
 |t::ts,x::xs=>(t,x)::Zlg ts xs
 | [],x::xs=>(0,x)::Zlg [] xs
 |_,[]=>[]
def evs(st:St)(ts:List TypeId)(xs:List Operand):List SV:=(Zlg ts xs).map fun p=>st.ev tt p.1 p.2
def Zg3(st:St)(key:Nat)(b:Builtin)(ts:List TypeId)(vs:List SV):Option (SV×List (Nat×Ob)):=
 match b,ts,vs with
 |.len,t::_,[x]=>Zce (ZpB st (tt t) x)
 |.append,[t,u],[s,x]=>if t=u then ZpD st key (tt t) s x else none
 |.max,_,[x,y]=>Zce (ZAD false x y)
 |.min,_,[x,y]=>Zce (ZAD true x y)
 |_,_,_=>none
def opE(key:Nat)(o:Oper)(st:St):Option (SV×List (Nat×Ob)):=
 match o.op with
 |.move x=>some (st.ev tt o.type x,[])
 |.assign x=>some (st.ev tt o.type x,[])
 |.pick c a b=>match st.ev tt 0 c with | .p false [.c (.bool t)]=>some (if t=true then st.ev tt o.type a else st.ev tt o.type b,[])|_=>none
 |.alloc t=>(ZoJ (tt t)).map fun z=>(.bp key 0,[(key,.box t z)])
 |.box t x=>match st.ev tt t x with | .p _ cs=>some (.bp key 0,[(key,.box t cs)])|_=>none
 |.build t parts=>match tt t with|some (.strct fs _ z)=>(Zlp fs z (parts.toList.map (Zhs tt st fs z))).map fun cs=>(.p true cs,[])|_=>none
 |.buildSlice t len parts=>match tt t with
  |some (.slice e m _ z)=>(Xt st m (parts.toList.map fun p=>st.ev tt e p.2)).bind fun a=>
   if parts.toList.map (·.1)=List.range len/\len*m<=16777216/\a.2.1.Nodup/\(!z.all Zma||a.2.1.isEmpty)=true then some (.p false [.row key],Z8 st a.2.1++[(key,.row e m a.1 a.2.2)]) else none
  |_=>none
 |.load t x=>Zce (Zat st (tt t) (st.ev tt 0 x))
 |.store t x v=>(Zol st (tt t) (st.ev tt 0 x) (st.ev tt t v)).map fun u=>(.und,u)
 |.nilCheck x=>match st.ev tt 0 x with | .bp k i=>some (.bp k i,[]) | .rp k m i j=>some (.rp k m i j,[]) | .ep e i=>some (.ep e i,[]) | .p false [.c (.pt e)]=>some (.p false [.c (.pt e)],[])|_=>none
 |.makeFunc (.func f) first caps=>if first.size=0 then (Zfr st (caps.toList.map (st.ev tt 0))).bind fun r=>if (r.2.map (·.1)).Nodup then some (.p false [.c (.fn f r.1)],r.2) else none else none
 |.makeMap t none=>ZqV key (tt t)
 |.lookup t x i ok=>Zce (ZhF st (tt t) (st.ev tt 0 x) (st.ev tt 0 i) ok)
 |.mapUpdate t x i v=>(Zyf st (tt t) (st.ev tt 0 x) (st.ev tt 0 i) (st.ev tt 0 v)).map fun u=>(.und,u)
 |.binOp op t x y _=>Zce (ZzV tt t (ZlU y) op (st.ev tt t x) (st.ev tt t y))
 |.unOp op _ x=>Zce (unV op (st.ev tt 0 x))
 |.convert s t x=>Zce (ZhW tt st s t (st.ev tt 0 x))
 |.makeSlice t n c=>Zuu key (tt t) (st.ev tt 0 n) (st.ev tt 0 c)
 |.slice t x lo hi none=>ZaE st key (tt t) (lo.map (st.ev tt 0)) (hi.map (st.ev tt 0)) (st.ev tt 0 x)
 |.fieldAddr t x f=>match tt t with|some (.strct fs _ _)=>Zce ((fs[f]?).bind fun i=>ZlW i.off (st.ev tt 0 x))|_=>none
 |.field t x f=>match tt t with|some (.strct fs _ _)=>Zce (ZnM fs f (st.ev tt 0 x))|_=>none
 |.indexAddr t x i=>match tt t with|some (.slice _ m _ _)=>Zce (Zcy st m (st.ev tt 0 x) (st.ev tt 0 i))|_=>none
 |.index t x i=>Zce (Zpb (tt t) (st.ev tt 0 x) (st.ev tt 0 i))
 |.extract x i=>Zce (ZzC i (st.ev tt 0 x))
 |.call c=>match c.callee with
  |.builtin b=>Zg3 tt st key b c.argTypes.toList (evs tt st c.argTypes.toList c.args.toList)
  |_=>none
 |_=>none
end
def ZcK(st:St):AV->Option CT
 |.c x=>some x
 |.nil e m=>if 0<m then some (.sl e m []) else none
 |.row k=>match st.ob k with | .row e m xs _=>some (.sl e m xs)|_=>none
 |.n x=>some x
 |.dead=>none
def Y9(st:St):List AV->Option (List CT)
 | []=>some []
 |x::r=>(ZcK st x).bind fun a=>(Y9 st r).map fun b=>a::b
def ZdX(st:St):SV->Option (Bool×List CT)
 |.p a cs=>(Y9 st cs).map fun l=>(a,l)
 |_=>none
def Yj(st:St):List SV->Option (List (Bool×List CT))
 | []=>some []
 |x::r=>(ZdX st x).bind fun a=>(Yj st r).map fun b=>a::b
def nlA:AV->AV
 |.nil e m=>.c (.nl e m)
 |.c x=>.c x
 |.n x=>.n x
 |.row k=>.row k
 |.dead=>.dead
def nlS:SV->SV
 |.p a cs=>.p a (cs.map nlA)
 |x=>x
def ZjT:CT->AV
 |.nl e m=>.nil e m
 |.int k n=>.c (.int k n)
 |.bool b=>.c (.bool b)
 |.str s=>.c (.str s)
 |.sl e m xs=>.c (.sl e m xs)
 |.pt es=>.c (.pt es)
 |.fn f es=>.c (.fn f es)
 |.mp k v kv=>.c (.mp k v kv)
 |.ifc b=>.c (.ifc b)
 |.any=>.c .any
abbrev RT:=Bool×List (Bool×CT)
def ZJj(l:List CT):List (Bool×CT):=l.map fun x=>(false,x)
def ZG5(l:List CT):List (Bool×CT):=l.map fun x=>(true,x)
def Yr(key:Nat):List (Bool×CT)->List AV×List (Nat×Ob)×Nat
 | []=>([],[],key)
 |(false,.sl e m xs)::r=>let b:=Yr (key+1) r;(.row key::b.1,(key,.row e m xs 2)::b.2.1,b.2.2)
 |(false,.int k n)::r=>let b:=Yr key r;(.c (.int k n)::b.1,b.2.1,b.2.2)
 |(false,.bool k)::r=>let b:=Yr key r;(.c (.bool k)::b.1,b.2.1,b.2.2)
 |(false,.str s)::r=>let b:=Yr key r;(.c (.str s)::b.1,b.2.1,b.2.2)
 |(false,.ifc x)::r=>let b:=Yr key r;(.c (.ifc x)::b.1,b.2.1,b.2.2)
 |(false,.any)::r=>let b:=Yr key r;(.c .any::b.1,b.2.1,b.2.2)
 |(false,.nl e m)::r=>let b:=Yr key r;(.c (.nl e m)::b.1,b.2.1,b.2.2)
 |(false,.pt x)::r=>let b:=Yr key r;(.c (.pt x)::b.1,b.2.1,b.2.2)
 |(false,.fn f x)::r=>let b:=Yr key r;(.c (.fn f x)::b.1,b.2.1,b.2.2)
 |(false,.mp k v x)::r=>let b:=Yr key r;(.c (.mp k v x)::b.1,b.2.1,b.2.2)
 |(true,x)::r=>let b:=Yr key r;(.c x::b.1,b.2.1,b.2.2)
def ZX(key:Nat):List RT->List (Bool×List AV)×List (Nat×Ob)×Nat
 | []=>([],[],key)
 |x::r=>let a:=Yr key x.2;let b:=ZX a.2.2 r;((x.1,a.1)::b.1,a.2.1++b.2.1,b.2.2)
def ZdY:List (Bool×List AV)->SV
 | [x]=>.p x.1 x.2
 |xs=>.tup xs
inductive Zhx where
 |row (e m:Nat) (xs:List (List CT))
 |box (t:Nat) (cs:List CT)
inductive NB where
 |box (t:Nat) (cs:List CT)
 |map (kk vk:PK) (kv:List (Value×Value))
def ZIL(key:Nat):NB->SV
 |.box _ _=>.bp key 0
 |.map _ _ _=>.p false [.row key]
def ZAk:NB->Ob
 |.box t cs=>.box t (cs.map .c)
 |.map kk vk kv=>.map kk vk kv
structure Ctx where
 r:FuncId->List (Bool×List CT)->List RT->Prop
 h:FuncId->Zhx->List (Bool×List CT)->List RT->Zhx->Prop
 hd:FuncId->Nat
 b:FuncId->List (Bool×List CT)->NB->Prop
def ZbH:AV->Bool
 |.row _=>false
 |.dead=>false
 |_=>true
def Zi4:SV->Bool
 |.p _ cs=>cs.all ZbH
 |_=>true
def Zc2:List (Bool×CT)->Bool
 | []=>false
 |p::r=>p.1||Zc2 r
def ZdW:List RT->Bool
 | []=>false
 |x::r=>Zc2 x.2||ZdW r
def ZjY:List AV->List Nat
 | []=>[]
 |.row k::r=>k::ZjY r
 |_::r=>ZjY r
def Yq:List SV->List Nat
 | []=>[]
 |.p _ cs::r=>ZjY cs++Yq r
 |_::r=>Yq r
def ZgW(st:St):SV->Option (Nat×Zhx)
 |.bp k 0=>match st.ob k with | .box t cs=>(if cs.all ZbH=true then (Y9 st cs).map fun l=>(k,.box t l) else none)|_=>none
 |.p false [.row k]=>match st.ob k with | .row e m xs d=>(if d=2/\ZbI xs=true then some (k,.row e m xs) else none)|_=>none
 |_=>none
def Yh:Zhx->Ob
 |.row e m xs=>.row e m xs 2
 |.box t cs=>.box t (cs.map .c)
inductive Ex where
 |normal
 |exit (id:Nat)
 |ret
section
variable (tt:Nat->Option TI) (S:Ctx)
def Y8{α:Type}(r:Option α)(K:α->Prop):Prop:=match r with|some v=>K v|none=>False
def Zjk(dst:Option Nat)(K:St->Prop)(st:St)(v:SV):Prop:=K (st.put dst v)
def Zm3(dst:Option Nat)(K:St->Prop)(st:St)(r:SV×List (Nat×Ob)):Prop:=K ((st.put dst r.1).app r.2)
def Ztc(f:FuncId)(key:Nat)(dst:Option Nat)(K:St->Prop)(st:St)(vs:List SV)(l:List (Bool×List CT)):Prop:=
 ∃res,S.r f l res/\(!ZdW res||vs.all Zi4)=true/\(ZX key res).2.2<=key+16/\K ((st.put dst (ZdY (ZX key res).1)).app (ZX key res).2.1)
def ZCq(f:FuncId)(key:Nat)(dst:Option Nat)(K:St->Prop)(st:St)(vs:List SV)(l:List (Bool×List CT)):Prop:=
 ∃res,S.r f l res/\(ZX key res).2.2<=key+16/\K ((st.put dst (ZdY (ZX key res).1)).app (Z8 st (Yq vs)++(ZX key res).2.1))
def ZzT(f:FuncId)(key:Nat)(dst:Option Nat)(K:St->Prop)(st:St)(vs:List SV)(kh:Nat×Zhx)(l:List (Bool×List CT)):Prop:=
 ∃res h',S.h f kh.2 l res h'/\(Yq vs).all (fun j=>j != kh.1)=true/\(ZX key res).2.2<=key+16/\K ((st.put dst (ZdY (ZX key res).1)).app (Z8 st (Yq vs)++((kh.1,Yh h')::(ZX key res).2.1)))
def ZCA(f:FuncId)(key:Nat)(dst:Option Nat)(K:St->Prop)(st:St)(vs:List SV)(l:List (Bool×List CT)):Prop:=
 ∃nb,S.b f l nb/\K ((st.put dst (ZIL key nb)).app (Z8 st (Yq vs)++[(key,ZAk nb)]))
def Zw4(f:FuncId)(key:Nat)(dst:Option Nat)(K:St->Prop)(st:St):List SV->Prop
 | []=>False
 |v::r=>Y8 (ZgW st v) fun kh=>Y8 (Yj st r) (ZzT S f key dst K st r kh)
def spK(f:FuncId)(n key:Nat)(dst:Option Nat)(K:St->Prop)(st:St)(vs:List SV):Prop:=
 match n with
 |0=>Y8 (Yj st vs) (Ztc S f key dst K st vs)
 |1=>Zw4 S f key dst K st vs
 |3=>Y8 (Yj st vs) (ZCA S f key dst K st vs)
 |4=>Y8 (Yj st (vs.map nlS)) (Ztc S f key dst K st (vs.map nlS))
 |_=>Y8 (Yj st vs) (ZCq S f key dst K st vs)
def Xe:Op->Option (FuncId×List TypeId×List Operand)
 |.call ⟨.value (.func f),args,ts⟩=>some (f,ts.toList,args.toList)
 |_=>none
def XA:Op->Option (Nat×List TypeId×List Operand)
 |.call ⟨.value (.tmp s),args,ts⟩=>some (s,ts.toList,args.toList)
 |_=>none
def ZqU:SV->Option (FuncId×List CT)
 |.p false [.c (.fn f es)]=>some (f,es)
 |.fn f=>some (f,[])
 |_=>none
def Zmi(c:CT):SV:=.p false [.c c]
def ZEX(key:Nat)(dst:Option Nat)(K:St->Prop)(st:St)(vs:List SV)(fc:FuncId×List CT):Prop:=S.hd fc.1=0/\spK S fc.1 0 key dst K st (vs++fc.2.map Zmi)
def opS(key:Nat)(o:Oper)(K:St->Prop)(st:St):Prop:=
 match Xe o.op with
 |some c=>spK S c.1 (S.hd c.1) key o.dst K st (evs tt st c.2.1 c.2.2)
 |none=>match XA o.op with
  |some c=>Y8 (ZqU (st.sl c.1)) (ZEX S key o.dst K st (evs tt st c.2.1 c.2.2))
  |none=>Y8 (opE tt key o st) (Zm3 o.dst K st)
def Zbo(all:List Oper)(o:Oper):Option (Option Nat×Bool):=
 match o.guard with
 |none=>none
 |some g=>some ((all[g.1]?).bind (·.dst),g.2)
def ZaY:SV->Bool
 |.p false [.c (.bool _)]=>true
 |_=>false
def QC:SV->Bool
 |.p false [.c (.bool b)]=>b
 |_=>false
def ZuD:SV->Bool
 |.und=>true
 |_=>false
def gK(v:SV)(want:Bool)(A B:Prop):Prop:=if ZaY v=true then (if (QC v==want)=true then A else B) else (if ZuD v=true then B else False)
def opG(all:List Oper)(key:Nat)(o:Oper)(K:St->Prop)(st:St):Prop:=
 match Zbo all o with
 |none=>opS tt S key o K st
 |some (none,_)=>K (st.put o.dst .und)
 |some (some t,want)=>gK (st.sl t) want (opS tt S key o K st) (K (st.put o.dst .und))
def Yp(all:List Oper)(key:Nat):List Oper->(St->Prop)->St->Prop
 | [],K,st=>K st
 |o::r,K,st=>opG tt S all key o (Yp all (key+16) r K) st
def Zr7(n:Nat)(K:St->Prop)(st:St):Prop:=K { st with n:=n }
def ZBG(ops:List Oper)(K:St->Prop)(st:St):Prop:=Yp tt S ops st.n ops (Zr7 (st.n+16*ops.length) K) st
def Zh9(k:St->Prop)(Q:Ex->St->Prop):Ex->St->Prop
 |.normal,st=>k st
 |e,st=>Q e st
def Zix(id:Nat)(Q:Ex->St->Prop):Ex->St->Prop
 |.exit j,st=>if j=id then Q .normal st else Q (.exit j) st
 |e,st=>Q e st
def Zrt(v:SV)(a b:Prop):Prop:=if ZaY v=true then (if QC v=true then a else b) else False
def Zsq:List Nat->Nat->Nat->Option Nat
 | [],_,_=>none
 |x::r,k,i=>if x=k then some i else Zsq r k (i+1)
def rAV(ρ:List Nat):AV->AV
 |.row k=>match Zsq ρ k 0 with|some j=>.row j|none=>.dead
 |x=>x
def rSV(ρ:List Nat):SV->SV
 |.p a cs=>.p a (cs.map (rAV ρ))
 |.tup xs=>.tup (xs.map fun x=>(x.1,x.2.map (rAV ρ)))
 |.bp k off=>match Zsq ρ k 0 with|some j=>.bp j off|none=>.any
 |.rp k m i off=>match Zsq ρ k 0 with|some j=>.rp j m i off|none=>.any
 |x=>x
def rOb(ρ:List Nat):Ob->Ob
 |.box t cs=>.box t (cs.map (rAV ρ))
 |x=>x
def St.ren(st:St)(ρ:List Nat):St:=⟨fun t=>rSV ρ (st.sl t),fun j=>match ρ[j]? with|some k=>rOb ρ (st.ob k)|none=>.gone,ρ.length⟩
def St.mat(st:St)(m:Bool×Nat×Nat):St:=
 match m.1 with
 |false=>match st.sl m.2.1 with
  |.p ag cs=>match cs[m.2.2]? with
   |some (.nil e q)=>if 0<q then ⟨upd st.sl m.2.1 (.p ag (cs.set m.2.2 (.row st.n))),upd st.ob st.n (.row e q [] 2),st.n+1⟩ else st
   |some (.row k)=>match st.ob k with
    |.row e q xs _=>⟨upd st.sl m.2.1 (.p ag (cs.set m.2.2 (.c (.sl e q xs)))),upd st.ob k (.row e q xs 0),st.n⟩
    |_=>st
   |_=>st
  |_=>st
 |true=>match st.ob m.2.1 with
  |.box ty cs=>match cs[m.2.2]? with
   |some (.nil e q)=>if 0<q then ⟨st.sl,upd (upd st.ob m.2.1 (.box ty (cs.set m.2.2 (.row st.n)))) st.n (.row e q [] 2),st.n+1⟩ else st
   |some (.row k)=>match st.ob k with
    |.row e q xs _=>⟨st.sl,upd (upd st.ob k (.row e q xs 0)) m.2.1 (.box ty (cs.set m.2.2 (.c (.sl e q xs)))),st.n⟩
    |_=>st
   |_=>st
  |.row e q xs d=>if m.2.2<d then ⟨st.sl,upd st.ob m.2.1 (.row e q xs m.2.2),st.n⟩ else st
  |_=>st
def St.matN(st:St)(m:Bool×Nat×Nat):St:=
 match st.sl m.2.1 with
 |.p ag cs=>match cs[m.2.2 - 4096]? with
  |some (.row k)=>match st.ob k with
   |.row e q xs d=>if d=2 then ⟨upd st.sl m.2.1 (.p ag (cs.set (m.2.2 - 4096) (.n (.sl e q xs)))),upd st.ob k (.row e q xs 0),st.n⟩ else st
   |_=>st
  |_=>st
 |_=>st
def St.mats(st:St):List (Bool×Nat×Nat)->St
 | []=>st
 |m::r=>(if m.1=false/\4096<=m.2.2 then st.matN m else st.mat m).mats r
mutual
def ctD:CT->Prop
 |.sl _ _ xs=>xs.length<=9223372036854775807/\essD xs
 |.pt es=>ctsD es
 |.fn _ es=>ctsD es
 |.str s=>s.size<=9223372036854775807
 |_=>True
def ctsD:List CT->Prop
 | []=>True
 |x::r=>ctD x/\ctsD r
def essD:List (List CT)->Prop
 | []=>True
 |e::r=>ctsD e/\essD r
end
def avD:AV->Prop
 |.c x=>ctD x
 |.n x=>ctD x
 |_=>True
def Zzz:List AV->Prop
 | []=>True
 |x::r=>avD x/\Zzz r
structure WF (st:St):Prop where
 sl:∀t a cs,st.sl t=.p a cs->Zzz cs
 box:∀k t cs,st.ob k=.box t cs->Zzz cs
 row:∀k e m xs d,st.ob k=.row e m xs d->xs.length<=9223372036854775807/\essD xs
theorem Zxt{α:Type}{g:α->List CT}:∀{l:List α}{i:Nat}{x:α},essD (l.map g)->l[i]?=some x->ctsD (g x)
 | [],_,_,_,h=>by simp at h
 |_::_,0,_,h,e=>by simp at e;subst e;exact h.1
 |_::_,i+1,_,h,e=>Zxt h.2 (by simpa using e)
def ZmK(F:(Ex->St->Prop)->St->Prop)(Q:Ex->St->Prop):Nat->St->Prop
 |0,_=>False
 |n+1,st=>∃(ms:List (Bool×Nat×Nat)) (ρ:List Nat),ρ.Nodup/\(WF ((st.mats ms).ren ρ)->F (Zh9 (ZmK F Q n) Q) ((st.mats ms).ren ρ))
def ldB:SV->Bool
 |.bp k _=>!decide (k=0)
 |.rp k _ _ _=>!decide (k=0)
 |_=>true
def hdB:SV->Bool
 |.bp k _=>decide (k=0)
 |_=>false
def hdC(n:Nat)(x:Option Operand)(st:St):Bool:=match n with
 |1=>match x with|some x=>hdB (st.ev tt 0 x)|none=>false
 |_=>true
def slB:SV->Bool
 |.p false [.c _]=>true
 |_=>false
def stk(o:Op)(st:St):Bool:=match o with
 |.load _ x=>ldB (st.ev tt 0 x)
 |.slice _ x _ _ _=>slB (st.ev tt 0 x)
 |o=>match Xe o with|some c=>hdC tt (S.hd c.1) c.2.2.head? st|none=>true
def ifB(b c:Bool)(P:Prop):Prop:=match b with
 |true=>c=true/\P
 |false=>P
def ZgR(b:Bool)(all:List Oper)(base:Nat):List Nat->(St->Prop)->St->Prop
 | [],K,st=>K st
 |i::r,K,st=>match all[i]? with
  |some o=>ifB b (stk tt S o.op st) (opG tt S all (base+16*i) o (ZgR b all base r K) st)
  |none=>ZgR b all base r K st
def Zwj(od:Option (List Nat×Bool))(ops:List Oper)(K:St->Prop)(st:St):Prop:=match od with
 |none=>ZBG tt S ops K st
 |some l=>ZgR tt S l.2 ops st.n l.1 (Zr7 (st.n+16*ops.length) K) st
abbrev OD:=Nat->Option (List Nat×Bool)
def swp(od:OD):Code->(Ex->St->Prop)->St->Prop
 |.skip,Q,st=>Q .normal st
 |.region id ops _,Q,st=>Zwj tt S (od id) ops.toList (Q .normal) st
 |.seq a b,Q,st=>swp od a (Zh9 (swp od b Q) Q) st
 |.cond c a b,Q,st=>Zrt (st.ev tt 0 c) (swp od a Q st) (swp od b Q st)
 |.block id b,Q,st=>swp od b (Zix id Q) st
 |.loop b,Q,st=>∃n,ZmK (swp od b) Q n st
 |.exit id,Q,st=>Q (.exit id) st
 |.ret,Q,st=>Q .ret st
 |_,_,_=>False
end
def Zf6(st:St):AV->Option ((Bool×CT)×List Nat)
 |.c (.sl e m xs)=>some ((true,.sl e m xs),[])
 |.c (.int k n)=>some ((false,.int k n),[])
 |.c (.bool b)=>some ((false,.bool b),[])
 |.c (.str s)=>some ((false,.str s),[])
 |.nil e m=>if 0<m then some ((false,.sl e m []),[]) else none
 |.c (.ifc x)=>some ((false,.ifc x),[])
 |.c x=>some ((true,x),[])
 |.row k=>match st.ob k with | .row e m xs d=>(if d=2 then some ((false,.sl e m xs),[k]) else some ((true,.sl e m xs),[])) | .map kk vk kv=>some ((true,.mp kk vk kv),[])|_=>none
 |.n x=>some ((true,x),[])
 |.dead=>some ((true,.any),[])
def ZdV(st:St):List AV->Option (List (Bool×CT)×List Nat)
 | []=>some ([],[])
 |x::r=>(Zf6 st x).bind fun a=>(ZdV st r).map fun b=>(a.1::b.1,a.2++b.2)
def ZcL(tt:Nat->Option TI)(st:St):List ResultVar->Option (List RT×List Nat)
 | []=>some ([],[])
 |.tmp t::r=>match st.sl t with
  |.p a cs=>(ZdV st cs).bind fun x=>(ZcL tt st r).map fun b=>((a,x.1)::b.1,x.2++b.2)
  |_=>none
 |.cell t ty::r=>match Zat st (tt ty) (st.sl t) with
  |some (.p a cs)=>(ZdV st cs).bind fun x=>(ZcL tt st r).map fun b=>((a,x.1)::b.1,x.2++b.2)
  |_=>none
def Zxz:CT->Bool
 |.any=>true
 |.int _ _=>false
 |.bool _=>false
 |.str _=>false
 |.sl _ _ _=>false
 |.pt _=>false
 |.fn _ _=>false
 |.mp _ _ _=>false
 |.ifc _=>false
 |.nl _ _=>false
def wk1(x y:Bool×CT)(R:Prop):Prop:=if Zxz y.2=true then R else x.2=y.2/\(x.1=y.1\/y.1=true)/\R
def wkC:List (Bool×CT)->List (Bool×CT)->Prop
 | [],[]=>True
 |x::r,y::q=>wk1 x y (wkC r q)
 |_,_=>False
def wkR:List RT->List RT->Prop
 | [],[]=>True
 |x::r,y::q=>x.1=y.1/\wkC x.2 y.2/\wkR r q
 |_,_=>False
def Zt(args:List (Bool×List CT)):St:=⟨fun t=>match args[t]? with|some x=>.p x.1 (x.2.map ZjT)|none=>.und,fun _=>.gone,0⟩
def YE:Zhx->SV
 |.row _ _ _=>.p false [.row 0]
 |.box _ _=>.bp 0 0
def YF(h:Zhx)(args:List (Bool×List CT)):St:=⟨fun t=>match t with|0=>YE h|t+1=>(match args[t]? with|some x=>.p x.1 (x.2.map .c)|none=>.und),fun k=>if k=0 then Yh h else .gone,1⟩
def ZuJ(tt:Nat->Option TI)(rs:List ResultVar)(R:St->List RT->List Nat->Prop):Ex->St->Prop
 |.exit _,_=>False
 |_,st=>match ZcL tt st rs with|some x=>x.2.Nodup/\R st x.1 x.2|none=>False
def fnS(od:OD)(tt:Nat->Option TI)(S:Ctx)(rs:List ResultVar)(body:Code)(args:List (Bool×List CT))(res:List RT):Prop:=swp tt S od body (ZuJ tt rs fun _ r _=>wkR r res) (Zt args)
def ZkM(st:St)(ks:List Nat)(h':Zhx):Prop:=
 match h' with
 |.row e m xs=>∃k,st.sl 0=.p false [.row k]/\st.ob k=.row e m xs 2/\ZbI xs=true/\k∉ks
 |.box t cs=>∃k ds,st.sl 0=.bp k 0/\st.ob k=.box t ds/\ds.all ZbH=true/\Y9 st ds=some cs
def fnH(od:OD)(tt:Nat->Option TI)(S:Ctx)(rs:List ResultVar)(body:Code)(h:Zhx)(args:List (Bool×List CT))(res:List RT)(h':Zhx):Prop:=swp tt S od body (ZuJ tt rs fun st r ks=>wkR r res/\ZkM st ks h') (YF h args)
def Zg2(st:St)(rs:List ResultVar)(nb:NB):Prop:=
 match rs with
 | [.tmp s]=>(match nb with
  |.box t cs=>∃k ds,st.sl s=.bp k 0/\st.ob k=.box t ds/\ds.all ZbH=true/\Y9 st ds=some cs
  |.map kk vk kv=>∃k,st.sl s=.p false [.row k]/\st.ob k=.map kk vk kv)
 |_=>False
def ZB2(rs:List ResultVar)(nb:NB):Ex->St->Prop
 |.exit _,_=>False
 |_,st=>Zg2 st rs nb
def hbO(st:St)(t:Nat)(cs:List CT):Ob->Prop
 |.box t' ds=>t'=t/\ds.all ZbH=true/\Y9 st ds=some cs
 |_=>False
def hbS(st:St)(t:Nat)(cs:List CT):SV->Prop
 |.bp k 0=>hbO st t cs (st.ob k)
 |_=>False
theorem Zw2{st:St}{t:Nat}{cs:List CT}{v:SV}:hbS st t cs v↔∃k ds,v=.bp k 0/\st.ob k=.box t ds/\ds.all ZbH=true/\Y9 st ds=some cs:=by
 constructor
 .intro h;unfold hbS at h;split at h
  .rename_i k;unfold hbO at h;split at h
   .rename_i t' ds hk;obtain ⟨rfl,h2,h3⟩:=h;exact ⟨k,ds,rfl,hk,h2,h3⟩
   .exact h.elim
  .exact h.elim
 .rintro ⟨k,ds,rfl,h1,h2,h3⟩;show hbO st t cs (st.ob k)
  rw [h1];exact ⟨rfl,h2,h3⟩
theorem ZsG{st:St}{ks:List Nat}{t:Nat}{cs:List CT}:ZkM st ks (.box t cs)=hbS st t cs (st.sl 0):=propext Zw2.symm
theorem Ztl{st:St}{s t:Nat}{cs:List CT}:Zg2 st [.tmp s] (.box t cs)=hbS st t cs (st.sl s):=propext Zw2.symm
def mbO(kk vk:PK)(kv:List (Value×Value)):Ob->Prop
 |.map kk' vk' kv'=>kk'=kk/\vk'=vk/\kv'=kv
 |_=>False
def mbS(st:St)(kk vk:PK)(kv:List (Value×Value)):SV->Prop
 |.p false [.row k]=>mbO kk vk kv (st.ob k)
 |_=>False
theorem ZC5{st:St}{kk vk:PK}{kv:List (Value×Value)}{v:SV}:mbS st kk vk kv v↔∃k,v=.p false [.row k]/\st.ob k=.map kk vk kv:=by
 constructor
 .intro h;unfold mbS at h;split at h
  .rename_i k;unfold mbO at h;split at h
   .rename_i a b c hk;obtain ⟨rfl,rfl,rfl⟩:=h;exact ⟨k,rfl,hk⟩
   .exact h.elim
  .exact h.elim
 .rintro ⟨k,rfl,h1⟩;show mbO kk vk kv (st.ob k)
  rw [h1];exact ⟨rfl,rfl,rfl⟩
theorem ZtB{st:St}{s:Nat}{kk vk:PK}{kv:List (Value×Value)}:Zg2 st [.tmp s] (.map kk vk kv)=mbS st kk vk kv (st.sl s):=propext ZC5.symm
theorem ZCH{st:St}{k:Nat}{kk vk:PK}{kv:List (Value×Value)}:mbS st kk vk kv (.p false [.row k])=mbO kk vk kv (st.ob k):=yi rfl
theorem ZCY{kk vk a b:PK}{kv c:List (Value×Value)}:mbO kk vk kv (.map a b c)=(a=kk/\b=vk/\c=kv):=yi rfl
theorem ZF7{st:St}{t k:Nat}{cs:List CT}:hbS st t cs (.bp k 0)=hbO st t cs (st.ob k):=yi rfl
theorem ZCO{st:St}{t t':Nat}{cs:List CT}{ds:List AV}:hbO st t cs (.box t' ds)=(t'=t/\ds.all ZbH=true/\Y9 st ds=some cs):=yi rfl
theorem ZA1{rs:List ResultVar}{nb:NB}{st:St}:ZB2 rs nb .ret st=Zg2 st rs nb:=yi rfl
theorem Zy6{rs:List ResultVar}{nb:NB}{st:St}:ZB2 rs nb .normal st=Zg2 st rs nb:=yi rfl
def fnB(od:OD)(tt:Nat->Option TI)(S:Ctx)(rs:List ResultVar)(body:Code)(args:List (Bool×List CT))(nb:NB):Prop:=swp tt S od body (ZB2 rs nb) (Zt args)
def Zxn(k:Nat):Ob->AV
 |.row _ _ _ d=>if d=2 then .row k else .dead
 |.gone=>.dead
 |.box _ _=>.dead
 |.map _ _ _=>.dead
def ZkE(st:St):AV->AV
 |.c (.int k n)=>.c (.int k n)
 |.c (.bool b)=>.c (.bool b)
 |.c (.str s)=>.c (.str s)
 |.row k=>Zxn k (st.ob k)
 |_=>.dead
def Zrs(st:St):SV->SV
 |.p ag cs=>.p ag (cs.map (ZkE st))
 |.bp k off=>.bp k off
 |_=>.any
def Zbz(st:St):Ob->Ob
 |.row e m xs d=>if d=2 then .row e m xs d else .gone
 |.gone=>.gone
 |.box t cs=>.box t (cs.map (ZkE st))
 |.map _ _ _=>.gone
def Zt3(st:St)(t:Nat):SV->St
 |.p false [.n (.sl e m xs)]=>⟨fun s=>if s=t then .p false [.row st.n] else Zrs st (st.sl s),fun k=>if k=st.n then .row e m xs 2 else Zbz st (st.ob k),st.n+1⟩
 |_=>st
def St.thaw(st:St)(t:Nat):St:=Zt3 st t (st.sl t)
def ZC6(t:Nat)(Q:Ex->St->Prop):Ex->St->Prop
 |e,st=>Q e (st.thaw t)
def fnN(od:OD)(tt:Nat->Option TI)(S:Ctx)(rs:List ResultVar)(t:Nat)(body:Code)(args:List (Bool×List CT))(res:List RT):Prop:=swp tt S od body (ZC6 t (ZuJ tt rs fun _ r _=>wkR r res)) (Zt args)
theorem ZBE(sl:Nat->SV)(ob:Nat->Ob)(n t:Nat):St.thaw ⟨sl,ob,n⟩ t=Zt3 ⟨sl,ob,n⟩ t (sl t):=yi rfl
theorem ZCC(t:Nat)(Q:Ex->St->Prop)(e:Ex)(st:St):ZC6 t Q e st=Q e (st.thaw t):=yi rfl
end
section
section
variable {tt:Nat->Option TI} {S:Ctx} {all:List Oper} {key:Nat} {d:Option Nat} {ty:TypeId} {pos:String} {af:Array Edge} {r:List Oper} {K:St->Prop} {st:St}
theorem ZEx:Yp tt S all key [] K st=K st:=yi rfl
theorem ZCU(x:Operand):Yp tt S all key (⟨d,.move x,ty,pos,af,none⟩::r) K st=Yp tt S all (key+16) r K (st.put d (st.ev tt ty x)):=yi rfl
theorem Zyw(x:Operand):Yp tt S all key (⟨d,.assign x,ty,pos,af,none⟩::r) K st=Yp tt S all (key+16) r K (st.put d (st.ev tt ty x)):=yi rfl
def Zqr(v a b:SV)(K:SV->Prop):Prop:=if ZaY v=true then (if QC v=true then K a else K b) else False
theorem ZJA(a b:SV)(K:SV->Prop):Zqr (.p false [.c (.bool true)]) a b K=K a:=by simp [Zqr,ZaY,QC]
theorem ZJi(a b:SV)(K:SV->Prop):Zqr (.p false [.c (.bool false)]) a b K=K b:=by simp [Zqr,ZaY,QC]
theorem ZCf(c a b:Operand):Yp tt S all key (⟨d,.pick c a b,ty,pos,af,none⟩::r) K st=Zqr (st.ev tt 0 c) (st.ev tt ty a) (st.ev tt ty b) (Zjk d (Yp tt S all (key+16) r K) st):=by
 simp only[Yp,opG,Zbo,opS,Xe,XA,opE,Zqr];generalize st.ev tt 0 c=v
 unfold ZaY;split
 .simp only[QC,Y8,if_true];split<;>simp [Zm3,Zjk,St.app,Zv, *]
 .simp [Y8]
theorem ZAd(t:TypeId):Yp tt S all key (⟨d,.alloc t,ty,pos,af,none⟩::r) K st=Y8 ((ZoJ (tt t)).map fun z=>(SV.bp key 0,[(key,Ob.box t z)])) (Zm3 d (Yp tt S all (key+16) r K) st):=yi rfl
def ZIP(key:Nat)(t:TypeId):SV->Option (SV×List (Nat×Ob))
 |.p _ cs=>some (.bp key 0,[(key,.box t cs)])
 |_=>none
theorem ZEq(t:TypeId)(x:Operand):Yp tt S all key (⟨d,.box t x,ty,pos,af,none⟩::r) K st=Y8 (ZIP key t (st.ev tt t x)) (Zm3 d (Yp tt S all (key+16) r K) st):=yi rfl
def Zv9(tt:Nat->Option TI)(st:St)(parts:List (Nat×Operand)):Option TI->Option SV
 |some (.strct fs _ z)=>(Zlp fs z (parts.map (Zhs tt st fs z))).map (.p true)
 |_=>none
theorem ZbF(v:Option SV):Y8 (Zce v) (Zm3 d K st)=Y8 v (Zjk d K st):=by cases v<;>rfl
theorem ZAh(t:TypeId)(a:Array (Nat×Operand)):Yp tt S all key (⟨d,.build t a,ty,pos,af,none⟩::r) K st=Y8 (Zv9 tt st a.toList (tt t)) (Zjk d (Yp tt S all (key+16) r K) st):=by
 rw [<-ZbF];simp only[Yp,opG,Zbo,opS,Xe,XA,opE,Zv9];cases tt t with
 |none=>rfl
 |some ti=>cases ti<;>first|rfl|(simp [Zce,Option.map_map];rfl)
def ZET(st:St)(key len:Nat)(is:List Nat)(xs:List SV)(e:Nat):Option TI->Option (SV×List (Nat×Ob))
 |some (.slice _ m _ z)=>(Xt st m xs).bind fun a=>if is=List.range len/\len*m<=16777216/\a.2.1.Nodup/\(!z.all Zma||a.2.1.isEmpty)=true then some (.p false [.row key],Z8 st a.2.1++[(key,.row e m a.1 a.2.2)]) else none
 |_=>none
def ZrT:Option TI->Nat
 |some (.slice e _ _ _)=>e
 |_=>0
theorem ZGh(t:TypeId)(len:Nat)(a:Array (Nat×Operand)):Yp tt S all key (⟨d,.buildSlice t len a,ty,pos,af,none⟩::r) K st=Y8 (ZET st key len (a.toList.map (·.1)) (a.toList.map fun p=>st.ev tt (ZrT (tt t)) p.2) (ZrT (tt t)) (tt t)) (Zm3 d (Yp tt S all (key+16) r K) st):=by
 simp only[Yp,opG,Zbo,opS,Xe,XA,opE,ZET,ZrT];cases tt t with
 |none=>rfl
 |some ti=>cases ti<;>rfl
theorem ZB1(t:TypeId)(x:Operand):Yp tt S all key (⟨d,.load t x,ty,pos,af,none⟩::r) K st=Y8 (Zat st (tt t) (st.ev tt 0 x)) (Zjk d (Yp tt S all (key+16) r K) st):=ZbF _
def ZFJ(d:Option Nat)(K:St->Prop)(st:St)(u:List (Nat×Ob)):Prop:=K ((st.put d .und).app u)
theorem Zz3(t:TypeId)(x v:Operand):Yp tt S all key (⟨d,.store t x v,ty,pos,af,none⟩::r) K st=Y8 (Zol st (tt t) (st.ev tt 0 x) (st.ev tt t v)) (ZFJ d (Yp tt S all (key+16) r K) st):=by
 simp only[Yp,opG,Zbo,opS,Xe,XA,opE];cases Zol st (tt t) (st.ev tt 0 x) (st.ev tt t v)<;>rfl
def ZDB:SV->Option SV
 |.bp k i=>some (.bp k i)
 |.rp k m i j=>some (.rp k m i j)
 |.ep e i=>some (.ep e i)
 |.p false [.c (.pt e)]=>some (.p false [.c (.pt e)])
 |_=>none
theorem ZF2(x:Operand):Yp tt S all key (⟨d,.nilCheck x,ty,pos,af,none⟩::r) K st=Y8 (ZDB (st.ev tt 0 x)) (Zjk d (Yp tt S all (key+16) r K) st):=by
 simp only[Yp,opG,Zbo,opS,Xe,XA,opE,<-ZbF,ZDB];generalize st.ev tt 0 x=v
 cases v with
 |p ag cs=>cases ag with
  |true=>rfl
  |false=>cases cs with
   |nil=>rfl
   |cons y r=>cases r<;>cases y<;>first|rfl|(rename_i z;cases z<;>rfl)|(rename_i z _ _;cases z<;>rfl)
 |_=>rfl
theorem ZD3(op:BinOp)(t u:TypeId)(x y:Operand):Yp tt S all key (⟨d,.binOp op t x y u,ty,pos,af,none⟩::r) K st=Y8 (ZzV tt t (ZlU y) op (st.ev tt t x) (st.ev tt t y)) (Zjk d (Yp tt S all (key+16) r K) st):=ZbF _
theorem ZGY(op:UnOp)(t:TypeId)(x:Operand):Yp tt S all key (⟨d,.unOp op t x,ty,pos,af,none⟩::r) K st=Y8 (unV op (st.ev tt 0 x)) (Zjk d (Yp tt S all (key+16) r K) st):=ZbF _
theorem ZCS(s t:TypeId)(x:Operand):Yp tt S all key (⟨d,.convert s t x,ty,pos,af,none⟩::r) K st=Y8 (ZhW tt st s t (st.ev tt 0 x)) (Zjk d (Yp tt S all (key+16) r K) st):=ZbF _
theorem ZBI(t:TypeId)(n c:Operand):Yp tt S all key (⟨d,.makeSlice t n c,ty,pos,af,none⟩::r) K st=Y8 (Zuu key (tt t) (st.ev tt 0 n) (st.ev tt 0 c)) (Zm3 d (Yp tt S all (key+16) r K) st):=yi rfl
theorem ZAU(t:TypeId)(x:Operand)(lo hi:Option Operand):Yp tt S all key (⟨d,.slice t x lo hi none,ty,pos,af,none⟩::r) K st=Y8 (ZaE st key (tt t) (lo.map (st.ev tt 0)) (hi.map (st.ev tt 0)) (st.ev tt 0 x)) (Zm3 d (Yp tt S all (key+16) r K) st):=yi rfl
def ZEM(fs:Option TI)(f:Nat):Option Nat:=match fs with|some (.strct fs _ _)=>(fs[f]?).map FI.off|_=>none
def ZDC(fs:Option TI)(f:Nat)(v:SV):Option SV:=(ZEM fs f).bind fun o=>ZlW o v
theorem ZFZ(t:TypeId)(x:Operand)(f:Nat):Yp tt S all key (⟨d,.fieldAddr t x f,ty,pos,af,none⟩::r) K st=Y8 (ZDC (tt t) f (st.ev tt 0 x)) (Zjk d (Yp tt S all (key+16) r K) st):=by
 rw [<-ZbF];simp only[Yp,opG,Zbo,opS,Xe,XA,opE,ZDC,ZEM];cases tt t with
 |none=>rfl
 |some ti=>cases ti<;>first|rfl|(simp only[Option.bind_map];rfl)
def ZGL(fs:Option TI)(f:Nat)(v:SV):Option SV:=match fs with|some (.strct fs _ _)=>ZnM fs f v|_=>none
theorem ZDQ(t:TypeId)(x:Operand)(f:Nat):Yp tt S all key (⟨d,.field t x f,ty,pos,af,none⟩::r) K st=Y8 (ZGL (tt t) f (st.ev tt 0 x)) (Zjk d (Yp tt S all (key+16) r K) st):=by
 rw [<-ZbF];simp only[Yp,opG,Zbo,opS,Xe,XA,opE,ZGL];cases tt t with
 |none=>rfl
 |some ti=>cases ti<;>rfl
def ZF1(st:St)(t:Option TI)(x i:SV):Option SV:=match t with|some (.slice _ m _ _)=>Zcy st m x i|_=>none
theorem ZEn(t:TypeId)(x i:Operand):Yp tt S all key (⟨d,.indexAddr t x i,ty,pos,af,none⟩::r) K st=Y8 (ZF1 st (tt t) (st.ev tt 0 x) (st.ev tt 0 i)) (Zjk d (Yp tt S all (key+16) r K) st):=by
 rw [<-ZbF];simp only[Yp,opG,Zbo,opS,Xe,XA,opE,ZF1];cases tt t with
 |none=>rfl
 |some ti=>cases ti<;>rfl
theorem ZDN(t:TypeId)(x i:Operand):Yp tt S all key (⟨d,.index t x i,ty,pos,af,none⟩::r) K st=Y8 (Zpb (tt t) (st.ev tt 0 x) (st.ev tt 0 i)) (Zjk d (Yp tt S all (key+16) r K) st):=ZbF _
theorem ZDi(x:Operand)(i:Nat):Yp tt S all key (⟨d,.extract x i,ty,pos,af,none⟩::r) K st=Y8 (ZzC i (st.ev tt 0 x)) (Zjk d (Yp tt S all (key+16) r K) st):=ZbF _
theorem ZDD(b:Builtin)(args:Array Operand)(ts:Array TypeId):Yp tt S all key (⟨d,.call ⟨.builtin b,args,ts⟩,ty,pos,af,none⟩::r) K st=Y8 (Zg3 tt st key b ts.toList (evs tt st ts.toList args.toList)) (Zm3 d (Yp tt S all (key+16) r K) st):=yi rfl
def ZHg(f:FuncId)(n:Nat)(st:St)(vs:List SV):Option (SV×List (Nat×Ob)):=if n=0 then (Zfr st vs).bind fun r=>if (r.2.map (·.1)).Nodup then some (.p false [.c (.fn f r.1)],r.2) else none else none
theorem ZF3(f:FuncId)(first a:Array Operand):Yp tt S all key (⟨d,.makeFunc (.func f) first a,ty,pos,af,none⟩::r) K st=Y8 (ZHg f first.size st (a.toList.map (st.ev tt 0))) (Zm3 d (Yp tt S all (key+16) r K) st):=yi rfl
theorem ZEO(t:TypeId):Yp tt S all key (⟨d,.makeMap t none,ty,pos,af,none⟩::r) K st=Y8 (ZqV key (tt t)) (Zm3 d (Yp tt S all (key+16) r K) st):=yi rfl
theorem ZCk(t:TypeId)(x i:Operand)(ok:Bool):Yp tt S all key (⟨d,.lookup t x i ok,ty,pos,af,none⟩::r) K st=Y8 (ZhF st (tt t) (st.ev tt 0 x) (st.ev tt 0 i) ok) (Zjk d (Yp tt S all (key+16) r K) st):=ZbF _
theorem ZGA(t:TypeId)(x i v:Operand):Yp tt S all key (⟨d,.mapUpdate t x i v,ty,pos,af,none⟩::r) K st=Y8 (Zyf st (tt t) (st.ev tt 0 x) (st.ev tt 0 i) (st.ev tt 0 v)) (ZFJ d (Yp tt S all (key+16) r K) st):=by
 simp only[Yp,opG,Zbo,opS,Xe,XA,opE];cases Zyf st (tt t) (st.ev tt 0 x) (st.ev tt 0 i) (st.ev tt 0 v)<;>rfl
theorem ZEQ(s:Nat)(args:Array Operand)(ts:Array TypeId):Yp tt S all key (⟨d,.call ⟨.value (.tmp s),args,ts⟩,ty,pos,af,none⟩::r) K st=Y8 (ZqU (st.sl s)) (ZEX S key d (Yp tt S all (key+16) r K) st (evs tt st ts.toList args.toList)):=yi rfl
theorem ZCc(vs:List SV)(f:FuncId)(es:List CT):ZEX S key d K st vs (f,es)=(S.hd f=0/\spK S f 0 key d K st (vs++es.map Zmi)):=yi rfl
theorem ZB5(f:FuncId)(args:Array Operand)(ts:Array TypeId):Yp tt S all key (⟨d,.call ⟨.value (.func f),args,ts⟩,ty,pos,af,none⟩::r) K st=spK S f (S.hd f) key d (Yp tt S all (key+16) r K) st (evs tt st ts.toList args.toList):=yi rfl
theorem ZI5(f:FuncId)(vs:List SV):spK S f 0 key d K st vs=Y8 (Yj st vs) (Ztc S f key d K st vs):=yi rfl
theorem ZJv(f:FuncId)(v:SV)(vs:List SV):spK S f 1 key d K st (v::vs)=Y8 (ZgW st v) fun kh=>Y8 (Yj st vs) (ZzT S f key d K st vs kh):=yi rfl
theorem ZJx(f:FuncId)(vs:List SV):spK S f 3 key d K st vs=Y8 (Yj st vs) (ZCA S f key d K st vs):=yi rfl
theorem ZIW(f:FuncId)(vs:List SV):spK S f 4 key d K st vs=Y8 (Yj st (vs.map nlS)) (Ztc S f key d K st (vs.map nlS)):=yi rfl
theorem ZI4(f:FuncId)(vs:List SV):spK S f 2 key d K st vs=Y8 (Yj st vs) (ZCq S f key d K st vs):=yi rfl
def gOf(all:List Oper)(j:Nat):Option Nat:=(all[j]?).bind (·.dst)
def gL(tt:Nat->Option TI)(S:Ctx)(all:List Oper)(key:Nat)(v:SV)(w:Bool)(o:Oper)(r:List Oper)(K:St->Prop)(st:St):Prop:=gK v w (Yp tt S all key (o::r) K st) (Yp tt S all (key+16) r K (st.put o.dst .und))
def Zs8(st:St):Option Nat->SV
 |some t=>st.sl t
 |none=>.und
theorem ZvU(sl:Nat->SV)(ob:Nat->Ob)(n t:Nat):Zs8 ⟨sl,ob,n⟩ (some t)=sl t:=yi rfl
theorem ZwM:Zs8 st none=.und:=yi rfl
theorem ZBu(op:Op)(j:Nat)(w:Bool):Yp tt S all key (⟨d,op,ty,pos,af,some (j,w)⟩::r) K st=gL tt S all key (Zs8 st (gOf all j)) w ⟨d,op,ty,pos,af,none⟩ r K st:=by
 cases hg:gOf all j with
 |none=>
  have h:Zbo all ⟨d,op,ty,pos,af,some (j,w)⟩=some (none,w):=by simp only[Zbo];rw [show (all[j]?).bind (·.dst)=none from hg]
  simp only[Yp,opG,h,gL,Zs8];simp [gK,ZaY,ZuD]
 |some t=>
  have h:Zbo all ⟨d,op,ty,pos,af,some (j,w)⟩=some (some t,w):=by simp only[Zbo];rw [show (all[j]?).bind (·.dst)=some t from hg]
  simp only[Yp,opG,h,gL,Zs8];rfl
theorem ZHq(o:Oper):gL tt S all key (.p false [.c (.bool true)]) true o r K st=Yp tt S all key (o::r) K st:=by simp [gL,gK,ZaY,QC]
theorem ZIi(o:Oper):gL tt S all key (.p false [.c (.bool false)]) false o r K st=Yp tt S all key (o::r) K st:=by simp [gL,gK,ZaY,QC]
theorem ZIT(o:Oper):gL tt S all key (.p false [.c (.bool true)]) false o r K st=Yp tt S all (key+16) r K (st.put o.dst .und):=by simp [gL,gK,ZaY,QC]
theorem ZIy(o:Oper):gL tt S all key (.p false [.c (.bool false)]) true o r K st=Yp tt S all (key+16) r K (st.put o.dst .und):=by simp [gL,gK,ZaY,QC]
theorem ZFA(o:Oper)(w:Bool):gL tt S all key .und w o r K st=Yp tt S all (key+16) r K (st.put o.dst .und):=by simp [gL,gK,ZaY,ZuD]
theorem ZBP(v:SV):Zjk d K st v=K (st.put d v):=yi rfl
theorem ZCb(v:SV)(u:List (Nat×Ob)):Zm3 d K st (v,u)=K ((st.put d v).app u):=yi rfl
theorem ZCZ(u:List (Nat×Ob)):ZFJ d K st u=K ((st.put d .und).app u):=yi rfl
theorem ZyP{α:Type}(v:α)(K:α->Prop):Y8 (some v) K=K v:=yi rfl
theorem Zzi{α:Type}(K:α->Prop):Y8 none K=False:=yi rfl
theorem ZB4(n m:Nat)(sl:Nat->SV)(ob:Nat->Ob):Zr7 n K ⟨sl,ob,m⟩=K ⟨sl,ob,n⟩:=yi rfl
theorem ZCM(a:List Oper)(sl:Nat->SV)(ob:Nat->Ob)(n:Nat):ZBG tt S a K ⟨sl,ob,n⟩=Yp tt S a n a (Zr7 (n+16*a.length) K) ⟨sl,ob,n⟩:=yi rfl
theorem ZBa(sl:Nat->SV)(ob:Nat->Ob)(n t:Nat)(v:SV):St.put ⟨sl,ob,n⟩ (some t) v=⟨upd sl t v,ob,n⟩:=yi rfl
theorem ZBg(v:SV):St.put st none v=st:=yi rfl
theorem ZCt(sl:Nat->SV)(ob:Nat->Ob)(n:Nat):St.app ⟨sl,ob,n⟩ []=⟨sl,ob,n⟩:=yi rfl
theorem ZAc(sl:Nat->SV)(ob:Nat->Ob)(n:Nat)(p:Nat×Ob)(u:List (Nat×Ob)):St.app ⟨sl,ob,n⟩ (p::u)=St.app ⟨sl,upd ob p.1 p.2,n⟩ u:=yi rfl
theorem ZDp{α:Type}(f:Nat->α)(k j:Nat)(v:α):upd f k v j=if j=k then v else f j:=yi rfl
end
section
variable {od:OD} {tt:Nat->Option TI} {S:Ctx} {Q:Ex->St->Prop} {st:St}
theorem ZCi:swp tt S od .skip Q st=Q .normal st:=yi rfl
theorem Zy2(id:Nat)(a:Array Oper)(dr:Bool):swp tt S (fun _=>none) (.region id a dr) Q st=ZBG tt S a.toList (Q .normal) st:=yi rfl
def Zuv:List (Nat×List Nat×Bool)->OD
 | [],_=>none
 |p::r,i=>if i=p.1 then some p.2 else Zuv r i
theorem Zg(m:List (Nat×List Nat×Bool))(id:Nat)(a:Array Oper)(dr:Bool):swp tt S (Zuv m) (.region id a dr) Q st=Zwj tt S (Zuv m id) a.toList (Q .normal) st:=yi rfl
theorem ZF4(i:Nat):Zuv [] i=none:=yi rfl
theorem ZCF(p:Nat×List Nat×Bool)(m:List (Nat×List Nat×Bool))(i:Nat):Zuv (p::m) i=if i=p.1 then some p.2 else Zuv m i:=yi rfl
theorem ZBJ(a:List Oper)(K:St->Prop):Zwj tt S none a K st=ZBG tt S a K st:=yi rfl
theorem ZCT(l:List Nat)(b:Bool)(a:List Oper)(K:St->Prop)(sl:Nat->SV)(ob:Nat->Ob)(n:Nat):Zwj tt S (some (l,b)) a K ⟨sl,ob,n⟩=ZgR tt S b a n l (Zr7 (n+16*a.length) K) ⟨sl,ob,n⟩:=yi rfl
def ZHh(tt:Nat->Option TI)(S:Ctx)(b:Bool)(all:List Oper)(key:Nat)(K:St->Prop)(st:St):Option Oper->Prop
 |some o=>ifB b (stk tt S o.op st) (Yp tt S all key [o] K st)
 |none=>K st
theorem ZFv(b:Bool)(all:List Oper)(base:Nat)(K:St->Prop):ZgR tt S b all base [] K st=K st:=yi rfl
theorem ZC4(b:Bool)(all:List Oper)(base i:Nat)(r:List Nat)(K:St->Prop):ZgR tt S b all base (i::r) K st=ZHh tt S b all (base+16*i) (ZgR tt S b all base r K) st (all[i]?):=by
 simp only[ZgR];cases all[i]?<;>rfl
theorem ZEZ(b:Bool)(all:List Oper)(key:Nat)(K:St->Prop)(o:Oper):ZHh tt S b all key K st (some o)=ifB b (stk tt S o.op st) (Yp tt S all key [o] K st):=yi rfl
theorem ZHG(c:Bool)(P:Prop):ifB true c P=(c=true/\P):=yi rfl
theorem ZHH(c:Bool)(P:Prop):ifB false c P=P:=yi rfl
theorem ZFi(a b:Code):swp tt S od (.seq a b) Q st=swp tt S od a (Zh9 (swp tt S od b Q) Q) st:=yi rfl
def ZtT(tt:Nat->Option TI)(S:Ctx)(od:OD)(v:SV)(a b:Code)(Q:Ex->St->Prop)(st:St):Prop:=Zrt v (swp tt S od a Q st) (swp tt S od b Q st)
theorem ZC2(c:Operand)(a b:Code):swp tt S od (.cond c a b) Q st=ZtT tt S od (st.ev tt 0 c) a b Q st:=yi rfl
theorem ZJm(a b:Code):ZtT tt S od (.p false [.c (.bool true)]) a b Q st=swp tt S od a Q st:=by simp [ZtT,Zrt,ZaY,QC]
theorem ZI8(a b:Code):ZtT tt S od (.p false [.c (.bool false)]) a b Q st=swp tt S od b Q st:=by simp [ZtT,Zrt,ZaY,QC]
theorem ZzH(id:Nat)(b:Code):swp tt S od (.block id b) Q st=swp tt S od b (Zix id Q) st:=yi rfl
theorem ZC7(id:Nat):swp tt S od (.exit id) Q st=Q (.exit id) st:=yi rfl
theorem ZFQ:swp tt S od .ret Q st=Q .ret st:=yi rfl
theorem ZJu(k:St->Prop):Zh9 k Q .normal st=k st:=yi rfl
theorem ZJe(k:St->Prop)(i:Nat):Zh9 k Q (.exit i) st=Q (.exit i) st:=yi rfl
theorem ZIZ(k:St->Prop):Zh9 k Q .ret st=Q .ret st:=yi rfl
theorem ZJD(i:Nat):Zix i Q .normal st=Q .normal st:=yi rfl
theorem ZJF(i:Nat):Zix i Q .ret st=Q .ret st:=yi rfl
theorem ZJs(i j:Nat):Zix i Q (.exit j) st=if j=i then Q .normal st else Q (.exit j) st:=yi rfl
theorem ZGd(sl:Nat->SV)(ob:Nat->Ob)(n t s:Nat):St.ev tt ⟨sl,ob,n⟩ t (.tmp s)=sl s:=yi rfl
theorem ZzD(t:Nat)(v:Value):St.ev tt st t (.const v)=cvT (tt t) v:=yi rfl
theorem ZBY(t f:Nat):St.ev tt st t (.func f)=.fn f:=yi rfl
theorem ZJd(rs:List ResultVar)(R:St->List RT->List Nat->Prop):ZuJ tt rs R .ret st=match ZcL tt st rs with|some x=>x.2.Nodup/\R st x.1 x.2|none=>False:=yi rfl
theorem ZJn(rs:List ResultVar)(R:St->List RT->List Nat->Prop):ZuJ tt rs R .normal st=match ZcL tt st rs with|some x=>x.2.Nodup/\R st x.1 x.2|none=>False:=yi rfl
end
attribute [go_sem] ZEx ZCU Zyw ZCf ZAd ZEq ZAh ZGh ZB1 Zz3 ZF2 ZD3 ZGY ZCS ZBI ZAU ZFZ ZDQ ZEn ZDN ZDi ZDD ZB5 ZF3 ZEO ZCk ZGA ZEQ ZCc ZHg ZqV ZhF Zu7 Zyf ZxT Zfu ZfL Zfr ZlB ZlB.zBox ZqU Zmi eqC ZpZ ZBV ZA2 Ztd ZvS ZlU ZFe Zz1 ZBB ZzV ZfW ZnO ZjB ZsW ZhW ZBu ZBP ZCb ZCZ ZyP Zzi ZB4 ZCM ZBa ZBg ZCt ZAc ZDp ZCi Zy2 ZBJ ZCT ZFv ZC4 ZEZ ZF4 ZCF ZHG ZHH stk hdC ldB hdB Xe List.head?_cons ZFi ZC2 ZzH ZC7 ZFQ ZJu ZJe ZIZ ZJD ZJF ZJs ZGd ZzD ZBY ZJd ZJn ZJA ZJi ZJm ZI8 ZHq ZIi ZIT ZIy ZFA ZvU ZwM ZIP Zv9 ZET ZrT Zma List.all_cons List.all_nil List.isEmpty_nil Bool.true_or Bool.false_or Bool.or_true Bool.or_false Bool.false_and ZDB ZEM ZDC ZGL ZF1 gOf cvT ZoJ ZBZ ZB3 ZBQ unV Zuy ZpB Zcy Zpb cut Zat splice Zj5 Zol ZlW ZnM Zlp Zhs avT Zg6 Zk6 ZhB Xt ZbD ZgX Zha ZnV Zmf ZpD ZAD Zou ZaE mvS hiB loB Zl4 Zcs Zdu Zuu ZzC Zce Zg3 evs ZcK Y9 ZdX Yj Zlg ZI5 ZJv ZI4 ZgW Yh ZbH Zi4 ZdW Zc2 ZjY Yq Yv Z8 ZJj ZG5 wkC wkR ZsG Ztl ZtB ZCH ZCY ZF7 ZCO ZA1 Zy6 ZJx ZIW nlA nlS ZjT ZCC ZBE Zt3 Zrs ZkE Zxn Zbz Zxz wk1 Zf6 ZdV ZcL ZX Yr ZdY Aq List.length_nil AE List.length_replicate List.getElem?_cons_zero List.getElem?_cons_succ List.getElem?_nil AB AZ AT Option.bind_none AL Option.map_none As List.nil_append List.append_nil AY Ak List.drop_succ_cons List.drop_nil List.take_succ_cons Am List.take_nil List.set_cons_zero List.set_cons_succ List.range_zero Bool.and_true Bool.true_and Bool.and_self and_true true_and and_self Nat.zero_le Nat.le_refl beq_self_eq_true Option.getD_some ite_true ite_false Nat.zero_add Nat.lt_add_one Nat.zero_lt_succ eq_self or_false false_or and_false false_and or_self Nat.lt_irrefl true_or or_true List.not_mem_nil List.nodup_cons A9 Bool.false_eq_true if_true if_false decide_true decide_false Bool.not_true Bool.not_false Aw ne_eq not_true_eq_false not_false_eq_true
end
section
open Go.RowKit
section
variable {od:OD} {tt:Nat->Option TI} {S:Ctx}
theorem Zbd{α:Type}{r:Option α}{K K':α->Prop}(h:∀x,K x->K' x)(hh:Y8 r K):Y8 r K':=by
 cases r with
 |none=>exact hh
 |some v=>exact h v hh
theorem Zvc{key:Nat}{o:Oper}{K K':St->Prop}{st:St}(h:∀st,K st->K' st)(hh:opS tt S key o K st):opS tt S key o K' st:=by
 unfold opS at hh ⊢;split
 .rename_i c hc;rw [hc]at hh;simp only[spK]at hh ⊢;split
  .rename_i e;rw [e]at hh;exact Zbd (fun l ⟨f,h1,h2,h3,h4⟩=>⟨f,h1,h2,h3,h _ h4⟩) hh
  .rename_i e;rw [e]at hh;simp only[Zw4]at hh ⊢;split
   .rename_i e2;rw [e2]at hh;exact hh
   .rename_i e2;rw [e2]at hh;exact Zbd (fun kh=>Zbd fun l ⟨f,h',h1,h2,h3,h4⟩=>⟨f,h',h1,h2,h3,h _ h4⟩) hh
  .rename_i e;rw [e]at hh;exact Zbd (fun l ⟨nb,h1,h4⟩=>⟨nb,h1,h _ h4⟩) hh
  .rename_i e;rw [e]at hh;exact Zbd (fun l ⟨f,h1,h2,h3,h4⟩=>⟨f,h1,h2,h3,h _ h4⟩) hh
  .rename_i n0 n1 n3 n4;have g:Y8 (Yj st (evs tt st c.2.1 c.2.2)) (ZCq S c.1 key o.dst K st (evs tt st c.2.1 c.2.2)):=by
    revert hh
    split
    .rename_i e;exact absurd e n0
    .rename_i e;exact absurd e n1
    .rename_i e;exact absurd e n3
    .rename_i e;exact absurd e n4
    .exact id
   exact Zbd (fun l ⟨f,h1,h2,h3⟩=>⟨f,h1,h2,h _ h3⟩) g
 .rename_i hc;rw [hc]at hh;simp only at hh;split
  .rename_i c hd;rw [hd]at hh;simp only at hh;exact Zbd (fun fc ⟨h0,h1⟩=>⟨h0,Zbd (fun l ⟨f,a,b,c,d⟩=>⟨f,a,b,c,h _ d⟩) h1⟩) hh
  .rename_i hd;rw [hd]at hh;simp only at hh;exact Zbd (fun r hr=>h _ hr) hh
theorem Zok{all:List Oper}{key:Nat}{o:Oper}{K K':St->Prop}{st:St}(h:∀st,K st->K' st)(hh:opG tt S all key o K st):opG tt S all key o K' st:=by
 unfold opG at hh ⊢;split
 .rename_i hg;rw [hg]at hh;exact Zvc h hh
 .rename_i hg;rw [hg]at hh;exact h _ hh
 .rename_i hg;rw [hg]at hh;simp only[gK]at hh ⊢;split
  .rename_i h1;rw [yp h1]at hh;split
   .rename_i h2;rw [yp h2]at hh;exact Zvc h hh
   .rename_i h2;rw [yn h2]at hh;exact h _ hh
  .rename_i h1;rw [yn h1]at hh;split
   .rename_i h2;rw [yp h2]at hh;exact h _ hh
   .rename_i h2;rw [yn h2]at hh;exact hh
theorem ZrA{all:List Oper}{K K':St->Prop}(h:∀st,K st->K' st):∀(r:List Oper) (key:Nat) (st:St),Yp tt S all key r K st->Yp tt S all key r K' st
 | [],_,st,hh=>h st hh
 |o::r,key,st,hh=>Zok (fun st' h'=>ZrA h r (key+16) st' h') hh
theorem Zoc{F:(Ex->St->Prop)->St->Prop}(hF:∀Q Q' st,(∀e st,Q e st->Q' e st)->F Q st->F Q' st){Q Q':Ex->St->Prop}(h:∀e st,Q e st->Q' e st):∀(n:Nat) (st:St),ZmK F Q n st->ZmK F Q' n st
 |0,_,hh=>hh
 |n+1,st,⟨ms,ρ,h1,h2⟩=>⟨ms,ρ,h1,fun hw=>hF _ _ _ (fun e st' h'=>by cases e<;>first|exact Zoc hF h n st' h'|exact h _ _ h') (h2 hw)⟩
theorem Zi7{b:Bool}{all:List Oper}{base:Nat}{K K':St->Prop}(h:∀st,K st->K' st):∀(l:List Nat) (st:St),ZgR tt S b all base l K st->ZgR tt S b all base l K' st
 | [],st,hh=>h st hh
 |i::r,st,hh=>by
  simp only[ZgR]at hh ⊢;split
  .rename_i o ho;rw [ho]at hh;cases b with
   |true=>exact ⟨hh.1,Zok (fun st' h'=>Zi7 h r st' h') hh.2⟩
   |false=>exact Zok (fun st' h'=>Zi7 h r st' h') hh
  .rename_i ho;rw [ho]at hh;exact Zi7 h r st hh
theorem ZaF:∀(c:Code) (Q Q':Ex->St->Prop) (st:St),(∀e st,Q e st->Q' e st)->swp tt S od c Q st->swp tt S od c Q' st
 |.skip,Q,Q',st,h,hh=>h _ _ hh
 |.exit _,Q,Q',st,h,hh=>h _ _ hh
 |.ret,Q,Q',st,h,hh=>h _ _ hh
 |.region id d _,Q,Q',st,h,hh=>by
  simp only[swp,Zwj]at hh ⊢;split
  .rename_i e;rw [e]at hh;exact ZrA (fun st' h'=>h _ _ h') d.toList st.n st hh
  .rename_i l e;rw [e]at hh;exact Zi7 (fun st' h'=>h _ _ h') l.1 st hh
 |.seq a b,Q,Q',st,h,hh=>ZaF a _ _ st (fun e st' h'=>by cases e<;>first|exact ZaF b Q Q' st' h h'|exact h _ _ h') hh
 |.cond c a b,Q,Q',st,h,hh=>by
  simp only[swp,Zrt]at hh ⊢;split
  .rename_i h1;rw [yp h1]at hh;split
   .rename_i h2;rw [yp h2]at hh;exact ZaF a Q Q' st h hh
   .rename_i h2;rw [yn h2]at hh;exact ZaF b Q Q' st h hh
  .rename_i h1;rw [yn h1]at hh;exact hh
 |.block id b,Q,Q',st,h,hh=>ZaF b _ _ st (fun e st' h'=>by
   cases e with
   |normal=>exact h _ _ h'
   |ret=>exact h _ _ h'
   |exit j=>
    simp only[Zix]at h' ⊢;split
    .rename_i e;rw [yp e]at h';exact h _ _ h'
    .rename_i e;rw [yn e]at h';exact h _ _ h') hh
 |.loop b,Q,Q',st,h,⟨n,hh⟩=>⟨n,Zoc (fun Q Q' st hq hs=>ZaF b Q Q' st hq hs) h n st hh⟩
 |.rangeFunc _ _ _ _,_,_,_,_,hh=>hh.elim
 |.scope _,_,_,_,_,hh=>hh.elim
 |.label _,_,_,_,_,hh=>hh.elim
 |.goto _,_,_,_,_,hh=>hh.elim
 |.refuse _,_,_,_,_,hh=>hh.elim
end
theorem Yo{x:Int}(h0:-9223372036854775808<=x)(h1:x<=9223372036854775807):IntKind.i64.wrap x=x:=IntWalk.i64_in _ ⟨h0,h1⟩
theorem ZE9(sl:Nat->SV)(ob:Nat->Ob)(n:Nat)(ρ:List Nat)(t:Nat):(St.ren ⟨sl,ob,n⟩ ρ).sl t=rSV ρ (sl t):=yi rfl
theorem ZEv(sl:Nat->SV)(ob:Nat->Ob)(n:Nat)(ρ:List Nat)(j:Nat):(St.ren ⟨sl,ob,n⟩ ρ).ob j=match ρ[j]? with|some k=>rOb ρ (ob k)|none=>.gone:=yi rfl
theorem ZHf(st:St)(ρ:List Nat):(st.ren ρ).n=ρ.length:=yi rfl
theorem ZzB(st:St):st.mats []=st:=yi rfl
theorem ZxZ(sl:Nat->SV)(ob:Nat->Ob)(n t j:Nat)(r:List (Bool×Nat×Nat)):St.mats ⟨sl,ob,n⟩ ((false,t,j)::r)=if 4096<=j then St.mats (match sl t with
  |.p ag cs=>(match cs[j - 4096]? with
   |some (.row k)=>(match ob k with
    |.row e q xs d=>if d=2 then ⟨upd sl t (.p ag (cs.set (j - 4096) (.n (.sl e q xs)))),upd ob k (.row e q xs 0),n⟩ else ⟨sl,ob,n⟩
    |_=>⟨sl,ob,n⟩)
   |_=>⟨sl,ob,n⟩)
  |_=>⟨sl,ob,n⟩) r else St.mats (match sl t with
  |.p ag cs=>(match cs[j]? with
   |some (.nil e q)=>if 0<q then ⟨upd sl t (.p ag (cs.set j (.row n))),upd ob n (.row e q [] 2),n+1⟩ else ⟨sl,ob,n⟩
   |some (.row k)=>(match ob k with
    |.row e q xs _=>⟨upd sl t (.p ag (cs.set j (.c (.sl e q xs)))),upd ob k (.row e q xs 0),n⟩
    |_=>⟨sl,ob,n⟩)
   |_=>⟨sl,ob,n⟩)
  |_=>⟨sl,ob,n⟩) r:=by
 by_cases h:4096<=j
 .rw [yp h,St.mats,yp ⟨rfl,h⟩];rfl
 .rw [yn h,St.mats,yn (fun e=>h e.2)];rfl
theorem Zz4(sl:Nat->SV)(ob:Nat->Ob)(n k i:Nat)(r:List (Bool×Nat×Nat)):St.mats ⟨sl,ob,n⟩ ((true,k,i)::r)=St.mats (match ob k with
  |.box ty cs=>(match cs[i]? with
   |some (.nil e q)=>if 0<q then ⟨sl,upd (upd ob k (.box ty (cs.set i (.row n)))) n (.row e q [] 2),n+1⟩ else ⟨sl,ob,n⟩
   |some (.row j)=>(match ob j with
    |.row e q xs _=>⟨sl,upd (upd ob j (.row e q xs 0)) k (.box ty (cs.set i (.c (.sl e q xs)))),n⟩
    |_=>⟨sl,ob,n⟩)
   |_=>⟨sl,ob,n⟩)
  |.row e q xs d=>(if i<d then ⟨sl,upd ob k (.row e q xs i),n⟩ else ⟨sl,ob,n⟩)
  |_=>⟨sl,ob,n⟩) r:=yi rfl
theorem nn(k:Nat):(0<=(k:Int))=True:=by simp
theorem ZIh:(true==true)=true:=yi rfl
theorem ZIl:(false==true)=false:=yi rfl
theorem ZHo:(true==false)=false:=yi rfl
theorem ZGM:(false==false)=true:=yi rfl
attribute [go_sem] Zxj ZjN Zm4 ZzB ZxZ Zz4 nn ZIh ZIl ZHo ZGM ZE9 ZEv ZHf rSV rAV rOb Zsq
end
section
open Go.RowKit
def chk{α:Type}(c:Prop)[Decidable c](x:Option α):Option α:=if c then x else none
def atI{α:Type}(l:List α)(i:Int):Option α:=if 0<=i then l[i.toNat]? else none
def forL{α σ ρ:Type}(body:Nat->α->σ->Option (σ ⊕ ρ))(fin:σ->Option ρ):List α->Nat->σ->Option ρ
 | [],_,s=>fin s
 |x::l,i,s=>match body i x s with
  |none=>none
  |some (.inl s')=>forL body fin l (i+1) s'
  |some (.inr r)=>some r
def ZbX{σ ρ:Type}(body:σ->Option (σ ⊕ ρ)):Nat->σ->Option ρ
 |0,_=>none
 |n+1,s=>match body s with
  |none=>none
  |some (.inl s')=>ZbX body n s'
  |some (.inr r)=>some r
open Classical in
noncomputable def iter{σ ρ:Type}(body:σ->Option (σ ⊕ ρ))(s:σ):Option ρ:=if h:∃n,(ZbX body n s).isSome=true then ZbX body (Classical.choose h) s else none
section
variable {α β σ ρ:Type} {r:ρ}
theorem ZjZ{body:σ->Option (σ ⊕ ρ)}:∀{n:Nat}(m:Nat) {s:σ}{r:ρ},ZbX body n s=some r->ZbX body (n+m) s=some r
 |0,_,_,_,h=>by simp [ZbX]at h
 |n+1,m,s,r,h=>by
  rw [show n+1+m=n+m+1 by omega];simp only[ZbX]at h ⊢;cases e:body s with
  |none=>rw [e]at h;simp at h
  |some y=>
   rw [e]at h;cases y with
   |inl s'=>exact ZjZ m h
   |inr r'=>exact h
theorem ZkT{body:σ->Option (σ ⊕ ρ)}{s:σ}{r:ρ}:iter body s=some r↔∃n,ZbX body n s=some r:=by
 constructor
 .intro h;unfold iter at h;split at h
  .exact ⟨_,h⟩
  .simp at h
 .rintro ⟨n,hn⟩;have a:∃n,(ZbX body n s).isSome=true:=⟨n,by simp [hn]⟩
  unfold iter;rw [dif_pos a];have h2:=Classical.choose_spec a;obtain ⟨r',b⟩:=Option.isSome_iff_exists.1 h2;rw [b];have a1:=ZjZ n b;have a2:=ZjZ (Classical.choose a) hn;rw [Nat.add_comm]at a2;rw [a1]at a2;exact a2
theorem ZkI(body:σ->Option (σ ⊕ ρ))(s:σ):iter body s=match body s with
  |none=>none
  |some (.inl s')=>iter body s'
  |some (.inr r)=>some r:=by
 apply Option.ext;intro r;rw [ZkT];constructor
 .rintro ⟨n,hn⟩;cases n with
  |zero=>simp [ZbX]at hn
  |succ n=>
   simp only[ZbX]at hn;cases e:body s with
   |none=>rw [e]at hn;simp at hn
   |some y=>
    rw [e]at hn;cases y with
    |inl s'=>exact ZkT.2 ⟨n,hn⟩
    |inr r'=>exact hn
 .intro h;cases e:body s with
  |none=>rw [e]at h;simp at h
  |some y=>
   rw [e]at h;cases y with
   |inl s'=>
    obtain ⟨n,hn⟩:=ZkT.1 h;exact ⟨n+1,by simp only[ZbX,e];exact hn⟩
   |inr r'=>exact ⟨1,by simp only[ZbX,e];exact h⟩
theorem Zs{c:Prop}[Decidable c]{x:Option α}{r:α}(h:chk c x=some r):c/\x=some r:=by
 unfold chk at h;split at h
 .rename_i hc;exact ⟨hc,h⟩
 .simp at h
theorem Zj{c:Prop}[Decidable c](x:Option α)(h:c):chk c x=x:=yp h
theorem Zc{α β:Type}{o:Option α}{f:α->Option β}{r:β}{G:Prop}(h:o.bind f=some r)(k:∀v,o=some v->f v=some r->G):G:=by
 cases o with
 |none=>simp at h
 |some v=>exact k v rfl h
theorem Zn{o:Option α}{f:α->Option β}{r:β}(h:o.bind f=some r):∃x,o=some x/\f x=some r:=by
 cases o with
 |none=>simp at h
 |some x=>exact ⟨x,rfl,h⟩
theorem Zbl{l:List α}{i:Int}{f:α->Option β}{r:β}(h:(atI l i).bind f=some r):∃x,0<=i/\i<(l.length:Int)/\l[i.toNat]?=some x/\f x=some r:=by
 unfold atI at h;split at h
 .rename_i hi;obtain ⟨x,h1,h2⟩:=Zn h;obtain ⟨h3,_⟩:=AC.1 h1;exact ⟨x,hi,yE,h1,h2⟩
 .simp at h
theorem Ze{G:Prop}{b:Bool}{x y:Option α}{r:α}(h:(if b=true then x else y)=some r)(h1:b=true->x=some r->G)(h2:b=false->y=some r->G):G:=by
 cases b with
 |true=>exact h1 rfl (by simpa using h)
 |false=>exact h2 rfl (by simpa using h)
theorem Zr{y:σ ⊕ ρ}{v r:ρ}(h:some (.inr v)=some y)(hy:y=.inr r\/∃s,y=.inl s):some v=some r:=by
 obtain rfl:=AU h;rcases hy with h|⟨_,h⟩
 .rw [Sum.inr.inj h]
 .cases h
end
section
variable {od:OD} {tt:Nat->Option TI} {S:Ctx}
def ZDd{σ ρ:Type}(I:σ->St->Prop)(y:σ ⊕ ρ)(st:St):Prop:=∃s' ms ρk,y=.inl s'/\ρk.Nodup/\I s' ((st.mats ms).ren ρk)
theorem Ym{σ ρ:Type}{b:Code}{Q:Ex->St->Prop}{st:St}{body:σ->Option (σ ⊕ ρ)}{s0:σ}{r:ρ}(h:iter body s0=some r)(I:σ->St->Prop)(ms:List (Bool×Nat×Nat))(ρk:List Nat)(hρ:ρk.Nodup)(h0:I s0 ((st.mats ms).ren ρk))
  (step:∀s st y,I s st->WF st->body s=some y->(y=.inr r\/∃s',y=.inl s')->swp tt S od b (Zh9 (ZDd I y) Q) st):swp tt S od (.loop b) Q st:=by
 obtain ⟨n,hn⟩:=ZkT.1 h;have key:∀n s st,ZbX body n s=some r->(∃ms ρk,ρk.Nodup/\I s ((st.mats ms).ren ρk))->ZmK (swp tt S od b) Q n st:=by
  intro n;induction n with
  |zero=>intro s st h;simp [ZbX]at h
  |succ n ih=>
   rintro s st hn ⟨ms,ρk,h1,h2⟩;refine ⟨ms,ρk,h1,fun hw=>?_⟩;simp only[ZbX]at hn;split at hn
   .simp at hn
   .rename_i s' e;refine ZaF b _ _ _ (fun ex st' h'=>?_) (step s _ _ h2 hw e (.inr ⟨_,rfl⟩));cases ex with
    |normal=>
     obtain ⟨s2,a,ρ',h3,h4,h5⟩:=h';obtain rfl:=Ax h3;exact ih _ st' hn ⟨a,ρ',h4,h5⟩
    |exit _=>exact h'
    |ret=>exact h'
   .rename_i r' e;obtain rfl:=AU hn;refine ZaF b _ _ _ (fun ex st' h'=>?_) (step s _ _ h2 hw e (.inl rfl));cases ex with
    |normal=>
     obtain ⟨s2,a,ρ',h3,h4,h5⟩:=h';cases h3
    |exit _=>exact h'
    |ret=>exact h'
 exact ⟨n,key n s0 st hn ⟨ms,ρk,hρ,h0⟩⟩
theorem Zk{α σ ρ:Type}{b:Code}{Q:Ex->St->Prop}{st:St}{body:Nat->α->σ->Option (σ ⊕ ρ)}{fin:σ->Option ρ}{l:List α}{s0:σ}{r:ρ}(h:forL body fin l 0 s0=some r)(I:Nat->σ->St->Prop)(ms:List (Bool×Nat×Nat))(ρk:List Nat)(hρ:ρk.Nodup)(h0:I 0 s0 ((st.mats ms).ren ρk))
  (step:∀i x s st y,l[i]?=some x->I i s st->WF st->body i x s=some y->(y=.inr r\/∃s',y=.inl s')->swp tt S od b (Zh9 (ZDd (I (i+1)) y) Q) st)
  (a:∀s st,I l.length s st->WF st->fin s=some r->swp tt S od b (Zh9 (fun _=>False) Q) st):swp tt S od (.loop b) Q st:=by
 have key:∀n i s st,l.length - i<n->i<=l.length->forL body fin (l.drop i) i s=some r->(∃ms ρk,ρk.Nodup/\I i s ((st.mats ms).ren ρk))->ZmK (swp tt S od b) Q n st:=by
  intro n;induction n with
  |zero=>intro i s st h;omega
  |succ n ih=>
   rintro i s st hn hi hf ⟨ms,ρk,h1,h2⟩;refine ⟨ms,ρk,h1,fun hw=>?_⟩;by_cases c:i<l.length
   .have hx:l[i]?=some l[i]:=AX c;rw [An c]at hf;simp only[forL]at hf;split at hf
    .simp at hf
    .rename_i s' e;refine ZaF b _ _ _ (fun ex st' h'=>?_) (step i _ s _ _ hx h2 hw e (.inr ⟨_,rfl⟩));cases ex with
     |normal=>
      obtain ⟨s2,d,ρ',h3,h4,h5⟩:=h';obtain rfl:=Ax h3;exact ih (i+1) _ st' yE yE hf ⟨d,ρ',h4,h5⟩
     |exit _=>exact h'
     |ret=>exact h'
    .rename_i r' e;obtain rfl:=AU hf;refine ZaF b _ _ _ (fun ex st' h'=>?_) (step i _ s _ _ hx h2 hw e (.inl rfl));cases ex with
     |normal=>
      obtain ⟨s2,d,ρ',h3,h4,h5⟩:=h';cases h3
     |exit _=>exact h'
     |ret=>exact h'
   .obtain rfl:i=l.length:=by omega
    rw [List.drop_length]at hf;refine ZaF b _ _ _ (fun ex st' h'=>?_) (a s _ h2 hw hf);cases ex with
    |normal=>exact h'.elim
    |exit _=>exact h'
    |ret=>exact h'
 exact ⟨l.length+1,key _ 0 s0 st yE yE (by simpa using h) ⟨ms,ρk,hρ,h0⟩⟩
theorem Zd{f:FuncId}{key:Nat}{d:Option Nat}{K:St->Prop}{st:St}{vs:List SV}{l:List (Bool×List CT)}{a:List RT}(hs:S.r f l a)(hk:(!ZdW a||vs.all Zi4)=true/\(ZX key a).2.2<=key+16/\K ((st.put d (ZdY (ZX key a).1)).app (ZX key a).2.1)):Ztc S f key d K st vs l:=⟨a,hs,hk.1,hk.2.1,hk.2.2⟩
theorem Zhp{f:FuncId}{key:Nat}{d:Option Nat}{K:St->Prop}{st:St}{vs:List SV}{l:List (Bool×List CT)}{a:List RT}(hs:S.r f l a)(hk:(ZX key a).2.2<=key+16/\K ((st.put d (ZdY (ZX key a).1)).app (Z8 st (Yq vs)++(ZX key a).2.1))):ZCq S f key d K st vs l:=⟨a,hs,hk.1,hk.2⟩
theorem ZH2{f:FuncId}{key:Nat}{d:Option Nat}{K:St->Prop}{st:St}{vs:List SV}{l:List (Bool×List CT)}{t:Nat}{cs:List CT}(hs:S.b f l (.box t cs))(hk:K ((st.put d (.bp key 0)).app (Z8 st (Yq vs)++[(key,.box t (cs.map .c))]))):ZCA S f key d K st vs l:=⟨_,hs,hk⟩
theorem ZGx{f:FuncId}{key:Nat}{d:Option Nat}{K:St->Prop}{st:St}{vs:List SV}{l:List (Bool×List CT)}{kk vk:PK}{kv:List (Value×Value)}(hs:S.b f l (.map kk vk kv))(hk:K ((st.put d (.p false [.row key])).app (Z8 st (Yq vs)++[(key,.map kk vk kv)]))):ZCA S f key d K st vs l:=⟨_,hs,hk⟩
theorem ZA{f:FuncId}{key:Nat}{d:Option Nat}{K:St->Prop}{st:St}{vs:List SV}{kh:Nat×Zhx}{l:List (Bool×List CT)}{a:List RT}{h':Zhx}(hs:S.h f kh.2 l a h')(hk:(Yq vs).all (fun j=>j != kh.1)=true/\(ZX key a).2.2<=key+16/\K ((st.put d (ZdY (ZX key a).1)).app (Z8 st (Yq vs)++((kh.1,Yh h')::(ZX key a).2.1)))):ZzT S f key d K st vs kh l:=⟨a,h',hs,hk.1,hk.2.1,hk.2.2⟩
end
def sts:List (Nat×SV)->St->Prop
 | [],_=>True
 |p::r,st=>st.sl p.1=p.2/\sts r st
def obs:List Ob->Nat->St->Prop
 | [],k,st=>st.n=k
 |o::r,k,st=>st.ob k=o/\obs r (k+1) st
def IV(s:List (Nat×SV))(o:List Ob)(st:St):Prop:=sts s st/\obs o 0 st
theorem ZC1(st:St):sts [] st=True:=yi rfl
theorem ZA4(st:St)(t:Nat)(v:SV)(r:List (Nat×SV)):sts ((t,v)::r) st=(st.sl t=v/\sts r st):=yi rfl
theorem ZCD(st:St)(k:Nat):obs [] k st=(st.n=k):=yi rfl
theorem ZzA(st:St)(o:Ob)(k:Nat)(r:List Ob):obs (o::r) k st=(st.ob k=o/\obs r (k+1) st):=yi rfl
attribute [go_sem] IV ZA4 ZC1 ZzA ZCD
theorem ZcS{α:Type}{g:α->List CT}(h:∀x,(g x).all CT.flat=true)(l:List α):ZbI (l.map g)=true:=by
 simp only[ZbI,List.all_map,List.all_eq_true];exact fun x _=>h x
def ZC(s:BYT):List CT:=[.str s]
def ZP(n:Int):List CT:=[.int .i64 n]
def Zhm(b:Bool):List CT:=[.bool b]
def ZbA(n:Int):List CT:=[.int .u8 n]
theorem Zkx(s:BYT):ZC s=[.str s]:=yi rfl
theorem Zw8(n:Int):ZP n=[.int .i64 n]:=yi rfl
theorem ZBd(b:Bool):Zhm b=[.bool b]:=yi rfl
theorem Ztg(n:Int):ZbA n=[.int .u8 n]:=yi rfl
theorem Zx3(l:List BYT):ZbI (l.map ZC)=true:=ZcS (fun _=>rfl) l
theorem Zq7(l:List Int):ZbI (l.map ZP)=true:=ZcS (fun _=>rfl) l
theorem ZvM(l:List Bool):ZbI (l.map Zhm)=true:=ZcS (fun _=>rfl) l
theorem Zwu(l:List Int):ZbI (l.map ZbA)=true:=ZcS (fun _=>rfl) l
theorem ZrS{s:BYT}{i:Nat}{x:UInt8}(h:s.data.toList[i]?=some x):s[i]?=some x:=by
 obtain ⟨h1,h2⟩:=AC.1 h;have hs:i<s.size:=by rw [AM];simpa using h1
 rw [getElem?_pos s i hs,<-h2];rfl
theorem Zb(s:BYT):s.data.toList.length=s.size:=by rw [AM,AQ]
theorem Zm{i n:Nat}(h:i<n)(hn:n<=9223372036854775807):IntKind.i64.wrap ((i:Int)+1)=((i+1:Nat):Int):=by
 rw [Yo yE yE];omega
theorem ZH{α:Type}{l:List α}{i:Nat}{x:α}(h:l[i]?=some x):decide ((i:Int)<(l.length:Int))=true:=by
 obtain ⟨h1,_⟩:=AC.1 h;exact decide_eq_true yE
theorem ZI{α:Type}{l:List α}{i:Nat}{x:α}(h:l[i]?=some x):(i:Int)<(l.length:Int):=of_decide_eq_true (ZH h)
theorem ZG{α:Type}{l:List α}{i:Nat}{x:α}(h:l[i]?=some x):i<l.length:=(AC.1 h).1
theorem ZE(n:Nat):decide ((n:Int)<(n:Int))=false:=decide_eq_false yE
def sAt(s:BYT)(i:Int):Option UInt8:=if 0<=i then s[i.toNat]? else none
theorem Zuz{β:Type}{s:BYT}{i:Int}{f:UInt8->Option β}{r:β}(h:(sAt s i).bind f=some r):∃x,0<=i/\s[i.toNat]?=some x/\f x=some r:=by
 unfold sAt at h;split at h
 .rename_i hi;obtain ⟨x,h1,h2⟩:=Zn h;exact ⟨x,hi,h1,h2⟩
 .simp at h
theorem Zxh{s:BYT}{i:Nat}{x:UInt8}(h:s.data.toList[i]?=some x):i<s.size:=by
 have:=ZG h
 rwa [Zb]at this
theorem ZAg{s:BYT}{i:Nat}{x:UInt8}(h:s.data.toList[i]?=some x):decide ((i:Int)<(s.size:Int))=true:=by
 have:=Zxh h;exact decide_eq_true yE
theorem Zi9:∀{cs:List AV}{j:Nat}{x:AV},Zzz cs->cs[j]?=some x->avD x
 | [],_,_,_,h=>by simp at h
 |_::_,0,_,h,e=>by simp at e;subst e;exact h.1
 |_::_,j+1,_,h,e=>Zi9 h.2 (by simpa using e)
theorem ZxJ:∀{cs:List CT}{j:Nat}{x:CT},ctsD cs->cs[j]?=some x->ctD x
 | [],_,_,_,h=>by simp at h
 |_::_,0,_,h,e=>by simp at e;subst e;exact h.1
 |_::_,j+1,_,h,e=>ZxJ h.2 (by simpa using e)
section
variable {α:Type} {st:St} {t k j e m:Nat} {a:Bool} {d:Nat} {cs:List AV} {g:α->List CT} {l:List α} {s:ByteArray}
theorem WF.slotL(hW:WF st)(h:st.sl t=.p a cs)(hc:cs[j]?=some (.c (.sl e m (AA g l)))):l.length<=9223372036854775807:=by
 have:=(Zi9 (hW.sl _ _ _ h) hc).1;simpa only [AE]using this
theorem WF.slotD(hW:WF st)(h:st.sl t=.p a cs)(hc:cs[j]?=some (.c (.sl e m (AA g l)))):essD (AA g l):=(Zi9 (hW.sl _ _ _ h) hc).2
theorem WF.slotS(hW:WF st)(h:st.sl t=.p a cs)(hc:cs[j]?=some (.c (.str s))):s.size<=9223372036854775807:=Zi9 (hW.sl _ _ _ h) hc
theorem WF.boxL(hW:WF st)(h:st.ob k=.box t cs)(hc:cs[j]?=some (.c (.sl e m (AA g l)))):l.length<=9223372036854775807:=by
 have:=(Zi9 (hW.box _ _ _ h) hc).1;simpa only [AE]using this
theorem WF.boxD(hW:WF st)(h:st.ob k=.box t cs)(hc:cs[j]?=some (.c (.sl e m (AA g l)))):essD (AA g l):=(Zi9 (hW.box _ _ _ h) hc).2
theorem WF.rowL(hW:WF st)(h:st.ob k=.row e m (AA g l) d):l.length<=9223372036854775807:=by
 have:=(hW.row _ _ _ _ _ h).1;simpa only [AE]using this
theorem WF.elL{β:Type}{g':β->List CT}{l':List β}{i:Nat}{x:α}(h:essD (AA g l))(hx:l[i]?=some x)(hc:(g x)[j]?=some (.sl e m (AA g' l'))):l'.length<=9223372036854775807:=by
 have:=(ZxJ (Zxt h hx) hc).1;simpa only [AE]using this
end
def eSB(p:BYT×Bool):Value×Value:=(.string p.1,.bool p.2)
def eSS(p:BYT×BYT):Value×Value:=(.string p.1,.string p.2)
def eIB(p:Int×Bool):Value×Value:=(.int .i64 p.1,.bool p.2)
def Zhv{α β:Type}[DecidableEq α]:List (α×β)->α->Option β
 | [],_=>none
 |p::r,k=>if k=p.1 then some p.2 else Zhv r k
def ZgQ{α β:Type}[DecidableEq α]:List (α×β)->α->β->List (α×β)
 | [],k,v=>[(k,v)]
 |p::r,k,v=>if k=p.1 then (k,v)::r else p::ZgQ r k v
def Zbi{α β:Type}[DecidableEq α](l:List (α×β))(k:α)(z:β):β:=(Zhv l k).getD z
def Zx9{α β:Type}[DecidableEq α](l:List (α×β))(k:α):Bool:=(Zhv l k).isSome
section
variable {α β:Type} [DecidableEq α] {e:α×β->Value×Value} {fk:α->Value} {fv:β->Value}
theorem ZeI(he:∀p,e p=(fk p.1,fv p.2))(hk:∀a b,vEq (fk a) (fk b)=decide (a=b)):∀(l:List (α×β)) (k:α),ZmY (l.map e) (fk k)=(Zhv l k).map fv
 | [],_=>rfl
 |p::r,k=>by
  simp only[AB,ZmY,Zhv,he,hk,decide_eq_true_eq];split
  .rfl
  .exact ZeI he hk r k
theorem Zkh(he:∀p,e p=(fk p.1,fv p.2))(hk:∀a b,vEq (fk a) (fk b)=decide (a=b))(v:β):∀(l:List (α×β)) (k:α),Zf3 (l.map e) (fk k) (fv v)=(ZgQ l k v).map e
 | [],k=>by simp [Zf3,ZgQ,he]
 |p::r,k=>by
  simp only[AB,Zf3,ZgQ,he,hk,decide_eq_true_eq];split
  .simp [he]
  .rw [Zkh he hk v r k];simp [he]
end
theorem ZqC(a b:BYT):vEq (.string a) (.string b)=decide (a=b):=rfl
theorem ZAl(a b:Int):vEq (.int .i64 a) (.int .i64 b)=decide (a=b):=by simp [vEq,BEq.beq]
theorem ZCo(l:List (BYT×Bool))(k:BYT):ZcF (l.map eSB) (.string k) (.c (.bool false))=.c (.bool (Zbi l k false)):=by
 simp only[ZcF,ZeI (e:=eSB) (fk:=.string) (fv:=.bool) (fun _=>rfl) ZqC,Zbi];cases Zhv l k<;>rfl
theorem ZB8(l:List (BYT×BYT))(k:BYT):ZcF (l.map eSS) (.string k) (.c (.str ⟨#[]⟩))=.c (.str (Zbi l k ⟨#[]⟩)):=by
 simp only[ZcF,ZeI (e:=eSS) (fk:=.string) (fv:=.string) (fun _=>rfl) ZqC,Zbi];cases Zhv l k<;>rfl
theorem ZBH(l:List (Int×Bool))(k:Int):ZcF (l.map eIB) (.int .i64 k) (.c (.bool false))=.c (.bool (Zbi l k false)):=by
 simp only[ZcF,ZeI (e:=eIB) (fk:=.int .i64) (fv:=.bool) (fun _=>rfl) ZAl,Zbi];cases Zhv l k<;>rfl
theorem ZDM(l:List (BYT×Bool))(k:BYT):ZfH (l.map eSB) (.string k)=Zx9 l k:=by
 simp only[ZfH,ZeI (e:=eSB) (fk:=.string) (fv:=.bool) (fun _=>rfl) ZqC,Zx9];cases Zhv l k<;>rfl
theorem ZDF(l:List (BYT×BYT))(k:BYT):ZfH (l.map eSS) (.string k)=Zx9 l k:=by
 simp only[ZfH,ZeI (e:=eSS) (fk:=.string) (fv:=.string) (fun _=>rfl) ZqC,Zx9];cases Zhv l k<;>rfl
theorem ZGu(l:List (Int×Bool))(k:Int):ZfH (l.map eIB) (.int .i64 k)=Zx9 l k:=by
 simp only[ZfH,ZeI (e:=eIB) (fk:=.int .i64) (fv:=.bool) (fun _=>rfl) ZAl,Zx9];cases Zhv l k<;>rfl
theorem ZEG(l:List (BYT×Bool))(k:BYT)(v:Bool):Zf3 (l.map eSB) (.string k) (.bool v)=(ZgQ l k v).map eSB:=Zkh (fk:=.string) (fv:=.bool) (fun _=>rfl) ZqC v l k
theorem ZD0(l:List (BYT×BYT))(k v:BYT):Zf3 (l.map eSS) (.string k) (.string v)=(ZgQ l k v).map eSS:=Zkh (fk:=.string) (fv:=.string) (fun _=>rfl) ZqC v l k
theorem ZGr(l:List (Int×Bool))(k:Int)(v:Bool):Zf3 (l.map eIB) (.int .i64 k) (.bool v)=(ZgQ l k v).map eIB:=Zkh (fk:=.int .i64) (fv:=.bool) (fun _=>rfl) ZAl v l k
theorem Zoz:∀l:List Int,ZfW (l.map ZbA)=some l
 | []=>rfl
 |n::r=>by simp only[AB,Ztg,ZfW,Zoz r,AL]
theorem ZmB(st:St):∀l:List CT,Yj st (l.map Zmi)=some (l.map fun c=>(false,[c]))
 | []=>rfl
 |c::r=>by
  have h:=ZmB st r;simp only[AB,Yj,h,Zmi,ZdX,Y9,ZcK,AT,AL]
theorem ZIM:((0:Nat):Int)=0:=yi rfl
attribute [go_sem] ZmB ZCo ZB8 ZBH ZDM ZDF ZGu ZEG ZD0 ZGr Zoz ZIM ZDu List.map_replicate Zkx Zw8 ZBd Ztg Zx3 Zq7 ZvM Zwu List.map_append List.getElem?_map List.map_set List.map_take List.map_drop AN List.length_set Aw
end
def toL(s:BYT):List UInt8:=s.data.toList
def ofL(l:List UInt8):BYT:=⟨l.toArray⟩
theorem Zku(s:BYT):ofL (toL s)=s:=by cases s;simp [ofL,toL]
theorem Zdj(l:List UInt8):toL (ofL l)=l:=by simp [ofL,toL]
def Zf5(l:List BYT):List BYT:=((l.map toL).mergeSort fun x y=>decide (x<=y)).map ofL
def Zmx(l:List Int):List Int:=l.mergeSort fun x y=>decide (x<=y)
def Zdn(l:List BYT):Option (List BYT):=chk (l.length<=4611686018427387903) (some (Zf5 l))
def ZgH(l:List Int):Option (List Int):=chk (l.length<=4611686018427387903) (some (Zmx l))
section
section
variable {α σ ρ:Type} {body:Nat->α->σ->Option (σ ⊕ ρ)} {fin:σ->Option ρ}
theorem Zlm(i:Nat)(s:σ):forL body fin [] i s=fin s:=rfl
theorem ZO{x:α}{l:List α}{i:Nat}{s s':σ}(h:body i x s=some (.inl s')):forL body fin (x::l) i s=forL body fin l (i+1) s':=by simp only[forL,h]
theorem Z5{x:α}{l:List α}{i:Nat}{s:σ}{r:ρ}(h:body i x s=some (.inr r)):forL body fin (x::l) i s=some r:=by simp only[forL,h]
theorem Yb{p:α->Bool}{r:ρ}:∀{l:List α}{i:Nat}{s:σ},(∀i x,x∈l->body i x s=some (bif p x then .inl s else .inr r))->forL body fin l i s=if l.all p=true then fin s else some r
 | [],_,_,_=>by simp [forL]
 |x::l,i,s,h=>by
  have hx:=h i x yG;by_cases hp:p x=true
  .rw [hp,cond_true]at hx;rw [ZO hx,Yb fun j y my=>h j y (by simp [my])];simp [hp]
  .rw [eq_false_of_ne_true hp,cond_false]at hx;rw [Z5 hx];simp [hp]
theorem ZaJ{p:α->Bool}{r:ρ}:∀{l:List α}{i:Nat}{s:σ},(∀i x,x∈l->body i x s=some (bif p x then .inr r else .inl s))->forL body fin l i s=if l.any p=true then some r else fin s
 | [],_,_,_=>by simp [forL]
 |x::l,i,s,h=>by
  have hx:=h i x yG;by_cases hp:p x=true
  .rw [hp,cond_true]at hx;rw [Z5 hx];simp [hp]
  .rw [eq_false_of_ne_true hp,cond_false]at hx;rw [ZO hx,ZaJ fun j y my=>h j y (by simp [my])];simp [hp]
theorem Xf{f:σ->α->σ}(I:Nat->σ->Prop):∀{l:List α}{i:Nat}{s:σ},I i s->(∀j x s,x∈l->i<=j->j<i+l.length->I j s->body j x s=some (.inl (f s x))/\I (j+1) (f s x))->forL body fin l i s=fin (l.foldl f s)
 | [],_,_,_,_=>rfl
 |x::l,i,s,h0,h=>by
  obtain ⟨h1,h2⟩:=h i x s yG yE yG h0;rw [ZO h1,Xf I h2 fun j y s my hj hl=>h j y s (by simp [my]) yE (by simp at hl ⊢;omega)];rfl
theorem Zos{f:σ->α->σ}{l:List α}{i:Nat}{s:σ}(h:∀j x s,x∈l->body j x s=some (.inl (f s x))):forL body fin l i s=fin (l.foldl f s):=
 Xf (fun _ _=>True) trivial fun j x s mx _ _ _=>⟨h j x s mx,trivial⟩
theorem Zbt(g:List α->Nat->σ->Option ρ)(I:List α->Nat->σ->Prop)(h0:∀i s,I [] i s->fin s=g [] i s)
  (h1:∀x l i s,I (x::l) i s->(∃s',body i x s=some (.inl s')/\I l (i+1) s'/\g (x::l) i s=g l (i+1) s')\/(∃r,body i x s=some (.inr r)/\g (x::l) i s=some r)):∀(l:List α) (i:Nat) (s:σ),I l i s->forL body fin l i s=g l i s
 | [],i,s,h=>h0 i s h
 |x::l,i,s,h=>by
  rcases h1 x l i s h with ⟨s',e1,e2,e3⟩|⟨r,e1,e2⟩
  .rw [ZO e1,Zbt g I h0 h1 l (i+1) s' e2,e3]
  .rw [Z5 e1,e2]
end
def Zav{α:Type}(p:Nat->α->Bool):List α->Nat->Bool
 | [],_=>true
 |x::l,i=>p i x&&Zav p l (i+1)
theorem Zi0{α:Type}{p:Nat->α->Bool}:∀{l:List α}{i:Nat},Zav p l i=true->∀j x,l[j]?=some x->p (i+j) x=true
 | [],_,_,j,x,hx=>by simp at hx
 |y::l,i,h,0,x,hx=>by simp only[Zav,Ay]at h;simp at hx;subst hx;exact h.1
 |y::l,i,h,j+1,x,hx=>by
  simp only[Zav,Ay]at h;have:=Zi0 h.2 j x (by simpa using hx)
  rwa [show i+(j+1)=i+1+j by omega]
section
variable {α σ ρ:Type} {body:Nat->α->σ->Option (σ ⊕ ρ)} {fin:σ->Option ρ}
theorem XM{p:Nat->α->Bool}{r:ρ}:∀{l:List α}{i:Nat}{s:σ},(∀j x,l[j]?=some x->body (i+j) x s=some (bif p (i+j) x then .inl s else .inr r))->forL body fin l i s=if Zav p l i=true then fin s else some r
 | [],_,_,_=>by simp [forL,Zav]
 |x::l,i,s,h=>by
  have hx:=h 0 x yG;simp only[Nat.add_zero]at hx;by_cases hp:p i x=true
  .rw [hp,cond_true]at hx;rw [ZO hx,XM fun j y hy=>by have:=h (j+1) y (by simpa using hy);rwa [show i+(j+1)=i+1+j by omega]at this]
   simp [Zav,hp]
  .rw [eq_false_of_ne_true hp,cond_false]at hx;rw [Z5 hx];simp [Zav,hp]
theorem Y0{β:Type}{g:α->Option β}{fin:List β->Option ρ}{body:Nat->α->List β->Option (List β ⊕ ρ)}:∀{l:List α}{i:Nat}{acc:List β},(∀j x s,x∈l->s.length+1<=acc.length+l.length->body j x s=some (.inl (s++(g x).toList)))->forL body fin l i acc=fin (acc++l.filterMap g)
 | [],_,acc,_=>by simp [forL]
 |x::l,i,acc,h=>by
  rw [ZO (h i x acc yG yG)];rw [Y0 fun j y s my hs=>h j y s (by simp [my]) (by cases hg:g x<;>simp [hg]at hs ⊢<;>omega)]
  congr 1
  cases hg:g x<;>simp [hg]
theorem Zlo{β:Type}{g:α->β}{fin:List β->Option ρ}{body:Nat->α->List β->Option (List β ⊕ ρ)}{l:List α}{i:Nat}{acc:List β}(h:∀j x s,x∈l->s.length+1<=acc.length+l.length->body j x s=some (.inl (s++[g x]))):forL body fin l i acc=fin (acc++l.map g):=by
 rw [Y0 (g:=fun x=>some (g x)) h,List.filterMap_eq_map']
theorem ZfE{p:α->Bool}{fin:List α->Option ρ}{body:Nat->α->List α->Option (List α ⊕ ρ)}{l:List α}{i:Nat}{acc:List α}(h:∀j x s,x∈l->s.length+1<=acc.length+l.length->body j x s=some (.inl (if p x=true then s++[x] else s))):forL body fin l i acc=fin (acc++l.filter p):=by
 rw [Y0 (g:=fun x=>if p x=true then some x else none) fun j x s mx hs=>by rw [h j x s mx hs];split<;>simp]
 congr 2
 induction l with
 |nil=>rfl
 |cons x l ih=>
  have ih:=ih fun j y s my hs=>h j y s (by simp [my]) (by simp at hs ⊢;omega);by_cases hp:p x=true<;>simp [hp,ih]
end
theorem ZV{x y:BYT}:sEq x y=true↔x=y:=by simp [sEq]
theorem Zye{x y:BYT}:sEq x y=false↔¬x=y:=by simp [sEq]
theorem Zzt(x:BYT):sEq x x=true:=ZV.2 rfl
theorem Zg1{x y:BYT}(h:toL x=toL y):x=y:=by rw [<-Zku x,<-Zku y,h]
theorem Zd8(x:BYT):(toL x).length=x.size:=by rw [toL,AM,AQ]
theorem ZjD:∀(a b:List UInt8),Op.bytesLess a b=true↔a<b
 | [],[]=>by simp [Op.bytesLess]
 | [],_::_=>by simp [Op.bytesLess]
 |_::_,[]=>by simp [Op.bytesLess]
 |x::a,y::b=>by
  rw [List.cons_lt_cons_iff,<-ZjD a b];simp only[Op.bytesLess];by_cases h:x<y
  .simp [h]
  .by_cases h2:x=y
   .subst h2;simp [h]
   .simp [h,h2]
theorem ZgI{x y:BYT}:sLt x y=true↔toL x<toL y:=by
 unfold sLt toL;rw [ZjD,Az,Az]
theorem ZjX(x:BYT):sLt x x=false:=by
 cases h:sLt x x with
 |false=>rfl
 |true=>exact absurd (ZgI.1 h) (List.lt_irrefl _)
theorem Zf4{x y z:BYT}(h1:sLt x y=true)(h2:sLt y z=true):sLt x z=true:=ZgI.2 (List.lt_trans (ZgI.1 h1) (ZgI.1 h2))
theorem ZlH{x y:BYT}(h1:sLt x y=true):sLt y x=false:=by
 cases h:sLt y x with
 |false=>rfl
 |true=>have:=Zf4 h1 h;rw [ZjX]at this;simp at this
theorem Zsx{x y:BYT}(h:sLt x y=true):¬x=y:=fun e=>by rw [e,ZjX]at h;simp at h
theorem Zgp{x y:BYT}(h1:sLt x y=false)(h2:¬x=y):sLt y x=true:=by
 rcases Std.lt_trichotomy (toL x) (toL y) with h|h|h
 .rw [ZgI.2 h]at h1;simp at h1
 .exact absurd (Zg1 h) h2
 .exact ZgI.2 h
def Asc(l:List BYT):Prop:=l.Pairwise fun x y=>sLt x y=true
theorem Zst:∀{a b:List BYT},Asc a->Asc b->(∀x,x∈a↔x∈b)->a=b
 | [],[],_,_,_=>rfl
 | [],y::b,_,_,h=>by have:=(h y).2 yG;simp at this
 |x::a,[],_,_,h=>by have:=(h x).1 yG;simp at this
 |x::a,y::b,ha,hb,h=>by
  unfold Asc at ha hb;rw [AH]at ha hb;have c:x=y:=by
   have h1:=(h x).1 yG;have h2:=(h y).2 yG;rcases A9.1 h1 with h1|h1
   .exact h1
   .rcases A9.1 h2 with h2|h2
    .exact h2.symm
    .have:=ZlH (ha.1 y h2);rw [hb.1 x h1]at this;simp at this
  subst c;congr 1
  refine Zst ha.2 hb.2 fun z=>?_;have hz:=h z;simp only[A9]at hz;constructor
  .intro m;rcases hz.1 (.inr m) with e|m'
   .exact absurd e.symm (Zsx (ha.1 z m))
   .exact m'
  .intro m;rcases hz.2 (.inr m) with e|m'
   .exact absurd e.symm (Zsx (hb.1 z m))
   .exact m'
def Zae:List BYT->BYT->List BYT
 | [],s=>[s]
 |x::r,s=>if sLt x s=true then x::Zae r s else if sEq x s=true then x::r else s::x::r
theorem Zlt{y s:BYT}:∀{l:List BYT},y∈Zae l s↔y=s\/y∈l
 | []=>by simp [Zae]
 |x::r=>by
  simp only[Zae];split
  .simp only[A9,Zlt (l:=r)];constructor<;>(intro h;rcases h with h|h|h<;>simp [h])
  .split
   .rename_i h;have:=ZV.1 h;subst this;simp
   .simp
theorem ZhY{s:BYT}:∀{l:List BYT},Asc l->Asc (Zae l s)
 | [],_=>by simp [Zae,Asc]
 |x::r,h=>by
  have h':=h;unfold Asc at h';rw [AH]at h';simp only[Zae];split
  .rename_i hx;refine AH.2 ⟨fun y my=>?_,ZhY h'.2⟩;rcases Zlt.1 my with rfl|my
   .exact hx
   .exact h'.1 y my
  .split
   .exact h
   .rename_i hx b;have a:sLt s x=true:=Zgp (by simpa using hx) (fun e=>b (ZV.2 e));refine AH.2 ⟨fun y my=>?_,h⟩;rcases A9.1 my with rfl|my
    .exact a
    .exact Zf4 a (h'.1 y my)
theorem Ze7(s:BYT):∀l:List BYT,(Zae l s).length<=l.length+1
 | []=>by simp [Zae]
 |x::r=>by
  have:=Ze7 s r;simp only[Zae];split
  .simp;omega
  .split<;>simp
def Z9(l:List BYT):List BYT:=l.foldl Zae []
theorem QG:∀(l acc:List BYT),Asc acc->Asc (l.foldl Zae acc)/\(∀x,x∈l.foldl Zae acc↔x∈l\/x∈acc)/\(l.foldl Zae acc).length<=l.length+acc.length
 | [],acc,h=>⟨h,fun x=>by simp,yG⟩
 |y::l,acc,h=>by
  obtain ⟨h1,h2,h3⟩:=QG l (Zae acc y) (ZhY h);refine ⟨h1,fun x=>?_,?_⟩
  .rw [B3,h2 x,Zlt];rw [A9];constructor
   .rintro (h|h|h)<;>simp [h]
   .rintro ((h|h)|h)<;>simp [h]
  .have:=Ze7 y acc;rw [B3];simp only[Aq];omega
theorem ZdE(l:List BYT):Asc (Z9 l):=(QG l [] AW).1
theorem Z3{x:BYT}{l:List BYT}:x∈Z9 l↔x∈l:=by have:=(QG l [] AW).2.1 x;rw [Z9,this];simp
theorem Zft(l:List BYT):(Z9 l).length<=l.length:=(QG l [] AW).2.2
theorem Zhf{a l:List BYT}(h:Asc a)(hm:∀x,x∈a↔x∈l):a=Z9 l:=Zst h (ZdE l) fun x=>by rw [hm,Z3]
theorem ZpK{a b:List BYT}(h:∀x,x∈a↔x∈b):Z9 a=Z9 b:=Zhf (ZdE a) fun x=>by rw [Z3,h]
def YT(l:List BYT)(s:BYT):Bool:=l.any fun x=>sEq x s
theorem Qi{l:List BYT}{s:BYT}:YT l s=true↔s∈l:=by
 simp only[YT,List.any_eq_true,ZV];constructor
 .rintro ⟨x,h,rfl⟩;exact h
 .exact fun h=>⟨s,h,rfl⟩
theorem Zyi{x:BYT}{l:List BYT}:x∈Zf5 l↔x∈l:=by
 simp only[Zf5,List.mem_map,List.mem_mergeSort];constructor
 .rintro ⟨y,⟨z,hz,rfl⟩,rfl⟩;rw [Zku];exact hz
 .exact fun h=>⟨toL x,⟨x,h,rfl⟩,Zku x⟩
theorem Zyj(l:List BYT):(Zf5 l).length=l.length:=by simp [Zf5]
theorem ZAJ(l:List BYT):(Zf5 l).Pairwise fun x y=>sLt y x=false:=by
 unfold Zf5;rw [List.pairwise_map];have:=List.pairwise_mergeSort (le:=fun x y:List UInt8=>decide (x<=y)) (fun a b c h1 h2=>by simp at h1 h2 ⊢;exact List.le_trans h1 h2) (fun a b=>by simp;exact List.le_total a b) (l.map toL);refine this.imp fun {a b} h=>?_;cases hh:sLt (ofL b) (ofL a) with
 |false=>rfl
 |true=>
  have h1:=ZgI.1 hh;rw [Zdj,Zdj]at h1;have h2:a<=b:=by simpa using h
  exact absurd h1 (List.not_lt.2 h2)
end
def meets(a b:Nat):Prop:=a &&& b≠0
theorem Zt6:∀{a b:List Int},a.Pairwise (·<·)->b.Pairwise (·<·)->(∀x,x∈a↔x∈b)->a=b
 | [],[],_,_,_=>rfl
 | [],y::b,_,_,h=>by have:=(h y).2 yG;simp at this
 |x::a,[],_,_,h=>by have:=(h x).1 yG;simp at this
 |x::a,y::b,ha,hb,h=>by
  rw [AH]at ha hb;have d:x=y:=by
   have h1:=(h x).1 yG;have h2:=(h y).2 yG;rcases A9.1 h1 with e|h1
   .exact e
   .rcases A9.1 h2 with e|h2
    .exact e.symm
    .have:=hb.1 x h1;have:=ha.1 y h2;omega
  subst d;rw [Zt6 ha.2 hb.2 fun z=>?_];constructor
  .intro hz;rcases A9.1 ((h z).1 (by simp [hz])) with e|c
   .subst e;have:=ha.1 z hz;omega
   .exact c
  .intro hz;rcases A9.1 ((h z).2 (by simp [hz])) with e|c
   .subst e;have:=hb.1 z hz;omega
   .exact c
section
def goP(f:Int->List Int->Option (List Int)):List Int->List Int->Option (List Int)
 | [],l=>some l
 |y::ys,l=>(f y l).bind (goP f ys)
noncomputable def ZgZ(sup:Int->Int)(ins:Int->List Int):Nat->Int->List Int->Option (List Int)
 |0,_,_=>none
 |n+1,x,l=>if sup x<0\/sup x∈l then some l else (goP (ZgZ sup ins n) (ins (sup x)) l).map (·++[sup x])
def Zr8(sup:Int->Int)(ins:Int->List Int)(r:List Int):Prop:=∀p s q,r=p++s::q->∀y∈ins s,0<=sup y->sup y∈p
theorem Zr8.nil(sup:Int->Int)(ins:Int->List Int):Zr8 sup ins []:=by
 intro p s q h;simp at h
theorem Zr8.snoc{sup:Int->Int}{ins:Int->List Int}{r:List Int}{s:Int}(h:Zr8 sup ins r)(hs:∀y∈ins s,0<=sup y->sup y∈r):Zr8 sup ins (r++[s]):=by
 intro p t q e y hy h0;rcases List.eq_nil_or_concat q with rfl|⟨q',u,rfl⟩
 .obtain ⟨rfl,e2⟩:=B4 e rfl;obtain rfl:s=t:=by simpa using e2
  exact hs y hy h0
 .rw [List.concat_eq_append,<-As,<-AD]at e;obtain ⟨e1,-⟩:=B4 e rfl;exact h p t q' e1 y hy h0
structure Zdb (sup:Int->Int) (ins:Int->List Int) (rank:Int->Nat) (m:Nat) (l r:List Int):Prop where
 pre:l <+: r
 nodup:l.Nodup->r.Nodup
 ord:Zr8 sup ins l->Zr8 sup ins r
 new:∀s∈r,s∈l\/∃y,s=sup y/\0<=sup y/\rank y<m
theorem Zdb.refl(sup:Int->Int)(ins:Int->List Int)(rank:Int->Nat)(m:Nat)(l:List Int):Zdb sup ins rank m l l:=⟨List.prefix_refl _,id,id,fun _ h=>.inl h⟩
theorem Zdb.trans{sup:Int->Int}{ins:Int->List Int}{rank:Int->Nat}{m:Nat}{l r t:List Int}(h:Zdb sup ins rank m l r)(k:Zdb sup ins rank m r t):Zdb sup ins rank m l t:=
 ⟨h.pre.trans k.pre,fun hl=>k.nodup (h.nodup hl),fun hl=>k.ord (h.ord hl),fun s hs=>(k.new s hs).elim (fun a=>h.new s a) .inr⟩
theorem Zdb.mono{sup:Int->Int}{ins:Int->List Int}{rank:Int->Nat}{m m':Nat}{l r:List Int}(h:Zdb sup ins rank m l r)(hm:m<=m'):Zdb sup ins rank m' l r:=
 ⟨h.pre,h.nodup,h.ord,fun s hs=>(h.new s hs).imp id fun ⟨y,a,b,c⟩=>⟨y,a,b,Nat.lt_of_lt_of_le c hm⟩⟩
section
variable {sup:Int->Int} {ins:Int->List Int} {rank:Int->Nat} {back:Int->Int}
theorem ZrB{f:Int->List Int->Option (List Int)}{m:Nat}:∀(ys l:List Int),(∀y∈ys,∀l,∃r,f y l=some r/\Zdb sup ins rank m l r/\(0<=sup y->sup y∈r))->
  ∃r,goP f ys l=some r/\Zdb sup ins rank m l r/\∀y∈ys,0<=sup y->sup y∈r
 | [],l,_=>⟨l,rfl,.refl ..,yG⟩
 |y::ys,l,h=>by
  obtain ⟨r,h1,h2,h3⟩:=h y yG l;obtain ⟨t,k1,k2,k3⟩:=ZrB ys r (fun z hz=>h z (by simp [hz]));refine ⟨t,by simp only[goP,h1,AT,k1],h2.trans k2,fun z hz h0=>?_⟩;rcases A9.1 hz with rfl|hz
  .exact k2.pre.subset (h3 h0)
  .exact k3 z hz h0
theorem Zlq(hr:∀x,0<=sup x->∀y∈ins (sup x),rank y<rank x)(hb:∀x,0<=sup x->back (sup x)=x):∀(n:Nat) (x:Int) (l:List Int),rank x<n->
  ∃r,ZgZ sup ins n x l=some r/\Zdb sup ins rank (rank x+1) l r/\(0<=sup x->sup x∈r)/\(0<=sup x->sup x∉l->∃t,r=t++[sup x])
 |0,_,_,h=>by omega
 |n+1,x,l,h=>by
  by_cases hs:sup x<0\/sup x∈l
  .refine ⟨l,by rw [ZgZ,yp hs],.refl ..,fun h0=>hs.resolve_left yE,fun h0 h1=>absurd hs (by rintro (a|a);omega;exact h1 a)⟩
  .have h0:0<=sup x:=by have:¬sup x<0:=fun a=>hs (.inl a);omega
   have h1:sup x∉l:=fun a=>hs (.inr a);obtain ⟨r,k1,k2,k3⟩:=ZrB (f:=ZgZ sup ins n) (sup:=sup) (ins:=ins) (rank:=rank) (m:=rank x) (ins (sup x)) l (fun y hy l'=>by
    have hl:=hr x h0 y hy;obtain ⟨r,a1,a2,a3,_⟩:=Zlq hr hb n y l' yE;exact ⟨r,a1,a2.mono yE,a3⟩)
   have hn:sup x∉r:=fun hm=>by
    rcases k2.new _ hm with hm|⟨y,e,hy,hl⟩
    .exact h1 hm
    .have:x=y:=by rw [<-hb x h0,<-hb y hy,e]
     subst this;omega
   refine ⟨r++[sup x],by rw [ZgZ,yn hs,k1];rfl,⟨k2.pre.trans (List.prefix_append _ _),fun hl=>?_,fun hl=>(k2.ord hl).snoc k3,fun s hm=>?_⟩,fun _=>by simp,fun _ _=>⟨r,rfl⟩⟩
   .exact Ap.2 ⟨k2.nodup hl,yG,fun a ha b d e=>by simp at d;subst d;subst e;exact hn ha⟩
   .rcases A0.1 hm with hm|hm
    .exact (k2.new s hm).imp id fun ⟨y,a,b,c⟩=>⟨y,a,b,yE⟩
    .obtain rfl:s=sup x:=by simpa using hm
     exact .inr ⟨x,rfl,h0,yE⟩
end
end
section
open Go.RowKit
structure Za where
 rel:BYT
 args:List BYT
def Yf:Yk Za where
 size:=2
 rep:=fun w cs x L=>∃A1 a L1,cs=[.string x.rel,.slice A1 x.args.length a]/\L=L1/\x.rel.size<=9223372036854775807/\x.args.length<=a/\a<=maxLen/\Sli ZsX w A1 x.args L1
 len:=fun ⟨A1,a,L1,h,hL,d,e,f,c⟩=>by simp [h]
 keep:=fun ⟨A1,a,L1,h,hL,d,e,f,c⟩ hk=>⟨A1,a,L1,h,hL,d,e,f,c.keep (fun b m=>hk b (by simp [hL,m]))⟩
 lt:=fun ⟨A1,a,L1,h,hL,d,e,f,c⟩=>by intro b m;simp only[hL,A0]at m;exact c.lt b m
 one:=fun ⟨A1,a,L1,h,hL,d,e,f,c⟩=>by simp [h,Value.oneCell']
 pos:=by omega
def ZaK(x:Za):Nat:=x.rel.size+Zkn x.args
def ZDH(x:Za):Prop:=(fun _=>True) x.rel/\(fun ds=>∀d∈ds,(fun _=>True) d) x.args
structure Zo where
 rel:BYT
 args:List BYT
structure Zx where
 var:BYT
 value:BYT
def ZDh:Yk Zx where
 size:=2
 rep:=fun w cs x L=>cs=[.string x.var,.string x.value]/\L=[]/\x.var.size<=9223372036854775807/\x.value.size<=9223372036854775807
 len:=fun h=>by simp [h.1]
 keep:=fun h _=>h
 lt:=fun h=>by simp [h.2.1]
 one:=fun h=>by simp [h.1,Value.oneCell']
 pos:=by omega
structure Zu where
 kind:Int
 pattern:Zo
 left:BYT
 right:BYT
def ZC9:Yk Zu where
 size:=5
 rep:=fun w cs x L=>∃A1 a L1,cs=[.int .i64 x.kind,.string x.pattern.rel,.slice A1 x.pattern.args.length a,.string x.left,.string x.right]/\L=L1/\x.pattern.rel.size<=9223372036854775807/\x.left.size<=9223372036854775807/\x.right.size<=9223372036854775807/\x.pattern.args.length<=a/\a<=maxLen/\Sli ZsX w A1 x.pattern.args L1
 len:=fun ⟨A1,a,L1,h,hL,d,e,f,g,i,c⟩=>by simp [h]
 keep:=fun ⟨A1,a,L1,h,hL,d,e,f,g,i,c⟩ hk=>⟨A1,a,L1,h,hL,d,e,f,g,i,c.keep (fun b m=>hk b (by simp [hL,m]))⟩
 lt:=fun ⟨A1,a,L1,h,hL,d,e,f,g,i,c⟩=>by intro b m;simp only[hL,A0]at m;exact c.lt b m
 one:=fun ⟨A1,a,L1,h,hL,d,e,f,g,i,c⟩=>by simp [h,Value.oneCell']
 pos:=by omega
structure Zy where
 kind:Int
 pattern:Zo
def ZxH:Yk Zy where
 size:=3
 rep:=fun w cs x L=>∃A1 a L1,cs=[.int .i64 x.kind,.string x.pattern.rel,.slice A1 x.pattern.args.length a]/\L=L1/\x.pattern.rel.size<=9223372036854775807/\x.pattern.args.length<=a/\a<=maxLen/\Sli ZsX w A1 x.pattern.args L1
 len:=fun ⟨A1,a,L1,h,hL,d,e,f,c⟩=>by simp [h]
 keep:=fun ⟨A1,a,L1,h,hL,d,e,f,c⟩ hk=>⟨A1,a,L1,h,hL,d,e,f,c.keep (fun b m=>hk b (by simp [hL,m]))⟩
 lt:=fun ⟨A1,a,L1,h,hL,d,e,f,c⟩=>by intro b m;simp only[hL,A0]at m;exact c.lt b m
 one:=fun ⟨A1,a,L1,h,hL,d,e,f,c⟩=>by simp [h,Value.oneCell']
 pos:=by omega
structure Zf where
 name:BYT
 priority:Int
 cond:List Zu
 thn:List Zy
def Zby:Yk Zf where
 size:=4
 rep:=fun w cs x L=>∃A1 a L1 A2 c L2,cs=[.string x.name,.int .i64 x.priority,.slice A1 x.cond.length a,.slice A2 x.thn.length c]/\L=L1++L2/\x.name.size<=9223372036854775807/\x.cond.length<=a/\a<=maxLen/\Sli ZC9 w A1 x.cond L1/\x.thn.length<=c/\c<=maxLen/\Sli ZxH w A2 x.thn L2
 len:=fun ⟨A1,a,L1,A2,c,L2,h,hL,f,g,i,d,j,k,e⟩=>by simp [h]
 keep:=fun ⟨A1,a,L1,A2,c,L2,h,hL,f,g,i,d,j,k,e⟩ hk=>⟨A1,a,L1,A2,c,L2,h,hL,f,g,i,d.keep (fun b m=>hk b (by simp [hL,m])),j,k,e.keep (fun b m=>hk b (by simp [hL,m]))⟩
 lt:=fun ⟨A1,a,L1,A2,c,L2,h,hL,f,g,i,d,j,k,e⟩=>by intro b m;simp only[hL,A0]at m;rcases m with m|m<;>first|exact d.lt b m|exact e.lt b m
 one:=fun ⟨A1,a,L1,A2,c,L2,h,hL,f,g,i,d,j,k,e⟩=>by simp [h,Value.oneCell']
 pos:=by omega
structure Zw where
 facts:List Za
 binding:List Zx
def ZlR:Yk Zw where
 size:=2
 rep:=fun w cs x L=>∃A1 a L1 A2 c L2,cs=[.slice A1 x.facts.length a,.slice A2 x.binding.length c]/\L=L1++L2/\x.facts.length<=a/\a<=maxLen/\Sli Yf w A1 x.facts L1/\x.binding.length<=c/\c<=maxLen/\Sli ZDh w A2 x.binding L2
 len:=fun ⟨A1,a,L1,A2,c,L2,h,hL,f,g,d,i,j,e⟩=>by simp [h]
 keep:=fun ⟨A1,a,L1,A2,c,L2,h,hL,f,g,d,i,j,e⟩ hk=>⟨A1,a,L1,A2,c,L2,h,hL,f,g,d.keep (fun b m=>hk b (by simp [hL,m])),i,j,e.keep (fun b m=>hk b (by simp [hL,m]))⟩
 lt:=fun ⟨A1,a,L1,A2,c,L2,h,hL,f,g,d,i,j,e⟩=>by intro b m;simp only[hL,A0]at m;rcases m with m|m<;>first|exact d.lt b m|exact e.lt b m
 one:=fun ⟨A1,a,L1,A2,c,L2,h,hL,f,g,d,i,j,e⟩=>by simp [h,Value.oneCell']
 pos:=by omega
structure Zh where
 for_:Int
 inn:List Int
 outs:List Int
def ZsI:Yk Zh where
 size:=3
 rep:=fun w cs x L=>∃A1 a L1 A2 c L2,cs=[.int .i64 x.for_,.slice A1 x.inn.length a,.slice A2 x.outs.length c]/\L=L1++L2/\x.inn.length<=a/\a<=maxLen/\Sli Zj7 w A1 x.inn L1/\x.outs.length<=c/\c<=maxLen/\Sli Zj7 w A2 x.outs L2
 len:=fun ⟨A1,a,L1,A2,c,L2,h,hL,f,g,d,i,j,e⟩=>by simp [h]
 keep:=fun ⟨A1,a,L1,A2,c,L2,h,hL,f,g,d,i,j,e⟩ hk=>⟨A1,a,L1,A2,c,L2,h,hL,f,g,d.keep (fun b m=>hk b (by simp [hL,m])),i,j,e.keep (fun b m=>hk b (by simp [hL,m]))⟩
 lt:=fun ⟨A1,a,L1,A2,c,L2,h,hL,f,g,d,i,j,e⟩=>by intro b m;simp only[hL,A0]at m;rcases m with m|m<;>first|exact d.lt b m|exact e.lt b m
 one:=fun ⟨A1,a,L1,A2,c,L2,h,hL,f,g,d,i,j,e⟩=>by simp [h,Value.oneCell']
 pos:=by omega
structure Zl where
 nodes:Int
 reasons:List Zh
def Zbx:Yk Zl where
 size:=2
 rep:=fun w cs x L=>∃A1 a L1,cs=[.int .i64 x.nodes,.slice A1 x.reasons.length a]/\L=L1/\x.reasons.length<=a/\a<=maxLen/\Sli ZsI w A1 x.reasons L1
 len:=fun ⟨A1,a,L1,h,hL,d,e,c⟩=>by simp [h]
 keep:=fun ⟨A1,a,L1,h,hL,d,e,c⟩ hk=>⟨A1,a,L1,h,hL,d,e,c.keep (fun b m=>hk b (by simp [hL,m]))⟩
 lt:=fun ⟨A1,a,L1,h,hL,d,e,c⟩=>by intro b m;simp only[hL,A0]at m;exact c.lt b m
 one:=fun ⟨A1,a,L1,h,hL,d,e,c⟩=>by simp [h,Value.oneCell']
 pos:=by omega
structure Zz where
 fact:Za
 rule:BYT
 uses:List Int
def Zez:Yk Zz where
 size:=4
 rep:=fun w cs x L=>∃A1 a L1 A2 c L2,cs=[.string x.fact.rel,.slice A1 x.fact.args.length a,.string x.rule,.slice A2 x.uses.length c]/\L=L1++L2/\x.fact.rel.size<=9223372036854775807/\x.rule.size<=9223372036854775807/\x.fact.args.length<=a/\a<=maxLen/\Sli ZsX w A1 x.fact.args L1/\x.uses.length<=c/\c<=maxLen/\Sli Zj7 w A2 x.uses L2
 len:=fun ⟨A1,a,L1,A2,c,L2,h,hL,f,g,i,j,d,k,l,e⟩=>by simp [h]
 keep:=fun ⟨A1,a,L1,A2,c,L2,h,hL,f,g,i,j,d,k,l,e⟩ hk=>⟨A1,a,L1,A2,c,L2,h,hL,f,g,i,j,d.keep (fun b m=>hk b (by simp [hL,m])),k,l,e.keep (fun b m=>hk b (by simp [hL,m]))⟩
 lt:=fun ⟨A1,a,L1,A2,c,L2,h,hL,f,g,i,j,d,k,l,e⟩=>by intro b m;simp only[hL,A0]at m;rcases m with m|m<;>first|exact d.lt b m|exact e.lt b m
 one:=fun ⟨A1,a,L1,A2,c,L2,h,hL,f,g,i,j,d,k,l,e⟩=>by simp [h,Value.oneCell']
 pos:=by omega
def Xv(x:Zz):Nat:=ZaK x.fact+x.rule.size+x.uses.length
def ZAO(x:Zz):Prop:=ZDH x.fact/\(fun _=>True) x.rule/\(fun ds=>∀d∈ds,ZqJ d) x.uses
end
noncomputable def Zsl(n:Int):Option BYT:=chk (-9223372036854775808<=n/\n<=9223372036854775807) (some (ofL (Lib.itoa n)))
def Zgf(a b:BYT):Option Int:=some (Lib.compareBytes (toL a) (toL b))
noncomputable def ZKD(l:List BYT)(sep:BYT):Option BYT:=chk (l.length<=140737488355328/\(Lib.join (l.map toL) (toL sep)).length<=140737488355328) (some (ofL (Lib.join (l.map toL) (toL sep))))
def Zpd(s:BYT):Option (Int×Bool):=chk (s.size<=18) (some (match Lib.atoi (toL s) with|some n=>(n,true)|none=>(0,false)))
end Go.Proofs.YtnacpkmpdlodoaaGreatDoor
