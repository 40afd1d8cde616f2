/- A part of the proof; no conditions. -/
import Derived.Test.YtlpkbfjcdaanmaaGreatDoorMissedQ7
import Derived.Deep.OwnRows
import Derived.Test.YtlpkbfjcdaanmaaGreatDoorProg
import Derived.OwnWalk
import Derived.Outline
import Derived.WalkSpells
import Derived.StillTailTactics
import Derived.BigGuard
open Bool renaming and_eq_true→AE
open Int renaming toNat_natCast→AA,toNat→AK
open List renaming map→A0,replicate→A4,range'→A5,append_nil→A6,nil_append→A7,append_assoc→A8,getElem?_eq_getElem→AC,getElem?_map→AD,getElem?_eq_some_iff→AG,all_eq_true→AH,take_of_length_le→AI,getElem?_replicate→AL,mem_append→AM,mem_of_getElem?→AN,foldl_append→AO,getElem_mem→AP,map_cons→AQ,map_nil→AR
open Nat renaming zero_le→A9,le_refl→AB,le_trans→AF,le_of_eq→AJ
open Option.some renaming inj→A3
open Go.Proofs.Tryz
set_option linter.unusedSimpArgs false
set_option linter.unusedVariables false
set_option maxRecDepth 1000000
set_option maxHeartbeats 4000000
namespace Go.Proofs.YtlpkbfjcdaanmaaGreatDoor
section
open Go.RowKit
structure Enc {α:Type}(c:Yh α) (f:α->List CT):Prop where
 to:∀{w:World} {cs:List Value} {x:α} {L:List Nat},c.rep w cs x L->RCs w (f x) cs L
 of:∀{w:World} {cs:List Value} {x:α} {L:List Nat},RCs w (f x) cs L->c.rep w cs x L
section
variable {α:Type} {c:Yh α} {f:α->List CT} {w:World}
theorem Enc.reps (h:Enc c f):∀{ds:List α}{xs:List Value}{L:List Nat},c.reps w xs ds L->REs w c.size (ds.map f) xs L
 | [],_,_,h1=>h1
 |_::_,_,_,⟨c1,c2,L1,L2,h1,h2,h3,h4⟩=>⟨c1,c2,L1,L2,h1,h2,⟨h.to h3,c.len h3⟩,h.reps h4⟩
theorem Enc.reps_of (h:Enc c f):∀{ds:List α}{xs:List Value}{L:List Nat},REs w c.size (ds.map f) xs L->c.reps w xs ds L
 | [],_,_,h1=>h1
 |_::_,_,_,⟨c1,c2,L1,L2,h1,h2,h3,h4⟩=>⟨c1,c2,L1,L2,h1,h2,h.of h3.1,h.reps_of h4⟩
theorem Enc.sl (h:Enc c f) (e:Nat) {v:Value}{ds:List α}{L:List Nat}:(Zw c).rep w [v] ds L↔RC w (.sl e c.size (ds.map f)) v L:=by
 constructor
 .rintro ⟨A,cap,hv,h1,h2,xs,L0,L1,hL,h3,h4⟩;obtain rfl:v=_:=by simpa using hv
  exact ⟨A,cap,xs,L0,L1,yG,by simpa using h1,h2,hL,c.pos,by simpa using h3,h.reps h4⟩
 .rintro ⟨A,cap,xs,L0,L1,hv,h1,h2,hL,h0,h3,h4⟩;exact ⟨A,cap,by simpa using hv,by simpa using h1,h2,xs,L0,L1,hL,by simpa using h3,h.reps_of h4⟩
theorem RCs.solo {x:CT}{v:Value}{L:List Nat}(h:RC w x v L):RCs w [x] [v] L:=⟨v,[],L,[],rfl,yG,h,rfl,rfl⟩
theorem RCs.more {x:CT}{v:Value}{L M:List Nat}{r:List CT}{cs:List Value}(h:RC w x v L) (k:RCs w r cs M):RCs w (x::r) (v::cs) (L++M):=⟨v,cs,L,M,rfl,rfl,h,k⟩
theorem Enc.slice (h:Enc c f) (e:Nat):Enc (Zw c) (fun l=>[.sl e c.size (l.map f)]) where
 to:=fun {w cs x L} hr=>by
  obtain ⟨A,cap,rfl,h1⟩:=id hr;exact RCs.solo ((h.sl e).1 hr)
 of:=fun {w cs x L} hr=>by
  obtain ⟨v,cs',L1,L2,rfl,rfl,h1,rfl,rfl⟩:=hr;rw [A6];exact (h.sl e).2 h1
end
theorem ZJK:Enc ZGg ZO where
 to:=fun ⟨h1,h2⟩=>by subst h1;subst h2;exact RCs.solo ⟨rfl,rfl⟩
 of:=fun ⟨v,cs',L1,L2,h1,h2,h3,h4,h5⟩=>by
  obtain ⟨rfl,rfl⟩:=h3;subst h4;subst h5;exact ⟨h1,h2⟩
theorem encByte:Enc ZPt Zs8 where
 to:=fun ⟨h1,h2⟩=>by subst h1;subst h2;exact RCs.solo ⟨rfl,rfl⟩
 of:=fun ⟨v,cs',L1,L2,h1,h2,h3,h4,h5⟩=>by
  obtain ⟨rfl,rfl⟩:=h3;subst h4;subst h5;exact ⟨h1,h2⟩
theorem ZMq:Enc ZLY Ze4 where
 to:=fun ⟨h1,h2⟩=>by subst h1;subst h2;exact RCs.solo ⟨rfl,rfl⟩
 of:=fun ⟨v,cs',L1,L2,h1,h2,h3,h4,h5⟩=>by
  obtain ⟨rfl,rfl⟩:=h3;subst h4;subst h5;exact ⟨h1,h2⟩
theorem encStr:Enc Zde ZA where
 to:=fun ⟨h1,h2,h3⟩=>by subst h1;subst h2;exact RCs.solo ⟨rfl,rfl,h3⟩
 of:=fun ⟨v,cs',L1,L2,h1,h2,h3,h4,h5⟩=>by
  obtain ⟨rfl,rfl,t⟩:=h3;subst h4;subst h5;exact ⟨h1,h2,t⟩
def Ztj (w:World):Bool×List CT->Value->Prop:=ZnX w fun _=>False
theorem arg_sl {α:Type}{c:Yh α}{f:α->List CT}(h:Enc c f) (e:Nat) {w:World}{v:Value}{ds:List α}{L:List Nat}(hr:(Zw c).rep w [v] ds L):Ztj w (false,[.sl e c.size (ds.map f)]) v:=.inr ⟨rfl,_,L,rfl,(h.sl e).1 hr,fun _ _ h=>h⟩
theorem ZKx (w:World) (n:Int):Ztj w (false,[.int .i64 n]) (.int .i64 n):=.inr ⟨rfl,_,[],rfl,⟨rfl,rfl⟩,fun _ _ h=>h⟩
theorem Zh9 {α:Type}{c:Yh α}{f:α->List CT}(h:Enc c f) {w:World}{vs:List Value}{x:α}{L:List Nat}(hr:c.rep w vs x L):Ztj w (true,f x) (.agg vs.toArray):=.inl ⟨rfl,vs,L,rfl,h.to hr,fun _ _ h=>h⟩
section
variable {w w':World} {v:Value} {e:Ending}
theorem ZqI {B:Nat}{n:Nat->Prop}{x:RT}(h:ZkF w B n [x] v):∃F,OP w B n x v F/\Own w B F:=by
 obtain ⟨vs,F,⟨u,vs',F1,F2,rfl,rfl,h1,rfl,rfl⟩,h2,rfl⟩:=h;rw [A6]at h2;exact ⟨F1,by simpa using h1,h2⟩
theorem Zx4 {α:Type}{c:Yh α}{f:α->List CT}(h:Enc c f) {t:Nat}{ds:List α}{n:Nat->Prop}(hr:ZkF w' w.heap.size n [(false,[(false,.sl t c.size (ds.map f))])] v) (hb:Below w.heap.size w w'):ZeC c t w v ds w':=by
 obtain ⟨F,h1,h2⟩:=ZqI hr;rcases h1 with ⟨h1,_⟩|⟨_,ct,h1,h3⟩
 .simp at h1
 .obtain rfl:_=ct:=by simpa using h1
  obtain ⟨_,cs,L,h4,h5,rfl,_⟩:=h3;exact ⟨⟨cs,L,by simpa using h4,h.reps_of h5,h2⟩,hb⟩
theorem ZMn {n:Int}{B:Nat}{m:Nat->Prop}(hr:ZkF w B m [(false,[(false,.int .i64 n)])] v):v=.int .i64 n:=by
 obtain ⟨F,h1,h2⟩:=ZqI hr;rcases h1 with ⟨h1,_⟩|⟨_,ct,h1,h3⟩
 .simp at h1
 .obtain rfl:_=ct:=by simpa using h1
  exact h3.1.1
theorem ZwV {b:Bool}{B:Nat}{m:Nat->Prop}(hr:ZkF w B m [(false,[(false,.bool b)])] v):v=.bool b:=by
 obtain ⟨F,h1,h2⟩:=ZqI hr;rcases h1 with ⟨h1,_⟩|⟨_,ct,h1,h3⟩
 .simp at h1
 .obtain rfl:_=ct:=by simpa using h1
  exact h3.1.1
theorem ZIR {s:ByteArray}{B:Nat}{m:Nat->Prop}(hr:ZkF w B m [(false,[(false,.str s)])] v):v=.string s:=by
 obtain ⟨F,h1,h2⟩:=ZqI hr;rcases h1 with ⟨h1,_⟩|⟨_,ct,h1,h3⟩
 .simp at h1
 .obtain rfl:_=ct:=by simpa using h1
  exact h3.1.1
end
section
variable {P:Program} {J:World->Prop} {f:FuncId} {args:List (Bool×List CT)} {res:List RT}
theorem Sound.calls (h:Sound P J f args res) {w:World}{vs:List Value}(hj:J w) (ha:ZM (Ztj w) args vs):Calls P f vs.toArray w fun e w'=>∃v n,e=.returned v/\ZkF w' w.heap.size n res v/\Below w.heap.size w w':=
 (h.2 w (fun _=>False) vs hj (fun _ h=>h.elim) ha).mono fun _ _ ⟨v,n,h1,h2,_,h3⟩=>⟨v,n,h1,h2,h3⟩
theorem Sound.givesS {α:Type}{c:Yh α}{g:α->List CT}{t:Nat}{ds:List α}(h:Sound P J f args [(false,[(false,.sl t c.size (ds.map g))])]) (hg:Enc c g) {w:World}{vs:List Value}(hj:J w) (ha:ZM (Ztj w) args vs):Calls P f vs.toArray w (Zi7 c t w ds):=
 (h.calls hj ha).mono fun _ _ ⟨v,_,h1,h2,h3⟩=>⟨v,h1,Zx4 hg h2 h3⟩
theorem Sound.givesB {b:Bool}(h:Sound P J f args [(false,[(false,.bool b)])]) {w:World}{vs:List Value}(hj:J w) (ha:ZM (Ztj w) args vs):Calls P f vs.toArray w fun e w'=>e=.returned (.bool b)/\Below w.heap.size w w':=
 (h.calls hj ha).mono fun _ _ ⟨v,_,h1,h2,h3⟩=>⟨by rw [h1,ZwV h2],h3⟩
theorem Sound.givesI {b:Int}(h:Sound P J f args [(false,[(false,.int .i64 b)])]) {w:World}{vs:List Value}(hj:J w) (ha:ZM (Ztj w) args vs):Calls P f vs.toArray w fun e w'=>e=.returned (.int .i64 b)/\Below w.heap.size w w':=
 (h.calls hj ha).mono fun _ _ ⟨v,_,h1,h2,h3⟩=>⟨by rw [h1,ZMn h2],h3⟩
theorem Sound.givesT {b:ByteArray}(h:Sound P J f args [(false,[(false,.str b)])]) {w:World}{vs:List Value}(hj:J w) (ha:ZM (Ztj w) args vs):Calls P f vs.toArray w fun e w'=>e=.returned (.string b)/\Below w.heap.size w w':=
 (h.calls hj ha).mono fun _ _ ⟨v,_,h1,h2,h3⟩=>⟨by rw [h1,ZIR h2],h3⟩
end
end
theorem ZmV:Enc Qq Qp where
 to:=fun {w cs x L} h=>by
  obtain ⟨A1,c1,L1,rfl,rfl,t0,n1,m1,s1⟩:=h;have hh:RCs w (Qp x) _ _:=RCs.more ⟨rfl,rfl,t0⟩ (RCs.solo ((encStr.sl 9).1 ⟨A1,c1,rfl,n1,m1,s1⟩));simpa only [A7,A6,A8]using hh
 of:=fun {w cs x L} h=>by
  obtain ⟨v0,r0,K0,M0,rfl,rfl,h0,v1,r1,K1,M1,rfl,rfl,h1,rfl,rfl⟩:=h;obtain ⟨rfl,rfl,t0⟩:=h0;obtain ⟨A1,c1,e1,n1,m1,s1⟩:=(encStr.sl 9).2 h1;cases e1;exact ⟨A1,c1,_,rfl,by simp only[A7,A6,A8],t0,n1,m1,s1⟩
theorem Zkf:Enc YL ZJ where
 to:=fun {w cs x L} h=>by
  obtain ⟨A1,c1,L1,rfl,rfl,t0,t1,t2,n1,m1,s1⟩:=h;have hh:RCs w (ZJ x) _ _:=RCs.more ⟨rfl,rfl⟩ (RCs.more ⟨rfl,rfl,t0⟩ (RCs.more ((encStr.sl 9).1 ⟨A1,c1,rfl,n1,m1,s1⟩) (RCs.more ⟨rfl,rfl,t1⟩ (RCs.solo ⟨rfl,rfl,t2⟩))));simpa only [A7,A6,A8]using hh
 of:=fun {w cs x L} h=>by
  obtain ⟨v0,r0,K0,M0,rfl,rfl,h0,v1,r1,K1,M1,rfl,rfl,h1,v2,r2,K2,M2,rfl,rfl,h2,v3,r3,K3,M3,rfl,rfl,h3,v4,r4,K4,M4,rfl,rfl,h4,rfl,rfl⟩:=h;obtain ⟨rfl,rfl⟩:=h0;obtain ⟨rfl,rfl,t0⟩:=h1;obtain ⟨A1,c1,e1,n1,m1,s1⟩:=(encStr.sl 9).2 h2;cases e1;obtain ⟨rfl,rfl,t1⟩:=h3;obtain ⟨rfl,rfl,t2⟩:=h4;exact ⟨A1,c1,_,rfl,by simp only[A7,A6,A8],t0,t1,t2,n1,m1,s1⟩
theorem ZK1:Enc ZLg ZG where
 to:=fun {w cs x L} h=>by
  obtain ⟨A1,c1,L1,A2,c2,L2,rfl,rfl,n1,m1,s1,n2,m2,s2⟩:=h;have hh:RCs w (ZG x) _ _:=RCs.more ⟨rfl,rfl⟩ (RCs.more ((ZJK.sl 3).1 ⟨A1,c1,rfl,n1,m1,s1⟩) (RCs.solo ((ZJK.sl 3).1 ⟨A2,c2,rfl,n2,m2,s2⟩)));simpa only [A7,A6,A8]using hh
 of:=fun {w cs x L} h=>by
  obtain ⟨v0,r0,K0,M0,rfl,rfl,h0,v1,r1,K1,M1,rfl,rfl,h1,v2,r2,K2,M2,rfl,rfl,h2,rfl,rfl⟩:=h;obtain ⟨rfl,rfl⟩:=h0;obtain ⟨A1,c1,e1,n1,m1,s1⟩:=(ZJK.sl 3).2 h1;cases e1;obtain ⟨A2,c2,e2,n2,m2,s2⟩:=(ZJK.sl 3).2 h2;cases e2;exact ⟨A1,c1,_,A2,c2,_,rfl,by simp only[A7,A6,A8],n1,m1,s1,n2,m2,s2⟩
theorem ZJm:Enc Q1 Qu where
 to:=fun {w cs x L} h=>by
  obtain ⟨A1,c1,L1,rfl,rfl,n1,m1,s1⟩:=h;have hh:RCs w (Qu x) _ _:=RCs.more ⟨rfl,rfl⟩ (RCs.solo ((ZK1.sl 179).1 ⟨A1,c1,rfl,n1,m1,s1⟩));simpa only [A7,A6,A8]using hh
 of:=fun {w cs x L} h=>by
  obtain ⟨v0,r0,K0,M0,rfl,rfl,h0,v1,r1,K1,M1,rfl,rfl,h1,rfl,rfl⟩:=h;obtain ⟨rfl,rfl⟩:=h0;obtain ⟨A1,c1,e1,n1,m1,s1⟩:=(ZK1.sl 179).2 h1;cases e1;exact ⟨A1,c1,_,rfl,by simp only[A7,A6,A8],n1,m1,s1⟩
section
open Go.RowKit
structure ZLF (w wr:World) (n r:Nat):Prop where
 below:Below w.heap.size w wr
 size:wr.heap.size=w.heap.size+1+r
 top:wr.rowIs w.heap.size 151 n (fun j=>if j<r then .slice (some ⟨w.heap.size+1+j,0,none⟩) n n else .slice none 0 0)
 row:∀j,j<r->wr.rowIs (w.heap.size+1+j) 4 n (fun _=>.bool false)
structure ZI3 (w wr:World) (n:Nat) (d:List (List Bool)):Prop where
 below:Below w.heap.size w wr
 size:w.heap.size+1+n<=wr.heap.size
 top:wr.rowIs w.heap.size 151 n (fun j=>.slice (some ⟨w.heap.size+1+j,0,none⟩) n n)
 row:∀j,j<n->wr.rowIs (w.heap.size+1+j) 4 n (fun c=>.bool (ZJw d j c))
 sq:SqM n d
theorem ZLU (w:World) (n:Nat):ZLF w (w.alloc (.cells (madeCells #[.slice none 0 0] n) 151)) n 0:=
 ⟨(Below.refl _ w).alloc (AB _) _,yG,(World.rowIs_made w _ n 151).congr (fun j _=>by simp),fun j hj=>absurd hj (Nat.not_lt_zero _)⟩
theorem ZLF.next {w wr:World}{n r:Nat}(h:ZLF w wr n r):ZLF w ((wr.alloc (.cells (madeCells #[.bool false] n) 4)).setCell ⟨w.heap.size,r,none⟩ (.slice (some ⟨wr.heap.size,0,none⟩) n n)) n (r+1):=by
 have a:=World.rowIs_made wr (.bool false) n 4;rw [h.size]at a ⊢;refine ⟨(h.below.alloc (by rw [h.size];omega) _).setCell (AB _) _,by simp [h.size];omega,((h.top.alloc _).set r _).congr (fun j _=>?_),fun j hj=>?_⟩
 .by_cases e:j=r
  .subst e;simp
  .rw [if_neg e];by_cases b:j<r
   .rw [if_pos b,if_pos yE]
   .rw [if_neg b,if_neg yE]
 .by_cases e:j=r
  .subst e;exact a.setOther (by show w.heap.size+1+j≠w.heap.size;omega) _
  .exact ((h.row j yE).alloc _).setOther (by show w.heap.size+1+j≠w.heap.size;omega) _
theorem ZL1 (n i j:Nat):ZJw (A4 n (A4 n false)) i j=false:=by
 unfold ZJw;rw [AL];split
 .rename_i r e;split at e
  .simp at e;subst e;rw [AL];split
   .rename_i v e2;split at e2
    .simp at e2;exact e2
    .simp at e2
   .rfl
  .simp at e
 .rfl
theorem ZLF.done {w wr:World}{n:Nat}(h:ZLF w wr n n):ZI3 w wr n (A4 n (A4 n false)):=
 ⟨h.below,by rw [h.size];omega,h.top.congr (fun j hj=>by rw [if_pos hj]),fun j hj=>(h.row j hj).congr (fun c _=>by rw [ZL1]),SqM.new n⟩
theorem ZI3.later {w wr w':World}{n:Nat}{d:List (List Bool)}(h:ZI3 w wr n d) (hb:Below wr.heap.size wr w'):ZI3 w w' n d:=
 ⟨h.below.trans (hb.mono h.below.size),AF h.size hb.size,h.top.of_block (hb.block _ h.top.lt),fun j hj=>(h.row j hj).of_block (hb.block _ (h.row j hj).lt),h.sq⟩
theorem ZI3.set {w wr:World}{n:Nat}{d:List (List Bool)}(h:ZI3 w wr n d) {i j:Nat}(hi:i<n) (hj:j<n) (v:Bool):ZI3 w (wr.setCell ⟨w.heap.size+1+i,j,none⟩ (.bool v)) n (ZKt d i j v):=by
 refine ⟨h.below.setCell (by show w.heap.size<=w.heap.size+1+i;omega) _,by simpa using h.size,h.top.setOther (by show w.heap.size≠w.heap.size+1+i;omega) _,fun q hq=>?_,h.sq.set i j v⟩;by_cases e:q=i
 .subst e;refine ((h.row q hq).set j (.bool v)).congr (fun c hc=>?_);rw [ZLk h.sq hi hj];by_cases e2:c=j
  .rw [if_pos e2,if_pos ⟨rfl,e2⟩]
  .rw [if_neg e2,if_neg (fun hh=>e2 hh.2)]
 .refine ((h.row q hq).setOther (by show w.heap.size+1+q≠w.heap.size+1+i;omega) _).congr (fun c _=>?_);rw [ZLk h.sq hi hj,if_neg (fun hh=>e hh.1)]
theorem ZI3.drew {w wr:World}{n:Nat}{d:List (List Bool)}(h:ZI3 w wr n d):ZI3 w wr.drew n d:=⟨h.below.drew,h.size,h.top.drew,fun j hj=>(h.row j hj).drew,h.sq⟩
theorem ZK4 {w:World}{b t n:Nat}{f:Nat->Value}{xs:List Value}(h:w.rowIs b t n f) (hx:xs.length=n) (he:∀i,i<n->xs[i]?=some (f i)):∃L,Sl w 1 (some ⟨b,0,none⟩) n xs L/\∀y∈L,y=b:=by
 by_cases hn:n=0
 .subst hn;exact ⟨[],⟨by simpa using hx,.inl ⟨rfl,rfl⟩⟩,yG⟩
 .refine ⟨[b],⟨by simpa using hx,.inr ⟨yE,b,0,rfl,rfl,fun j u hu=>?_⟩⟩,yG⟩;have hj:j<n:=by rw [<-hx];exact (AG.1 hu).1
  rw [he j hj]at hu;obtain rfl:=A3 hu;rw [Nat.zero_add];exact h.cell hj
theorem ZKM (w:World):∀l:List Bool,ZLY.reps w (l.map Value.bool) l []
 | []=>⟨rfl,rfl⟩
 |x::l=>⟨[.bool x],l.map Value.bool,[],[],rfl,rfl,⟨rfl,rfl⟩,ZKM w l⟩
theorem ZLV {α:Type}{c:Yh α}{w:World}{B:Nat}:∀{ds:List α}{cells:List Value},cells.length=ds.length->(∀(i:Nat) (d:α) (v:Value),ds[i]?=some d->cells[i]?=some v->∃L,c.rep w [v] d L/\∀y∈L,B<=y)->∃L,c.reps w cells ds L/\∀y∈L,B<=y
 | [],cells,hl,_=>⟨[],⟨List.eq_nil_of_length_eq_zero hl,rfl⟩,yG⟩
 |d::ds,[],hl,_=>by simp at hl
 |d::ds,v::cells,hl,h=>by
  obtain ⟨L1,h1,g1⟩:=h 0 d v rfl rfl;obtain ⟨L2,h2,g2⟩:=ZLV (ds:=ds) (cells:=cells) (by simpa using hl) (fun i e u he hu=>h (i+1) e u (by simpa using he) (by simpa using hu));refine ⟨L1++L2,⟨[v],cells,L1,L2,rfl,rfl,h1,h2⟩,fun y my=>?_⟩;rcases AM.1 my with m|m
  .exact g1 y m
  .exact g2 y m
theorem ZI3.rep {w wr:World}{n:Nat}{d:List (List Bool)}(h:ZI3 w wr n d) (hn:n<=24):∃L,(Zw (Zw ZLY)).rep wr [.slice (some ⟨w.heap.size,0,none⟩) n n] d L/\∀y∈L,w.heap.size<=y:=by
 have hd:=h.sq.len;obtain ⟨L0,hs,b⟩:=ZK4 (xs:=(List.range n).map fun j=>.slice (some ⟨w.heap.size+1+j,0,none⟩) n n) h.top yG (fun i hi=>by simp [hi]);obtain ⟨L1,hr,e⟩:=ZLV (c:=Zw ZLY) (w:=wr) (B:=w.heap.size) (ds:=d) (cells:=(List.range n).map fun j=>.slice (some ⟨w.heap.size+1+j,0,none⟩) n n) (by simp [hd]) (fun i r v hr hv=>by
  have hi:i<n:=by rw [<-hd];exact (AG.1 hr).1
  have a:r.length=n:=h.sq.row r (AN hr);have f:v=.slice (some ⟨w.heap.size+1+i,0,none⟩) n n:=by simp [hi]at hv;exact hv.symm
  subst f;obtain ⟨L,hl,hL⟩:=ZK4 (xs:=r.map Value.bool) (h.row i hi) (by simp [a]) (fun j hj=>by
   have g:j<r.length:=by omega
   unfold ZJw;rw [hr];simp only;rw [AD,AC g];rfl)
  refine ⟨L++[],⟨some ⟨w.heap.size+1+i,0,none⟩,n,by rw [a],yE,by unfold maxLen;omega,r.map Value.bool,L,[],rfl,by rw [a];exact hl,ZKM wr r⟩,fun y my=>?_⟩;rw [A6]at my;rw [hL y my];omega)
 refine ⟨L0++L1,⟨some ⟨w.heap.size,0,none⟩,n,by rw [hd],yE,by unfold maxLen;omega,_,L0,L1,rfl,by rw [hd];exact hs,hr⟩,fun y my=>?_⟩;rcases AM.1 my with m|m
 .rw [b y m];exact AB _
 .exact e y m
end
section
open Go.RowKit
theorem ZL8:(prog.info? 4).map (fun i=>(i.zero,i.size,i.bytes))=some (some (.bool false),1,1):=yO
theorem ZLM:(prog.info? 151).map (fun i=>(i.zero,i.size,i.bytes))=some (some (.slice none 0 0),1,24):=yO
theorem ZJu {α β:Type}{f:β->α->β}{l:List α}{k:Nat}{x:α}{b:β}(h:l[k]?=some x):(l.take (k+1)).foldl f b=f ((l.take k).foldl f b) x:=by
 rw [List.take_add_one,h,AO];rfl
theorem ZJn {β:Type}{f:β->Nat->β}{k:Nat}{b:β}:(A5 0 (k+1)).foldl f b=f ((A5 0 k).foldl f b) k:=by
 rw [List.range'_concat,AO];simp
theorem ZLL {b:Zt}(hok:ZK3 b=true) (w:World) (cs:List Value) (L:List Nat) (hb:Q1.rep w cs b L) :
  Calls prog 261 #[.agg cs.toArray] w (fun e w'=>∃w0,Below w.heap.size w w0/\e=.returned (.slice (some ⟨w0.heap.size,0,none⟩) b.nodes.toNat b.nodes.toNat)/\ZI3 w0 w' b.nodes.toNat (ZJR b.nodes.toNat b.reasons)):=by
 obtain ⟨A1,c1,L1,e1,e2,n1,m1,s1⟩:=hb;subst e1 e2;unfold ZK3 at hok;rw [AE,decide_eq_true_iff]at hok;obtain ⟨⟨h0,am,an⟩,hr⟩:=hok;have HR:Hid (∀r∈b.reasons,(0<=r.for_/\r.for_.toNat<b.nodes.toNat)/\(∀y∈r.inn,0<=y/\y.toNat<b.nodes.toNat)/\∀y∈r.outs,0<=y/\y.toNat<b.nodes.toNat):=fun r mr=>by
  have:=AH.1 hr r mr;rw [AE,AE,decide_eq_true_iff,AH,AH]at this;obtain ⟨⟨a1,a2⟩,a3⟩:=this;refine ⟨yE,fun y my=>?_,fun y my=>?_⟩
  .have:=of_decide_eq_true (a2 y my);omega
  .have:=of_decide_eq_true (a3 y my);omega
 clear hr;have HS:Hid (Sli ZLg w A1 b.reasons _):=s1;clear s1;have S:b.nodes=(b.nodes.toNat:Int):=by omega
 obtain ⟨n,hn⟩:∃n,b.nodes.toNat=n:=⟨_,rfl⟩
 have HN:Hid (b.nodes.toNat=n):=hn;rw [hn]at S ⊢;rw [S];obtain ⟨m,hm⟩:∃m,b.reasons.length=m:=⟨_,rfl⟩
 have HM:Hid (b.reasons.length=m):=hm;rw [hm]at n1 an ⊢;have hn24:n<=24:=by omega
 clear hm hn S h0 am;have ag:∀w:World,_:=run_make_row' (P:=prog) 251 151 (.slice none 0 0) 24 underlying251 ZLM rfl .i64 .i64 n yE yE;go_enter func261,ntmps261;go_wp2;clear ag;obtain ⟨w0,A⟩:∃w0,w0=w.alloc (.cells #[.int .i64 (n:Int),.slice A1 m c1] 140):=⟨_,rfl⟩
 have T:w0.heap.size=w.heap.size+1:=by rw [A];simp
 have HB:Hid (Below w.heap.size w w0):=by rw [A];exact (Below.refl _ w).alloc (AB _) _
 have K0:Hid (Blk w0 w.heap.size 140 #[.int .i64 (n:Int),.slice A1 m c1]):=by rw [A];exact Blk.new _ _ _
 rw [<-A,<-T];have H0:Hid (w0.heap.size=w.heap.size+1):=T;have f:Hid (ZLF w0 (w0.alloc (.cells (madeCells #[.slice none 0 0] n) 151)) n 0):=ZLU w0 n;clear A T;go_loopw [19] (fun i wr=>∃(k:Nat),k<=n/\i=.int .i64 k/\Hid (ZLF w0 wr n k)) (fun i _=>n-(intOf i).toNat)
 case atStart=>exact ⟨0,A9 _,rfl,f⟩
 case round =>
  clear f;obtain ⟨k,hk,rfl,HA⟩:=hrel;by_cases M:k<n
  .have q0:wr.cell? ⟨w.heap.size,0,none⟩=some (.int .i64 (n:Int)):=(HA.out.below.cell (p:=⟨w.heap.size,0,none⟩) (by show w.heap.size<w0.heap.size;rw [H0.out];omega)).trans (K0.out.at rfl);have ag:∀w:World,_:=run_make_row' (P:=prog) 151 4 (.bool false) 1 underlying151 ZL8 rfl .i64 .i64 n yE yE;have hst1:∀o,(wr.alloc o).cell? ⟨w0.heap.size,k,none⟩=some (.slice none 0 0):=fun o=>by
    have:=(HA.out.top.alloc o).cell M;simpa using this
   have hst2:∀o,(wr.alloc o).frozen? ⟨w0.heap.size,k,none⟩=false:=fun o=>(HA.out.top.alloc o).frozen k;go_wp2;exact ⟨⟨k+1,yE,yG,HA.out.next⟩,by simp [intOf];omega⟩
  .obtain rfl:k=n:=by omega
   have HD:Hid (ZI3 w0 wr k (A4 k (A4 k false))):=HA.out.done;clear HA;have q1:wr.cell? ⟨w.heap.size,1,none⟩=some (.slice A1 m c1):=(HD.out.below.cell (p:=⟨w.heap.size,1,none⟩) (by show w.heap.size<w0.heap.size;rw [H0.out];omega)).trans (K0.out.at rfl);go_wp2;clear q1 M hk;have f:Hid (ZI3 w0 wr k ((b.reasons.take 0).foldl ZJ6 (A4 k (A4 k false)))):=HD;clear HD;go_loopw [32] (fun i wr=>∃(q:Nat),q<=m/\i=.int .i64 q/\Hid (ZI3 w0 wr k ((b.reasons.take q).foldl ZJ6 (A4 k (A4 k false))))) (fun i _=>m-(intOf i).toNat)
   case atStart=>exact ⟨0,A9 _,rfl,f⟩
   case round =>
    clear f;obtain ⟨q,hq,rfl,HA⟩:=hrel;by_cases M:q<m
    .obtain ⟨r,hr⟩:∃r,b.reasons[q]?=some r:=⟨_,AC (by have:=HM.out;omega)⟩
     have ah:q<b.reasons.length:=(AG.1 hr).1;obtain ⟨bb,off,cs,Lk,rfl,ao,hLk,Q,hc⟩:=HS.out.at_ ah;have ai:b.reasons[q]=r:=by rw [AC ah]at hr;exact A3 hr
     rw [ai]at Q;obtain ⟨Ai,ci,Li,Ao,co,Lo,e1,e2,ni,mi,si,no,mo,so⟩:=Q;subst e1;have U:bb<w.heap.size:=HS.out.lt _ ao;have l:∀{a:Addr},a.block<w.heap.size->wr.cell? a=w.cell? a:=fun {a} ha=>(HA.out.below.cell (p:=a) (by rw [H0.out];omega)).trans (HB.out.cell ha);have mr:=AN hr;obtain ⟨⟨f0,f1⟩,f2,f3⟩:=HR.out r mr;simp only[HN.out]at f1 f2 f3;obtain ⟨x,hx⟩:∃x:Nat,r.for_=x:=⟨r.for_.toNat,yE⟩
     have t:x<k:=by omega
     have HX:Hid (r.for_.toNat=x):=by show r.for_.toNat=x;omega
     have HIF:Hid (∀y∈r.inn,0<=y/\y.toNat<k):=f2;have HOF:Hid (∀y∈r.outs,0<=y/\y.toNat<k):=f3;have HI:Hid (Sli ZGg w Ai r.inn _):=si;have HO:Hid (Sli ZGg w Ao r.outs _):=so;have HQ:Hid (b.reasons[q]?=some r):=hr;have p0:wr.cell? ⟨bb,off+q*3,none⟩=some (.int .i64 r.for_):=(l U).trans (hc 0 _ rfl);have p1:wr.cell? ⟨bb,off+q*3+1,none⟩=some (.slice Ai r.inn.length ci):=(l U).trans (hc 1 _ rfl);have p2:wr.cell? ⟨bb,off+q*3+2,none⟩=some (.slice Ao r.outs.length co):=(l U).trans (hc 2 _ rfl);rw [hx]at p0;obtain ⟨pi,V⟩:∃pi,r.inn.length=pi:=⟨_,rfl⟩
     obtain ⟨po,W⟩:∃po,r.outs.length=po:=⟨_,rfl⟩
     rw [V]at p1 ni;rw [W]at p2 no;have hpb:pi<=9223372036854775807:=AF ni (by unfold maxLen at mi;omega);have hpc:po<=9223372036854775807:=AF no (by unfold maxLen at mo;omega);have HIL:Hid (r.inn.length=pi):=V;have HOL:Hid (r.outs.length=po):=W;clear hc l V W hx f0 f1 f2 f3 si so hr mr ai;go_wp2;obtain ⟨D,hD⟩:∃D,D=(b.reasons.take q).foldl ZJ6 (A4 k (A4 k false)):=⟨_,rfl⟩
     obtain ⟨w1,N⟩:∃w1,w1=wr.alloc (.cells #[.int .i64 (x:Int),.slice Ai pi ci,.slice Ao po co] 179):=⟨_,rfl⟩
     obtain ⟨g,hg⟩:∃g,g=wr.heap.size:=⟨_,rfl⟩
     have B:Hid (ZI3 w0 w1 k ((r.inn.take 0).foldl (ZI8 r.for_.toNat) D)):=by rw [N,hD];exact HA.out.later ((Below.refl _ _).alloc (AB _) _)
     have C:Hid (Blk w1 g 179 #[.int .i64 (x:Int),.slice Ai pi ci,.slice Ao po co]):=by rw [N,hg];exact Blk.new _ _ _
     have HG:Hid (w0.heap.size+1+k<=g):=by rw [hg];exact HA.out.size
     rw [<-N,<-hg];have HD0:Hid (D=(b.reasons.take q).foldl ZJ6 (A4 k (A4 k false))):=hD;clear HA N hg p0 p1 p2 hD;go_loopw [39] (fun i wr=>∃(j:Nat),j<=pi/\i=.int .i64 j/\Hid (ZI3 w0 wr k ((r.inn.take j).foldl (ZI8 r.for_.toNat) D))/\Hid (Blk wr g 179 #[.int .i64 (x:Int),.slice Ai pi ci,.slice Ao po co])) (fun i _=>pi-(intOf i).toNat)
     case atStart=>exact ⟨0,A9 _,rfl,B,C⟩
     case round =>
      clear B C;obtain ⟨j,hj,rfl,HW,HK⟩:=hrel;by_cases R:j<pi
      .have u:j<r.inn.length:=by have:=HIL.out;omega
       obtain ⟨bi,oi,ap,Lk2,rfl,F,_,z,G⟩:=HI.out.at_ u;obtain ⟨e3,_⟩:=z;subst e3;have hy:=AC u;obtain ⟨y0,y1⟩:=HIF.out _ (AP u);obtain ⟨yn,H⟩:∃yn:Nat,r.inn[j]=yn:=⟨r.inn[j].toNat,yE⟩
       have I:r.inn[j].toNat=yn:=by omega
       have J:yn<k:=by omega
       have X:bi<w.heap.size:=HI.out.lt _ F;have p3:wr.cell? ⟨bi,oi+j,none⟩=some (.int .i64 (yn:Int)):=by
        have h:=G 0 _ rfl;rw [show oi+(j*ZGg.size+0)=oi+j from by show oi+(j*1+0)=_;omega,H]at h;exact ((HW.out.below.cell (p:=⟨bi,oi+j,none⟩) (by show bi<w0.heap.size;rw [H0.out];omega)).trans (HB.out.cell (p:=⟨bi,oi+j,none⟩) X)).trans h
       have s0:wr.cell? ⟨g,0,none⟩=some (.int .i64 (x:Int)):=HK.out.at rfl;have s1:wr.cell? ⟨w0.heap.size,x,none⟩=some (.slice (some ⟨w0.heap.size+1+x,0,none⟩) k k):=HW.out.top.cell t;have s2:=(HW.out.row x t).cell J;have s3:=(HW.out.row x t).frozen yn;have HY:Hid (r.inn[j]?=some r.inn[j]/\r.inn[j].toNat=yn):=⟨hy,I⟩
       clear G hy I H y0 y1;go_wp2;refine ⟨⟨j+1,yE,yG,?_,HK.out.far (by show g ≠ w0.heap.size+1+x;have:=HG.out;omega) _⟩,by simp [intOf];omega⟩;show ZI3 w0 _ k _
       rw [ZJu HY.out.1];have e:∀d,ZI8 r.for_.toNat d r.inn[j]=ZKt d x yn true:=fun d=>by unfold ZI8;rw [HX.out,HY.out.2]
       rw [e];exact HW.out.set t J true
      .have O:j=pi:=by omega
       have q2:wr.cell? ⟨g,2,none⟩=some (.slice Ao po co):=HK.out.at rfl;go_wp2;clear q2 R hj;have B:Hid (ZI3 w0 wr k ((r.outs.take 0).foldl (ZI8 r.for_.toNat) ((r.inn.take pi).foldl (ZI8 r.for_.toNat) D))):=by rw [<-O];exact HW
       have C:=HK;clear HW HK O;go_loopw [54] (fun i wr=>∃(j:Nat),j<=po/\i=.int .i64 j/\Hid (ZI3 w0 wr k ((r.outs.take j).foldl (ZI8 r.for_.toNat) ((r.inn.take pi).foldl (ZI8 r.for_.toNat) D)))/\Hid (Blk wr g 179 #[.int .i64 (x:Int),.slice Ai pi ci,.slice Ao po co])) (fun i _=>po-(intOf i).toNat)
       case atStart=>exact ⟨0,A9 _,rfl,B,C⟩
       case round =>
        clear B C;obtain ⟨j,hj,rfl,HW,HK⟩:=hrel;by_cases R:j<po
        .have u:j<r.outs.length:=by have:=HOL.out;omega
         obtain ⟨bi,oi,ap,Lk2,rfl,F,_,z,G⟩:=HO.out.at_ u;obtain ⟨e3,_⟩:=z;subst e3;have hy:=AC u;obtain ⟨y0,y1⟩:=HOF.out _ (AP u);obtain ⟨yn,H⟩:∃yn:Nat,r.outs[j]=yn:=⟨r.outs[j].toNat,yE⟩
         have I:r.outs[j].toNat=yn:=by omega
         have J:yn<k:=by omega
         have X:bi<w.heap.size:=HO.out.lt _ F;have p3:wr.cell? ⟨bi,oi+j,none⟩=some (.int .i64 (yn:Int)):=by
          have h:=G 0 _ rfl;rw [show oi+(j*ZGg.size+0)=oi+j from by show oi+(j*1+0)=_;omega,H]at h;exact ((HW.out.below.cell (p:=⟨bi,oi+j,none⟩) (by show bi<w0.heap.size;rw [H0.out];omega)).trans (HB.out.cell (p:=⟨bi,oi+j,none⟩) X)).trans h
         have s0:wr.cell? ⟨g,0,none⟩=some (.int .i64 (x:Int)):=HK.out.at rfl;have s1:wr.cell? ⟨w0.heap.size,x,none⟩=some (.slice (some ⟨w0.heap.size+1+x,0,none⟩) k k):=HW.out.top.cell t;have s2:=(HW.out.row x t).cell J;have s3:=(HW.out.row x t).frozen yn;have HY:Hid (r.outs[j]?=some r.outs[j]/\r.outs[j].toNat=yn):=⟨hy,I⟩
         clear G hy I H y0 y1;go_wp2;refine ⟨⟨j+1,yE,yG,?_,HK.out.far (by show g ≠ w0.heap.size+1+x;have:=HG.out;omega) _⟩,by simp [intOf];omega⟩;show ZI3 w0 _ k _
         rw [ZJu HY.out.1];have e:∀d,ZI8 r.for_.toNat d r.outs[j]=ZKt d x yn true:=fun d=>by unfold ZI8;rw [HX.out,HY.out.2]
         rw [e];exact HW.out.set t J true
        .have O:j=po:=by omega
         go_wp2;refine ⟨⟨q+1,yE,yG,?_⟩,by simp [intOf];omega⟩;show ZI3 w0 _ k _
         rw [ZJu HQ.out,<-HD0.out];have h:=HW.out;rw [O,AI (AJ HOL.out),AI (AJ HIL.out)]at h;exact h
    .have aj:q=m:=by omega
     have HD:Hid (ZI3 w0 wr k (b.reasons.foldl ZJ6 (A4 k (A4 k false)))):=by
      have h:=HA.out;rw [aj,AI (AJ HM.out)]at h;exact h
     clear HA aj;go_wp2;obtain ⟨E,hE⟩:∃E,E=b.reasons.foldl ZJ6 (A4 k (A4 k false)):=⟨_,rfl⟩
     have HE:Hid (E=b.reasons.foldl ZJ6 (A4 k (A4 k false))):=hE;have f:Hid (ZI3 w0 wr k ((A5 0 0).foldl (ZKX k) E)):=by rw [hE];exact HD
     clear HD hE M hq;go_loopw [69] (fun i wr=>∃(a:Nat),a<=k/\i=.int .i64 a/\Hid (ZI3 w0 wr k ((A5 0 a).foldl (ZKX k) E))) (fun i _=>k-(intOf i).toNat)
     case atStart=>exact ⟨0,A9 _,rfl,f⟩
     case round =>
      clear f;obtain ⟨a,ha,rfl,HA⟩:=hrel;by_cases Y:a<k
      .go_wp2;obtain ⟨E1,Z⟩:∃E1,E1=(A5 0 a).foldl (ZKX k) E:=⟨_,rfl⟩
       have HE1:Hid (E1=(A5 0 a).foldl (ZKX k) E):=Z;have f:Hid (ZI3 w0 wr k ((A5 0 0).foldl (ZLd k a) E1)):=by rw [Z];exact HA
       clear HA Z;go_loopw [74] (fun i wr=>∃(c:Nat),c<=k/\i=.int .i64 c/\Hid (ZI3 w0 wr k ((A5 0 c).foldl (ZLd k a) E1))) (fun i _=>k-(intOf i).toNat)
       case atStart=>exact ⟨0,A9 _,rfl,f⟩
       case round =>
        clear f;obtain ⟨c,hc,rfl,HA⟩:=hrel;by_cases K:c<k
        .go_wp2;obtain ⟨E2,aa⟩:∃E2,E2=(A5 0 c).foldl (ZLd k a) E1:=⟨_,rfl⟩
         have HE2:Hid (E2=(A5 0 c).foldl (ZLd k a) E1):=aa;have f:Hid (ZI3 w0 wr k ((A5 0 0).foldl (ZKE a c) E2)):=by rw [aa];exact HA
         clear HA aa;go_loopw [79] (fun i wr=>∃(e:Nat),e<=k/\i=.int .i64 e/\Hid (ZI3 w0 wr k ((A5 0 e).foldl (ZKE a c) E2))) (fun i _=>k-(intOf i).toNat)
         case atStart=>exact ⟨0,A9 _,rfl,f⟩
         case round =>
          clear f;obtain ⟨e,he,rfl,HA⟩:=hrel;by_cases ab:e<k
          .obtain ⟨E3,ac⟩:∃E3,E3=(A5 0 e).foldl (ZKE a c) E2:=⟨_,rfl⟩
           have HE3:Hid (E3=(A5 0 e).foldl (ZKE a c) E2):=ac;have HW:Hid (ZI3 w0 wr k E3):=by rw [ac];exact HA
           clear HA ac;have s1:wr.cell? ⟨w0.heap.size,c,none⟩=some (.slice (some ⟨w0.heap.size+1+c,0,none⟩) k k):=HW.out.top.cell K;have s2:wr.cell? ⟨w0.heap.size,a,none⟩=some (.slice (some ⟨w0.heap.size+1+a,0,none⟩) k k):=HW.out.top.cell Y;obtain ⟨v1,ad⟩:∃v,ZJw E3 c e=v:=⟨_,rfl⟩
           obtain ⟨v2,ae⟩:∃v,ZJw E3 c a=v:=⟨_,rfl⟩
           obtain ⟨v3,af⟩:∃v,ZJw E3 a e=v:=⟨_,rfl⟩
           have u1:wr.cell? ⟨w0.heap.size+1+c,e,none⟩=some (.bool v1):=by rw [<-ad];exact (HW.out.row c K).cell ab
           have u2:wr.cell? ⟨w0.heap.size+1+c,a,none⟩=some (.bool v2):=by rw [<-ae];exact (HW.out.row c K).cell Y
           have u3:wr.cell? ⟨w0.heap.size+1+a,e,none⟩=some (.bool v3):=by rw [<-af];exact (HW.out.row a Y).cell ab
           have u4':wr.frozen? ⟨w0.heap.size+1+c,e,none⟩=false:=(HW.out.row c K).frozen e;have ak:Hid (ZI3 w0 (wr.setCell ⟨w0.heap.size+1+c,e,none⟩ (.bool (v1 || (v2 && v3)))).drew k ((A5 0 (e+1)).foldl (ZKE a c) E2)):=by
            show ZI3 w0 _ k _
            rw [ZJn,<-HE3.out];unfold ZKE;rw [ad,ae,af];exact (HW.out.set K ab _).drew
           clear ad ae af;go_wp2_with fail
           cases v1<;>cases v2<;>cases v3 <;>
            (go_big_region
             go_wp2;exact ⟨⟨e+1,yE,yG,ak⟩,by simp [intOf];omega⟩)
          .have aq:e=k:=by omega
           go_wp2;refine ⟨⟨c+1,yE,yG,?_⟩,by simp [intOf];omega⟩;show ZI3 w0 _ k _
           rw [ZJn,<-HE2.out];have h:=HA.out;rw [aq]at h;exact h
        .have ar:c=k:=by omega
         go_wp2;refine ⟨⟨a+1,yE,yG,?_⟩,by simp [intOf];omega⟩;show ZI3 w0 _ k _
         rw [ZJn,<-HE1.out];have h:=HA.out;rw [ar]at h;exact h
      .have al:a=k:=by omega
       have HF:Hid (ZI3 w0 wr k (ZJR k b.reasons)):=by
        have h:=HA.out;rw [al,HE.out]at h;exact h
       clear HA al;go_wp2;go_ret;exact ⟨w0,HB.out,rfl,HF.out⟩
theorem ZKh {a:Zt}{r:List (List Bool)}(h:ZJh a=some r):Sound prog J0 261 [(true,Qu a)] [(false,[(true,.sl 151 1 (A0 Zv9 r))])]:=by
 unfold ZJh at h;split at h
 .rename_i hok;obtain rfl:=A3 h;refine ⟨⟨f261,func261,yO,yO⟩,fun w z vs hj hz ha=>?_⟩;cases vs with
  |nil=>exact ha.elim
  |cons v vs=>
   obtain ⟨ha,hr⟩:=ha;cases vs with
   |cons _ _=>exact hr.elim
   |nil=>
    rcases ha with ⟨_,cs,L,rfl,hR,_⟩|⟨hf,_⟩
    .refine (ZLL hok w cs L (ZJm.of hR)).mono ?_;rintro e w' ⟨w0,hB,rfl,hM⟩;have c:a.nodes.toNat<=24:=by
      unfold ZK3 at hok;rw [AE,decide_eq_true_iff]at hok;omega
     obtain ⟨L2,b,d⟩:=hM.rep c;have f:=((ZMq.slice 4).sl 151).1 b;have g:∀y∈L2,¬z y:=fun y my i=>by
      have h1:=hz y i;have h2:=d y my;have h3:=hB.size;omega
     exact ⟨_,z,rfl,⟨[_],[],⟨_,[],[],[],rfl,rfl,.inr ⟨rfl,_,rfl,rfl,L2,f,g⟩,rfl,rfl⟩,Own.nil _ _,rfl⟩,fun _ h=>h,hB.trans (hM.below.mono hB.size)⟩
    .simp at hf
 .cases h
end
section
theorem Zlb {f_0:Zc}{r:Bool}(h:ZfO f_0=some r):Sound prog J0 84 [(true,eFact f_0)] [(false,[(false,.bool r)])]:=by
 refine fnk func84 rfl ?_;unfold ZfO at h;simp only[fnS,f84,Zo,go_sem,seval];refine ZPO h fun v1 e h=>Zd (Zhr e)<|yA ?_;iterate 2 refine yB h (fun _ h=>?_) fun _ h=>?_
 cases h;exact yD;refine Zh h (fun i _ st=>IV [(16,yM (yU f_0.args)),(17,yL f_0.args.length),(18,yL i)] [] st) [] [] yF yD ?_ ?_;rintro _ _ ⟨⟩ ⟨_,_,_⟩ _ a b f h g;simp only[go_sem,seval,Zb]at b;obtain ⟨⟨k,_,_⟩,hn⟩:=b;subst hn;have l:=WF.slotL f k (j:=0) rfl;have:=ZC a;have:=ZE a;have:=Zk (ZD a) l;simp only[*,go_sem,seval];refine ZPO h fun _ m h=>Zd (QG m)<|yA ?_;refine yB h (fun _ h=>?_) fun _ h=>?_;exact yR h [];replace h:=Zr h g;cases h;exact yD;rintro ⟨⟩ ⟨_,_,_⟩ d _ h;simp only[go_sem,seval,Zb]at d;obtain ⟨⟨_,_,_⟩,hn⟩:=d;subst hn;have:=ZB (f_0.args.length);iterate 2 (cases h;exact yD)
theorem Zap {s_0:ByteArray}{r:Bool}(h:Zab s_0=some r):Sound prog J0 206 [(false,[.str s_0])] [(false,[(false,.bool r)])]:=by
 refine fnk func206 rfl ?_;unfold Zab at h;simp only[fnS,f206,Zo,go_sem,seval];refine ZPO h fun v1 a h=>Zd (QG a)<|yA ?_;refine yB h (fun _ h=>?_) fun _ h=>?_;cases h;exact yD;refine ZPO h fun _ b h=>Zd (ZdX b) ?_;cases h;exact yD
theorem Zas {b_0:List Zi}{r:Bool}(h:XS b_0=some r):Sound prog J0 145 [(false,[.sl 162 2 (A0 ZR b_0)])] [(false,[(false,.bool r)])]:=by
 refine fnk func145 rfl ?_;unfold XS at h;simp only[fnS,f145,Zo,go_sem,seval];refine yB h (fun _ h=>?_) fun _ h=>?_;cases h;exact yD;refine Zh h (fun i _ st=>IV [(0,yM (yZ b_0)),(8,yM (yZ b_0)),(9,yL b_0.length),(10,yL i)] [] st) [] [] yF yD ?_ ?_;rintro _ _ ⟨⟩ ⟨_,_,_⟩ _ a b f h d;simp only[go_sem,seval,Zb]at b;obtain ⟨⟨g,_,_,_⟩,hn⟩:=b;subst hn;have k:=WF.slotL f g (j:=0) rfl;have:=ZC a;have:=ZE a;have:=Zk (ZD a) k;simp only[*,go_sem,seval];refine ZPO h fun _ l h=>Zd (ZdX l)<|yA ?_;refine yB h (fun _ h=>?_) fun _ h=>?_;refine ZPO h fun _ m h=>Zd (QG m)<|yA ?_;iterate 2 refine yB h (fun _ h=>?_) fun _ h=>?_
 obtain ⟨_,_,_,_,h⟩:=ZcM h;simp only[*,go_sem,seval];refine yB h (fun _ h=>?_) fun _ h=>?_;exact yR h [];replace h:=Zr h d;cases h;exact yD;refine ⟨_,[],[],(A3 h).symm,yF,?_⟩;iterate 2 (simp only[*,go_sem,seval];replace h:=Zr h d;cases h)
 simp only[*,go_sem,seval];rintro ⟨⟩ ⟨_,_,_⟩ e _ h;simp only[go_sem,seval,Zb]at e;obtain ⟨⟨_,_,_,_⟩,hn⟩:=e;subst hn;have:=ZB (b_0.length);cases h;exact yD
theorem Zdw {b_0:List Zi}{term_1:ByteArray}{r:(ByteArray×Bool)}(h:Zbt b_0 term_1=some r):Sound prog J0 208 [(false,[.sl 162 2 (A0 ZR b_0)]),(false,[.str term_1])] [(false,[(false,.str r.1)]),(false,[(false,.bool r.2)])]:=by
 refine fnk func208 rfl ?_;unfold Zbt at h;have e:ZbS ⟨#[]⟩=true:=by decide
 simp only[fnS,f208,Zo,go_sem,seval,e];refine ZPO h fun v1 f h=>Zd (QG f)<|yA ?_;refine yB h (fun _ h=>?_) fun _ h=>?_;cases h;exact yD;refine ZPO h fun _ g h=>Zd (ZdX g)<|yA ?_;refine yB h (fun _ h=>?_) fun _ h=>?_;refine Zh h (fun i _ st=>IV [(1,yM (.str term_1)),(14,yM (yZ b_0)),(15,yL b_0.length),(16,yL i)] [] st) [] [] yF yD ?_ ?_;rintro _ _ ⟨⟩ ⟨_,_,_⟩ _ a b k h l;simp only[go_sem,seval,Zb]at b;obtain ⟨⟨_,m,_,_⟩,hn⟩:=b;subst hn;have o:=WF.slotL k m (j:=0) rfl;have:=ZC a;have:=ZE a;have:=Zk (ZD a) o;simp only[*,go_sem,seval];refine yB h (fun _ h=>?_) fun _ h=>?_;replace h:=Zr h l;cases h;exact yD;exact yR h [];rintro ⟨⟩ ⟨_,_,_⟩ d _ h;simp only[go_sem,seval,Zb]at d;obtain ⟨⟨_,_,_,_⟩,hn⟩:=d;subst hn;have:=ZB (b_0.length);iterate 2 (cases h;exact yD)
theorem ZdW {l_0:List Zc}{r:List Zc}(h:Zad l_0=some r):Sound prog J0 132 [(false,[.sl 53 2 (A0 eFact l_0)])] [(false,[(false,.sl 53 2 (A0 eFact r))])]:=by
 refine fnk func132 rfl ?_;unfold Zad at h;simp only[fnS,f132,Zo,go_sem,seval];refine Zh h (fun i a st=>IV [(3,.p false [.row 0]),(6,yM (yT l_0)),(7,yL l_0.length),(8,yL i)] [.row 53 2 (A0 eFact a) 2] st) [(false,3,0)] [80] yF yD ?_ ?_;rintro _ _ a ⟨_,_,_⟩ _ b d f h _;simp only[go_sem,seval,Zb]at d;obtain ⟨⟨_,g,_,_⟩,_,hn⟩:=d;subst hn;have k:=WF.slotL f g (j:=0) rfl;have:=ZC b;have:=ZE b;have:=Zk (ZD b) k;simp only[*,go_sem,seval];refine ZPO h fun _ l h=>Zd (YO l) ?_;obtain ⟨m,h⟩:=Zv h;try simp only[Nat.reduceLeDiff]at m
 simp only[*,go_sem,seval];exact yR h [145];rintro a ⟨_,_,_⟩ e _ h;simp only[go_sem,seval,Zb]at e;obtain ⟨⟨_,_,_,_⟩,_,hn⟩:=e;subst hn;have:=ZB (l_0.length);cases h;exact yD
theorem ZcD {l_0:List Zc}{f_1:Zc}{r:Int}(h:Yl l_0 f_1=some r):Sound prog J0 85 [(false,[.sl 53 2 (A0 eFact l_0)]),(true,eFact f_1)] [(false,[(false,.int .i64 r)])]:=by
 refine fnk func85 rfl ?_;unfold Yl at h;simp only[fnS,f85,Zo,go_sem,seval];refine Zh h (fun i _ st=>IV [(3,.bp 0 0),(7,yM (yT l_0)),(8,yL l_0.length),(9,yL i)] [zD 53 (eFact f_1)] st) [] [0] yF yD ?_ ?_;rintro _ _ ⟨⟩ ⟨_,_,_⟩ _ a b e h f;simp only[go_sem,seval,Zb]at b;obtain ⟨⟨_,g,_,_⟩,_,hn⟩:=b;subst hn;have k:=WF.slotL e g (j:=0) rfl;have:=ZC a;have:=ZE a;have:=Zk (ZD a) k;simp only[*,go_sem,seval];refine ZPO h fun _ l h=>Zd (ZoB l)<|yA ?_;refine yB h (fun _ h=>?_) fun _ h=>?_;replace h:=Zr h f;cases h;exact yD;exact yR h [0];rintro ⟨⟩ ⟨_,_,_⟩ d _ h;simp only[go_sem,seval,Zb]at d;obtain ⟨⟨_,_,_,_⟩,_,hn⟩:=d;subst hn;have:=ZB (l_0.length);cases h;exact yD
theorem Zjw {a_0:ByteArray}{b_1:ByteArray}{r:Int}(h:Q8 a_0 b_1=some r):Sound prog J0 239 [(false,[.str a_0]),(false,[.str b_1])] [(false,[(false,.int .i64 r)])]:=by
 refine fnk func239 rfl ?_;unfold Q8 at h;simp only[fnS,f239,Zo,go_sem,seval];refine ZPO h fun v1 a h=>Zd (ZcG a)<|yA ?_;refine ZPO h fun _ b h=>Zd (ZcG b)<|yA ?_;iterate 2 refine yB h (fun _ h=>?_) fun _ h=>?_
 refine ZPO h fun _ c h=>Zd (Zcm c) ?_;iterate 2 (cases h;exact yD)
 refine yB h (fun _ h=>?_) fun _ h=>?_;cases h;exact yD;refine ZPO h fun _ d h=>Zd (Zki d) ?_;cases h;exact yD
theorem Zep {l_0:List ByteArray}{r:List ByteArray}(h:Zai l_0=some r):Sound prog J0 194 [(false,[.sl 9 1 (A0 ZA l_0)])] [(false,[(false,.sl 9 1 (A0 ZA r))])]:=by
 refine fnk func194 rfl ?_;unfold Zai at h;simp only[fnS,f194,Zo,go_sem,seval];refine Zh h (fun i a st=>IV [(3,.p false [.row 0]),(6,yM (yU l_0)),(7,yL l_0.length),(8,yL i)] [.row 9 1 (A0 ZA a) 2] st) [(false,3,0)] [80] yF yD ?_ ?_;rintro _ _ a ⟨_,_,_⟩ _ b d f h _;simp only[go_sem,seval,Zb]at d;obtain ⟨⟨_,g,_,_⟩,_,hn⟩:=d;subst hn;have k:=WF.slotL f g (j:=0) rfl;have:=ZC b;have:=ZE b;have:=Zk (ZD b) k;simp only[*,go_sem,seval];refine ZPO h fun _ l h=>Zd (ZdX l)<|yA ?_;refine yB h (fun _ h=>?_) fun _ h=>?_;obtain ⟨m,h⟩:=Zv h;try simp only[Nat.reduceLeDiff]at m
 simp only[*,go_sem,seval];exact yR h [145];exact yR h [0];rintro a ⟨_,_,_⟩ e _ h;simp only[go_sem,seval,Zb]at e;obtain ⟨⟨_,_,_,_⟩,_,hn⟩:=e;subst hn;have:=ZB (l_0.length);cases h;exact yD
theorem ZoC {a:List Zg}{a_1:ByteArray}{r:(List (ByteArray×Bool))}(h:Zeo a a_1=some r):ZqL prog J0 293 [(false,[.sl 76 4 (A0 eRule a)]),(false,[.str a_1])] (.map .str .bool (A0 eSB r)):=by
 refine fnb func293 rfl ?_;unfold Zeo at h;simp only[fnB,f293,Zo,go_sem,seval];refine Xj h (fun s st=>match s with|(o,q)=>IV [(0,yM (yW a)),(5,.p false [.row 0]),(6,.p false [.row 1])] [.map .str .bool (A0 eSB o),.row 9 1 (A0 ZA q) 2] st) [] [16,64] yF yD ?_;rintro ⟨o,q⟩ ⟨_,_,_⟩ _ t _ h z;simp only[go_sem,seval,Zb]at t;obtain ⟨⟨_,_,_⟩,_,_,hn⟩:=t;subst hn;simp only[*,go_sem,seval];refine yB h (fun _ h=>?_) fun _ h=>?_;obtain ⟨_,h⟩:=Zv h;obtain ⟨u,A,h⟩:=Za h;try simp only[seval]at A
 obtain ⟨_,h⟩:=Zv h;simp only[*,go_sem,seval];refine Zh h (fun i s st=>match s with|(d,e)=>IV [(0,yM (yW a)),(5,.p false [.row 0]),(6,.p false [.row 1]),(7,yM (.str u)),(23,yM (yW a)),(24,yL a.length),(25,yL i)] [.map .str .bool (A0 eSB d),.row 9 1 (A0 ZA e) 2] st) [] [0,130] yF yD ?_ ?_;rintro B _ ⟨d,e⟩ ⟨_,_,_⟩ _ f v C h _;simp only[go_sem,seval,Zb]at v;obtain ⟨⟨D,_,_,_,_,_,_⟩,_,_,hn⟩:=v;subst hn;have E:=WF.slotL C D (j:=0) rfl;have:=ZC f;have:=ZE f;have:=Zk (ZD f) E;simp only[*,go_sem,seval];refine ZPO h fun _ F h=>Zd (Zit F)<|yA ?_;refine ZPO h fun _ G h=>Zd (ZaB G)<|yA ?_;refine yB h (fun _ h=>?_) fun _ h=>?_;refine ZPO h fun g H h=>Zd (ZqF H)<|yA ?_
 refine Zh h (fun i s st=>match s with|(k,l)=>IV [(0,yM (yW a)),(5,.p false [.row 0]),(6,.p false [.row 1]),(7,yM (.str u)),(23,yM (yW a)),(24,yL a.length),(25,yL B),(35,.p false [.row 2]),(36,yL g.length),(37,yL i)] [.map .str .bool (A0 eSB k),.row 9 1 (A0 ZA l) 2,.row 9 1 (A0 ZA g) 2] st) [] [0,1,178] yF yD ?_ ?_;rintro _ _ ⟨k,l⟩ ⟨_,_,_⟩ _ m w I h _;simp only[go_sem,seval,Zb]at w;obtain ⟨⟨_,_,_,_,_,_,_,_,_,_⟩,_,_,J,hn⟩:=w;subst hn;have K:=WF.rowL I J;have:=ZC m;have:=ZE m;have:=Zk (ZD m) K;simp only[*,go_sem,seval];refine yB h (fun _ h=>?_) fun _ h=>?_;exact yR h [0,1,2];obtain ⟨L,h⟩:=Zv h;try simp only[Nat.reduceLeDiff]at L
 simp only[*,go_sem,seval];exact yR h [0,227,2];rintro ⟨k,l⟩ ⟨_,_,_⟩ x _ h;simp only[go_sem,seval,Zb]at x;obtain ⟨⟨_,_,_,_,_,_,_,_,_,_⟩,_,_,_,hn⟩:=x;subst hn;have:=ZB (g.length);simp only[*,go_sem,seval];exact yR h [0,1];exact yR h [0,1];rintro ⟨d,e⟩ ⟨_,_,_⟩ y _ h;simp only[go_sem,seval,Zb]at y;obtain ⟨⟨_,_,_,_,_,_,_⟩,_,_,hn⟩:=y;subst hn;have:=ZB (a.length);simp only[*,go_sem,seval];exact yR h [0,1];replace h:=Zr h z;cases h;exact yD
theorem Znn {l_0:List Zf}{r_1:Zf}{r:Bool}(h:Zbr l_0 r_1=some r):Sound prog J0 218 [(false,[.sl 179 3 (A0 ZG l_0)]),(true,ZG r_1)] [(false,[(false,.bool r)])]:=by
 refine fnk func218 rfl ?_;unfold Zbr at h;simp only[fnS,f218,Zo,go_sem,seval];refine Zh h (fun i _ st=>IV [(3,.bp 0 0),(7,yM (zA l_0)),(8,yL l_0.length),(9,yL i)] [zD 179 (ZG r_1)] st) [] [0] yF yD ?_ ?_;rintro _ _ ⟨⟩ ⟨_,_,_⟩ _ a b e h f;simp only[go_sem,seval,Zb]at b;obtain ⟨⟨_,g,_,_⟩,_,hn⟩:=b;subst hn;have k:=WF.slotL e g (j:=0) rfl;have:=ZC a;have:=ZE a;have:=Zk (ZD a) k;simp only[*,go_sem,seval];refine ZPO h fun _ l h=>Zd (ZlS l)<|yA ?_;refine yB h (fun _ h=>?_) fun _ h=>?_;replace h:=Zr h f;cases h;exact yD;exact yR h [0];rintro ⟨⟩ ⟨_,_,_⟩ d _ h;simp only[go_sem,seval,Zb]at d;obtain ⟨⟨_,_,_,_⟩,_,hn⟩:=d;subst hn;have:=ZB (l_0.length);cases h;exact yD
theorem Zr4 {b_0:Zt}{r:List Bool}(h:Zhs b_0=some r):Sound prog J0 190 [(true,Qu b_0)] [(false,[(false,.sl 4 1 (A0 Ze4 r))])]:=by
 refine fnk func190 rfl ?_;unfold Zhs at h;simp only[fnS,f190,Zo,go_sem,seval];refine ZPO h fun v1 f h=>Zd (Zq7 f)<|yA ?_;refine Zh h (fun i a st=>IV [(3,.p false [.row 0]),(7,.p false [.row 1]),(8,yL v1.length),(9,yL i)] [.row 4 1 (A0 Ze4 a) 2,.row 3 1 (A0 ZO v1) 2] st) [(false,3,0)] [112,64] yF yD ?_ ?_;rintro _ _ a ⟨_,_,_⟩ _ b d g h _;simp only[go_sem,seval,Zb]at d;obtain ⟨⟨_,_,_,_⟩,_,j,hn⟩:=d;subst hn;have k:=WF.rowL g j;have:=ZC b;have:=ZE b;have:=Zk (ZD b) k;obtain ⟨l,h⟩:=Zv h;try simp only[Nat.reduceLeDiff]at l
 simp only[*,go_sem,seval];exact yR h [130,1];rintro a ⟨_,_,_⟩ e _ h;simp only[go_sem,seval,Zb]at e;obtain ⟨⟨_,_,_,_⟩,_,_,hn⟩:=e;subst hn;have:=ZB (v1.length);cases h;exact yD
theorem ZKC {steps_0:List ZzC}{f_1:Zc}{r:Int}(h:ZJs steps_0 f_1=some r):Sound prog J0 112 [(false,[.sl 88 4 (A0 ZF5 steps_0)]),(true,eFact f_1)] [(false,[(false,.int .i64 r)])]:=by
 refine fnk func112 rfl ?_;unfold ZJs at h;simp only[fnS,f112,Zo,go_sem,seval];refine Zh h (fun i _ st=>IV [(3,.bp 0 0),(7,yM (.sl 88 4 (A0 ZF5 steps_0))),(8,yL steps_0.length),(9,yL i)] [zD 53 (eFact f_1)] st) [] [0] yF yD ?_ ?_;rintro _ _ ⟨⟩ ⟨_,_,_⟩ _ a b e h f;simp only[go_sem,seval,Zb]at b;obtain ⟨⟨_,g,_,_⟩,_,hn⟩:=b;subst hn;have k:=WF.slotL e g (j:=0) rfl;have:=ZC a;have:=ZE a;have:=Zk (ZD a) k;simp only[*,go_sem,seval];refine ZPO h fun _ l h=>Zd (ZoB l)<|yA ?_;refine yB h (fun _ h=>?_) fun _ h=>?_;replace h:=Zr h f;cases h;exact yD;exact yR h [0];rintro ⟨⟩ ⟨_,_,_⟩ d _ h;simp only[go_sem,seval,Zb]at d;obtain ⟨⟨_,_,_,_⟩,_,hn⟩:=d;subst hn;have:=ZB (steps_0.length);cases h;exact yD
theorem ZKb {b_0:Zt}{r:Bool}(h:ZIW b_0=some r):Sound prog J0 219 [(true,Qu b_0)] [(false,[(false,.bool r)])]:=by
 refine fnk func219 rfl ?_;unfold ZIW at h;simp only[fnS,f219,Zo,go_sem,seval];refine ZPO h fun v1 q h=>Zd (ZKJ q)<|yA ?_;refine yB h (fun _ h=>?_) fun _ h=>?_;obtain ⟨e,t,h⟩:=Za h;refine ZnA (ZKh t)<|yA ?_;refine Zh h (fun i _ st=>IV [(3,yM (.sl 151 1 (A0 Zv9 e))),(14,yM (zA b_0.reasons)),(15,yL b_0.reasons.length),(16,yL i)] [] st) [] [] yF yD ?_ ?_;rintro u a ⟨⟩ ⟨_,_,_⟩ _ b f v h g;simp only[go_sem,seval,Zb]at f;obtain ⟨⟨_,w,_,_⟩,hn⟩:=f;subst hn;have x:=WF.slotL v w (j:=0) rfl;have:=ZC b;have:=ZE b;have:=Zk (ZD b) x;simp only[*,go_sem,seval];refine Zh h (fun i _ st=>IV [(3,yM (.sl 151 1 (A0 Zv9 e))),(5,.bp 0 0),(14,yM (zA b_0.reasons)),(15,yL b_0.reasons.length),(16,yL u),(21,yM (yV a.outs)),(22,yL a.outs.length),(23,yL i)] [zD 179 (ZG a)] st) [] [48] yF yD ?_ ?_;rintro _ _ ⟨⟩ ⟨_,_,_⟩ _ d k y h l;simp only[go_sem,seval,Zb]at k;obtain ⟨⟨_,_,_,_,_,z,_,_⟩,_,hn⟩:=k;subst hn
 have A:=WF.slotL y z (j:=0) rfl;have:=ZC d;have:=ZE d;have:=Zk (ZD d) A;simp only[*,go_sem,seval];refine yB h (fun _ h=>?_) fun _ h=>?_;replace h:=Zr h l;replace h:=Zr h g;cases h;exact yD;obtain ⟨_,_,_,_,h⟩:=ZcM h;obtain ⟨_,_,_,_,h⟩:=ZcM h;simp only[*,go_sem,seval];refine yB h (fun _ h=>?_) fun _ h=>?_;replace h:=Zr h l;replace h:=Zr h g;cases h;exact yD;exact yR h [0];rintro ⟨⟩ ⟨_,_,_⟩ m _ h;simp only[go_sem,seval,Zb]at m;obtain ⟨⟨_,_,_,_,_,_,_,_⟩,_,hn⟩:=m;subst hn;have:=ZB (a.outs.length);simp only[*,go_sem,seval];exact yR h [];rintro ⟨⟩ ⟨_,_,_⟩ o _ h;simp only[go_sem,seval,Zb]at o;obtain ⟨⟨_,_,_,_⟩,hn⟩:=o;subst hn;have:=ZB (b_0.reasons.length);iterate 2 (cases h;exact yD)
theorem ZPT {c_0:ZwG}{n_1:Int}{r:(Bool×ZwG)}(h:ZMP c_0 n_1=some r):Zkx prog J0 JF0 99 (.box 189 (ZAW c_0)) [(false,[.int .i64 n_1])] [(false,[(false,.bool r.1)])] (.box 189 (ZAW r.2)):=by
 refine fnh func99 rfl ?_;unfold ZMP at h;simp only[fnH,f99,ZMA,ZMz,Zef,go_sem,seval];obtain ⟨v1,a,h⟩:=Za h;refine Zwm (ZPP a) ?_;cases h;exact yD
theorem Zg3 {s_0:ByteArray}{r:Bool}(h:ZdM s_0=some r):Sound prog J0 105 [(false,[.str s_0])] [(false,[(false,.bool r)])]:=by
 refine fnk func105 rfl ?_;unfold ZdM at h;simp only[fnS,f105,Zo,go_sem,seval];refine ZPO h fun v1 a h=>Zd (QA a)<|yA ?_;refine yB h (fun _ h=>?_) fun _ h=>?_;obtain ⟨_,_,b,h⟩:=ZuE h;try simp only[seval]at b
 simp only[*,go_sem,seval];refine ZPO h fun _ c h=>Zd (XM c) ?_;iterate 2 (cases h;exact yD)
theorem Zah {s_0:ByteArray}{r:Bool}(h:Za3 s_0=some r):Sound prog J0 202 [(false,[.str s_0])] [(false,[(false,.bool r)])]:=by
 refine fnk func202 rfl ?_;unfold Za3 at h;simp only[fnS,f202,Zo,go_sem,seval];refine yB h (fun _ h=>?_) fun _ h=>?_;obtain ⟨_,_,a,h⟩:=ZuE h;try simp only[seval]at a
 simp only[*,go_sem,seval];refine yB h (fun _ h=>?_) fun _ h=>?_;obtain ⟨_,h⟩:=Zv h;simp only[*,go_sem,seval];refine ZPO h fun _ b h=>Zd (QA b) ?_;iterate 3 (cases h;exact yD)
theorem ZPR {c_0:ZwG}{list_1:List ByteArray}{r:(ByteArray×ZwG)}(h:ZML c_0 list_1=some r):Zkx prog J0 JF0 100 (.box 189 (ZAW c_0)) [(false,[.sl 9 1 (A0 ZA list_1)])] [(false,[(false,.str r.1)])] (.box 189 (ZAW r.2)):=by
 refine fnh func100 rfl ?_;unfold ZML at h;have a:ZbS ⟨#[]⟩=true:=by decide
 simp only[fnH,f100,ZMA,ZMz,Zef,go_sem,seval,a];obtain ⟨v1,b,h⟩:=Za h;refine Zwm (ZPP b) ?_;obtain ⟨_,_,_,_,h⟩:=ZcM h;cases h;exact yD
theorem ZeI {a_0:ByteArray}{b_1:ByteArray}{r:Int}(h:Xz a_0 b_1=some r):Sound prog J0 116 [(false,[.str a_0]),(false,[.str b_1])] [(false,[(false,.int .i64 r)])]:=by
 refine fnk func116 rfl ?_;unfold Xz at h;simp only[fnS,f116,Zo,go_sem,seval];refine ZPO h fun v1 a h=>Zd (Zfh a)<|yA ?_;refine ZPO h fun _ b h=>Zd (Zfh b)<|yA ?_;iterate 3 refine yB h (fun _ h=>?_) fun _ h=>?_
 cases h;exact yD;refine yB h (fun _ h=>?_) fun _ h=>?_;iterate 3 (cases h;exact yD)
 refine yB h (fun _ h=>?_) fun _ h=>?_;cases h;exact yD;refine ZPO h fun _ c h=>Zd (Zmz c) ?_;cases h;exact yD
theorem ZPQ {c_0:ZwG}{list_1:List Int}{r:(Int×ZwG)}(h:ZMN c_0 list_1=some r):Zkx prog J0 JF0 168 (.box 189 (ZAW c_0)) [(false,[.sl 3 1 (A0 ZO list_1)])] [(false,[(false,.int .i64 r.1)])] (.box 189 (ZAW r.2)):=by
 refine fnh func168 rfl ?_;unfold ZMN at h;simp only[fnH,f168,ZMA,ZMz,Zef,go_sem,seval];obtain ⟨v1,a,h⟩:=Za h;refine Zwm (ZPP a) ?_;obtain ⟨_,_,_,_,h⟩:=ZcM h;cases h;exact yD
theorem ZNX {c_0:ZwG}{r:(ByteArray×Int×ZwG)}(h:ZNk c_0=some r):Zkx prog J0 JF0 275 (.box 189 (ZAW c_0)) [] [(false,[(false,.str r.1)]),(false,[(false,.int .i64 r.2.1)])] (.box 189 (ZAW r.2.2)):=by
 refine fnh func275 rfl ?_;unfold ZNk at h;have a:ZbS ⟨#[111,110]⟩=true:=by decide
 have b:ZbS ⟨#[112]⟩=true:=by decide
 have c:ZbS ⟨#[113]⟩=true:=by decide
 have d:ZbS ⟨#[122]⟩=true:=by decide
 have e:ZbS ⟨#[97,116]⟩=true:=by decide
 have f:ZbS ⟨#[]⟩=true:=by decide
 simp only[fnH,f275,ZMA,ZMz,Zef,go_sem,seval,a,b,c,d,e,f];obtain ⟨v1,g,h⟩:=Za h;refine Zwm (ZPP g) ?_;obtain ⟨i,h⟩:=Zv h;try simp only[seval]at i
 obtain ⟨j,k,h⟩:=Za h;have l:(A0 ZA [(⟨#[111,110]⟩),(⟨#[111,110]⟩),(⟨#[97,116]⟩),(⟨#[112]⟩),(⟨#[113]⟩),(⟨#[122]⟩)])[(AK v1.1)]?=some (ZA j):=by rw [AD,k];rfl
 simp only[AQ,AR,ZyN]at l;obtain ⟨m,o,h⟩:=Za h;have p:(A0 ZO [2,2,2,1,1,0])[(AK v1.1)]?=some (ZO m):=by rw [AD,o];rfl
 simp only[AQ,AR,Zza]at p;cases h;exact yD
theorem Zfo {l_0:List Zc}{r:List Zc}(h:Zbg l_0=some r):Sound prog J0 228 [(false,[.sl 53 2 (A0 eFact l_0)])] [(false,[(false,.sl 53 2 (A0 eFact r))])]:=by
 refine fnk func228 rfl ?_;unfold Zbg at h;simp only[fnS,f228,Zo,go_sem,seval];refine Zh h (fun i a st=>IV [(0,yM (yT l_0)),(3,.p false [.row 0]),(4,yL i)] [.row 53 2 (A0 eFact a) 2] st) [] [16] yF yD ?_ ?_;rintro _ _ a ⟨_,_,_⟩ _ b d f h _;simp only[go_sem,seval,Zb]at d;obtain ⟨⟨g,_,_⟩,_,hn⟩:=d;subst hn;have k:=WF.slotL f g (j:=0) rfl;have:=ZC b;have:=ZE b;have:=Zk (ZD b) k;simp only[*,go_sem,seval];refine ZPO h fun _ l h=>Zd (Xr l) ?_;obtain ⟨m,h⟩:=Zv h;try simp only[Nat.reduceLeDiff]at m
 simp only[*,go_sem,seval];exact yR h [177];rintro a ⟨_,_,_⟩ e _ h;simp only[go_sem,seval,Zb]at e;obtain ⟨⟨_,_,_⟩,_,hn⟩:=e;subst hn;have:=ZB (l_0.length);cases h;exact yD
theorem Ziy {s_0:ByteArray}{r:Bool}(h:Zd3 s_0=some r):Sound prog J0 313 [(false,[.str s_0])] [(false,[(false,.bool r)])]:=by
 refine fnk func313 rfl ?_;unfold Zd3 at h;simp only[fnS,f313,Zo,go_sem,seval];refine ZPO h fun v1 a h=>Zd (Zfh a) ?_;cases h;exact yD
end
section
theorem Ql {p_0:Zx}{r:Bool}(h:Xp p_0=some r):Sound prog J0 144 [(true,Qp p_0)] [(false,[(false,.bool r)])]:=by
 refine fnk func144 rfl ?_;unfold Xp at h;simp only[fnS,f144,Zo,go_sem,seval];refine ZPO h fun v1 e h=>Zd (Zhr e)<|yA ?_;iterate 2 refine yB h (fun _ h=>?_) fun _ h=>?_
 cases h;exact yD;refine Zh h (fun i _ st=>IV [(16,yM (yU p_0.args)),(17,yL p_0.args.length),(18,yL i)] [] st) [] [] yF yD ?_ ?_;rintro _ _ ⟨⟩ ⟨_,_,_⟩ _ a b f h g;simp only[go_sem,seval,Zb]at b;obtain ⟨⟨k,_,_⟩,hn⟩:=b;subst hn;have l:=WF.slotL f k (j:=0) rfl;have:=ZC a;have:=ZE a;have:=Zk (ZD a) l;simp only[*,go_sem,seval];refine ZPO h fun _ m h=>Zd (Zap m)<|yA ?_;refine yB h (fun _ h=>?_) fun _ h=>?_;exact yR h [];replace h:=Zr h g;cases h;exact yD;rintro ⟨⟩ ⟨_,_,_⟩ d _ h;simp only[go_sem,seval,Zb]at d;obtain ⟨⟨_,_,_⟩,hn⟩:=d;subst hn;have:=ZB (p_0.args.length);iterate 2 (cases h;exact yD)
theorem ZrV {a:List Zi}{b:ByteArray}{d:ByteArray}{r:((List Zi)×Bool)}(h:Zg4 a b d=some r):Sound prog J0 147 [(false,[.sl 162 2 (A0 ZR a)]),(false,[.str b]),(false,[.str d])] [(false,[(false,.sl 162 2 (A0 ZR r.1))]),(false,[(false,.bool r.2)])]:=by
 refine fnk func147 rfl ?_;unfold Zg4 at h;simp only[fnS,f147,Zo,go_sem,seval];refine ZPO h fun v1 o h=>Zd (Zas o)<|yA ?_;refine yB h (fun _ h=>?_) fun _ h=>?_;refine ZPO h fun _ q h=>Zd (ZdX q)<|yA ?_;refine yB h (fun _ h=>?_) fun _ h=>?_;refine ZPO h fun _ t h=>Zd (QG t)<|yA ?_;refine yB h (fun _ h=>?_) fun _ h=>?_;refine ZPO h fun _ u h=>Zd (Zdw u)<|yA ?_;iterate 2 refine yB h (fun _ h=>?_) fun _ h=>?_
 refine ZPO h fun _ v h=>Zd (Zhq v) ?_;iterate 2 (cases h;exact yD)
 refine yB h (fun _ h=>?_) fun _ h=>?_;cases h;exact yD;refine Zh h (fun i s st=>match s with|(e,f)=>IV [(1,yM (.str b)),(2,yM (.str d)),(10,.p false [.row 0]),(11,yM (.bool f)),(42,yM (yZ a)),(43,yL a.length),(44,yL i)] [.row 162 2 (A0 ZR e) 2] st) [(false,10,0)] [512] yF yD ?_ ?_;rintro _ _ ⟨e,f⟩ ⟨_,_,_⟩ _ g l x h _;simp only[go_sem,seval,Zb]at l;obtain ⟨⟨_,_,_,_,y,_,_⟩,_,hn⟩:=l;subst hn;have z:=WF.slotL x y (j:=0) rfl;have:=ZC g;have:=ZE g;have:=Zk (ZD g) z;simp only[*,go_sem,seval];refine yB h (fun _ h=>?_) fun _ h=>?_;obtain ⟨A,h⟩:=Zv h;try simp only[Nat.reduceLeDiff]at A
 simp only[*,go_sem,seval];exact yR h [257];refine Ze h (fun k h=>?_) (fun k h=>?_);have B:=k;obtain ⟨C,h⟩:=Zv h;try simp only[Nat.reduceLeDiff]at C
 simp only[*,go_sem,seval];exact yR h [257];have B:=k;obtain ⟨D,h⟩:=Zv h;try simp only[Nat.reduceLeDiff]at D
 obtain ⟨E,h⟩:=Zv h;try simp only[Nat.reduceLeDiff]at E
 simp only[*,go_sem,seval];exact yR h [385];rintro ⟨e,f⟩ ⟨_,_,_⟩ m _ h;simp only[go_sem,seval,Zb]at m;obtain ⟨⟨_,_,_,_,_,_,_⟩,_,hn⟩:=m;subst hn;have:=ZB (a.length);simp only[*,go_sem,seval];refine yB h (fun _ h=>?_) fun _ h=>?_;cases h;exact yD;obtain ⟨F,h⟩:=Zv h;try simp only[Nat.reduceLeDiff]at F
 iterate 4 (cases h;exact yD)
theorem ZeY {a_0:Zc}{b_1:Zc}{r:Int}(h:Qn a_0 b_1=some r):Sound prog J0 174 [(true,eFact a_0),(true,eFact b_1)] [(false,[(false,.int .i64 r)])]:=by
 refine fnk func174 rfl ?_;unfold Qn at h;simp only[fnS,f174,Zo,go_sem,seval];refine ZPO h fun v1 f h=>Zd (Zki f)<|yA ?_;refine yB h (fun _ h=>?_) fun _ h=>?_;cases h;exact yD;refine Zh h (fun i _ st=>IV [(2,.bp 0 0),(3,.bp 1 0),(6,yL i)] [zD 53 (eFact a_0),zD 53 (eFact b_1)] st) [] [0,16] yF yD ?_ ?_;rintro _ _ ⟨⟩ ⟨_,_,_⟩ _ a b g h d;simp only[go_sem,seval,Zb]at b;obtain ⟨⟨_,_,_⟩,k,_,hn⟩:=b;subst hn;have l:=WF.boxL g k (j:=1) rfl;have:=ZC a;have:=ZE a;have:=Zk (ZD a) l;simp only[*,go_sem,seval];refine yB h (fun _ h=>?_) fun _ h=>?_;obtain ⟨_,_,_,m,h⟩:=ZcM h;simp only[AA]at m;simp only[*,go_sem,seval];refine ZPO h fun _ o h=>Zd (Zjw o)<|yA ?_;refine yB h (fun _ h=>?_) fun _ h=>?_;replace h:=Zr h d;cases h;exact yD;exact yR h [0,1];refine ZPO h fun _ q h=>Zd (Zcm q) ?_;replace h:=Zr h d;cases h;exact yD;rintro ⟨⟩ ⟨_,_,_⟩ e _ h;simp only[go_sem,seval,Zb]at e;obtain ⟨⟨_,_,_⟩,_,_,hn⟩:=e
 subst hn;have:=ZB (a_0.args.length);simp only[*,go_sem,seval];refine ZPO h fun _ t h=>Zd (Zcm t) ?_;cases h;exact yD
theorem ZdR {r_0:Zg}{n_1:Int}{r:List ByteArray}(h:Zac r_0 n_1=some r):Sound prog J0 192 [(true,eRule r_0),(false,[.int .i64 n_1])] [(false,[(false,.sl 9 1 (A0 ZA r))])]:=by
 refine fnk func192 rfl ?_;unfold Zac at h;simp only[fnS,f192,Zo,go_sem,seval];refine Zh h (fun i a st=>IV [(1,yM (.int .i64 n_1)),(5,.p false [.row 0]),(9,yM (yX r_0.cond)),(10,yL r_0.cond.length),(11,yL i)] [.row 9 1 (A0 ZA a) 2] st) [(false,5,0)] [112] yF yD ?_ ?_;rintro _ _ a ⟨_,_,_⟩ _ b d f h _;simp only[go_sem,seval,Zb]at d;obtain ⟨⟨_,_,g,_,_⟩,_,hn⟩:=d;subst hn;have k:=WF.slotL f g (j:=0) rfl;have:=ZC b;have:=ZE b;have:=Zk (ZD b) k;simp only[*,go_sem,seval];iterate 2 refine yB h (fun _ h=>?_) fun _ h=>?_
 refine ZPO h fun _ l h=>Zd (Zep l) ?_;obtain ⟨_,h⟩:=Zv h;simp only[*,go_sem,seval];exact yR h [321];exact yR h [0];exact yR h [0];rintro a ⟨_,_,_⟩ e _ h;simp only[go_sem,seval,Zb]at e;obtain ⟨⟨_,_,_,_,_⟩,_,hn⟩:=e;subst hn;have:=ZB (r_0.cond.length);simp only[*,go_sem,seval];refine ZPO h fun _ m h=>Zd (Qy m) ?_;cases h;exact yD
theorem ZcA {x_0:Zl}{r:List ByteArray}(h:QI x_0=some r):Sound prog J0 246 [(true,ZJ x_0)] [(false,[(false,.sl 9 1 (A0 ZA r))])]:=by
 refine fnk func246 rfl ?_;unfold QI at h;simp only[fnS,f246,Zo,go_sem,seval];refine ZPO h fun v1 a h=>Zd (Zp2 a)<|yA ?_;refine ZPO h fun _ b h=>Zd (Zep b)<|yA ?_;refine ZPO h fun _ c h=>Zd (Qy c) ?_;cases h;exact yD
theorem ZjT {facts_0:List Zc}{l_1:List Zc}{r:List Int}(h:ZdB facts_0 l_1=some r):Sound prog J0 217 [(false,[.sl 53 2 (A0 eFact facts_0)]),(false,[.sl 53 2 (A0 eFact l_1)])] [(false,[(false,.sl 3 1 (A0 ZO r))])]:=by
 refine fnk func217 rfl ?_;unfold ZdB at h;simp only[fnS,f217,Zo,go_sem,seval];refine Zh h (fun i a st=>IV [(0,yM (yT facts_0)),(5,.p false [.row 0]),(9,yM (yT l_1)),(10,yL l_1.length),(11,yL i)] [.row 3 1 (A0 ZO a) 2] st) [(false,5,0)] [80] yF yD ?_ ?_;rintro _ _ a ⟨_,_,_⟩ _ b d f h _;simp only[go_sem,seval,Zb]at d;obtain ⟨⟨_,_,g,_,_⟩,_,hn⟩:=d;subst hn;have k:=WF.slotL f g (j:=0) rfl;have:=ZC b;have:=ZE b;have:=Zk (ZD b) k;simp only[*,go_sem,seval];refine ZPO h fun _ l h=>Zd (ZcD l)<|yA ?_;refine yB h (fun _ h=>?_) fun _ h=>?_;refine ZPO h fun _ m h=>Zd (Zrg m)<|yA ?_;refine yB h (fun _ h=>?_) fun _ h=>?_;exact yR h [0];obtain ⟨o,h⟩:=Zv h;try simp only[Nat.reduceLeDiff]at o
 simp only[*,go_sem,seval];exact yR h [321];exact yR h [0];rintro a ⟨_,_,_⟩ e _ h;simp only[go_sem,seval,Zb]at e;obtain ⟨⟨_,_,_,_,_⟩,_,hn⟩:=e;subst hn;have:=ZB (l_1.length);simp only[*,go_sem,seval];obtain ⟨_,q,h⟩:=Za h;refine Zwm (Zn5 q) ?_;cases h;exact yD
theorem ZoA {facts_0:List Zc}{b_1:Zt}{r:List Zc}(h:Zec facts_0 b_1=some r):Sound prog J0 128 [(false,[.sl 53 2 (A0 eFact facts_0)]),(true,Qu b_1)] [(false,[(false,.sl 53 2 (A0 eFact r))])]:=by
 refine fnk func128 rfl ?_;unfold Zec at h;simp only[fnS,f128,Zo,go_sem,seval];refine ZPO h fun v1 f h=>Zd (Zr4 f)<|yA ?_;refine Zh h (fun i a st=>IV [(0,yM (yT facts_0)),(5,.p false [.row 0]),(9,.p false [.row 1]),(10,yL v1.length),(11,yL i)] [.row 53 2 (A0 eFact a) 2,.row 4 1 (A0 Ze4 v1) 2] st) [(false,5,0)] [112,64] yF yD ?_ ?_;rintro _ _ a ⟨_,_,_⟩ _ b d g h _;simp only[go_sem,seval,Zb]at d;obtain ⟨⟨_,_,_,_,_⟩,_,j,hn⟩:=d;subst hn;have k:=WF.rowL g j;have:=ZC b;have:=ZE b;have:=Zk (ZD b) k;simp only[*,go_sem,seval];refine yB h (fun _ h=>?_) fun _ h=>?_;obtain ⟨_,_,_,l,h⟩:=ZcM h;simp only[AA]at l;simp only[*,go_sem,seval];refine ZPO h fun _ m h=>Zd (YO m) ?_;obtain ⟨o,h⟩:=Zv h;try simp only[Nat.reduceLeDiff]at o
 simp only[*,go_sem,seval];exact yR h [226,1];exact yR h [0,1];rintro a ⟨_,_,_⟩ e _ h;simp only[go_sem,seval,Zb]at e;obtain ⟨⟨_,_,_,_,_⟩,_,_,hn⟩:=e;subst hn;have:=ZB (v1.length);cases h;exact yD
theorem ZIo {b_0:List Zi}{aim_1:List Zi}{r:Bool}(h:ZHj b_0 aim_1=some r):Sound prog J0 148 [(false,[.sl 162 2 (A0 ZR b_0)]),(false,[.sl 162 2 (A0 ZR aim_1)])] [(false,[(false,.bool r)])]:=by
 refine fnk func148 rfl ?_;unfold ZHj at h;simp only[fnS,f148,Zo,go_sem,seval];refine Zh h (fun i _ st=>IV [(1,yM (yZ aim_1)),(9,yM (yZ b_0)),(10,yL b_0.length),(11,yL i)] [] st) [] [] yF yD ?_ ?_;rintro _ _ ⟨⟩ ⟨_,_,_⟩ _ a b e h f;simp only[go_sem,seval,Zb]at b;obtain ⟨⟨_,g,_,_⟩,hn⟩:=b;subst hn;have k:=WF.slotL e g (j:=0) rfl;have:=ZC a;have:=ZE a;have:=Zk (ZD a) k;simp only[*,go_sem,seval];refine ZPO h fun _ l h=>Zd (Zdw l)<|yA ?_;iterate 2 refine yB h (fun _ h=>?_) fun _ h=>?_
 exact yR h [];replace h:=Zr h f;cases h;exact yD;exact yR h [];rintro ⟨⟩ ⟨_,_,_⟩ d _ h;simp only[go_sem,seval,Zb]at d;obtain ⟨⟨_,_,_,_⟩,hn⟩:=d;subst hn;have:=ZB (b_0.length);cases h;exact yD
theorem ZKw {f_0:Zc}{r:ByteArray}(h:ZJg f_0=some r):Sound prog J0 117 [(true,eFact f_0)] [(false,[(false,.str r)])]:=by
 refine fnk func117 rfl ?_;unfold ZJg at h;have a:ZbS ⟨#[40]⟩=true:=by decide
 have b:ZbS ⟨#[41]⟩=true:=by decide
 have c:ZbS ⟨#[44]⟩=true:=by decide
 have d:ZbS ⟨#[]⟩=true:=by decide
 simp only[fnS,f117,Zo,go_sem,seval,a,b,c,d];refine ZPO h fun v1 e h=>Zd (Zlb e)<|yA ?_;refine yB h (fun _ h=>?_) fun _ h=>?_;obtain ⟨f,h⟩:=Zv h;simp only[go_sem]at f;simp only[*,go_sem,seval];refine ZPO h fun _ g h=>Zd (ZII g) ?_;obtain ⟨i,h⟩:=Zv h;simp only[go_sem]at i;obtain ⟨j,h⟩:=Zv h;simp only[go_sem]at j;iterate 2 (cases h;exact yD)
theorem Zar {s_0:ByteArray}{r:Bool}(h:Zaq s_0=some r):Sound prog J0 165 [(false,[.str s_0])] [(false,[(false,.bool r)])]:=by
 refine fnk func165 rfl ?_;unfold Zaq at h;simp only[fnS,f165,Zo,go_sem,seval];refine ZPO h fun v1 a h=>Zd (QA a)<|yA ?_;refine yB h (fun _ h=>?_) fun _ h=>?_;cases h;exact yD;refine ZPO h fun _ b h=>Zd (Zah b) ?_;cases h;exact yD
theorem Zc6 {p_0:Zx}{r:List ByteArray}(h:Zb5 p_0=some r):Sound prog J0 185 [(true,Qp p_0)] [(false,[(false,.sl 9 1 (A0 ZA r))])]:=by
 refine fnk func185 rfl ?_;unfold Zb5 at h;simp only[fnS,f185,Zo,go_sem,seval];refine Zh h (fun i a st=>IV [(1,.bp 0 0),(3,.p false [.row 1]),(4,yL i)] [.box 78 [.c (.str p_0.rel),.c (yU p_0.args)],.row 9 1 (A0 ZA a) 2] st) [] [0,32] yF yD ?_ ?_;rintro _ _ a ⟨_,_,_⟩ _ b d f h _;simp only[go_sem,seval,Zb]at d;obtain ⟨⟨_,_,_⟩,g,_,hn⟩:=d;subst hn;have k:=WF.boxL f g (j:=1) rfl;have:=ZC b;have:=ZE b;have:=Zk (ZD b) k;simp only[*,go_sem,seval];refine ZPO h fun _ l h=>Zd (Zah l)<|yA ?_;refine yB h (fun _ h=>?_) fun _ h=>?_;refine ZPO h fun _ m h=>Zd (XF m)<|yA ?_;exact yR h [0,274];exact yR h [0,1];rintro a ⟨_,_,_⟩ e _ h;simp only[go_sem,seval,Zb]at e;obtain ⟨⟨_,_,_⟩,_,_,hn⟩:=e;subst hn;have:=ZB (p_0.args.length);cases h;exact yD
theorem ZbQ {a_0:Zc}{b_1:Zc}{r:Int}(h:Xw a_0 b_1=some r):Sound prog J0 57 [(true,eFact a_0),(true,eFact b_1)] [(false,[(false,.int .i64 r)])]:=by
 refine fnk func57 rfl ?_;unfold Xw at h;simp only[fnS,f57,Zo,go_sem,seval];refine yB h (fun _ h=>?_) fun _ h=>?_;refine Zh h (fun i _ st=>IV [(2,.bp 0 0),(3,.bp 1 0),(5,yL i)] [zD 53 (eFact a_0),zD 53 (eFact b_1)] st) [] [0,16] yF yD ?_ ?_;rintro _ _ ⟨⟩ ⟨_,_,_⟩ _ a d f h b;simp only[go_sem,seval,Zb]at d;obtain ⟨⟨_,_,_⟩,g,_,hn⟩:=d;subst hn;have k:=WF.boxL f g (j:=1) rfl;have:=ZC a;have:=ZE a;have:=Zk (ZD a) k;simp only[*,go_sem,seval];refine yB h (fun _ h=>?_) fun _ h=>?_;obtain ⟨_,_,_,l,h⟩:=ZcM h;simp only[AA]at l;simp only[*,go_sem,seval];refine ZPO h fun _ m h=>Zd (ZeI m)<|yA ?_;refine yB h (fun _ h=>?_) fun _ h=>?_;replace h:=Zr h b;cases h;exact yD;exact yR h [0,1];refine yB h (fun _ h=>?_) fun _ h=>?_;replace h:=Zr h b;cases h;exact yD;refine yB h (fun _ h=>?_) fun _ h=>?_;iterate 2 (replace h:=Zr h b;cases h;simp only[*,go_sem,seval])
 rintro ⟨⟩ ⟨_,_,_⟩ e _ h;simp only[go_sem,seval,Zb]at e;obtain ⟨⟨_,_,_⟩,_,_,hn⟩:=e;subst hn;have:=ZB (a_0.args.length);iterate 2 (simp only[*,go_sem,seval];(refine Ze h (fun _ h=>?_) fun _ h=>?_<;>try simp only[*,go_sem,seval]);cases h)
 simp only[*,go_sem,seval];cases h;exact yD;refine ZPO h fun _ o h=>Zd (Zmz o) ?_;cases h;exact yD
theorem ZPV {c_0:ZwG}{r:(ByteArray×ZwG)}(h:ZMR c_0=some r):Zkx prog J0 JF0 101 (.box 189 (ZAW c_0)) [] [(false,[(false,.str r.1)])] (.box 189 (ZAW r.2)):=by
 refine fnh func101 rfl ?_;unfold ZMR at h;have a:ZbS ⟨#[49]⟩=true:=by decide
 have b:ZbS ⟨#[50]⟩=true:=by decide
 have c:ZbS ⟨#[97]⟩=true:=by decide
 have d:ZbS ⟨#[98]⟩=true:=by decide
 have e:ZbS ⟨#[99]⟩=true:=by decide
 have f:ZbS ⟨#[]⟩=true:=by decide
 simp only[fnH,f101,ZMA,ZMz,Zef,go_sem,seval,a,b,c,d,e,f];obtain ⟨v1,g,h⟩:=Za h;refine Zwm (ZPR g) ?_;cases h;exact yD
theorem ZOH {c_0:ZwG}{l_1:ByteArray}{r_2:ByteArray}{r:(Zl×ZwG)}(h:ZNx c_0 l_1 r_2=some r):Zkx prog J0 JF0 363 (.box 189 (ZAW c_0)) [(false,[.str l_1]),(false,[.str r_2])] [(true,[(false,.int .i64 r.1.kind),(false,.str r.1.pattern.rel),(false,.sl 9 1 (A0 ZA r.1.pattern.args)),(false,.str r.1.left),(false,.str r.1.right)])] (.box 189 (ZAW r.2)):=by
 refine fnh func363 rfl ?_;unfold ZNx at h;simp only[fnH,f363,ZMA,ZMz,Zef,go_sem,seval];obtain ⟨v1,a,h⟩:=Za h;refine Zwm (ZPQ a) ?_;cases h;exact yD
theorem ZMU {c_0:ZwG}{r:(ByteArray×ZwG)}(h:ZMQ c_0=some r):Zkx prog J0 JF0 232 (.box 189 (ZAW c_0)) [] [(false,[(false,.str r.1)])] (.box 189 (ZAW r.2)):=by
 refine fnh func232 rfl ?_;unfold ZMQ at h;have a:ZbS ⟨#[111,110]⟩=true:=by decide
 have b:ZbS ⟨#[120,49]⟩=true:=by decide
 have c:ZbS ⟨#[45,51]⟩=true:=by decide
 have d:ZbS ⟨#[48,48,55]⟩=true:=by decide
 have e:ZbS ⟨#[48]⟩=true:=by decide
 have f:ZbS ⟨#[49,120]⟩=true:=by decide
 have g:ZbS ⟨#[49,48,48,48,48]⟩=true:=by decide
 have i:ZbS ⟨#[49,48]⟩=true:=by decide
 have j:ZbS ⟨#[55]⟩=true:=by decide
 have k:ZbS ⟨#[57,57,57,57]⟩=true:=by decide
 have l:ZbS ⟨#[63,120]⟩=true:=by decide
 have m:ZbS ⟨#[63,63]⟩=true:=by decide
 have o:ZbS ⟨#[63,97,98,99,100,101,102,103,104]⟩=true:=by decide
 have p:ZbS ⟨#[63]⟩=true:=by decide
 have q:ZbS ⟨#[65]⟩=true:=by decide
 have t:ZbS ⟨#[97,45,98]⟩=true:=by decide
 have u:ZbS ⟨#[97,98,99,100,101,102,103,104,105]⟩=true:=by decide
 have v:ZbS ⟨#[97,98,99,100,101,102,103,104]⟩=true:=by decide
 have w:ZbS ⟨#[97]⟩=true:=by decide
 have x:ZbS ⟨#[98]⟩=true:=by decide
 have y:ZbS ⟨#[]⟩=true:=by decide
 simp only[fnH,f232,ZMA,ZMz,Zef,go_sem,seval,a,b,c,d,e,f,g,i,j,k,l,m,o,p,q,t,u,v,w,x,y];obtain ⟨v1,z,h⟩:=Za h;refine Zwm (ZPR z) ?_;cases h;exact yD
theorem s_IsFact_ok {f_0:Zc}{r:Bool}(h:ZfR f_0=some r):Sound prog J0 43 [(true,eFact f_0)] [(false,[(false,.bool r)])]:=by
 refine fnk func43 rfl ?_;unfold ZfR at h;simp only[fnS,f43,Zo,go_sem,seval];refine Zh h (fun i _ st=>IV [(1,.bp 0 0),(3,yL i)] [zD 53 (eFact f_0)] st) [] [0] yF yD ?_ ?_;rintro _ _ ⟨⟩ ⟨_,_,_⟩ _ a b e h f;simp only[go_sem,seval,Zb]at b;obtain ⟨⟨_,_⟩,g,hn⟩:=b;subst hn;have k:=WF.boxL e g (j:=1) rfl;have:=ZC a;have:=ZE a;have:=Zk (ZD a) k;simp only[*,go_sem,seval];refine ZPO h fun _ l h=>Zd (QA l)<|yA ?_;refine yB h (fun _ h=>?_) fun _ h=>?_;exact yR h [0];replace h:=Zr h f;cases h;exact yD;rintro ⟨⟩ ⟨_,_,_⟩ d _ h;simp only[go_sem,seval,Zb]at d;obtain ⟨⟨_,_⟩,_,hn⟩:=d;subst hn;have:=ZB (f_0.args.length);simp only[*,go_sem,seval];refine ZPO h fun _ m h=>Zd (Zg3 m)<|yA ?_;refine yB h (fun _ h=>?_) fun _ h=>?_;iterate 2 (cases h;exact yD)
theorem Zan {b_0:List Zi}{r:Bool}(h:XU b_0=some r):Sound prog J0 138 [(false,[.sl 162 2 (A0 ZR b_0)])] [(false,[(false,.bool r)])]:=by
 refine fnk func138 rfl ?_;unfold XU at h;simp only[fnS,f138,Zo,go_sem,seval];refine Zh h (fun i _ st=>IV [(0,yM (yZ b_0)),(3,yL i)] [] st) [] [] yF yD ?_ ?_;rintro _ _ ⟨⟩ ⟨_,_,_⟩ _ a b f h d;simp only[go_sem,seval,Zb]at b;obtain ⟨⟨g,_⟩,hn⟩:=b;subst hn;have k:=WF.slotL f g (j:=0) rfl;have:=ZC a;have:=ZE a;have:=Zk (ZD a) k;simp only[*,go_sem,seval];refine ZPO h fun _ l h=>Zd (Zah l)<|yA ?_;refine yB h (fun _ h=>?_) fun _ h=>?_;refine ZPO h fun _ m h=>Zd (QA m)<|yA ?_;iterate 2 refine yB h (fun _ h=>?_) fun _ h=>?_
 obtain ⟨_,_,_,_,h⟩:=ZcM h;simp only[*,go_sem,seval];refine yB h (fun _ h=>?_) fun _ h=>?_;exact yR h [];replace h:=Zr h d;cases h;exact yD;refine ⟨_,[],[],(A3 h).symm,yF,?_⟩;iterate 2 (simp only[*,go_sem,seval];replace h:=Zr h d;cases h)
 simp only[*,go_sem,seval];rintro ⟨⟩ ⟨_,_,_⟩ e _ h;simp only[go_sem,seval,Zb]at e;obtain ⟨⟨_,_⟩,hn⟩:=e;subst hn;have:=ZB (b_0.length);cases h;exact yD
theorem Zdu {b_0:List Zi}{term_1:ByteArray}{r:(ByteArray×Bool)}(h:Zbj b_0 term_1=some r):Sound prog J0 203 [(false,[.sl 162 2 (A0 ZR b_0)]),(false,[.str term_1])] [(false,[(false,.str r.1)]),(false,[(false,.bool r.2)])]:=by
 refine fnk func203 rfl ?_;unfold Zbj at h;have e:ZbS ⟨#[]⟩=true:=by decide
 simp only[fnS,f203,Zo,go_sem,seval,e];refine ZPO h fun v1 f h=>Zd (QA f)<|yA ?_;refine yB h (fun _ h=>?_) fun _ h=>?_;cases h;exact yD;refine Zh h (fun i _ st=>IV [(0,yM (yZ b_0)),(1,yM (.str term_1)),(6,yL i)] [] st) [] [] yF yD ?_ ?_;rintro _ _ ⟨⟩ ⟨_,_,_⟩ _ a b g h k;simp only[go_sem,seval,Zb]at b;obtain ⟨⟨l,_,_⟩,hn⟩:=b;subst hn;have m:=WF.slotL g l (j:=0) rfl;have:=ZC a;have:=ZE a;have:=Zk (ZD a) m;simp only[*,go_sem,seval];refine yB h (fun _ h=>?_) fun _ h=>?_;refine ZPO h fun _ o h=>Zd (Zah o)<|yA ?_;refine yB h (fun _ h=>?_) fun _ h=>?_;replace h:=Zr h k;cases h;exact yD;exact yR h [];exact yR h [];rintro ⟨⟩ ⟨_,_,_⟩ d _ h;simp only[go_sem,seval,Zb]at d;obtain ⟨⟨_,_,_⟩,hn⟩:=d;subst hn;have:=ZB (b_0.length);cases h;exact yD
theorem ZrY {t_0:Zq}{r:Zq}(h:ZgP t_0=some r):Sound prog J0 244 [(true,YU t_0)] [(true,[(false,.sl 53 2 (A0 eFact r.facts)),(false,.sl 162 2 (A0 ZR r.binding))])]:=by
 refine fnk func244 rfl ?_;unfold ZgP at h;simp only[fnS,f244,Zo,go_sem,seval];refine ZPO h fun v1 a h=>Zd (Zfo a)<|yA ?_;refine ZPO h fun _ b h=>Zd (ZeN b) ?_;cases h;exact yD
end
section
theorem ZbH {append_0:Zx}{String_1:Zc}{a_2:List Zi}{r:((List Zi)×Bool)}(h:QF append_0 String_1 a_2=some r):Sound prog J0 86 [(true,Qp append_0),(true,eFact String_1),(false,[.sl 162 2 (A0 ZR a_2)])] [(false,[(false,.sl 162 2 (A0 ZR r.1))]),(false,[(false,.bool r.2)])]:=by
 refine fnk func86 rfl ?_;unfold QF at h;simp only[fnS,f86,Zo,go_sem,seval];refine ZPO h fun v1 g h=>Zd (Ql g)<|yA ?_;refine yB h (fun _ h=>?_) fun _ h=>?_;refine ZPO h fun _ k h=>Zd (Zlb k)<|yA ?_;refine yB h (fun _ h=>?_) fun _ h=>?_;refine ZPO h fun _ l h=>Zd (Zas l)<|yA ?_;iterate 3 refine yB h (fun _ h=>?_) fun _ h=>?_
 cases h;exact yD;refine ZPO h fun _ m h=>Zd (Zhq m)<|yA ?_;refine Zh h (fun i a st=>IV [(4,.bp 0 0),(8,.p false [.row 1]),(45,yM (yU append_0.args)),(46,yL append_0.args.length),(47,yL i)] [zD 53 (eFact String_1),.row 162 2 (A0 ZR a) 2] st) [] [16,544] yF yD ?_ ?_;rintro _ _ a ⟨_,_,_⟩ _ b d o h e;simp only[go_sem,seval,Zb]at d;obtain ⟨⟨_,_,q,_,_⟩,_,_,hn⟩:=d;subst hn;have t:=WF.slotL o q (j:=0) rfl;have:=ZC b;have:=ZE b;have:=Zk (ZD b) t;simp only[*,go_sem,seval];refine ZPO h fun _ u h=>Zd (QG u)<|yA ?_;refine yB h (fun _ h=>?_) fun _ h=>?_;obtain ⟨_,_,_,v,h⟩:=ZcM h;simp only[AA]at v;simp only[*,go_sem,seval];refine yB h (fun _ h=>?_) fun _ h=>?_;exact yR h [0,1];replace h:=Zr h e;cases h;exact yD;obtain ⟨_,_,_,w,h⟩:=ZcM h;simp only[AA]at w;simp only[*,go_sem,seval];refine ZPO h fun _ x h=>Zd (ZrV x)<|yA ?_;refine yB h (fun _ h=>?_) fun _ h=>?_;exact yR h [0,242];replace h:=Zr h e
 cases h;exact yD;rintro a ⟨_,_,_⟩ f _ h;simp only[go_sem,seval,Zb]at f;obtain ⟨⟨_,_,_,_,_⟩,_,_,hn⟩:=f;subst hn;have:=ZB (append_0.args.length);iterate 5 (cases h;exact yD)
theorem ZhF {x_0:Zl}{r:Bool}(h:Zeh x_0=some r):Sound prog J0 149 [(true,ZJ x_0)] [(false,[(false,.bool r)])]:=by
 refine fnk func149 rfl ?_;unfold Zeh at h;have a:ZbS ⟨#[]⟩=true:=by decide
 simp only[fnS,f149,Zo,go_sem,seval,a];refine yB h (fun _ h=>?_) fun _ h=>?_;refine ZPO h fun v1 b h=>Zd (Ql b)<|yA ?_;iterate 2 refine yB h (fun _ h=>?_) fun _ h=>?_
 iterate 3 (cases h;exact yD)
 refine yB h (fun _ h=>?_) fun _ h=>?_;refine ZPO h fun _ c h=>Zd (Ql c)<|yA ?_;iterate 2 refine yB h (fun _ h=>?_) fun _ h=>?_
 iterate 3 (cases h;exact yD)
 refine yB h (fun _ h=>?_) fun _ h=>?_;refine ZPO h fun _ d h=>Zd (Zap d)<|yA ?_;refine yB h (fun _ h=>?_) fun _ h=>?_;refine ZPO h fun _ e h=>Zd (Zap e)<|yA ?_;refine yB h (fun _ h=>?_) fun _ h=>?_;refine ZPO h fun _ f h=>Zd (ZaA f) ?_;iterate 3 (cases h;exact yD)
 refine yB h (fun _ h=>?_) fun _ h=>?_;refine ZPO h fun _ g h=>Zd (Zap g)<|yA ?_;refine yB h (fun _ h=>?_) fun _ h=>?_;refine ZPO h fun _ i h=>Zd (Zap i)<|yA ?_;refine yB h (fun _ h=>?_) fun _ h=>?_;refine ZPO h fun _ j h=>Zd (ZaA j) ?_;iterate 3 (cases h;exact yD)
 refine yB h (fun _ h=>?_) fun _ h=>?_;refine ZPO h fun _ k h=>Zd (Zap k)<|yA ?_;refine yB h (fun _ h=>?_) fun _ h=>?_;refine ZPO h fun _ l h=>Zd (Zap l)<|yA ?_;refine yB h (fun _ h=>?_) fun _ h=>?_;refine ZPO h fun _ m h=>Zd (ZaA m) ?_;iterate 4 (cases h;exact yD)
theorem Zfi {p_0:Zx}{b_1:List Zi}{r:(Zc×Bool)}(h:QL p_0 b_1=some r):Sound prog J0 171 [(true,Qp p_0),(false,[.sl 162 2 (A0 ZR b_1)])] [(true,[(false,.str r.1.rel),(false,.sl 9 1 (A0 ZA r.1.args))]),(false,[(false,.bool r.2)])]:=by
 refine fnk func171 rfl ?_;unfold QL at h;simp only[fnS,f171,Zo,go_sem,seval];refine ZPO h fun v1 f h=>Zd (Ql f)<|yA ?_;refine yB h (fun _ h=>?_) fun _ h=>?_;refine ZPO h fun _ g h=>Zd (Zas g)<|yA ?_;refine yB h (fun _ h=>?_) fun _ h=>?_;refine Zh h (fun i a st=>IV [(1,yM (yZ b_1)),(4,.bp 0 0),(6,.bp 1 0),(24,yM (yU p_0.args)),(25,yL p_0.args.length),(26,yL i)] [.box 53 [.c (.str ⟨#[]⟩),.nil 9 1],.box 53 [.c (.str p_0.rel),.row 2],.row 9 1 (A0 ZA a) 2] st) [(true,224,1)] [16,224,320] yF yD ?_ ?_;rintro _ _ a ⟨_,_,_⟩ _ b d k h l;simp only[go_sem,seval,Zb]at d;obtain ⟨⟨_,_,_,m,_,_⟩,_,_,_,hn⟩:=d;subst hn;have o:=WF.slotL k m (j:=0) rfl;have:=ZC b;have:=ZE b;have:=Zk (ZD b) o;simp only[*,go_sem,seval];refine ZPO h fun _ q h=>Zd (Zdw q)<|yA ?_;refine yB h (fun _ h=>?_) fun _ h=>?_;obtain ⟨t,h⟩:=Zv h;try simp only[Nat.reduceLeDiff]at t
 simp only[*,go_sem,seval];exact yR h [0,1,291];replace h:=Zr h l;cases h;exact yD;rintro a ⟨_,_,_⟩ e _ h;simp only[go_sem,seval,Zb]at e;obtain ⟨⟨_,_,_,_,_,_⟩,_,_,_,hn⟩:=e;subst hn;have:=ZB (p_0.args.length);iterate 3 (cases h;exact yD)
theorem ZqA {a:List Zc}{f_1:Zc}{r:List Zc}(h:Qv a f_1=some r):Sound prog J0 113 [(false,[.sl 53 2 (A0 eFact a)]),(true,eFact f_1)] [(false,[(false,.sl 53 2 (A0 eFact r))])]:=by
 refine fnk func113 rfl ?_;unfold Qv at h;simp only[fnS,f113,Zo,go_sem,seval];refine Zh h (fun i s st=>match s with|(b,d)=>IV [(3,.bp 0 0),(5,.p false [.row 1]),(6,yM (.bool d)),(9,yM (yT a)),(10,yL a.length),(11,yL i)] [zD 53 (eFact f_1),.row 53 2 (A0 eFact b) 2] st) [(false,5,0)] [0,112] yF yD ?_ ?_;rintro _ _ ⟨b,d⟩ ⟨_,_,_⟩ _ e f l h _;simp only[go_sem,seval,Zb]at f;obtain ⟨⟨_,_,_,m,_,_⟩,_,_,hn⟩:=f;subst hn;have o:=WF.slotL l m (j:=0) rfl;have:=ZC e;have:=ZE e;have:=Zk (ZD e) o;simp only[*,go_sem,seval];refine yB h (fun _ h=>?_) fun _ h=>?_;refine ZPO h fun _ q h=>Zd (YO q) ?_;obtain ⟨t,h⟩:=Zv h;try simp only[Nat.reduceLeDiff]at t
 simp only[*,go_sem,seval];exact yR h [0,274];refine ZPO h fun _ u h=>Zd (ZeY u)<|yA ?_;refine yB h (fun _ h=>?_) fun _ h=>?_;refine ZPO h fun _ v h=>Zd (YO v) ?_;obtain ⟨w,h⟩:=Zv h;try simp only[Nat.reduceLeDiff]at w
 simp only[*,go_sem,seval];refine ZPO h fun _ x h=>Zd (YO x) ?_;obtain ⟨y,h⟩:=Zv h;try simp only[Nat.reduceLeDiff]at y
 simp only[*,go_sem,seval];exact yR h [0,386];refine ZPO h fun _ z h=>Zd (YO z) ?_;obtain ⟨A,h⟩:=Zv h;try simp only[Nat.reduceLeDiff]at A
 simp only[*,go_sem,seval];exact yR h [0,274];rintro ⟨b,d⟩ ⟨_,_,_⟩ g _ h;simp only[go_sem,seval,Zb]at g;obtain ⟨⟨_,_,_,_,_,_⟩,_,_,hn⟩:=g;subst hn;have:=ZB (a.length);simp only[*,go_sem,seval];refine yB h (fun _ h=>?_) fun _ h=>?_;cases h;exact yD;refine ZPO h fun _ B h=>Zd (YO B) ?_;obtain ⟨C,h⟩:=Zv h;try simp only[Nat.reduceLeDiff]at C
 cases h;exact yD
theorem Zhl {r_0:Zg}{k_1:Int}{v_2:ByteArray}{r:Bool}(h:XT r_0 k_1 v_2=some r):Sound prog J0 247 [(true,eRule r_0),(false,[.int .i64 k_1]),(false,[.str v_2])] [(false,[(false,.bool r)])]:=by
 refine fnk func247 rfl ?_;unfold XT at h;simp only[fnS,f247,Zo,go_sem,seval];refine Zh h (fun i _ st=>IV [(1,yM (.int .i64 k_1)),(2,yM (.str v_2)),(3,.bp 0 0),(12,yM (yX r_0.cond)),(13,yL r_0.cond.length),(14,yL i)] [zD 76 (eRule r_0)] st) [] [0] yF yD ?_ ?_;rintro _ _ ⟨⟩ ⟨_,_,_⟩ _ a d k h l;simp only[go_sem,seval,Zb]at d;obtain ⟨⟨_,_,_,m,_,_⟩,_,hn⟩:=d;subst hn;have o:=WF.slotL k m (j:=0) rfl;have:=ZC a;have:=ZE a;have:=Zk (ZD a) o;simp only[*,go_sem,seval];refine yB h (fun _ h=>?_) fun _ h=>?_;refine ZPO h fun _ q h=>Zd (ZcA q)<|yA ?_;refine ZPO h fun _ t h=>Zd (ZaB t)<|yA ?_;refine yB h (fun _ h=>?_) fun _ h=>?_;replace h:=Zr h l;cases h;exact yD;exact yR h [0];exact yR h [0];rintro ⟨⟩ ⟨_,_,_⟩ e _ h;simp only[go_sem,seval,Zb]at e;obtain ⟨⟨_,_,_,_,_,_⟩,_,hn⟩:=e;subst hn;have:=ZB (r_0.cond.length);simp only[*,go_sem,seval]
 refine Zh h (fun i _ st=>IV [(2,yM (.str v_2)),(30,yM (yY r_0.thn)),(31,yL r_0.thn.length),(32,yL i)] [] st) [] [] yF yD ?_ ?_;rintro _ _ ⟨⟩ ⟨_,_,_⟩ _ b f u h v;simp only[go_sem,seval,Zb]at f;obtain ⟨⟨_,w,_,_⟩,hn⟩:=f;subst hn;have x:=WF.slotL u w (j:=0) rfl;have:=ZC b;have:=ZE b;have:=Zk (ZD b) x;simp only[*,go_sem,seval];refine ZPO h fun _ y h=>Zd (ZaB y)<|yA ?_;refine yB h (fun _ h=>?_) fun _ h=>?_;replace h:=Zr h v;cases h;exact yD;exact yR h [];rintro ⟨⟩ ⟨_,_,_⟩ g _ h;simp only[go_sem,seval,Zb]at g;obtain ⟨⟨_,_,_,_⟩,hn⟩:=g;subst hn;have:=ZB (r_0.thn.length);cases h;exact yD
theorem Zou {a_0:Zu}{r:Bool}(h:ZeA a_0=some r):Sound prog J0 193 [(true,ZI a_0)] [(false,[(false,.bool r)])]:=by
 refine fnk func193 rfl ?_;unfold ZeA at h;simp only[fnS,f193,Zo,go_sem,seval];refine yB h (fun _ h=>?_) fun _ h=>?_;refine ZPO h fun v1 a h=>Zd (Ql a) ?_;cases h;exact yD;refine yB h (fun _ h=>?_) fun _ h=>?_;refine ZPO h fun _ b h=>Zd (Ql b) ?_;cases h;exact yD;refine yB h (fun _ h=>?_) fun _ h=>?_;refine ZPO h fun _ c h=>Zd (ZaA c) ?_;iterate 2 (cases h;exact yD)
theorem ZlB {l_0:List Zl}{r:List ByteArray}(h:ZbK l_0=some r):Sound prog J0 197 [(false,[.sl 80 5 (A0 ZJ l_0)])] [(false,[(false,.sl 9 1 (A0 ZA r))])]:=by
 refine fnk func197 rfl ?_;unfold ZbK at h;simp only[fnS,f197,Zo,go_sem,seval];refine Zh h (fun i a st=>IV [(3,.p false [.row 0]),(6,yM (yX l_0)),(7,yL l_0.length),(8,yL i)] [.row 9 1 (A0 ZA a) 2] st) [(false,3,0)] [80] yF yD ?_ ?_;rintro _ _ a ⟨_,_,_⟩ _ b d f h _;simp only[go_sem,seval,Zb]at d;obtain ⟨⟨_,g,_,_⟩,_,hn⟩:=d;subst hn;have k:=WF.slotL f g (j:=0) rfl;have:=ZC b;have:=ZE b;have:=Zk (ZD b) k;simp only[*,go_sem,seval];refine ZPO h fun _ l h=>Zd (ZcA l) ?_;obtain ⟨_,h⟩:=Zv h;simp only[*,go_sem,seval];exact yR h [129];rintro a ⟨_,_,_⟩ e _ h;simp only[go_sem,seval,Zb]at e;obtain ⟨⟨_,_,_,_⟩,_,hn⟩:=e;subst hn;have:=ZB (l_0.length);cases h;exact yD
theorem Zom {l_0:List Zc}{r:Bool}(h:Zei l_0=some r):Sound prog J0 256 [(false,[.sl 53 2 (A0 eFact l_0)])] [(false,[(false,.bool r)])]:=by
 refine fnk func256 rfl ?_;unfold Zei at h;simp only[fnS,f256,Zo,go_sem,seval];refine yB h (fun _ h=>?_) fun _ h=>?_;cases h;exact yD;refine Zh h (fun i _ st=>IV [(0,yM (yT l_0)),(8,yM (yT l_0)),(9,yL l_0.length),(10,yL i)] [] st) [] [] yF yD ?_ ?_;rintro _ _ ⟨⟩ ⟨_,_,_⟩ _ a b f h d;simp only[go_sem,seval,Zb]at b;obtain ⟨⟨g,_,_,_⟩,hn⟩:=b;subst hn;have k:=WF.slotL f g (j:=0) rfl;have:=ZC a;have:=ZE a;have:=Zk (ZD a) k;simp only[*,go_sem,seval];refine ZPO h fun _ l h=>Zd (Zlb l)<|yA ?_;iterate 2 refine yB h (fun _ h=>?_) fun _ h=>?_
 obtain ⟨_,_,_,_,h⟩:=ZcM h;simp only[*,go_sem,seval];refine ZPO h fun _ m h=>Zd (ZeY m)<|yA ?_;refine yB h (fun _ h=>?_) fun _ h=>?_;replace h:=Zr h d;cases h;exact yD;exact yR h [];exact yR h [];replace h:=Zr h d;cases h;exact yD;rintro ⟨⟩ ⟨_,_,_⟩ e _ h;simp only[go_sem,seval,Zb]at e;obtain ⟨⟨_,_,_,_⟩,hn⟩:=e;subst hn;have:=ZB (l_0.length);cases h;exact yD
theorem ZHc {p_0:Zx}{r:ByteArray}(h:ZGZ p_0=some r):Sound prog J0 150 [(true,Qp p_0)] [(false,[(false,.str r)])]:=by
 refine fnk func150 rfl ?_;unfold ZGZ at h;have a:ZbS ⟨#[40]⟩=true:=by decide
 have b:ZbS ⟨#[41]⟩=true:=by decide
 have c:ZbS ⟨#[44]⟩=true:=by decide
 have d:ZbS ⟨#[]⟩=true:=by decide
 simp only[fnS,f150,Zo,go_sem,seval,a,b,c,d];refine ZPO h fun v1 e h=>Zd (Ql e)<|yA ?_;refine yB h (fun _ h=>?_) fun _ h=>?_;obtain ⟨f,h⟩:=Zv h;simp only[go_sem]at f;simp only[*,go_sem,seval];refine ZPO h fun _ g h=>Zd (ZII g) ?_;obtain ⟨i,h⟩:=Zv h;simp only[go_sem]at i;obtain ⟨j,h⟩:=Zv h;simp only[go_sem]at j;iterate 2 (cases h;exact yD)
theorem ZKW {s_0:ZzC}{r:ByteArray}(h:ZJi s_0=some r):Sound prog J0 58 [(true,ZF5 s_0)] [(false,[(false,.str r)])]:=by
 refine fnk func58 rfl ?_;unfold ZJi at h;have f:ZbS ⟨#[32,102,114,111,109]⟩=true:=by decide
 have g:ZbS ⟨#[32,103,105,118,101,110]⟩=true:=by decide
 have k:ZbS ⟨#[32,98,121,32]⟩=true:=by decide
 have l:ZbS ⟨#[32]⟩=true:=by decide
 have m:ZbS ⟨#[]⟩=true:=by decide
 simp only[fnS,f58,Zo,go_sem,seval,f,g,k,l,m];refine ZPO h fun v1 o h=>Zd (Zlb o)<|yA ?_;refine yB h (fun _ h=>?_) fun _ h=>?_;refine ZPO h fun _ q h=>Zd (ZKw q)<|yA ?_;refine yB h (fun _ h=>?_) fun _ h=>?_;obtain ⟨t,h⟩:=Zv h;simp only[go_sem]at t;cases h;exact yD;obtain ⟨u,h⟩:=Zv h;simp only[go_sem]at u;obtain ⟨v,h⟩:=Zv h;simp only[go_sem]at v;obtain ⟨w,h⟩:=Zv h;simp only[go_sem]at w;simp only[*,go_sem,seval];refine Zh h (fun i a st=>IV [(3,yM (.str a)),(25,yM (yV s_0.uses)),(26,yL s_0.uses.length),(27,yL i)] [] st) [] [] yF yD ?_ ?_;rintro _ _ a ⟨_,_,_⟩ _ b d x h _;simp only[go_sem,seval,Zb]at d;obtain ⟨⟨_,y,_,_⟩,hn⟩:=d;subst hn;have z:=WF.slotL x y (j:=0) rfl;have:=ZC b;have:=ZE b;have:=Zk (ZD b) z;simp only[*,go_sem,seval];refine ZPO h fun _ A h=>Zd (Zmm A) ?_;obtain ⟨B,h⟩:=Zv h;simp only[go_sem]at B;obtain ⟨C,h⟩:=Zv h;simp only[go_sem]at C;simp only[*,go_sem,seval];exact yR h []
 rintro a ⟨_,_,_⟩ e _ h;simp only[go_sem,seval,Zb]at e;obtain ⟨⟨_,_,_,_⟩,hn⟩:=e;subst hn;have:=ZB (s_0.uses.length);iterate 2 (cases h;exact yD)
theorem Qk {p_0:Zx}{r:Bool}(h:Xq p_0=some r):Sound prog J0 137 [(true,Qp p_0)] [(false,[(false,.bool r)])]:=by
 refine fnk func137 rfl ?_;unfold Xq at h;simp only[fnS,f137,Zo,go_sem,seval];refine Zh h (fun i _ st=>IV [(1,.bp 0 0),(3,yL i)] [.box 78 [.c (.str p_0.rel),.c (yU p_0.args)]] st) [] [0] yF yD ?_ ?_;rintro _ _ ⟨⟩ ⟨_,_,_⟩ _ a b e h f;simp only[go_sem,seval,Zb]at b;obtain ⟨⟨_,_⟩,g,hn⟩:=b;subst hn;have k:=WF.boxL e g (j:=1) rfl;have:=ZC a;have:=ZE a;have:=Zk (ZD a) k;simp only[*,go_sem,seval];refine ZPO h fun _ l h=>Zd (Zar l)<|yA ?_;refine yB h (fun _ h=>?_) fun _ h=>?_;exact yR h [0];replace h:=Zr h f;cases h;exact yD;rintro ⟨⟩ ⟨_,_,_⟩ d _ h;simp only[go_sem,seval,Zb]at d;obtain ⟨⟨_,_⟩,_,hn⟩:=d;subst hn;have:=ZB (p_0.args.length);simp only[*,go_sem,seval];refine ZPO h fun _ m h=>Zd (Zg3 m)<|yA ?_;refine yB h (fun _ h=>?_) fun _ h=>?_;iterate 2 (cases h;exact yD)
theorem ZbG {r_0:Zg}{n_1:Int}{r:List ByteArray}(h:QH r_0 n_1=some r):Sound prog J0 179 [(true,eRule r_0),(false,[.int .i64 n_1])] [(false,[(false,.sl 9 1 (A0 ZA r))])]:=by
 refine fnk func179 rfl ?_;unfold QH at h;simp only[fnS,f179,Zo,go_sem,seval];refine Zh h (fun i a st=>IV [(1,yM (.int .i64 n_1)),(2,.bp 0 0),(5,.p false [.row 1]),(6,yL i)] [zD 76 (eRule r_0),.row 9 1 (A0 ZA a) 2] st) [] [0,32] yF yD ?_ ?_;rintro b _ a ⟨_,_,_⟩ _ d g q h t;simp only[go_sem,seval,Zb]at g;obtain ⟨⟨_,_,_,_⟩,u,_,hn⟩:=g;subst hn;have v:=WF.boxL q u (j:=2) rfl;have:=ZC d;have:=ZE d;have:=Zk (ZD d) v;simp only[*,go_sem,seval];iterate 2 refine yB h (fun _ h=>?_) fun _ h=>?_
 refine ZPO h fun k w h=>Zd (Zc6 w)<|yA ?_;refine Zh h (fun i e st=>IV [(1,yM (.int .i64 n_1)),(2,.bp 0 0),(5,.p false [.row 1]),(6,yL b),(7,.p false [.row 2]),(8,yL i),(16,yL b),(17,yM (.int .i64 n_1)),(18,yM (.bool (decide ((b:Int)<n_1))))] [zD 76 (eRule r_0),.row 9 1 (A0 ZA e) 2,.row 9 1 (A0 ZA k) 2] st) [] [0,1,370] yF yD ?_ ?_;rintro _ _ e ⟨_,_,_⟩ _ f l x h _;simp only[go_sem,seval,Zb]at l;obtain ⟨⟨_,_,_,_,_,_,_,_,_⟩,_,_,y,hn⟩:=l;subst hn;have z:=WF.rowL x y;have:=ZC f;have:=ZE f;have:=Zk (ZD f) z;simp only[*,go_sem,seval];refine ZPO h fun _ A h=>Zd (XF A)<|yA ?_;exact yR h [0,147,2];rintro e ⟨_,_,_⟩ m _ h;simp only[go_sem,seval,Zb]at m;obtain ⟨⟨_,_,_,_,_,_,_,_,_⟩,_,_,_,hn⟩:=m;subst hn;have:=ZB (k.length);simp only[*,go_sem,seval];exact yR h [0,1];exact yR h [0,1];replace h:=Zr h t;cases h;exact yD;rintro a ⟨_,_,_⟩ o _ h;simp only[go_sem,seval,Zb]at o
 obtain ⟨⟨_,_,_,_⟩,_,_,hn⟩:=o;subst hn;have:=ZB (r_0.cond.length);cases h;exact yD
theorem ZaP {x_0:Zl}{r:List ByteArray}(h:X3 x_0=some r):Sound prog J0 180 [(true,ZJ x_0)] [(false,[(false,.sl 9 1 (A0 ZA r))])]:=by
 refine fnk func180 rfl ?_;unfold X3 at h;simp only[fnS,f180,Zo,go_sem,seval];refine ZPO h fun v1 a h=>Zd (Zc6 a)<|yA ?_;refine ZPO h fun _ b h=>Zd (Zah b)<|yA ?_;refine yB h (fun _ h=>?_) fun _ h=>?_;refine ZPO h fun _ c h=>Zd (XF c)<|yA ?_;refine ZPO h fun _ d h=>Zd (Zah d)<|yA ?_;refine yB h (fun _ h=>?_) fun _ h=>?_;refine ZPO h fun _ e h=>Zd (XF e) ?_;iterate 2 (cases h;exact yD)
 refine ZPO h fun _ f h=>Zd (Zah f)<|yA ?_;refine yB h (fun _ h=>?_) fun _ h=>?_;refine ZPO h fun _ g h=>Zd (XF g) ?_;iterate 2 (cases h;exact yD)
end
section
theorem Zqg {r_0:Zg}{r:List ByteArray}(h:Zct r_0=some r):Sound prog J0 307 [(true,eRule r_0)] [(false,[(false,.sl 9 1 (A0 ZA r))])]:=by
 refine fnk func307 rfl ?_;unfold Zct at h;simp only[fnS,f307,Zo,go_sem,seval];refine Zh h (fun i a st=>IV [(1,.bp 0 0),(3,.p false [.row 1]),(4,yL i)] [zD 76 (eRule r_0),.row 9 1 (A0 ZA a) 2] st) [] [0,32] yF yD ?_ ?_;rintro _ _ a ⟨_,_,_⟩ _ b d f h _;simp only[go_sem,seval,Zb]at d;obtain ⟨⟨_,_,_⟩,g,_,hn⟩:=d;subst hn;have k:=WF.boxL f g (j:=2) rfl;have:=ZC b;have:=ZE b;have:=Zk (ZD b) k;simp only[*,go_sem,seval];refine yB h (fun _ h=>?_) fun _ h=>?_;refine ZPO h fun _ l h=>Zd (XF l)<|yA ?_;exact yR h [0,466];refine yB h (fun _ h=>?_) fun _ h=>?_;refine ZPO h fun _ m h=>Zd (XF m)<|yA ?_;exact yR h [0,466];exact yR h [0,1];rintro a ⟨_,_,_⟩ e _ h;simp only[go_sem,seval,Zb]at e;obtain ⟨⟨_,_,_⟩,_,_,hn⟩:=e;subst hn;have:=ZB (r_0.cond.length);cases h;exact yD
theorem ZrW {a_0:Zc}{b_1:Zc}{r:Bool}(h:Zm2 a_0 b_1=some r):Sound prog J0 136 [(true,eFact a_0),(true,eFact b_1)] [(false,[(false,.bool r)])]:=by
 refine fnk func136 rfl ?_;unfold Zm2 at h;simp only[fnS,f136,Zo,go_sem,seval];refine yB h (fun _ h=>?_) fun _ h=>?_;refine ZPO h fun v1 a h=>Zd (Zks a) ?_;iterate 2 (cases h;exact yD)
theorem ZqY {l_0:List Zf}{r_1:Zf}{r:Int}(h:Zfz l_0 r_1=some r):Sound prog J0 212 [(false,[.sl 179 3 (A0 ZG l_0)]),(true,ZG r_1)] [(false,[(false,.int .i64 r)])]:=by
 refine fnk func212 rfl ?_;unfold Zfz at h;simp only[fnS,f212,Zo,go_sem,seval];refine Zh h (fun i _ st=>IV [(0,yM (zA l_0)),(3,.bp 0 0),(5,yL i)] [zD 179 (ZG r_1)] st) [] [0] yF yD ?_ ?_;rintro _ _ ⟨⟩ ⟨_,_,_⟩ _ a b e h f;simp only[go_sem,seval,Zb]at b;obtain ⟨⟨g,_,_⟩,_,hn⟩:=b;subst hn;have k:=WF.slotL e g (j:=0) rfl;have:=ZC a;have:=ZE a;have:=Zk (ZD a) k;simp only[*,go_sem,seval];refine yB h (fun _ h=>?_) fun _ h=>?_;refine ZPO h fun _ l h=>Zd (Zgz l)<|yA ?_;refine yB h (fun _ h=>?_) fun _ h=>?_;refine ZPO h fun _ m h=>Zd (Zgz m)<|yA ?_;refine yB h (fun _ h=>?_) fun _ h=>?_;replace h:=Zr h f;cases h;exact yD;exact yR h [0];exact yR h [0];exact yR h [0];rintro ⟨⟩ ⟨_,_,_⟩ d _ h;simp only[go_sem,seval,Zb]at d;obtain ⟨⟨_,_,_⟩,_,hn⟩:=d;subst hn;have:=ZB (l_0.length);cases h;exact yD
theorem ZjJ {l_0:List Int}{n_1:Int}{r:Bool}(h:Zci l_0 n_1=some r):Sound prog J0 331 [(false,[.sl 3 1 (A0 ZO l_0)]),(false,[.int .i64 n_1])] [(false,[(false,.bool r)])]:=by
 refine fnk func331 rfl ?_;unfold Zci at h;simp only[fnS,f331,Zo,go_sem,seval];refine Zh h (fun i _ st=>IV [(0,yM (yV l_0)),(1,yM (.int .i64 n_1)),(5,yL i)] [] st) [] [] yF yD ?_ ?_;rintro _ _ ⟨⟩ ⟨_,_,_⟩ _ a b f h d;simp only[go_sem,seval,Zb]at b;obtain ⟨⟨g,_,_⟩,hn⟩:=b;subst hn;have k:=WF.slotL f g (j:=0) rfl;have:=ZC a;have:=ZE a;have:=Zk (ZD a) k;simp only[*,go_sem,seval];refine ZPO h fun _ l h=>Zd (XM l)<|yA ?_;iterate 2 refine yB h (fun _ h=>?_) fun _ h=>?_
 obtain ⟨_,_,_,_,h⟩:=ZcM h;simp only[*,go_sem,seval];refine yB h (fun _ h=>?_) fun _ h=>?_;replace h:=Zr h d;cases h;exact yD;exact yR h [];exact yR h [];replace h:=Zr h d;cases h;exact yD;rintro ⟨⟩ ⟨_,_,_⟩ e _ h;simp only[go_sem,seval,Zb]at e;obtain ⟨⟨_,_,_⟩,hn⟩:=e;subst hn;have:=ZB (l_0.length);cases h;exact yD
theorem Zos {a:Zt}{String_1:Int}{r:List Bool}(h:ZdN a String_1=some r):Sound prog J0 309 [(true,Qu a),(false,[.int .i64 String_1])] [(false,[(false,.sl 4 1 (A0 Ze4 r))])]:=by
 refine fnk func309 rfl ?_;unfold ZdN at h;simp only[fnS,f309,Zo,go_sem,seval];obtain ⟨_,h⟩:=Zv h;simp only[*,go_sem,seval];refine Xj h (fun s st=>match s with|(l,m,d)=>IV [(2,.bp 0 0),(5,.p false [.row 1]),(6,.p false [.row 2]),(7,yM (.int .i64 d))] [.box 140 [.c (.int .i64 a.nodes),.c (zA a.reasons)],.row 4 1 (A0 Ze4 l) 2,.row 3 1 (A0 ZO m) 2] st) [] [0,64,112] yF yD ?_;rintro ⟨l,m,d⟩ ⟨_,_,_⟩ _ o _ h z;simp only[go_sem,seval,Zb]at o;obtain ⟨⟨_,_,_,_⟩,_,_,_,hn⟩:=o;subst hn;simp only[*,go_sem,seval];refine yB h (fun _ h=>?_) fun _ h=>?_;refine Zh h (fun i s st=>match s with|(e,f)=>IV [(2,.bp 0 0),(5,.p false [.row 1]),(6,.p false [.row 2]),(7,yM (.int .i64 d)),(8,yL i)] [.box 140 [.c (.int .i64 a.nodes),.c (zA a.reasons)],.row 4 1 (A0 Ze4 e) 2,.row 3 1 (A0 ZO f) 2] st) [] [0,1,2] yF yD ?_ ?_;rintro A q ⟨e,f⟩ ⟨_,_,_⟩ _ g t B h _;simp only[go_sem,seval,Zb]at t
 obtain ⟨⟨_,_,_,_,_⟩,C,_,_,hn⟩:=t;subst hn;have D:=WF.boxL B C (j:=1) rfl;have:=ZC g;have:=ZE g;have:=Zk (ZD g) D;obtain ⟨_,h⟩:=Zv h;obtain ⟨_,_,h⟩:=Za h;simp only[*,go_sem,seval];refine yB h (fun _ h=>?_) fun _ h=>?_;exact yR h [0,1,2];refine ZPO h fun u E h=>Zd (Zq8 E) ?_;obtain ⟨_,h⟩:=Zv h;simp only[*,go_sem,seval];refine Xj h (fun s st=>match s with|(v,w,k)=>IV [(2,.bp 0 0),(5,.p false [.row 1]),(6,.p false [.row 2]),(7,yM (.int .i64 d)),(8,yL A),(9,.p false [.row 3]),(10,yM (.int .i64 k))] [.box 140 [.c (.int .i64 a.nodes),.c (zA a.reasons)],.row 4 1 (A0 Ze4 v) 2,.row 3 1 (A0 ZO w) 2,.row 3 1 (A0 ZO (u++q.outs)) 2] st) [] [0,1,2,467] yF yD ?_;rintro ⟨v,w,k⟩ ⟨_,_,_⟩ _ x _ h F;simp only[go_sem,seval,Zb]at x;obtain ⟨⟨_,_,_,_,_,_,_⟩,_,_,_,_,hn⟩:=x;subst hn;simp only[*,go_sem,seval];refine yB h (fun _ h=>?_) fun _ h=>?_;obtain ⟨_,h⟩:=Zv h;obtain ⟨G,H,h⟩:=Za h
 have J:(A0 ZO u++A0 ZO q.outs)[(AK k)]?=some (ZO G):=by rw [<-List.map_append,AD,H];rfl
 obtain ⟨_,h⟩:=Zv h;obtain ⟨_,_,h⟩:=Za h;simp only[*,go_sem,seval];refine yB h (fun _ h=>?_) fun _ h=>?_;exact yR h [0,1,2,3];obtain ⟨I,h⟩:=Zv h;try simp only[Nat.reduceLeDiff]at I
 simp only[*,go_sem,seval];exact yR h [0,1,404,3];replace h:=Zr h F;exact yR h [0,1,2];rintro ⟨e,f⟩ ⟨_,_,_⟩ y _ h;simp only[go_sem,seval,Zb]at y;obtain ⟨⟨_,_,_,_,_⟩,_,_,_,hn⟩:=y;subst hn;have:=ZB (a.reasons.length);simp only[*,go_sem,seval];exact yR h [0,1,2];replace h:=Zr h z;cases h;exact yD
theorem ZiI {b:Zt}{e:List Int}{f:Int}{d:List Int}{g:Int}{r:List Int}(h:Zce b e f d g=some r):Sound prog J0 278 [(true,Qu b),(false,[.sl 3 1 (A0 ZO e)]),(false,[.int .i64 f]),(false,[.sl 3 1 (A0 ZO d)]),(false,[.int .i64 g])] [(false,[(false,.sl 3 1 (A0 ZO r))])]:=by
 refine fnk func278 rfl ?_;unfold Zce at h;simp only[fnS,f278,Zo,go_sem,seval];refine Xj h (fun s st=>match s with|(l,k)=>IV [(1,yM (yV e)),(2,yM (.int .i64 f)),(3,yM (yV d)),(4,yM (.int .i64 g)),(5,.bp 0 0),(11,.p false [.row 1]),(12,yM (.int .i64 k))] [.box 140 [.c (.int .i64 b.nodes),.c (zA b.reasons)],.row 3 1 (A0 ZO l) 2] st) [] [0,32] yF yD ?_;rintro ⟨l,k⟩ ⟨_,_,_⟩ _ o _ h v;simp only[go_sem,seval,Zb]at o;obtain ⟨⟨_,_,_,_,_,_,_⟩,_,_,hn⟩:=o;subst hn;simp only[*,go_sem,seval];refine yB h (fun _ h=>?_) fun _ h=>?_;obtain ⟨_,_,_,_,h⟩:=ZcM h;simp only[*,go_sem,seval];refine yB h (fun _ h=>?_) fun _ h=>?_;exact yR h [0,1];obtain ⟨q,_,_,_,h⟩:=ZcM h;simp only[*,go_sem,seval];refine yB h (fun _ h=>?_) fun _ h=>?_;exact yR h [0,1]
 refine Zh h (fun i _ st=>IV [(1,yM (yV e)),(2,yM (.int .i64 f)),(3,yM (yV d)),(4,yM (.int .i64 g)),(5,.bp 0 0),(11,.p false [.row 1]),(12,yM (.int .i64 k)),(13,yL i),(29,yM (yV d)),(30,yM (.int .i64 k)),(32,yM (.int .i64 q)),(33,yM (.bool (decide (0<=q))))] [.box 140 [.c (.int .i64 b.nodes),.c (zA b.reasons)],.row 3 1 (A0 ZO l) 2] st) [] [0,1] yF yD ?_ ?_;rintro _ _ ⟨⟩ ⟨_,_,_⟩ _ m t w h x;simp only[go_sem,seval,Zb]at t;obtain ⟨⟨_,_,_,_,_,_,_,_,_,_,_,_⟩,y,_,hn⟩:=t;subst hn;have z:=WF.boxL w y (j:=1) rfl;have:=ZC m;have:=ZE m;have:=Zk (ZD m) z;simp only[*,go_sem,seval];refine yB h (fun _ h=>?_) fun _ h=>?_;refine ZPO h fun _ A h=>Zd (ZmL A)<|yA ?_;refine yB h (fun _ h=>?_) fun _ h=>?_;refine ZPO h fun _ B h=>Zd (Zqc B)<|yA ?_;refine yB h (fun _ h=>?_) fun _ h=>?_;obtain ⟨C,h⟩:=Zv h;try simp only[Nat.reduceLeDiff]at C
 replace h:=Zr h x;simp only[*,go_sem,seval];exact yR h [0,514];exact yR h [0,1];exact yR h [0,1];exact yR h [0,1];rintro ⟨⟩ ⟨_,_,_⟩ u _ h;simp only[go_sem,seval,Zb]at u;obtain ⟨⟨_,_,_,_,_,_,_,_,_,_,_,_⟩,_,_,hn⟩:=u;subst hn;have:=ZB (b.reasons.length);simp only[*,go_sem,seval];exact yR h [0,1];replace h:=Zr h v;cases h;exact yD
end
section
theorem ZlL {a:List Zg}{String_1:ByteArray}{b:ByteArray}{r:Bool}(h:Zb2 a String_1 b=some r):Sound prog J0 273 [(false,[.sl 76 4 (A0 eRule a)]),(false,[.str String_1]),(false,[.str b])] [(false,[(false,.bool r)])]:=by
 refine fnk func273 rfl ?_;unfold Zb2 at h;simp only[fnS,f273,Zo,go_sem,seval];refine Xj h (fun s st=>match s with|(m,e)=>IV [(0,yM (yW a)),(2,yM (.str b)),(7,.p false [.row 0]),(8,yM (.int .i64 e))] [.row 9 1 (A0 ZA m) 2] st) [] [32] yF yD ?_;rintro ⟨m,e⟩ ⟨_,_,_⟩ _ o _ h q;simp only[go_sem,seval,Zb]at o;obtain ⟨⟨_,_,_,_⟩,_,hn⟩:=o;subst hn;simp only[*,go_sem,seval];refine yB h (fun _ h=>?_) fun _ h=>?_;refine Zh h (fun i f st=>IV [(0,yM (yW a)),(2,yM (.str b)),(7,.p false [.row 0]),(8,yM (.int .i64 e)),(9,yL i)] [.row 9 1 (A0 ZA f) 2] st) [] [0] yF yD ?_ ?_;rintro y _ f ⟨_,_,_⟩ _ g t z h A;simp only[go_sem,seval,Zb]at t;obtain ⟨⟨B,_,_,_,_⟩,_,hn⟩:=t;subst hn;have C:=WF.slotL z B (j:=0) rfl;have:=ZC g;have:=ZE g;have:=Zk (ZD g) C;simp only[*,go_sem,seval];refine ZPO h fun _ D h=>Zd (Zij D) ?_;obtain ⟨_,h⟩:=Zv h;obtain ⟨_,_,h⟩:=Za h;simp only[*,go_sem,seval]
 refine ZPO h fun _ E h=>Zd (YQ E)<|yA ?_;refine yB h (fun _ h=>?_) fun _ h=>?_;refine ZPO h fun u F h=>Zd (Zqg F)<|yA ?_;refine ZPO h fun _ G h=>Zd (YQ G)<|yA ?_;refine yB h (fun _ h=>?_) fun _ h=>?_;replace h:=Zr h A;replace h:=Zr h q;cases h;exact yD;refine Zh h (fun i k st=>IV [(0,yM (yW a)),(2,yM (.str b)),(7,.p false [.row 0]),(8,yM (.int .i64 e)),(9,yL y),(10,.p false [.row 1]),(11,yL i)] [.row 9 1 (A0 ZA k) 2,.row 9 1 (A0 ZA u) 2] st) [] [0,305] yF yD ?_ ?_;rintro _ _ k ⟨_,_,_⟩ _ l v H h _;simp only[go_sem,seval,Zb]at v;obtain ⟨⟨_,_,_,_,_,_,_⟩,_,I,hn⟩:=v;subst hn;have J:=WF.rowL H I;have:=ZC l;have:=ZE l;have:=Zk (ZD l) J;simp only[*,go_sem,seval];refine ZPO h fun _ K h=>Zd (YQ K)<|yA ?_;refine yB h (fun _ h=>?_) fun _ h=>?_;exact yR h [0,1];obtain ⟨L,h⟩:=Zv h;try simp only[Nat.reduceLeDiff]at L
 simp only[*,go_sem,seval];exact yR h [274,1];rintro k ⟨_,_,_⟩ w _ h;simp only[go_sem,seval,Zb]at w;obtain ⟨⟨_,_,_,_,_,_,_⟩,_,_,hn⟩:=w;subst hn;have:=ZB (u.length);simp only[*,go_sem,seval];exact yR h [0];exact yR h [0];rintro f ⟨_,_,_⟩ x _ h;simp only[go_sem,seval,Zb]at x;obtain ⟨⟨_,_,_,_,_⟩,_,hn⟩:=x;subst hn;have:=ZB (a.length);simp only[*,go_sem,seval];exact yR h [0];replace h:=Zr h q;cases h;exact yD
theorem Zfa {l_0:List Zc}{f_1:Zc}{r:Int}(h:Zbb l_0 f_1=some r):Sound prog J0 80 [(false,[.sl 53 2 (A0 eFact l_0)]),(true,eFact f_1)] [(false,[(false,.int .i64 r)])]:=by
 refine fnk func80 rfl ?_;unfold Zbb at h;simp only[fnS,f80,Zo,go_sem,seval];refine Zh h (fun i _ st=>IV [(0,yM (yT l_0)),(3,.bp 0 0),(5,yL i)] [zD 53 (eFact f_1)] st) [] [0] yF yD ?_ ?_;rintro _ _ ⟨⟩ ⟨_,_,_⟩ _ a b e h f;simp only[go_sem,seval,Zb]at b;obtain ⟨⟨g,_,_⟩,_,hn⟩:=b;subst hn;have k:=WF.slotL e g (j:=0) rfl;have:=ZC a;have:=ZE a;have:=Zk (ZD a) k;simp only[*,go_sem,seval];refine ZPO h fun _ l h=>Zd (ZrW l)<|yA ?_;refine yB h (fun _ h=>?_) fun _ h=>?_;replace h:=Zr h f;cases h;exact yD;exact yR h [0];rintro ⟨⟩ ⟨_,_,_⟩ d _ h;simp only[go_sem,seval,Zb]at d;obtain ⟨⟨_,_,_⟩,_,hn⟩:=d;subst hn;have:=ZB (l_0.length);cases h;exact yD
theorem ZnW {b_0:Zt}{r:Bool}(h:ZcJ b_0=some r):Sound prog J0 308 [(true,Qu b_0)] [(false,[(false,.bool r)])]:=by
 refine fnk func308 rfl ?_;unfold ZcJ at h;simp only[fnS,f308,Zo,go_sem,seval];refine Zh h (fun i _ st=>IV [(1,.bp 0 0),(3,yL i)] [.box 140 [.c (.int .i64 b_0.nodes),.c (zA b_0.reasons)]] st) [] [0] yF yD ?_ ?_;rintro _ _ ⟨⟩ ⟨_,_,_⟩ _ a b e h f;simp only[go_sem,seval,Zb]at b;obtain ⟨⟨_,_⟩,g,hn⟩:=b;subst hn;have k:=WF.boxL e g (j:=1) rfl;have:=ZC a;have:=ZE a;have:=Zk (ZD a) k;simp only[*,go_sem,seval];refine ZPO h fun _ l h=>Zd (XM l)<|yA ?_;refine yB h (fun _ h=>?_) fun _ h=>?_;refine ZPO h fun _ m h=>Zd (ZjJ m)<|yA ?_;refine yB h (fun _ h=>?_) fun _ h=>?_;refine ZPO h fun _ o h=>Zd (ZjJ o)<|yA ?_;refine yB h (fun _ h=>?_) fun _ h=>?_;refine ⟨_,[],[0],(A3 h).symm,yF,?_⟩;iterate 3 (simp only[*,go_sem,seval];replace h:=Zr h f;cases h)
 simp only[*,go_sem,seval];rintro ⟨⟩ ⟨_,_,_⟩ d _ h;simp only[go_sem,seval,Zb]at d;obtain ⟨⟨_,_⟩,_,hn⟩:=d;subst hn;have:=ZB (b_0.reasons.length);simp only[*,go_sem,seval];refine ZPO h fun _ q h=>Zd (XM q)<|yA ?_;refine yB h (fun _ h=>?_) fun _ h=>?_;iterate 2 (cases h;exact yD)
end
section
theorem ZiF {l_0:List Zc}{facts_1:List Zc}{r:List Int}(h:Zcn l_0 facts_1=some r):Sound prog J0 251 [(false,[.sl 53 2 (A0 eFact l_0)]),(false,[.sl 53 2 (A0 eFact facts_1)])] [(false,[(false,.sl 3 1 (A0 ZO r))])]:=by
 refine fnk func251 rfl ?_;unfold Zcn at h;simp only[fnS,f251,Zo,go_sem,seval];refine Zh h (fun i a st=>IV [(0,yM (yT l_0)),(1,yM (yT facts_1)),(5,.p false [.row 0]),(6,yL i)] [.row 3 1 (A0 ZO a) 2] st) [] [16] yF yD ?_ ?_;rintro _ _ a ⟨_,_,_⟩ _ b d f h _;simp only[go_sem,seval,Zb]at d;obtain ⟨⟨_,g,_,_⟩,_,hn⟩:=d;subst hn;have k:=WF.slotL f g (j:=0) rfl;have:=ZC b;have:=ZE b;have:=Zk (ZD b) k;simp only[*,go_sem,seval];refine ZPO h fun _ l h=>Zd (Zfa l)<|yA ?_;refine yB h (fun _ h=>?_) fun _ h=>?_;refine ZPO h fun _ m h=>Zd (ZsW m)<|yA ?_;exact yR h [241];exact yR h [0];rintro a ⟨_,_,_⟩ e _ h;simp only[go_sem,seval,Zb]at e;obtain ⟨⟨_,_,_,_⟩,_,hn⟩:=e;subst hn;have:=ZB (facts_1.length);cases h;exact yD
theorem ZeL {b_0:Zt}{r:Bool}(h:Qx b_0=some r):Sound prog J0 276 [(true,Qu b_0)] [(false,[(false,.bool r)])]:=by
 refine fnk func276 rfl ?_;unfold Qx at h;simp only[fnS,f276,Zo,go_sem,seval];refine ZPO h fun v1 o h=>Zd (ZnW o)<|yA ?_;refine yB h (fun _ h=>?_) fun _ h=>?_;refine Zh h (fun i _ st=>IV [(1,.bp 0 0),(3,yL i)] [.box 140 [.c (.int .i64 b_0.nodes),.c (zA b_0.reasons)]] st) [] [0] yF yD ?_ ?_;rintro q d ⟨⟩ ⟨_,_,_⟩ _ a e t h f;simp only[go_sem,seval,Zb]at e;obtain ⟨⟨_,_⟩,u,hn⟩:=e;subst hn;have v:=WF.boxL t u (j:=1) rfl;have:=ZC a;have:=ZE a;have:=Zk (ZD a) v;simp only[*,go_sem,seval];refine Zh h (fun i _ st=>IV [(1,.bp 0 0),(3,yL q),(4,yM (.int .i64 d.for_)),(5,yL i)] [.box 140 [.c (.int .i64 b_0.nodes),.c (zA b_0.reasons)]] st) [] [0] yF yD ?_ ?_;rintro _ _ ⟨⟩ ⟨_,_,_⟩ _ b g w h k;simp only[go_sem,seval,Zb]at g;obtain ⟨⟨_,_,_,_⟩,x,hn⟩:=g;subst hn;have y:=WF.elL (WF.boxD w x (j:=1) rfl) a (j:=2) rfl;have:=ZC b;have:=ZE b;have:=Zk (ZD b) y;simp only[*,go_sem,seval]
 refine yB h (fun _ h=>?_) fun _ h=>?_;replace h:=Zr h k;replace h:=Zr h f;cases h;exact yD;refine ZPO h fun _ z h=>Zd (Zos z) ?_;obtain ⟨_,h⟩:=Zv h;obtain ⟨_,_,h⟩:=Za h;simp only[*,go_sem,seval];refine yB h (fun _ h=>?_) fun _ h=>?_;replace h:=Zr h k;replace h:=Zr h f;cases h;exact yD;exact yR h [0];rintro ⟨⟩ ⟨_,_,_⟩ l _ h;simp only[go_sem,seval,Zb]at l;obtain ⟨⟨_,_,_,_⟩,_,hn⟩:=l;subst hn;have:=ZB (d.outs.length);simp only[*,go_sem,seval];exact yR h [0];rintro ⟨⟩ ⟨_,_,_⟩ m _ h;simp only[go_sem,seval,Zb]at m;obtain ⟨⟨_,_⟩,_,hn⟩:=m;subst hn;have:=ZB (b_0.reasons.length);iterate 2 (cases h;exact yD)
theorem w_holds_ok {l_0:List Zc}{f_1:Zc}{r:Bool}(h:ZNv l_0 f_1=some r):Sound prog J0 44 [(false,[.sl 53 2 (A0 eFact l_0)]),(true,eFact f_1)] [(false,[(false,.bool r)])]:=by
 refine fnk func44 rfl ?_;unfold ZNv at h;simp only[fnS,f44,Zo,go_sem,seval];refine ZPO h fun v1 a h=>Zd (Zfa a) ?_;cases h;exact yD
end
section
theorem ZtP {a:List Zc}{f_1:Zc}{r:List Zc}(h:ZcF a f_1=some r):Sound prog J0 229 [(false,[.sl 53 2 (A0 eFact a)]),(true,eFact f_1)] [(false,[(false,.sl 53 2 (A0 eFact r))])]:=by
 refine fnk func229 rfl ?_;unfold ZcF at h;simp only[fnS,f229,Zo,go_sem,seval];refine Zh h (fun i s st=>match s with|(b,d)=>IV [(0,yM (yT a)),(3,.bp 0 0),(5,.p false [.row 1]),(6,yM (.bool d)),(7,yL i)] [zD 53 (eFact f_1),.row 53 2 (A0 eFact b) 2] st) [] [0,32] yF yD ?_ ?_;rintro _ _ ⟨b,d⟩ ⟨_,_,_⟩ _ e f k h _;simp only[go_sem,seval,Zb]at f;obtain ⟨⟨l,_,_,_,_⟩,_,_,hn⟩:=f;subst hn;have m:=WF.slotL k l (j:=0) rfl;have:=ZC e;have:=ZE e;have:=Zk (ZD e) m;simp only[*,go_sem,seval];refine yB h (fun _ h=>?_) fun _ h=>?_;refine ZPO h fun _ o h=>Zd (Xr o) ?_;obtain ⟨q,h⟩:=Zv h;try simp only[Nat.reduceLeDiff]at q
 simp only[*,go_sem,seval];exact yR h [0,354];refine ZPO h fun _ t h=>Zd (ZbQ t)<|yA ?_;refine yB h (fun _ h=>?_) fun _ h=>?_;refine ZPO h fun _ u h=>Zd (ZbQ u)<|yA ?_;refine yB h (fun _ h=>?_) fun _ h=>?_;refine ZPO h fun _ v h=>Zd (Xr v) ?_;obtain ⟨w,h⟩:=Zv h;try simp only[Nat.reduceLeDiff]at w
 simp only[*,go_sem,seval];refine ZPO h fun _ x h=>Zd (Xr x) ?_;obtain ⟨y,h⟩:=Zv h;try simp only[Nat.reduceLeDiff]at y
 simp only[*,go_sem,seval];exact yR h [0,578];refine ZPO h fun _ z h=>Zd (Xr z) ?_;obtain ⟨A,h⟩:=Zv h;try simp only[Nat.reduceLeDiff]at A
 simp only[*,go_sem,seval];exact yR h [0,482];refine ZPO h fun _ B h=>Zd (Xr B) ?_;obtain ⟨C,h⟩:=Zv h;try simp only[Nat.reduceLeDiff]at C
 simp only[*,go_sem,seval];exact yR h [0,354];rintro ⟨b,d⟩ ⟨_,_,_⟩ g _ h;simp only[go_sem,seval,Zb]at g;obtain ⟨⟨_,_,_,_,_⟩,_,_,hn⟩:=g;subst hn;have:=ZB (a.length);simp only[*,go_sem,seval];refine yB h (fun _ h=>?_) fun _ h=>?_;cases h;exact yD;refine ZPO h fun _ D h=>Zd (Xr D) ?_;obtain ⟨E,h⟩:=Zv h;try simp only[Nat.reduceLeDiff]at E
 cases h;exact yD
theorem ZNj {c_0:ZwG}{r:(ByteArray×ZwG)}(h:ZM3 c_0=some r):Zkx prog J0 JF0 362 (.box 189 (ZAW c_0)) [] [(false,[(false,.str r.1)])] (.box 189 (ZAW r.2)):=by
 refine fnh func362 rfl ?_;unfold ZM3 at h;have a:ZbS ⟨#[63,120]⟩=true:=by decide
 have b:ZbS ⟨#[63,121]⟩=true:=by decide
 have c:ZbS ⟨#[63,122]⟩=true:=by decide
 have d:ZbS ⟨#[]⟩=true:=by decide
 simp only[fnH,f362,ZMA,ZMz,Zef,go_sem,seval,a,b,c,d];obtain ⟨v1,e,h⟩:=Za h;refine Zwm (ZPT e)<|yA ?_;refine yB h (fun _ h=>?_) fun _ h=>?_;obtain ⟨_,f,h⟩:=Za h;refine Zwm (ZPV f) ?_;cases h;exact yD;obtain ⟨_,g,h⟩:=Za h;refine Zwm (ZPR g) ?_;cases h;exact yD
theorem ZNH {b:ZwG}{r:(Zc×ZwG)}(h:ZNa b=some r):Zkx prog J0 JF0 231 (.box 189 (ZAW b)) [] [(true,[(false,.str r.1.rel),(false,.sl 9 1 (A0 ZA r.1.args))])] (.box 189 (ZAW r.2)):=by
 refine ZPg [(6,[0,1,2,3,4,5,6,7],true)] func231 rfl ?_;unfold ZNa at h;simp only[fnH,f231,ZMA,ZMz,Zef,go_sem,ZMu,seval];obtain ⟨v1,e1,h⟩:=Za h;refine Zwm (by have hh:=ZNX e1;first|exact hh|(simp only[go_sem,ZMu, *]at hh;exact hh)) ?_;simp only[go_sem,ZMu,seval, *];refine Xj h (fun s st=>match s with|(d,e,f,a,g)=>IV [(0,.bp 0 0),(2,.bp 1 0),(4,.p false [.c (.int .i64 v1.2.1)]),(5,.bp 2 0),(6,.p false [.c (.int .i64 g)])] [.box 189 [.c (.sl 5 1 (A0 Zs8 d)),.c (.int .i64 e),.c (.int .i64 f)],.box 53 [.c (.str ⟨#[]⟩),.nil 9 1],.box 53 [.c (.str v1.1),.row 3],.row 9 1 (A0 ZA a) 2] st) [(true,161,1)] [0,1,161,209] yF ?_ ?_
 .simp only[go_sem,ZMu,seval, *]
 .rintro ⟨d,e,f,a,g⟩ ⟨sl,ob,n⟩ y2 i hW4 h j;simp only[go_sem,ZMu,seval,Zb]at i;obtain ⟨⟨g5_0,g5_2,g5_4,g5_5,g5_6⟩,og5_0,og5_1,og5_2,og5_3,hn⟩:=i;subst hn;simp only[go_sem,ZMu,seval, *];refine Ze h (fun c6 h=>?_) (fun c6 h=>?_)<;>try simp only[go_sem,ZMu,seval, *]
  .obtain ⟨v9,e7,h⟩:=Za h;refine Zwm (by have hh:=ZPV e7;first|exact hh|(simp only[go_sem,ZMu, *]at hh;exact hh)) ?_;obtain ⟨p8,h⟩:=Zv h;try simp only[Nat.reduceLeDiff]at p8
   simp only[go_sem,ZMu,seval, *];refine ⟨_,[],[0,1,2,132],(A3 h).symm,yF,?_⟩;simp only[go_sem,ZMu,seval, *]
  .replace h:=Zr h j;obtain rfl:=A3 h;simp only[go_sem,ZMu,seval, *]
theorem Zis {l_0:List Zc}{r:Bool}(h:Zcb l_0=some r):Sound prog J0 121 [(false,[.sl 53 2 (A0 eFact l_0)])] [(false,[(false,.bool r)])]:=by
 refine fnk func121 rfl ?_;unfold Zcb at h;simp only[fnS,f121,Zo,go_sem,seval];refine Zh h (fun i _ st=>IV [(0,yM (yT l_0)),(3,yL i)] [] st) [] [] yF yD ?_ ?_;rintro _ _ ⟨⟩ ⟨_,_,_⟩ _ a b f h d;simp only[go_sem,seval,Zb]at b;obtain ⟨⟨g,_⟩,hn⟩:=b;subst hn;have k:=WF.slotL f g (j:=0) rfl;have:=ZC a;have:=ZE a;have:=Zk (ZD a) k;simp only[*,go_sem,seval];refine ZPO h fun _ l h=>Zd (s_IsFact_ok l)<|yA ?_;iterate 2 refine yB h (fun _ h=>?_) fun _ h=>?_
 obtain ⟨_,_,_,_,h⟩:=ZcM h;simp only[*,go_sem,seval];refine ZPO h fun _ m h=>Zd (ZbQ m)<|yA ?_;refine yB h (fun _ h=>?_) fun _ h=>?_;replace h:=Zr h d;cases h;exact yD;exact yR h [];exact yR h [];replace h:=Zr h d;cases h;exact yD;rintro ⟨⟩ ⟨_,_,_⟩ e _ h;simp only[go_sem,seval,Zb]at e;obtain ⟨⟨_,_⟩,hn⟩:=e;subst hn;have:=ZB (l_0.length);cases h;exact yD
theorem Zrp {b_0:List Zi}{v_1:ByteArray}{value_2:ByteArray}{r:((List Zi)×Bool)}(h:Zhm b_0 v_1 value_2=some r):Sound prog J0 139 [(false,[.sl 162 2 (A0 ZR b_0)]),(false,[.str v_1]),(false,[.str value_2])] [(false,[(false,.sl 162 2 (A0 ZR r.1))]),(false,[(false,.bool r.2)])]:=by
 refine fnk func139 rfl ?_;unfold Zhm at h;simp only[fnS,f139,Zo,go_sem,seval];refine ZPO h fun v1 a h=>Zd (Zan a)<|yA ?_;refine yB h (fun _ h=>?_) fun _ h=>?_;refine ZPO h fun _ b h=>Zd (Zah b)<|yA ?_;refine yB h (fun _ h=>?_) fun _ h=>?_;refine ZPO h fun _ c h=>Zd (QA c)<|yA ?_;refine yB h (fun _ h=>?_) fun _ h=>?_;refine ZPO h fun _ d h=>Zd (Zdu d)<|yA ?_;iterate 2 refine yB h (fun _ h=>?_) fun _ h=>?_
 refine ZPO h fun _ e h=>Zd (ZeN e) ?_;iterate 2 (cases h;exact yD)
 refine yB h (fun _ h=>?_) fun _ h=>?_;cases h;exact yD;refine ZPO h fun _ f h=>Zd (ZtD f) ?_;iterate 4 (cases h;exact yD)
theorem Zox {b:Zt}{r:List Int}(h:Zeb b=some r):Sound prog J0 277 [(true,Qu b)] [(false,[(false,.sl 3 1 (A0 ZO r))])]:=by
 refine fnk func277 rfl ?_;unfold Zeb at h;simp only[fnS,f277,Zo,go_sem,seval];refine ZPO h fun v1 B h=>Zd (ZeL B)<|yA ?_;refine yB h (fun _ h=>?_) fun _ h=>?_;obtain ⟨_,h⟩:=Zv h;simp only[*,go_sem,seval];refine Xj h (fun s st=>match s with|(q,e)=>IV [(1,.bp 0 0),(3,.p false [.row 1]),(4,yM (.int .i64 e))] [.box 140 [.c (.int .i64 b.nodes),.c (zA b.reasons)],.row 3 1 (A0 ZO q) 2] st) [] [0,112] yF yD ?_;rintro ⟨q,e⟩ ⟨_,_,_⟩ _ t _ h C;simp only[go_sem,seval,Zb]at t;obtain ⟨⟨_,_,_⟩,_,_,hn⟩:=t;subst hn;simp only[*,go_sem,seval];refine yB h (fun _ h=>?_) fun _ h=>?_;refine Zh h (fun i f st=>IV [(1,.bp 0 0),(3,.p false [.row 1]),(4,yM (.int .i64 e)),(5,yL i)] [.box 140 [.c (.int .i64 b.nodes),.c (zA b.reasons)],.row 3 1 (A0 ZO f) 2] st) [] [0,1] yF yD ?_ ?_;rintro u d f ⟨_,_,_⟩ _ g v D h _;simp only[go_sem,seval,Zb]at v;obtain ⟨⟨_,_,_,_⟩,E,_,hn⟩:=v;subst hn;have F:=WF.boxL D E (j:=1) rfl
 have:=ZC g;have:=ZE g;have:=Zk (ZD g) F;simp only[*,go_sem,seval];refine Zh h (fun i k st=>IV [(1,.bp 0 0),(3,.p false [.row 1]),(4,yM (.int .i64 e)),(5,yL u),(6,.bp 2 0),(7,yL i)] [.box 140 [.c (.int .i64 b.nodes),.c (zA b.reasons)],.row 3 1 (A0 ZO k) 2,zD 179 (ZG d)] st) [] [0,1,162] yF yD ?_ ?_;rintro _ _ k ⟨_,_,_⟩ _ l w G h _;simp only[go_sem,seval,Zb]at w;obtain ⟨⟨_,_,_,_,_,_⟩,_,_,H,hn⟩:=w;subst hn;have I:=WF.boxL G H (j:=1) rfl;have:=ZC l;have:=ZE l;have:=Zk (ZD l) I;obtain ⟨_,h⟩:=Zv h;obtain ⟨_,_,h⟩:=Za h;obtain ⟨_,h⟩:=Zv h;obtain ⟨_,_,h⟩:=Za h;simp only[*,go_sem,seval];exact yR h [0,1,2];rintro k ⟨_,_,_⟩ x _ h;simp only[go_sem,seval,Zb]at x;obtain ⟨⟨_,_,_,_,_,_⟩,_,_,_,hn⟩:=x;subst hn;have:=ZB (d.inn.length);simp only[*,go_sem,seval]
 refine Zh h (fun i m st=>IV [(1,.bp 0 0),(3,.p false [.row 1]),(4,yM (.int .i64 e)),(5,yL u),(6,.bp 2 0),(8,yL i)] [.box 140 [.c (.int .i64 b.nodes),.c (zA b.reasons)],.row 3 1 (A0 ZO m) 2,zD 179 (ZG d)] st) [] [0,1,2] yF yD ?_ ?_;rintro _ _ m ⟨_,_,_⟩ _ o y J h _;simp only[go_sem,seval,Zb]at y;obtain ⟨⟨_,_,_,_,_,_⟩,_,_,K,hn⟩:=y;subst hn;have L:=WF.boxL J K (j:=2) rfl;have:=ZC o;have:=ZE o;have:=Zk (ZD o) L;obtain ⟨_,h⟩:=Zv h;obtain ⟨_,_,h⟩:=Za h;obtain ⟨_,h⟩:=Zv h;obtain ⟨_,_,h⟩:=Za h;simp only[*,go_sem,seval];exact yR h [0,1,2];rintro m ⟨_,_,_⟩ z _ h;simp only[go_sem,seval,Zb]at z;obtain ⟨⟨_,_,_,_,_,_⟩,_,_,_,hn⟩:=z;subst hn;have:=ZB (d.outs.length);simp only[*,go_sem,seval];exact yR h [0,1];rintro f ⟨_,_,_⟩ A _ h;simp only[go_sem,seval,Zb]at A;obtain ⟨⟨_,_,_,_⟩,_,_,hn⟩:=A;subst hn;have:=ZB (b.reasons.length);simp only[*,go_sem,seval];exact yR h [0,1];replace h:=Zr h C
 iterate 2 (cases h;exact yD)
end
section
theorem Zes {p_0:Zx}{b_1:List Zi}{facts_2:List Zc}{r:List Zc}(h:XO p_0 b_1 facts_2=some r):Sound prog J0 198 [(true,Qp p_0),(false,[.sl 162 2 (A0 ZR b_1)]),(false,[.sl 53 2 (A0 eFact facts_2)])] [(false,[(false,.sl 53 2 (A0 eFact r))])]:=by
 refine fnk func198 rfl ?_;unfold XO at h;simp only[fnS,f198,Zo,go_sem,seval];refine Zh h (fun i a st=>IV [(1,yM (yZ b_1)),(3,.bp 0 0),(7,.p false [.row 1]),(12,yM (yT facts_2)),(13,yL facts_2.length),(14,yL i)] [.box 78 [.c (.str p_0.rel),.c (yU p_0.args)],.row 53 2 (A0 eFact a) 2] st) [(false,7,0)] [0,96] yF yD ?_ ?_;rintro _ _ a ⟨_,_,_⟩ _ b d f h _;simp only[go_sem,seval,Zb]at d;obtain ⟨⟨_,_,_,g,_,_⟩,_,_,hn⟩:=d;subst hn;have k:=WF.slotL f g (j:=0) rfl;have:=ZC b;have:=ZE b;have:=Zk (ZD b) k;simp only[*,go_sem,seval];refine ZPO h fun _ l h=>Zd (ZbH l)<|yA ?_;refine yB h (fun _ h=>?_) fun _ h=>?_;refine ZPO h fun _ m h=>Zd (YO m) ?_;obtain ⟨o,h⟩:=Zv h;try simp only[Nat.reduceLeDiff]at o
 simp only[*,go_sem,seval];exact yR h [0,306];exact yR h [0,1];rintro a ⟨_,_,_⟩ e _ h;simp only[go_sem,seval,Zb]at e;obtain ⟨⟨_,_,_,_,_,_⟩,_,_,hn⟩:=e;subst hn;have:=ZB (facts_2.length);cases h;exact yD
theorem Zrl {x_0:Zl}{r:Bool}(h:ZjH x_0=some r):Sound prog J0 249 [(true,ZJ x_0)] [(false,[(false,.bool r)])]:=by
 refine fnk func249 rfl ?_;unfold ZjH at h;simp only[fnS,f249,Zo,go_sem,seval];refine ZPO h fun v1 a h=>Zd (ZhF a)<|yA ?_;refine yB h (fun _ h=>?_) fun _ h=>?_;iterate 2 (cases h;exact yD)
theorem Ziz {r_0:Zg}{k_1:Int}{r:Bool}(h:Zcd r_0 k_1=some r):Sound prog J0 191 [(true,eRule r_0),(false,[.int .i64 k_1])] [(false,[(false,.bool r)])]:=by
 refine fnk func191 rfl ?_;unfold Zcd at h;simp only[fnS,f191,Zo,go_sem,seval];obtain ⟨a,_,_,_,h⟩:=ZcM h;simp only[*,go_sem,seval];refine ZPO h fun j k h=>Zd (ZdR k)<|yA ?_;refine ZPO h fun b l h=>Zd (ZcA l)<|yA ?_;refine Zh h (fun i _ st=>IV [(1,yM (.int .i64 k_1)),(2,.bp 0 0),(5,.bp 1 0),(6,.p false [.row 2]),(18,.p false [.row 3]),(19,yL b.length),(20,yL i)] [zD 76 (eRule r_0),zD 80 (ZJ a),.row 9 1 (A0 ZA j) 2,.row 9 1 (A0 ZA b) 2] st) [] [0,112,176,224] yF yD ?_ ?_;rintro _ _ ⟨⟩ ⟨_,_,_⟩ _ d e m h f;simp only[go_sem,seval,Zb]at e;obtain ⟨⟨_,_,_,_,_,_,_⟩,_,_,_,o,hn⟩:=e;subst hn;have q:=WF.rowL m o;have:=ZC d;have:=ZE d;have:=Zk (ZD d) q;simp only[*,go_sem,seval];refine yB h (fun _ h=>?_) fun _ h=>?_;exact yR h [0,1,2,3];refine ZPO h fun _ t h=>Zd (ZaB t)<|yA ?_;refine yB h (fun _ h=>?_) fun _ h=>?_;exact yR h [0,1,2,3];refine yB h (fun _ h=>?_) fun _ h=>?_;replace h:=Zr h f
 cases h;exact yD;refine ZPO h fun _ u h=>Zd (Zhl u)<|yA ?_;refine yB h (fun _ h=>?_) fun _ h=>?_;replace h:=Zr h f;cases h;exact yD;exact yR h [0,1,2,3];rintro ⟨⟩ ⟨_,_,_⟩ g _ h;simp only[go_sem,seval,Zb]at g;obtain ⟨⟨_,_,_,_,_,_,_⟩,_,_,_,_,hn⟩:=g;subst hn;have:=ZB (b.length);cases h;exact yD
theorem ZgO {x_0:Zl}{r:Bool}(h:Zej x_0=some r):Sound prog J0 106 [(true,ZJ x_0)] [(false,[(false,.bool r)])]:=by
 refine fnk func106 rfl ?_;unfold Zej at h;have a:ZbS ⟨#[]⟩=true:=by decide
 simp only[fnS,f106,Zo,go_sem,seval,a];refine yB h (fun _ h=>?_) fun _ h=>?_;refine ZPO h fun v1 b h=>Zd (Qk b)<|yA ?_;iterate 2 refine yB h (fun _ h=>?_) fun _ h=>?_
 iterate 3 (cases h;exact yD)
 refine yB h (fun _ h=>?_) fun _ h=>?_;refine ZPO h fun _ c h=>Zd (Qk c)<|yA ?_;iterate 2 refine yB h (fun _ h=>?_) fun _ h=>?_
 iterate 3 (cases h;exact yD)
 iterate 3 refine yB h (fun _ h=>?_) fun _ h=>?_
 refine ZPO h fun _ d h=>Zd (Zar d)<|yA ?_;refine yB h (fun _ h=>?_) fun _ h=>?_;refine ZPO h fun _ e h=>Zd (Zar e) ?_;iterate 4 (cases h;exact yD)
 iterate 3 refine yB h (fun _ h=>?_) fun _ h=>?_
 refine ZPO h fun _ f h=>Zd (Zar f)<|yA ?_;refine yB h (fun _ h=>?_) fun _ h=>?_;refine ZPO h fun _ g h=>Zd (Zar g) ?_;iterate 4 (cases h;exact yD)
 iterate 3 refine yB h (fun _ h=>?_) fun _ h=>?_
 refine ZPO h fun _ i h=>Zd (Zar i)<|yA ?_;refine yB h (fun _ h=>?_) fun _ h=>?_;refine ZPO h fun _ j h=>Zd (Zar j) ?_;iterate 5 (cases h;exact yD)
theorem Zfu {r_0:Zg}{i_1:Int}{v_2:ByteArray}{r:Bool}(h:X5 r_0 i_1 v_2=some r):Sound prog J0 183 [(true,eRule r_0),(false,[.int .i64 i_1]),(false,[.str v_2])] [(false,[(false,.bool r)])]:=by
 refine fnk func183 rfl ?_;unfold X5 at h;simp only[fnS,f183,Zo,go_sem,seval];refine Zh h (fun i _ st=>IV [(1,yM (.int .i64 i_1)),(2,yM (.str v_2)),(3,.bp 0 0),(7,yL i)] [zD 76 (eRule r_0)] st) [] [0] yF yD ?_ ?_;rintro _ _ ⟨⟩ ⟨_,_,_⟩ _ a d k h l;simp only[go_sem,seval,Zb]at d;obtain ⟨⟨_,_,_,_⟩,m,hn⟩:=d;subst hn;have o:=WF.boxL k m (j:=2) rfl;have:=ZC a;have:=ZE a;have:=Zk (ZD a) o;simp only[*,go_sem,seval];refine yB h (fun _ h=>?_) fun _ h=>?_;refine ZPO h fun _ q h=>Zd (ZaP q)<|yA ?_;refine ZPO h fun _ t h=>Zd (YQ t)<|yA ?_;refine yB h (fun _ h=>?_) fun _ h=>?_;replace h:=Zr h l;cases h;exact yD;exact yR h [0];exact yR h [0];rintro ⟨⟩ ⟨_,_,_⟩ e _ h;simp only[go_sem,seval,Zb]at e;obtain ⟨⟨_,_,_,_⟩,_,hn⟩:=e;subst hn;have:=ZB (r_0.cond.length);simp only[*,go_sem,seval];refine Zh h (fun i _ st=>IV [(2,yM (.str v_2)),(3,.bp 0 0),(8,yL i)] [zD 76 (eRule r_0)] st) [] [0] yF yD ?_ ?_
 rintro _ _ ⟨⟩ ⟨_,_,_⟩ _ b f u h v;simp only[go_sem,seval,Zb]at f;obtain ⟨⟨_,_,_⟩,w,hn⟩:=f;subst hn;have x:=WF.boxL u w (j:=3) rfl;have:=ZC b;have:=ZE b;have:=Zk (ZD b) x;simp only[*,go_sem,seval];refine ZPO h fun _ y h=>Zd (Zc6 y)<|yA ?_;refine ZPO h fun _ z h=>Zd (YQ z)<|yA ?_;refine yB h (fun _ h=>?_) fun _ h=>?_;replace h:=Zr h v;cases h;exact yD;exact yR h [0];rintro ⟨⟩ ⟨_,_,_⟩ g _ h;simp only[go_sem,seval,Zb]at g;obtain ⟨⟨_,_,_⟩,_,hn⟩:=g;subst hn;have:=ZB (r_0.thn.length);cases h;exact yD
theorem Zn1 {a_0:Zu}{r:Bool}(h:Zer a_0=some r):Sound prog J0 184 [(true,ZI a_0)] [(false,[(false,.bool r)])]:=by
 refine fnk func184 rfl ?_;unfold Zer at h;have a:ZbS ⟨#[]⟩=true:=by decide
 simp only[fnS,f184,Zo,go_sem,seval,a];refine yB h (fun _ h=>?_) fun _ h=>?_;refine ZPO h fun v1 b h=>Zd (Qk b) ?_;cases h;exact yD;refine yB h (fun _ h=>?_) fun _ h=>?_;refine ZPO h fun _ c h=>Zd (Qk c) ?_;cases h;exact yD;iterate 2 refine yB h (fun _ h=>?_) fun _ h=>?_
 iterate 3 (cases h;exact yD)
theorem Zof {r_0:Zg}{r:List ByteArray}(h:Zed r_0=some r):Sound prog J0 186 [(true,eRule r_0)] [(false,[(false,.sl 9 1 (A0 ZA r))])]:=by
 refine fnk func186 rfl ?_;unfold Zed at h;simp only[fnS,f186,Zo,go_sem,seval];refine Zh h (fun i a st=>IV [(1,.bp 0 0),(3,.p false [.row 1]),(4,yL i)] [zD 76 (eRule r_0),.row 9 1 (A0 ZA a) 2] st) [] [0,32] yF yD ?_ ?_;rintro A _ a ⟨_,_,_⟩ _ b m B h _;simp only[go_sem,seval,Zb]at m;obtain ⟨⟨_,_,_⟩,C,_,hn⟩:=m;subst hn;have D:=WF.boxL B C (j:=2) rfl;have:=ZC b;have:=ZE b;have:=Zk (ZD b) D;simp only[*,go_sem,seval];refine ZPO h fun o E h=>Zd (ZaP E)<|yA ?_;refine Zh h (fun i d st=>IV [(1,.bp 0 0),(3,.p false [.row 1]),(4,yL A),(5,.p false [.row 2]),(6,yL i)] [zD 76 (eRule r_0),.row 9 1 (A0 ZA d) 2,.row 9 1 (A0 ZA o) 2] st) [] [0,1,162] yF yD ?_ ?_;rintro _ _ d ⟨_,_,_⟩ _ e q F h _;simp only[go_sem,seval,Zb]at q;obtain ⟨⟨_,_,_,_,_⟩,_,_,G,hn⟩:=q;subst hn;have H:=WF.rowL F G;have:=ZC e;have:=ZE e;have:=Zk (ZD e) H;simp only[*,go_sem,seval];refine ZPO h fun _ I h=>Zd (XF I)<|yA ?_
 exact yR h [0,147,2];rintro d ⟨_,_,_⟩ t _ h;simp only[go_sem,seval,Zb]at t;obtain ⟨⟨_,_,_,_,_⟩,_,_,_,hn⟩:=t;subst hn;have:=ZB (o.length);simp only[*,go_sem,seval];exact yR h [0,1];rintro a ⟨_,_,_⟩ u _ h;simp only[go_sem,seval,Zb]at u;obtain ⟨⟨_,_,_⟩,_,_,hn⟩:=u;subst hn;have:=ZB (r_0.cond.length);simp only[*,go_sem,seval];refine Zh h (fun i f st=>IV [(1,.bp 0 0),(3,.p false [.row 1]),(7,yL i)] [zD 76 (eRule r_0),.row 9 1 (A0 ZA f) 2] st) [] [0,1] yF yD ?_ ?_;rintro J _ f ⟨_,_,_⟩ _ g v K h _;simp only[go_sem,seval,Zb]at v;obtain ⟨⟨_,_,_⟩,L,_,hn⟩:=v;subst hn;have M:=WF.boxL K L (j:=3) rfl;have:=ZC g;have:=ZE g;have:=Zk (ZD g) M;simp only[*,go_sem,seval];refine ZPO h fun w N h=>Zd (Zc6 N)<|yA ?_;refine Zh h (fun i k st=>IV [(1,.bp 0 0),(3,.p false [.row 1]),(7,yL J),(8,.p false [.row 2]),(9,yL i)] [zD 76 (eRule r_0),.row 9 1 (A0 ZA k) 2,.row 9 1 (A0 ZA w) 2] st) [] [0,1,178] yF yD ?_ ?_
 rintro _ _ k ⟨_,_,_⟩ _ l x O h _;simp only[go_sem,seval,Zb]at x;obtain ⟨⟨_,_,_,_,_⟩,_,_,P,hn⟩:=x;subst hn;have Q:=WF.rowL O P;have:=ZC l;have:=ZE l;have:=Zk (ZD l) Q;simp only[*,go_sem,seval];refine ZPO h fun _ R h=>Zd (XF R)<|yA ?_;exact yR h [0,147,2];rintro k ⟨_,_,_⟩ y _ h;simp only[go_sem,seval,Zb]at y;obtain ⟨⟨_,_,_,_,_⟩,_,_,_,hn⟩:=y;subst hn;have:=ZB (w.length);simp only[*,go_sem,seval];exact yR h [0,1];rintro f ⟨_,_,_⟩ z _ h;simp only[go_sem,seval,Zb]at z;obtain ⟨⟨_,_,_⟩,_,_,hn⟩:=z;subst hn;have:=ZB (r_0.thn.length);cases h;exact yD
theorem ZMG {s_0:ByteArray}{r:(Zx×Bool)}(h:ZMy s_0=some r):Sound prog J0 377 [(false,[.str s_0])] [(true,[(false,.str r.1.rel),(false,.sl 9 1 (A0 ZA r.1.args))]),(false,[(false,.bool r.2)])]:=by
 refine fnk func377 rfl ?_;unfold ZMy at h;simp only[fnS,f377,Zo,go_sem,seval];refine ZPO h fun v1 a h=>Zd (ZOm a)<|yA ?_;refine yB h (fun _ h=>?_) fun _ h=>?_;refine ZPO h fun _ b h=>Zd (Qk b)<|yA ?_;refine yB h (fun _ h=>?_) fun _ h=>?_;iterate 3 (cases h;exact yD)
theorem ZP1 {c_0:ZwG}{most_1:Int}{r:((List Zc)×ZwG)}(h:ZNc c_0 most_1=some r):Zkx prog J0 JF0 224 (.box 189 (ZAW c_0)) [(false,[.int .i64 most_1])] [(false,[(false,.sl 53 2 (A0 eFact r.1))])] (.box 189 (ZAW r.2)):=by
 refine fnh func224 rfl ?_;unfold ZNc at h;have j:ZbS ⟨#[111,110]⟩=true:=by decide
 have k:ZbS ⟨#[112]⟩=true:=by decide
 have l:ZbS ⟨#[113]⟩=true:=by decide
 have m:ZbS ⟨#[49]⟩=true:=by decide
 have o:ZbS ⟨#[50]⟩=true:=by decide
 have q:ZbS ⟨#[97,116]⟩=true:=by decide
 have t:ZbS ⟨#[97]⟩=true:=by decide
 have u:ZbS ⟨#[98]⟩=true:=by decide
 simp only[fnH,f224,ZMA,ZMz,Zef,go_sem,seval,j,k,l,m,o,q,t,u];obtain ⟨v1,v,h⟩:=Za h;refine Zwm (ZPP v)<|yA ?_;refine Xj h (fun s st=>match s with|(b,d,e,f,g)=>IV [(0,.bp 0 0),(5,.p false [.row 1]),(6,yM (.int .i64 g))] [.box 189 [.c (zB b),.c (.int .i64 d),.c (.int .i64 e)],.row 53 2 (A0 eFact f) 2] st) [] [0,17] yF yD ?_;rintro ⟨b,d,e,f,g⟩ ⟨_,_,_⟩ _ i _ h w;simp only[go_sem,seval,Zb]at i;obtain ⟨⟨_,_,_⟩,_,_,hn⟩:=i;subst hn;simp only[*,go_sem,seval];refine yB h (fun _ h=>?_) fun _ h=>?_;obtain ⟨_,x,h⟩:=Za h;refine Zwm (ZPR x)<|yA ?_;obtain ⟨_,y,h⟩:=Za h;refine Zwm (ZPR y)<|yA ?_;obtain ⟨_,z,h⟩:=Za h;refine Zwm (ZPP z)<|yA ?_;refine yB h (fun _ h=>?_) fun _ h=>?_;refine ZPO h fun _ A h=>Zd (ZtP A)<|yA ?_;exact yR h [0,290];refine yB h (fun _ h=>?_) fun _ h=>?_;refine ZPO h fun _ B h=>Zd (ZtP B)<|yA ?_;exact yR h [0,338];refine yB h (fun _ h=>?_) fun _ h=>?_
 refine ZPO h fun _ C h=>Zd (ZtP C)<|yA ?_;exact yR h [0,354];refine ZPO h fun _ D h=>Zd (ZtP D)<|yA ?_;exact yR h [0,370];replace h:=Zr h w;cases h;exact yD
theorem ZMT {b:ZwG}{r:(Zx×ZwG)}(h:ZMO b=some r):Zkx prog J0 JF0 330 (.box 189 (ZAW b)) [] [(true,[(false,.str r.1.rel),(false,.sl 9 1 (A0 ZA r.1.args))])] (.box 189 (ZAW r.2)):=by
 refine ZPg [(6,[0,1,2,3,4,5,6,7],true)] func330 rfl ?_;unfold ZMO at h;simp only[fnH,f330,ZMA,ZMz,Zef,go_sem,ZMu,seval];obtain ⟨v1,e1,h⟩:=Za h;refine Zwm (by have hh:=ZNX e1;first|exact hh|(simp only[go_sem,ZMu, *]at hh;exact hh)) ?_;simp only[go_sem,ZMu,seval, *];refine Xj h (fun s st=>match s with|(d,e,f,a,g)=>IV [(0,.bp 0 0),(2,.bp 1 0),(4,.p false [.c (.int .i64 v1.2.1)]),(5,.bp 2 0),(6,.p false [.c (.int .i64 g)])] [.box 189 [.c (.sl 5 1 (A0 Zs8 d)),.c (.int .i64 e),.c (.int .i64 f)],.box 78 [.c (.str ⟨#[]⟩),.nil 9 1],.box 78 [.c (.str v1.1),.row 3],.row 9 1 (A0 ZA a) 2] st) [(true,161,1)] [0,1,161,209] yF ?_ ?_
 .simp only[go_sem,ZMu,seval, *]
 .rintro ⟨d,e,f,a,g⟩ ⟨sl,ob,n⟩ y2 i hW4 h j;simp only[go_sem,ZMu,seval,Zb]at i;obtain ⟨⟨g5_0,g5_2,g5_4,g5_5,g5_6⟩,og5_0,og5_1,og5_2,og5_3,hn⟩:=i;subst hn;simp only[go_sem,ZMu,seval, *];refine Ze h (fun c6 h=>?_) (fun c6 h=>?_)<;>try simp only[go_sem,ZMu,seval, *]
  .obtain ⟨v9,e7,h⟩:=Za h;refine Zwm (by have hh:=ZNj e7;first|exact hh|(simp only[go_sem,ZMu, *]at hh;exact hh)) ?_;obtain ⟨p8,h⟩:=Zv h;try simp only[Nat.reduceLeDiff]at p8
   simp only[go_sem,ZMu,seval, *];refine ⟨_,[],[0,1,2,132],(A3 h).symm,yF,?_⟩;simp only[go_sem,ZMu,seval, *]
  .replace h:=Zr h j;obtain rfl:=A3 h;simp only[go_sem,ZMu,seval, *]
theorem ZPZ {a:ZwG}{r:(Zc×ZwG)}(h:ZNg a=some r):Zkx prog J0 JF0 163 (.box 189 (ZAW a)) [] [(true,[(false,.str r.1.rel),(true,.sl 9 1 (A0 ZA r.1.args))])] (.box 189 (ZAW r.2)):=by
 refine ZPg [(6,[0,1,2,3,4,5,6,7],true)] func163 rfl ?_;unfold ZNg at h;have b:ZbS ⟨#[97]⟩=true:=by decide
 have c:ZbS ⟨#[98]⟩=true:=by decide
 have d:ZbS ⟨#[99]⟩=true:=by decide
 simp only[fnH,f163,ZMA,ZMz,Zef,go_sem,ZMu,seval,b,c,d];obtain ⟨v1,e1,h⟩:=Za h;refine Zwm (by have hh:=ZNH e1;first|exact hh|(simp only[go_sem,ZMu, *]at hh;exact hh)) ?_;simp only[go_sem,ZMu,seval, *];obtain ⟨v2,e2,h⟩:=Za h;refine Zwm (by have hh:=ZPP e2;first|exact hh|(simp only[go_sem,ZMu, *]at hh;exact hh)) ?_;simp only[go_sem,ZMu,seval, *];refine Ze h (fun c3 h=>?_) (fun c3 h=>?_)<;>try simp only[go_sem,ZMu,seval, *]
 .obtain ⟨v3,e4,h⟩:=Za h;refine Zwm (by have hh:=ZMU e4;first|exact hh|(simp only[go_sem,ZMu, *]at hh;exact hh)) ?_;obtain rfl:=A3 h;simp only[go_sem,ZMu,seval, *]
 .refine Ze h (fun c5 h=>?_) (fun c5 h=>?_)<;>try simp only[go_sem,ZMu,seval, *]
  .obtain ⟨v4,e6,h⟩:=Za h;refine Zwm (by have hh:=ZMU e6;first|exact hh|(simp only[go_sem,ZMu, *]at hh;exact hh)) ?_;obtain ⟨p7,h⟩:=Zv h;try simp only[Nat.reduceLeDiff]at p7
   obtain rfl:=A3 h;simp only[go_sem,ZMu,seval, *]
  .refine Ze h (fun c8 h=>?_) (fun c8 h=>?_)<;>try simp only[go_sem,ZMu,seval, *]
   .obtain ⟨v5,e9,h⟩:=Za h;refine Zwm (by have hh:=ZPP e9;first|exact hh|(simp only[go_sem,ZMu, *]at hh;exact hh)) ?_;obtain ⟨e,h⟩:=Zv h;try simp only[seval]at e
    obtain rfl:=A3 h;simp only[go_sem,ZMu,seval, *]
   .obtain rfl:=A3 h;simp only[go_sem,ZMu,seval, *]
theorem ZOO {c_0:ZwG}{most_1:Int}{r:((List Zc)×ZwG)}(h:ZNw c_0 most_1=some r):Zkx prog J0 JF0 270 (.box 189 (ZAW c_0)) [(false,[.int .i64 most_1])] [(false,[(false,.sl 53 2 (A0 eFact r.1))])] (.box 189 (ZAW r.2)):=by
 refine fnh func270 rfl ?_;unfold ZNw at h;simp only[fnH,f270,ZMA,ZMz,Zef,go_sem,seval];obtain ⟨v1,j,h⟩:=Za h;refine Zwm (ZPP j)<|yA ?_;refine Xj h (fun s st=>match s with|(b,d,e,f,g)=>IV [(0,.bp 0 0),(5,.p false [.row 1]),(6,yM (.int .i64 g))] [.box 189 [.c (zB b),.c (.int .i64 d),.c (.int .i64 e)],.row 53 2 (A0 eFact f) 2] st) [] [0,17] yF yD ?_;rintro ⟨b,d,e,f,g⟩ ⟨_,_,_⟩ _ i _ h k;simp only[go_sem,seval,Zb]at i;obtain ⟨⟨_,_,_⟩,_,_,hn⟩:=i;subst hn;simp only[*,go_sem,seval];refine yB h (fun _ h=>?_) fun _ h=>?_;obtain ⟨_,l,h⟩:=Za h;refine Zwm (ZNH l)<|yA ?_;refine ZPO h fun _ m h=>Zd (ZtP m)<|yA ?_;exact yR h [0,82];replace h:=Zr h k;cases h;exact yD
theorem Zg5 {append_0:Zx}{String_1:Zc}{a_2:List Zi}{r:((List Zi)×Bool)}(h:Zbp append_0 String_1 a_2=some r):Sound prog J0 81 [(true,Qp append_0),(true,eFact String_1),(false,[.sl 162 2 (A0 ZR a_2)])] [(false,[(false,.sl 162 2 (A0 ZR r.1))]),(false,[(false,.bool r.2)])]:=by
 refine fnk func81 rfl ?_;unfold Zbp at h;simp only[fnS,f81,Zo,go_sem,seval];refine ZPO h fun v1 g h=>Zd (Qk g)<|yA ?_;refine yB h (fun _ h=>?_) fun _ h=>?_;refine ZPO h fun _ k h=>Zd (s_IsFact_ok k)<|yA ?_;refine yB h (fun _ h=>?_) fun _ h=>?_;refine ZPO h fun _ l h=>Zd (Zan l)<|yA ?_;iterate 3 refine yB h (fun _ h=>?_) fun _ h=>?_
 cases h;exact yD;refine ZPO h fun _ m h=>Zd (ZeN m)<|yA ?_;refine Zh h (fun i a st=>IV [(3,.bp 0 0),(4,.bp 1 0),(8,.p false [.row 2]),(9,yL i)] [.box 78 [.c (.str append_0.rel),.c (yU append_0.args)],zD 53 (eFact String_1),.row 162 2 (A0 ZR a) 2] st) [] [0,16,544] yF yD ?_ ?_;rintro _ _ a ⟨_,_,_⟩ _ b d o h e;simp only[go_sem,seval,Zb]at d;obtain ⟨⟨_,_,_,_⟩,q,_,_,hn⟩:=d;subst hn;have t:=WF.boxL o q (j:=1) rfl;have:=ZC b;have:=ZE b;have:=Zk (ZD b) t;simp only[*,go_sem,seval];refine ZPO h fun _ u h=>Zd (QA u)<|yA ?_;refine yB h (fun _ h=>?_) fun _ h=>?_;obtain ⟨_,_,_,v,h⟩:=ZcM h;simp only[AA]at v;simp only[*,go_sem,seval];refine yB h (fun _ h=>?_) fun _ h=>?_;exact yR h [0,1,2];replace h:=Zr h e;cases h;exact yD;obtain ⟨_,_,_,w,h⟩:=ZcM h;simp only[AA]at w;simp only[*,go_sem,seval];refine ZPO h fun _ x h=>Zd (Zrp x)<|yA ?_;refine yB h (fun _ h=>?_) fun _ h=>?_;exact yR h [0,1,355]
 replace h:=Zr h e;cases h;exact yD;rintro a ⟨_,_,_⟩ f _ h;simp only[go_sem,seval,Zb]at f;obtain ⟨⟨_,_,_,_⟩,_,_,_,hn⟩:=f;subst hn;have:=ZB (append_0.args.length);iterate 5 (cases h;exact yD)
end
section
theorem Zfq {p_0:Zx}{b_1:List Zi}{r:(Zc×Bool)}(h:XA p_0 b_1=some r):Sound prog J0 173 [(true,Qp p_0),(false,[.sl 162 2 (A0 ZR b_1)])] [(true,[(false,.str r.1.rel),(false,.sl 9 1 (A0 ZA r.1.args))]),(false,[(false,.bool r.2)])]:=by
 refine fnk func173 rfl ?_;unfold XA at h;simp only[fnS,f173,Zo,go_sem,seval];refine ZPO h fun v1 f h=>Zd (Qk f)<|yA ?_;refine yB h (fun _ h=>?_) fun _ h=>?_;refine ZPO h fun _ g h=>Zd (Zan g)<|yA ?_;refine yB h (fun _ h=>?_) fun _ h=>?_;refine Zh h (fun i a st=>IV [(1,yM (yZ b_1)),(2,.bp 0 0),(4,.bp 1 0),(6,.bp 2 0),(7,yL i)] [.box 78 [.c (.str p_0.rel),.c (yU p_0.args)],.box 53 [.c (.str ⟨#[]⟩),.nil 9 1],.box 53 [.c (.str p_0.rel),.row 3],.row 9 1 (A0 ZA a) 2] st) [(true,224,1)] [0,16,224,272] yF yD ?_ ?_;rintro _ _ a ⟨_,_,_⟩ _ b d k h l;simp only[go_sem,seval,Zb]at d;obtain ⟨⟨_,_,_,_,_⟩,m,_,_,_,hn⟩:=d;subst hn;have o:=WF.boxL k m (j:=1) rfl;have:=ZC b;have:=ZE b;have:=Zk (ZD b) o;simp only[*,go_sem,seval];refine ZPO h fun _ q h=>Zd (Zdu q)<|yA ?_;refine yB h (fun _ h=>?_) fun _ h=>?_;obtain ⟨t,h⟩:=Zv h;try simp only[Nat.reduceLeDiff]at t
 simp only[*,go_sem,seval];exact yR h [0,1,2,372];replace h:=Zr h l;cases h;exact yD;rintro a ⟨_,_,_⟩ e _ h;simp only[go_sem,seval,Zb]at e;obtain ⟨⟨_,_,_,_,_⟩,_,_,_,_,hn⟩:=e;subst hn;have:=ZB (p_0.args.length);iterate 3 (cases h;exact yD)
theorem ZoP {b:Zt}{r:List Int}(h:Zee b=some r):Sound prog J0 233 [(true,Qu b)] [(false,[(false,.sl 3 1 (A0 ZO r))])]:=by
 refine fnk func233 rfl ?_;unfold Zee at h;simp only[fnS,f233,Zo,go_sem,seval];refine ZPO h fun v1 z h=>Zd (ZeL z)<|yA ?_;refine yB h (fun _ h=>?_) fun _ h=>?_;refine ZPO h fun d A h=>Zd (Zox A)<|yA ?_;refine Xj h (fun s st=>match s with|(l,m)=>IV [(1,.bp 0 0),(3,.p false [.row 1]),(4,.p false [.row 2]),(5,yM (.int .i64 m))] [.box 140 [.c (.int .i64 b.nodes),.c (zA b.reasons)],.row 3 1 (A0 ZO d) 2,.row 3 1 (A0 ZO l) 2] st) [] [0,96,128] yF yD ?_;rintro ⟨l,m⟩ ⟨_,_,_⟩ _ o _ h B;simp only[go_sem,seval,Zb]at o;obtain ⟨⟨_,_,_,_⟩,_,_,_,hn⟩:=o;subst hn;simp only[*,go_sem,seval];refine yB h (fun _ h=>?_) fun _ h=>?_;obtain ⟨C,h⟩:=Zv h;try simp only[Nat.reduceLeDiff]at C
 simp only[*,go_sem,seval];exact yR h [0,1,99];refine Xj h (fun s st=>match s with|(q,t,e)=>IV [(1,.bp 0 0),(3,.p false [.row 1]),(4,.p false [.row 2]),(6,yM (.int .i64 t)),(7,yM (.int .i64 e))] [.box 140 [.c (.int .i64 b.nodes),.c (zA b.reasons)],.row 3 1 (A0 ZO d) 2,.row 3 1 (A0 ZO q) 2] st) [] [0,1,2] yF yD ?_;rintro ⟨q,t,e⟩ ⟨_,_,_⟩ _ u _ h D;simp only[go_sem,seval,Zb]at u;obtain ⟨⟨_,_,_,_,_⟩,_,_,_,hn⟩:=u;subst hn;simp only[*,go_sem,seval];refine yB h (fun _ h=>?_) fun _ h=>?_;refine ZPO h fun _ E h=>Zd (ZiI E)<|yA ?_;refine Xj h (fun s st=>match s with|(v,f,g)=>IV [(1,.bp 0 0),(3,.p false [.row 1]),(4,.p false [.row 2]),(6,yM (.int .i64 g)),(7,yM (.int .i64 e)),(8,.p false [.row 3])] [.box 140 [.c (.int .i64 b.nodes),.c (zA b.reasons)],.row 3 1 (A0 ZO d) 2,.row 3 1 (A0 ZO v) 2,.row 3 1 (A0 ZO f) 2] st) [] [0,1,2,147] yF yD ?_;rintro ⟨v,f,g⟩ ⟨_,_,_⟩ _ w _ h F
 simp only[go_sem,seval,Zb]at w;obtain ⟨⟨_,_,_,_,_,_⟩,_,_,_,_,hn⟩:=w;subst hn;simp only[*,go_sem,seval];refine yB h (fun _ h=>?_) fun _ h=>?_;refine Zh h (fun i j st=>IV [(1,.bp 0 0),(3,.p false [.row 1]),(4,.p false [.row 2]),(6,yM (.int .i64 g)),(7,yM (.int .i64 e)),(8,.p false [.row 3]),(9,yL i)] [.box 140 [.c (.int .i64 b.nodes),.c (zA b.reasons)],.row 3 1 (A0 ZO d) 2,.row 3 1 (A0 ZO j) 2,.row 3 1 (A0 ZO f) 2] st) [] [0,1,2,3] yF yD ?_ ?_;rintro _ _ j ⟨_,_,_⟩ _ k x G h _;simp only[go_sem,seval,Zb]at x;obtain ⟨⟨_,_,_,_,_,_,_⟩,_,_,_,H,hn⟩:=x;subst hn;have I:=WF.rowL G H;have:=ZC k;have:=ZE k;have:=Zk (ZD k) I;obtain ⟨_,h⟩:=Zv h;obtain ⟨_,_,h⟩:=Za h;simp only[*,go_sem,seval];exact yR h [0,1,2,3];rintro j ⟨_,_,_⟩ y _ h;simp only[go_sem,seval,Zb]at y;obtain ⟨⟨_,_,_,_,_,_,_⟩,_,_,_,_,hn⟩:=y;subst hn;have:=ZB (f.length);simp only[*,go_sem,seval];refine ZPO h fun _ J h=>Zd (ZiI J)<|yA ?_
 exact yR h [0,1,2,196];replace h:=Zr h F;exact yR h [0,1,2];replace h:=Zr h D;replace h:=Zr h B;iterate 2 (cases h;exact yD)
theorem ZHa {p_0:Zx}{r:ByteArray}(h:ZG1 p_0=some r):Sound prog J0 107 [(true,Qp p_0)] [(false,[(false,.str r)])]:=by
 refine fnk func107 rfl ?_;unfold ZG1 at h;have a:ZbS ⟨#[40]⟩=true:=by decide
 have b:ZbS ⟨#[41]⟩=true:=by decide
 have c:ZbS ⟨#[44]⟩=true:=by decide
 have d:ZbS ⟨#[]⟩=true:=by decide
 simp only[fnS,f107,Zo,go_sem,seval,a,b,c,d];refine ZPO h fun v1 e h=>Zd (Qk e)<|yA ?_;refine yB h (fun _ h=>?_) fun _ h=>?_;obtain ⟨f,h⟩:=Zv h;simp only[go_sem]at f;simp only[*,go_sem,seval];refine ZPO h fun _ g h=>Zd (ZIH g) ?_;obtain ⟨i,h⟩:=Zv h;simp only[go_sem]at i;obtain ⟨j,h⟩:=Zv h;simp only[go_sem]at j;iterate 2 (cases h;exact yD)
end
end Go.Proofs.YtlpkbfjcdaanmaaGreatDoor
