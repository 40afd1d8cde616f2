/- A part of the proof; no conditions. -/
import Derived.Test.YtlpkbfjcdaanmaaGreatDoorMissedQ6
import GoSem.Claims
import Derived.Test.YtlpkbfjcdaanmaaGreatDoorProg
import Derived.Lib.LaidTab
import Derived.Lib.ItoaNum
import Derived.Shelf.Strings.Builder1
import Derived.Shelf.Strings.Builder2
import Derived.Shelf.Strings.OnBuilder
import Derived.Shelf.Small.Strs
import Derived.Shelf.Small.Wraps
import Derived.Shelf.Strconv.Atoi
import Derived.Shelf.Strconv.Itoa0
import Derived.Shelf.Strconv.Itoa1
import Derived.Shelf.LaysM
import Derived.Shelf.Strconv.Itoa2
import Derived.Shelf.Strconv.Itoa3
import Derived.Shelf.Strconv.AtoiErrFast
import Derived.Shelf.Strconv.ParseIntEmpty
import Derived.Shelf.Strconv.AtoiFail
import Derived.Shelf.Strconv.Clone
import Derived.Shelf.Strconv.SyntaxError
import Derived.Shelf.LaysC
import Derived.Shelf.Strconv.ToError
import Derived.Shelf.Strconv.AtoiErr
import Derived.Shelf.Strconv.ErrVar
import Derived.Shelf.Sort.Plain
import Derived.Shelf.Slices.In.SortNone
import Derived.Shelf.Slices.In.SortNone2
import Derived.Lib.AppendIntMem
import Derived.Lib.ItoaLen
import Derived.Lib.AtoiErrMem
open Array renaming replicate→A7,getD_eq_getD_getElem?→AO,getElem?_append→AP,getElem?_eq_some_iff→AR,getElem?_eq_none→AU,getElem?_toList→AZ,getElem?_modify→Aa
open Bool renaming and_eq_true→A8,not_eq_true'→AS,false_or→Ac,or_false→Ad
open Int renaming toNat_natCast→AF
open List renaming map→A0,mem_append→A6,size_toArray→AD,mem_map→AG,toArray→AH,eq_nil_of_length_eq_zero→AJ,getElem?_map→AK,nodup_append→AL,mapM_cons→AN,all_eq_true→AQ,length_map→AW,getElem?_take→AX,getElem?_drop→AY,map_map→Ab
open List.Sublist renaming append→AM
open List.cons renaming injEq→AE
open Nat renaming le_refl→AA,le_of_ble_eq_true→AB,zero_le→AI
open Option renaming bind_eq_some_iff→A9,map_eq_some_iff→AC,bind_some→AT
open Option.some renaming inj→A3,injEq→A5
open Prod.mk renaming injEq→A4
open Go.Proofs.Tryz
set_option linter.unusedSimpArgs false
set_option linter.unusedVariables false
set_option maxRecDepth 1000000
set_option maxHeartbeats 4000000
namespace Go.Proofs.YtlpkbfjcdaanmaaGreatDoor
section
open Go.RowKit
section
variable {P:Program} {J:World->Prop} {JF:Nat->Prop} {W:ZaK} {U:Nat->Prop} {st:St} {w w':World} {a:Act} {tt:Nat->Option TI} {g:Gh}
def nK (g:Gh) (K:Nat->Prop) (b:Nat):Prop:=g.Z b\/∃k,K k/\b∈g.O k
theorem ZwB {k e m n B:Nat}{cs:List Value}(h:w.ownsV 0 e m (g.val k) n cs) (hB:∀b∈(g.val k).ownBlock.toList,B<=b):w.ownsV B e m (g.val k) n cs:=by
 refine ⟨h.1,?_⟩;rcases h.2 with h0|⟨q,o,cap,a,hv,hg,r⟩
 .exact .inl h0
 .exact .inr ⟨q,o,cap,a,hv,hB q (by simp [hv,Value.ownBlock]),r⟩
variable {K:Nat->Prop}
theorem Zr1 [NW] (hI:HI W g st.ob w) (hK:∀k,K k->ZkR (st.ob k)=false/\∀e m xs d,st.ob k=.row e m xs d->d=2) {x:AV}{ct:Bool×CT}{ks:List Nat}{v:Value}(h:ZfT st x=some (ct,ks)) (l:∀k∈ks,K k/\∀b∈g.O k++g.D k,W.heap.size<=b) (hx:AVR g w x v):OC w W.heap.size (nK g K) ct v (g.F ks):=by
 have a:∀b,nK g K b->g.own b:=fun b hb=>by
  rcases hb with hz|⟨k,_,mk⟩
  .exact .inr hz
  .exact .inl ⟨k,mk⟩
 cases x with
 |c y=>
  obtain ⟨L,h1,h2⟩:=hx;cases y<;>simp only[ZfT,A5,A4]at h<;>obtain ⟨rfl,rfl⟩:=h
  .exact ⟨⟨h1.1,rfl⟩,by simp [Gh.F]⟩
  .exact ⟨⟨h1.1,rfl⟩,by simp [Gh.F]⟩
  .exact ⟨⟨h1.1,rfl,h1.2.2⟩,by simp [Gh.F]⟩
  .exact ⟨by simp [Gh.F],L,h1,fun b mb hb=>h2 b mb (a b hb)⟩
  .exact ⟨by simp [Gh.F],L,h1,fun b mb hb=>h2 b mb (a b hb)⟩
  .exact ⟨by simp [Gh.F],L,h1,fun b mb hb=>h2 b mb (a b hb)⟩
  .exact ⟨by simp [Gh.F],L,h1,fun b mb hb=>h2 b mb (a b hb)⟩
  .exact ⟨⟨rfl,h1.2⟩,by simp [Gh.F]⟩
  .exact ⟨by simp [Gh.F],L,h1,fun b mb hb=>h2 b mb (a b hb)⟩
  .exact ⟨by simp [Gh.F],L,h1,fun b mb hb=>h2 b mb (a b hb)⟩
 |row k=>
  simp only[ZfT]at h;split at h
  .rename_i e m xs d hk;obtain ⟨hm,cs,L,o1,o2,o3,o5⟩:=hI.deep hk;split at h
   .rename_i hd;simp only[A5,A4]at h;obtain ⟨rfl,rfl⟩:=h;have i:=l k yG;rcases o5 with ⟨_,q1,q2⟩|⟨q,_⟩|⟨q,_⟩
    .refine ⟨hm,cs,L,by rw [hx.1];exact ZwB o1 fun b mb=>i.2 b (by simp [q1,mb]),o2,by simp [Gh.F,q1,q2,hx.1],fun b mb=>.inr ⟨k,i.1,by rw [q1];rw [hx.1]at mb;exact mb⟩⟩
    .omega
    .omega
   .rename_i hd;simp only[A5,A4]at h;obtain ⟨rfl,rfl⟩:=h;have f:¬K k:=fun h=>hd ((hK k h).2 e m xs d hk);obtain ⟨A,cap,L0,s1,s2,s3,s4,s5⟩:=Sl.row o1;refine ⟨by simp [Gh.F],L0++L,⟨A,cap,cs,L0,L,by rw [hx.1,s1],s2,s3,rfl,hm,s4,o2⟩,fun b mb hb=>?_⟩;rcases A6.1 mb with m1|m1
    .have m2:=s5.subset m1;rcases o5 with ⟨q,_⟩|⟨_,q1,q2⟩|⟨_,_,_,q⟩
     .exact hd q
     .have mk:b∈g.O k++g.D k:=by simp [q1,m2]
      rcases hb with hz|⟨j,hj,mj⟩
      .exact hI.nz mk hz
      .exact hI.apart k j (fun e=>f (e ▸ hj)) b mk (by simp [mj])
     .exact q b m2 (a b hb)
    .exact o3 b m1 (a b hb)
  .rename_i kk vk kv hk;simp only[A5,A4]at h;obtain ⟨rfl,rfl⟩:=h;have ho:=hI.obs k;rw [hk]at ho;obtain ⟨b,es,c,q1,q2,q3,q4,q5,q6⟩:=ho;have f:¬K k:=fun h=>by have:=(hK k h).1;rw [hk]at this;simp [ZkR]at this
   refine ⟨by simp [Gh.F],[b],⟨b,es,c,by rw [hx.1,q1],q4,q5,q6,rfl⟩,fun x mx hb=>?_⟩;simp at mx;subst mx;have mk:x∈g.O k++g.D k:=by simp [q2]
   rcases hb with hz|⟨j,hj,mj⟩
   .exact hI.nz mk hz
   .exact hI.apart k j (fun e=>f (e ▸ hj)) x mk (by simp [mj])
  .simp at h
 |nil e m=>
  simp only[ZfT]at h;split at h
  .rename_i hm;simp only[A5,A4]at h;obtain ⟨rfl,rfl⟩:=h;have o:v=.slice none 0 0:=hx;subst o;exact ⟨hm,[],[],ZfF _ _ _ _,⟨rfl,rfl⟩,by simp [Gh.F,Value.ownBlock],by simp [Value.ownBlock]⟩
  .simp at h
 |n y=>
  obtain ⟨L,h1,h2⟩:=NR.toC hx;simp only[ZfT,A5,A4]at h;obtain ⟨rfl,rfl⟩:=h;exact ⟨by simp [Gh.F],L,h1,fun b mb hb=>h2 b mb (a b hb)⟩
 |dead=>
  simp only[ZfT,A5,A4]at h;obtain ⟨rfl,rfl⟩:=h;exact ⟨by simp [Gh.F],[],⟨rfl,hx⟩,yG⟩
theorem Zpn [NW] (hI:HI W g st.ob w) (hK:∀k,K k->ZkR (st.ob k)=false/\∀e m xs d,st.ob k=.row e m xs d->d=2):∀{xs:List AV}{cts:List (Bool×CT)}{ks:List Nat}{vs:List Value},Zdc st xs=some (cts,ks)->(∀k∈ks,K k/\∀b∈g.O k++g.D k,W.heap.size<=b)->ZM (AVR g w) xs vs->OCs w W.heap.size (nK g K) cts vs (g.F ks)
 | [],_,_,[],h,_,_=>by
  simp only[Zdc,A5,A4]at h;obtain ⟨rfl,rfl⟩:=h;exact ⟨rfl,by simp [Gh.F]⟩
 | [],_,_,_::_,_,_,h=>h.elim
 |_::_,_,_,[],_,_,h=>h.elim
 |x::r,cts,ks,v::vs,h,hks,hr=>by
  simp only[Zdc]at h;obtain ⟨⟨c1,k1⟩,h1,h⟩:=A9.1 h;obtain ⟨⟨c2,k2⟩,h2,h⟩:=AC.1 h;simp only[A4]at h;obtain ⟨rfl,rfl⟩:=h;exact ⟨v,vs,g.F k1,g.F k2,rfl,by simp [Gh.F],Zr1 hI hK h1 (fun k mk=>hks k (by simp [mk])) hr.1,Zpn hI hK h2 (fun k mk=>hks k (by simp [mk])) hr.2⟩
theorem Zr7 [NW] (hI:HI W g st.ob w) (hK:∀k,K k->ZkR (st.ob k)=false/\∀e m xs d,st.ob k=.row e m xs d->d=2) {ag:Bool}{cs:List AV}{cts:List (Bool×CT)}{ks:List Nat}{v:Value}(h:Zdc st cs=some (cts,ks)) (a:∀k∈ks,K k/\∀b∈g.O k++g.D k,W.heap.size<=b) (hx:PVR g w ag cs v):OP w W.heap.size (nK g K) (ag,cts) v (g.F ks):=by
 cases ag with
 |true=>obtain ⟨vs,rfl,h2⟩:=hx;exact .inl ⟨rfl,vs,rfl,Zpn hI hK h a h2⟩
 |false=>
  obtain ⟨x,rfl,h2⟩:=hx;simp only[Zdc]at h;obtain ⟨⟨c1,k1⟩,h1,h⟩:=A9.1 h;simp at h;obtain ⟨rfl,rfl⟩:=h;exact .inr ⟨rfl,c1,rfl,Zr1 hI hK h1 a h2⟩
theorem OC.one {B:Nat}{n:Nat->Prop}{x:Bool×CT}{v:Value}{F:List Nat}(h:OC w B n x v F):v.oneCell'=true:=by
 obtain ⟨b,x⟩:=x;cases b with
 |true=>obtain ⟨_,L,h1,_⟩:=h;exact h1.one
 |false=>
  cases x with
  |sl e q xs=>
   obtain ⟨_,cs,L,o1,_⟩:=h;obtain ⟨A,cap,hv⟩:=Zdl o1;rw [hv];rfl
  |int k i=>exact h.1.one
  |bool b=>exact h.1.one
  |str s=>exact h.1.one
  |ifc s=>exact h.1.one
  |any=>exact h.1.one
  |_=>exact h.elim
/- what is given is said to be lent -/
theorem ZqN [NW] {B:Nat}{n:Nat->Prop}:∀{r d:List (Bool×CT)}{vs:List Value}{F:List Nat},OCs w B n r vs F->wkC r d->F.Nodup->∃F',F'.Sublist F/\∀m:Nat->Prop,(∀b∈F',n b->m b)->(∀b,m b->n b)->(∀b∈F,m b->b∈F')->OCs w B m d vs F'
 | [],[],vs,F,h,_,_=>⟨[],yG,fun m _ _ _=>⟨h.1,rfl⟩⟩
 | [],_::_,_,_,_,h,_=>h.elim
 |_::_,[],_,_,_,h,_=>h.elim
 |x::r,y::d,_,_,⟨v,vs,F1,F2,rfl,rfl,h1,h2⟩,a,hnd=>by
  rw [AL]at hnd;have a:wk1 x y (wkC r d):=a;unfold wk1 at a;by_cases c:ZuL y.2=true
  .rw [if_pos c]at a;obtain ⟨F2',s2,g⟩:=ZqN h2 a hnd.2.1;refine ⟨F2',s2.trans (List.sublist_append_right _ _),fun m m1 m2 m3=>⟨v,vs,[],F2',rfl,rfl,?_,g m m1 m2 fun b mb hb=>m3 b (by simp [mb]) hb⟩⟩;have f:=h1.one;obtain ⟨b2,y⟩:=y;cases y<;>simp [ZuL]at c
   cases b2 with
   |true=>exact ⟨rfl,[],⟨rfl,f⟩,yG⟩
   |false=>exact ⟨⟨rfl,f⟩,rfl⟩
  rw [if_neg c]at a;obtain ⟨e1,e2,hw⟩:=a;obtain ⟨F2',s2,g⟩:=ZqN h2 hw hnd.2.1;have key:∃F1',F1'.Sublist F1/\∀m:Nat->Prop,(∀b∈F1',n b->m b)->(∀b,m b->n b)->(∀b∈F1,m b->b∈F1')->OC w B m y v F1':=by
   obtain ⟨b1,x⟩:=x;obtain ⟨b2,y⟩:=y;simp only at e1 e2;subst e1;cases b1 with
   |true=>
    have:b2=true:=by rcases e2 with e|e<;>simp_all
    subst this;obtain ⟨rfl,L,q1,q2⟩:=h1;exact ⟨[],yG,fun m _ m2 _=>⟨rfl,L,q1,fun b mb hb=>q2 b mb (m2 b hb)⟩⟩
   |false=>
    cases b2 with
    |false=>
     refine ⟨F1,List.Sublist.refl _,fun m m1 _ _=>?_⟩;cases x with
     |sl e q xs=>
      obtain ⟨hm,cs,L,o1,o2,o3,o4⟩:=h1;exact ⟨hm,cs,L,o1,o2,o3,fun b mb=>m1 b (by simp [o3,mb]) (o4 b mb)⟩
     |int k i=>exact h1
     |bool b=>exact h1
     |str s=>exact h1
     |ifc s=>exact h1
     |any=>exact h1
     |_=>exact h1.elim
    |true=>
     refine ⟨[],yG,fun m _ _ m3=>⟨rfl,?_⟩⟩;cases x with
     |sl e q xs=>
      obtain ⟨hm,cs,L,o1,o2,o3,o4⟩:=h1;obtain ⟨A,cap,L0,s1,s2,s3,s4,s5⟩:=Sl.row o1;refine ⟨L0++L,⟨A,cap,cs,L0,L,s1,s2,s3,rfl,hm,s4,o2⟩,fun b mb hb=>?_⟩;have:b∈F1:=by
       rw [o3];rcases A6.1 mb with m1|m1
       .exact A6.2 (.inl (s5.subset m1))
       .exact A6.2 (.inr m1)
      have:=m3 b this hb;simp at this
     |int k i=>exact ⟨[],h1.1,yG⟩
     |bool b=>exact ⟨[],h1.1,yG⟩
     |str s=>exact ⟨[],h1.1,yG⟩
     |ifc s=>exact ⟨[],h1.1,yG⟩
     |any=>exact ⟨[],h1.1,yG⟩
     |_=>exact h1.elim
  obtain ⟨F1',s1,f⟩:=key;refine ⟨F1'++F2',AM s1 s2,fun m m1 m2 m3=>⟨v,vs,F1',F2',rfl,rfl,f m (fun b mb=>m1 b (by simp [mb])) m2 (fun b mb hb=>?_),g m (fun b mb=>m1 b (by simp [mb])) m2 (fun b mb hb=>?_)⟩⟩
  .rcases A6.1 (m3 b (by simp [mb]) hb) with h|h
   .exact h
   .exact absurd rfl (hnd.2.2 b mb b (s2.subset h))
  .rcases A6.1 (m3 b (by simp [mb]) hb) with h|h
   .exact absurd rfl (hnd.2.2 b (s1.subset h) b mb)
   .exact h
theorem ZDe [NW] {B:Nat}{n:Nat->Prop}{x y:RT}{v:Value}{F:List Nat}(h:OP w B n x v F) (e1:x.1=y.1) (hw:wkC x.2 y.2) (d:F.Nodup):∃F',F'.Sublist F/\∀m:Nat->Prop,(∀b∈F',n b->m b)->(∀b,m b->n b)->(∀b∈F,m b->b∈F')->OP w B m y v F':=by
 rcases h with ⟨h1,vs,rfl,h2⟩|⟨h1,ct,h2,h3⟩
 .obtain ⟨F',s,h⟩:=ZqN h2 hw d;exact ⟨F',s,fun m a b c=>.inl ⟨e1 ▸ h1,vs,rfl,h m a b c⟩⟩
 .obtain ⟨F',s,h⟩:=ZqN (r:=x.2) (vs:=[v]) (F:=F) (by rw [h2];exact ⟨v,[],F,[],rfl,yG,h3,rfl,rfl⟩) hw d;refine ⟨F',s,fun m p1 p2 p3=>.inr ⟨e1 ▸ h1,?_⟩⟩;have h4:=h m p1 p2 p3;generalize y.2=l at h4 hw
  cases l with
  |nil=>rw [h2]at hw;exact hw.elim
  |cons c l=>
   cases l with
   |nil=>
    obtain ⟨v',vs',F1,F2,q1,rfl,q3,q4⟩:=h4;simp only[AE]at q1;obtain ⟨rfl,rfl⟩:=q1;obtain ⟨_,rfl⟩:=q4;exact ⟨c,rfl,by simpa using q3⟩
   |cons _ _=>
    rw [h2]at hw;have hw:wk1 _ _ False:=hw;unfold wk1 at hw;split at hw
    .exact hw.elim
    .exact hw.2.2.elim
theorem ZxM [NW] {B:Nat}{n:Nat->Prop}:∀{r a:List RT}{vs:List Value}{F:List Nat},OPs w B n r vs F->wkR r a->F.Nodup->∃F',F'.Sublist F/\∀m:Nat->Prop,(∀b∈F',n b->m b)->(∀b,m b->n b)->(∀b∈F,m b->b∈F')->OPs w B m a vs F'
 | [],[],vs,F,h,_,_=>⟨[],yG,fun m _ _ _=>⟨h.1,rfl⟩⟩
 | [],_::_,_,_,_,h,_=>h.elim
 |_::_,[],_,_,_,h,_=>h.elim
 |x::r,y::a,_,_,⟨v,vs,F1,F2,rfl,rfl,h1,h2⟩,⟨e1,e2,hw⟩,hnd=>by
  rw [AL]at hnd;obtain ⟨F2',s2,c⟩:=ZxM h2 hw hnd.2.1;obtain ⟨F1',s1,d⟩:=ZDe h1 e1 e2 hnd.1;refine ⟨F1'++F2',AM s1 s2,fun m m1 m2 m3=>⟨v,vs,F1',F2',rfl,rfl,d m (fun b mb=>m1 b (by simp [mb])) m2 (fun b mb hb=>?_),c m (fun b mb=>m1 b (by simp [mb])) m2 (fun b mb hb=>?_)⟩⟩
  .rcases A6.1 (m3 b (by simp [mb]) hb) with h|h
   .exact h
   .exact absurd rfl (hnd.2.2 b mb b (s2.subset h))
  .rcases A6.1 (m3 b (by simp [mb]) hb) with h|h
   .exact absurd rfl (hnd.2.2 b (s1.subset h) b mb)
   .exact h
def ZfZ (tmps:Array Value):ResultVar->Sem Value
 |.tmp t=>pure (tmps.getD t undef)
 |.cell b t=>do loadVar t (<-asAddr (tmps.getD b undef))
theorem ZiZ (fn:Func) (a:Array Value):results fn a=(do let vs <-fn.results.mapM (ZfZ a);pure (if h:vs.size=1 then vs[0] else .tuple vs)):=by
 unfold results;congr 1
theorem ZmR [NW] (htt:∀t i,tt t=some i->TOk P t i) (hI:HI W g st.ob w) (hS:∀t,SVR g w (st.sl t) (a.tmps.getD t undef)) (hU:StU U st) (hK:∀k,K k->ZkR (st.ob k)=false/\∀e m xs d,st.ob k=.row e m xs d->d=2):∀{rs:List ResultVar}{j:List RT}{ks:List Nat},Zc3 tt st rs=some (j,ks)->(∀k∈ks,K k/\∀b∈g.O k++g.D k,W.heap.size<=b)->
  ∃vs:List Value,(rs.mapM (ZfZ a.tmps)).run P w=.ok vs w/\OPs w W.heap.size (nK g K) j vs (g.F ks)
 | [],j,ks,h,_=>by
  simp only[Zc3,A5,A4]at h;obtain ⟨rfl,rfl⟩:=h;exact ⟨[],yG,rfl,by simp [Gh.F]⟩
 |.tmp t::r,j,ks,h,hks=>by
  simp only[Zc3]at h;split at h
  .rename_i ag cs f;obtain ⟨⟨c1,k1⟩,h1,h⟩:=A9.1 h;obtain ⟨⟨c2,k2⟩,h2,h⟩:=AC.1 h;simp only[A4]at h;obtain ⟨rfl,rfl⟩:=h;obtain ⟨vs,i1,i2⟩:=ZmR htt hI hS hU hK h2 (fun k mk=>hks k (by simp [mk]));have hs:=hS t;rw [f]at hs;refine ⟨a.tmps.getD t undef::vs,?_,_,vs,g.F k1,g.F k2,rfl,by simp [Gh.F],Zr7 hI hK h1 (fun k mk=>hks k (by simp [mk])) hs,i2⟩;simp only[AN,ZfZ,Sem.run_bind,Sem.run_pure,Result.andThen_ok,i1]
  .simp at h
 |.cell t ty::r,j,ks,h,hks=>by
  simp only[Zc3]at h;split at h
  .rename_i ag cs f;obtain ⟨⟨c1,k1⟩,h1,h⟩:=A9.1 h;obtain ⟨⟨c2,k2⟩,h2,h⟩:=AC.1 h;simp only[A4]at h;obtain ⟨rfl,rfl⟩:=h;obtain ⟨vs,i1,i2⟩:=ZmR htt hI hS hU hK h2 (fun k mk=>hks k (by simp [mk]));obtain ⟨cv,l1,l2,_⟩:=Zu6 (P:=P) (U:=U) htt hI hU f (hS t);have hl:(do loadVar ty (<-asAddr (a.tmps.getD t undef)):Sem Value).run P w=.ok cv w:=by
    have:∃b,a.tmps.getD t undef=.pointer (some b):=by
     have hs:=hS t;cases hsl':st.sl t with
     |bp k off=>rw [hsl']at hs;obtain ⟨b,_,hv⟩:=hs;exact ⟨_,hv⟩
     |rp k m i off=>rw [hsl']at hs;obtain ⟨b,_,_,_,_,hv⟩:=hs;exact ⟨_,hv⟩
     |ep e off=>rw [hsl']at hs;obtain ⟨b,_,_,_,hv,_⟩:=hs;exact ⟨_,hv⟩
     |p l o=>
      rw [hsl']at hs f;cases l with
      |true=>simp [QZ]at f
      |false=>
       cases o with
       |nil=>simp [QZ]at f
       |cons y q=>
        cases q with
        |cons _ _=>cases y<;>first|(simp [QZ]at f;done)|(rename_i z;cases z<;>simp [QZ]at f)
        |nil=>cases y with
         |c z=>cases z with
          |pt e=>obtain ⟨b,_,_,hv,_⟩:=Zu3 hs;exact ⟨_,hv⟩
          |_=>simp [QZ]at f
         |_=>simp [QZ]at f
     |_=>rw [hsl']at f;simp [QZ]at f
    obtain ⟨b,hb⟩:=this;rw [hb]at l1 ⊢;simpa [Instr.loadAt,Instr.sureAddr,asAddr]using l1
   refine ⟨cv::vs,?_,_,vs,g.F k1,g.F k2,rfl,by simp [Gh.F],Zr7 hI hK h1 (fun k mk=>hks k (by simp [mk])) l2,i2⟩;have u:(ZfZ a.tmps (.cell t ty)).run P w=.ok cv w:=hl;simp only[AN,Sem.run_bind,u,i1,Sem.run_pure,Result.andThen_ok]
  .simp at h
theorem Ztr:∀{xs:List AV}{cts:List (Bool×CT)}{ks:List Nat},Zdc st xs=some (cts,ks)->∀k∈ks,∃e m xs,st.ob k=.row e m xs 2
 | [],_,_,h,k,mk=>by
  simp only[Zdc,A5,A4]at h;rw [<-h.2]at mk;simp at mk
 |x::r,cts,ks,h,k,mk=>by
  simp only[Zdc]at h;obtain ⟨⟨c1,k1⟩,h1,h⟩:=A9.1 h;obtain ⟨⟨c2,k2⟩,h2,h⟩:=AC.1 h;simp only[A4]at h;obtain ⟨rfl,rfl⟩:=h;rcases A6.1 mk with mk|mk
  .cases x with
   |c y=>cases y<;>simp only[ZfT,A5,A4]at h1<;>(rw [<-h1.2]at mk;simp at mk)
   |row j=>
    simp only[ZfT]at h1;split at h1
    .rename_i e m xs d hk;split at h1
     .rename_i hd;simp only[A5,A4]at h1;rw [<-h1.2]at mk;simp at mk;subst mk;exact ⟨e,m,xs,by rw [hk,hd]⟩
     .simp only[A5,A4]at h1;rw [<-h1.2]at mk;simp at mk
    .simp only[A5,A4]at h1;rw [<-h1.2]at mk;simp at mk
    .simp at h1
   |nil e m=>
    simp only[ZfT]at h1;split at h1
    .simp only[A5,A4]at h1;rw [<-h1.2]at mk;simp at mk
    .simp at h1
   |n y=>
    simp only[ZfT,A5,A4]at h1;rw [<-h1.2]at mk;simp at mk
   |dead=>
    simp only[ZfT,A5,A4]at h1;rw [<-h1.2]at mk;simp at mk
  .exact Ztr h2 k mk
theorem Zl3 [NW]:∀{rs:List ResultVar}{a:List RT}{ks:List Nat},Zc3 tt st rs=some (a,ks)->∀k∈ks,∃e m xs,st.ob k=.row e m xs 2
 | [],_,_,h,k,mk=>by
  simp only[Zc3,A5,A4]at h;rw [<-h.2]at mk;simp at mk
 |.tmp t::r,a,ks,h,k,mk=>by
  simp only[Zc3]at h;split at h
  .obtain ⟨⟨c1,k1⟩,h1,h⟩:=A9.1 h;obtain ⟨⟨c2,k2⟩,h2,h⟩:=AC.1 h;simp only[A4]at h;obtain ⟨rfl,rfl⟩:=h;rcases A6.1 mk with mk|mk
   .exact Ztr h1 k mk
   .exact Zl3 h2 k mk
  .simp at h
 |.cell t ty::r,a,ks,h,k,mk=>by
  simp only[Zc3]at h;split at h
  .obtain ⟨⟨c1,k1⟩,h1,h⟩:=A9.1 h;obtain ⟨⟨c2,k2⟩,h2,h⟩:=AC.1 h;simp only[A4]at h;obtain ⟨rfl,rfl⟩:=h;rcases A6.1 mk with mk|mk
   .exact Ztr h1 k mk
   .exact Zl3 h2 k mk
  .simp at h
theorem ZPK [NW] {z:Nat->Prop}{x:Bool×List CT}{v:Value}(hg:∀b,g.own b->z b) (h:ZnX w z x v):SVR g w (.p x.1 (x.2.map .c)) v:=by
 rcases h with ⟨h1,vs,L,rfl,h2,h4⟩|⟨h1,ct,L,h2,h3,h4⟩
 .rw [h1];exact ⟨vs,rfl,h2.avr fun b mb hb=>h4 b mb (hg b hb)⟩
 .rw [h1,h2];exact ⟨_,rfl,L,h3,fun b mb hb=>h4 b mb (hg b hb)⟩
theorem Zu4 [NW] {x:CT}{v:Value}{L:List Nat}(h:RC w x v L) (hL:∀b∈L,¬g.own b):AVR g w (Zjj x) v:=by
 cases x with
 |nl e m=>exact h.1
 |_=>exact ⟨L,h,hL⟩
theorem ZsY [NW]:∀{e:List CT}{cs:List Value}{L:List Nat},RCs w e cs L->(∀b∈L,¬g.own b)->ZM (AVR g w) (e.map Zjj) cs
 | [],_,_,⟨h1,h2⟩,_=>by subst h1;trivial
 |x::r,_,_,⟨v,cs,L1,L2,h1,h2,h3,h4⟩,hL=>by
  subst h1 h2;exact ⟨Zu4 h3 fun b m=>hL b (by simp [m]),ZsY h4 fun b m=>hL b (by simp [m])⟩
theorem Znq [NW] {z:Nat->Prop}{x:Bool×List CT}{v:Value}(hg:∀b,g.own b->z b) (h:ZnX w z x v):SVR g w (.p x.1 (x.2.map Zjj)) v:=by
 rcases h with ⟨h1,vs,L,rfl,h2,h4⟩|⟨h1,ct,L,h2,h3,h4⟩
 .rw [h1];exact ⟨vs,rfl,ZsY h2 fun b mb hb=>h4 b mb (hg b hb)⟩
 .rw [h1,h2];exact ⟨_,rfl,Zu4 h3 fun b mb hb=>h4 b mb (hg b hb)⟩
theorem Zmw (e:List CT):QW U (e.map Zjj):=fun y m=>by
 obtain ⟨x,_,rfl⟩:=AG.1 m;cases x<;>trivial
theorem Zxd [NW] (htt:∀t i,tt t=some i->TOk P t i) {fn:Func}{f:List RT}(hI:Inv W U st a w) (hH:HI W g st.ob w) (hS:∀t,SVR g w (st.sl t) (a.tmps.getD t undef)) {r:List RT}{ks:List Nat}(hx:Zc3 tt st fn.results.toList=some (r,ks)) (j:ks.Nodup) (hw:wkR r f)
  (hB:∀k∈ks,∀b∈g.O k++g.D k,W.heap.size<=b) (K0:Nat->Prop) (l:∀k,K0 k->ZkR (st.ob k)=false/\∀e m xs d,st.ob k=.row e m xs d->d=2):
  ∃v m,(results fn a.tmps).run P w=.ok v w/\ZkF w W.heap.size m f v/\(∀b,m b->g.own b)/\(∀b,m b->g.Z b\/(∃k,(k∈ks\/K0 k)/\b∈g.O k))/\∀b,b∉g.F ks->(g.Z b\/∃k,K0 k/\b∈g.O k)->m b:=by
 obtain ⟨us,r1,r2⟩:=ZmR (K:=fun k=>k∈ks\/K0 k) htt hH hS hI.wf (fun k hk=>by
  rcases hk with hk|hk
  .obtain ⟨e',m',o,h'⟩:=Zl3 hx k hk;refine ⟨by rw [h'];rfl,fun e m xs d he=>?_⟩;rw [he]at h';simp only[Ob.row.injEq]at h';exact h'.2.2.2
  .exact l k hk) hx (fun k mk=>⟨.inl mk,hB k mk⟩)
 have c:=hH.nodupF j;obtain ⟨F',s,hF⟩:=ZxM r2 hw c;have p:∀b∈g.F ks,W.heap.size<=b:=fun b mb=>by
  obtain ⟨k,hk,mk⟩:=ZkZ mb;exact hB k hk b mk
 refine ⟨(if h:us.toArray.size=1 then us.toArray[0] else .tuple us.toArray),fun b=>nK g (fun k=>k∈ks\/K0 k) b/\(b∈g.F ks->b∈F'),?_,⟨us,F',hF _ (fun b mb hb=>⟨hb,fun _=>mb⟩) (fun b hb=>hb.1) (fun b mb hb=>hb.2 mb),⟨c.sublist s,fun b mb=>p b (s.subset mb),fun b mb=>?_⟩,rfl⟩,fun b hb=>?_,fun b hb=>hb.1,fun b hb hn=>⟨?_,fun mb=>absurd mb hb⟩⟩
 .rw [ZiZ];have e:fn.results.mapM (ZfZ a.tmps)=AH <$> fn.results.toList.mapM (ZfZ a.tmps):=by
   rw [<-List.mapM_toArray]
  have e2:(AH <$> fn.results.toList.mapM (ZfZ a.tmps)).run P w=.ok us.toArray w:=by
   rw [map_eq_pure_bind];simp only[Sem.run_bind,r1,Result.andThen_ok,Sem.run_pure]
  rw [e];simp only[Sem.run_bind,e2,Result.andThen_ok,Sem.run_pure]
 .obtain ⟨k,hk,mk⟩:=ZkZ (s.subset mb);obtain ⟨e',m',o,h'⟩:=Zl3 hx k hk;have:=(hH.plain k b mk).2;rw [h']at this;exact this
 .rcases hb.1 with hz|⟨k,_,mk⟩
  .exact .inr hz
  .exact .inl ⟨k,mk⟩
 .rcases hn with hz|⟨k,hk,mk⟩
  .exact .inl hz
  .exact .inr ⟨k,.inr hk,mk⟩
theorem Zru [NW] {g':Gh}(hv:∀k e m xs,st.ob k=.row e m xs 2->g'.val k=g.val k/\U k) {x:AV}{v:Value}(h:AVR g w x v):AVR g' w (ZjS st x) v/\avU U (ZjS st x):=by
 have one:=h.one;unfold ZjS;split
 .obtain ⟨L,⟨h1,_⟩,_⟩:=h;exact ⟨⟨[],⟨h1,rfl⟩,yG⟩,trivial⟩
 .obtain ⟨L,⟨h1,_⟩,_⟩:=h;exact ⟨⟨[],⟨h1,rfl⟩,yG⟩,trivial⟩
 .obtain ⟨L,⟨h1,_,h3⟩,_⟩:=h;exact ⟨⟨[],⟨h1,rfl,h3⟩,yG⟩,trivial⟩
 .rename_i k;cases hk:st.ob k with
  |row e m xs d=>
   simp only[Zus];split
   .rename_i hd;subst hd;obtain ⟨e1,e2⟩:=hv k e m xs hk;exact ⟨⟨h.1.trans e1.symm,one⟩,e2⟩
   .exact ⟨one,trivial⟩
  |gone=>exact ⟨one,trivial⟩
  |box _ _=>exact ⟨one,trivial⟩
  |map _ _ _=>exact ⟨one,trivial⟩
 .exact ⟨one,trivial⟩
theorem Zkv [NW] {g':Gh}(hv:∀k e m xs,st.ob k=.row e m xs 2->g'.val k=g.val k/\U k):∀{cs:List AV}{vs:List Value},ZM (AVR g w) cs vs->ZM (AVR g' w) (cs.map (ZjS st)) vs
 | [],[],_=>trivial
 |_::_,_::_,h=>⟨(Zru hv h.1).1,Zkv hv h.2⟩
 | [],_::_,h=>h.elim
 |_::_,[],h=>h.elim
theorem ZxQ [NW] {x:SV}{v:Value}{g':Gh}(hv:∀k e m xs,st.ob k=.row e m xs 2->g'.val k=g.val k/\U k) (hu:svU U x) (a:∀k,U k->g'.val k=g.val k) (h:SVR g w x v):SVR g' w (ZoV st x) v:=by
 cases x with
 |p ag cs=>
  cases ag with
  |true=>obtain ⟨vs,e,h⟩:=h;exact ⟨vs,e,Zkv hv h⟩
  |false=>obtain ⟨y,rfl,h⟩:=h;exact ⟨_,rfl,(Zru hv h).1⟩
 |bp k off=>obtain ⟨b,h1,h2⟩:=h;exact ⟨b,(a k hu).trans h1,h2⟩
 |_=>trivial
theorem ZuH (hv:∀k e m xs,st.ob k=.row e m xs 2->U k) (x:AV):avU U (ZjS st x):=by
 unfold ZjS;split
 .trivial
 .trivial
 .trivial
 .rename_i k;cases hk:st.ob k with
  |row e m xs d=>
   simp only[Zus];split
   .rename_i hd;subst hd;exact hv k e m xs hk
   .trivial
  |gone=>trivial
  |box _ _=>trivial
  |map _ _ _=>trivial
 .trivial
theorem ZyO (hv:∀k e m xs,st.ob k=.row e m xs 2->U k) (x:SV) (hu:svU U x):svU U (ZoV st x):=by
 cases x with
 |p ag cs=>
  intro y my;obtain ⟨x,mx,rfl⟩:=AG.1 my;exact ZuH hv x
 |bp k off=>exact hu
 |_=>trivial
theorem ZnB {o:Ob}(h:ZaX st o≠.gone):(∃e m xs,o=.row e m xs 2)\/∃t cs,o=.box t cs:=by
 cases o with
 |row e m xs d=>
  simp only[ZaX]at h;split at h
  .rename_i hd;subst hd;exact .inl ⟨e,m,xs,rfl⟩
  .exact absurd rfl h
 |gone=>exact absurd rfl h
 |box t cs=>exact .inr ⟨t,cs,rfl⟩
 |map _ _ _=>exact absurd rfl h
theorem Zxg [NW] (hB:W.heap.size<=NW.B0) (t:Nat) (hI:Inv W U st a w) (B:∀k,st.n<=k->¬U k):∃U',Inv W U' (st.thaw t) a w:=by
 obtain ⟨⟨g,hH,hS⟩,hU,d,hh⟩:=hI;unfold St.thaw;cases hv:st.sl t with
 |p ag cs=>
  by_cases hc:∃e m xs,ag=false/\cs=[.n (.sl e m xs)]
  .obtain ⟨e,m,xs,rfl,rfl⟩:=hc;have hs:=hS t;rw [hv]at hs;obtain ⟨_,_,_,cs,L,h1,h2,h3,h4,h5,h6⟩:=ZFF hs;simp only[CT.sl.injEq]at h1;obtain ⟨rfl,rfl,rfl⟩:=h1;let v:=a.tmps.getD t undef
   have hn:st.ob st.n=.gone:=hU.gone _ (B _ (AA _));have c:∀k e m xs,st.ob k=.row e m xs 2->k≠st.n/\U k:=fun k e m xs hk=>⟨fun e=>by rw [e,hn]at hk;simp at hk,Classical.byContradiction fun h=>by rw [hU.gone k h]at hk;simp at hk⟩
   let g':Gh:=⟨fun k=>if k=st.n then v else g.val k,fun k=>if k=st.n then v.ownBlock.toList else (match ZaX st (st.ob k) with | .gone=>[]|_=>g.O k),fun k=>if k=st.n then L else (match ZaX st (st.ob k) with | .gone=>[]|_=>g.D k),g.Z⟩
   have gn:g'.val st.n=v/\g'.O st.n=v.ownBlock.toList/\g'.D st.n=L:=⟨if_pos rfl,if_pos rfl,if_pos rfl⟩
   have gk:∀k,k≠st.n->ZaX st (st.ob k)≠.gone->g'.O k=g.O k/\g'.D k=g.D k:=fun k hk ho=>by
    rcases ZnB ho with ⟨e',m',f,e1⟩|⟨t',i,e1⟩
    .simp [g',if_neg hk,e1,ZaX]
    .simp [g',if_neg hk,e1,ZaX]
   have gg:∀k,k≠st.n->ZaX st (st.ob k)=.gone->g'.O k=[]/\g'.D k=[]:=fun k hk ho=>by
    simp only[g',if_neg hk,ho];exact ⟨trivial,trivial⟩
   have o:∀k b,b∈g'.O k++g'.D k->(k=st.n/\b∈v.ownBlock.toList++L)\/(k≠st.n/\ZaX st (st.ob k)≠.gone/\b∈g.O k++g.D k):=fun k b mb=>by
    by_cases hk:k=st.n
    .subst hk;rw [gn.2.1,gn.2.2]at mb;exact .inl ⟨rfl,mb⟩
    .by_cases ho:ZaX st (st.ob k)=.gone
     .rw [(gg k hk ho).1,(gg k hk ho).2]at mb;simp at mb
     .rw [(gk k hk ho).1,(gk k hk ho).2]at mb;exact .inr ⟨hk,ho,mb⟩
   have z:∀k b,b∈g.O k++g.D k->g.low b:=fun k b mb=>by
    rcases A6.1 mb with m1|m1
    .exact .inl (.inl ⟨k,m1⟩)
    .exact .inr ⟨k,m1⟩
   refine ⟨fun k=>U k\/k=st.n,⟨g',⟨hH.below,fun k=>?_,fun k=>?_,fun k j C b mb mj=>?_,fun k b mb=>?_,hH.gz,hH.zx,hH.nw⟩,fun s=>?_⟩,⟨fun s=>?_,fun k=>?_,fun k hk=>?_⟩,d,hh⟩
   .show ObR g' w k (if k=st.n then .row e m xs 2 else ZaX st (st.ob k))
    by_cases hk:k=st.n
    .subst hk;rw [if_pos rfl];exact ⟨h2,cs,L,by rw [gn.1];exact h3,h4,.inl ⟨rfl,by rw [gn.2.1,gn.1],gn.2.2⟩⟩
    .rw [if_neg hk];by_cases ho:ZaX st (st.ob k)=.gone
     .rw [ho];exact gg k hk ho
     .have u:=hH.obs k;have ev:g'.val k=g.val k:=if_neg hk;obtain ⟨eO,eD⟩:=gk k hk ho;rcases ZnB ho with ⟨e',m',f,e1⟩|⟨t',i,e1⟩
      .rw [e1]at u ⊢;obtain ⟨p1,i,L',p2,p3,p4⟩:=u;rw [show ZaX st (.row e' m' f 2)=.row e' m' f 2 from by simp [ZaX]];refine ⟨p1,i,L',by rw [ev];exact p2,p3,?_⟩;rw [ev,eO,eD];rcases p4 with p4|⟨q,_⟩|⟨q,_⟩
       .exact .inl p4
       .omega
       .omega
      .rw [e1]at u ⊢;obtain ⟨b,vs,p1,p2,p3,p4,p5⟩:=u;exact ⟨b,vs,ev.trans p1,eO.trans p2,eD.trans p3,p4,Zkv (U:=U) (fun k e m xs hk=>⟨if_neg (c k e m xs hk).1,(c k e m xs hk).2⟩) p5⟩
   .by_cases hk:k=st.n
    .subst hk;rw [gn.2.1,gn.2.2];exact h5
    .by_cases ho:ZaX st (st.ob k)=.gone
     .rw [(gg k hk ho).1,(gg k hk ho).2];simp
     .rw [(gk k hk ho).1,(gk k hk ho).2];exact hH.nodup k
   .rcases o k b mb with ⟨rfl,m1⟩|⟨k1,k2,m1⟩
    .rcases o j b mj with ⟨rfl,m2⟩|⟨j1,j2,m2⟩
     .exact C rfl
     .exact (h6 b m1).1 (z j b m2)
    .rcases o j b mj with ⟨rfl,m2⟩|⟨j1,j2,m2⟩
     .exact (h6 b m2).1 (z k b m1)
     .exact hH.apart k j C b m1 m2
   .show _/\Qf w (if k=st.n then .row e m xs 2 else ZaX st (st.ob k)) b
    rcases o k b mb with ⟨rfl,m1⟩|⟨k1,k2,m1⟩
    .rw [if_pos rfl];exact ⟨.inl (Nat.le_trans hB (h6 b m1).2.1),(h6 b m1).2.2⟩
    .obtain ⟨q1,q2⟩:=hH.plain k b m1;rw [if_neg k1];refine ⟨q1,q2.of ?_⟩;rcases ZnB k2 with ⟨e',m',f,e1⟩|⟨t',i,e1⟩
     .rw [e1];rfl
     .rw [e1];rfl
   .show SVR g' w (if s=t then .p false [.row st.n] else ZoV st (st.sl s)) _
    by_cases l:s=t
    .subst l;rw [if_pos rfl];obtain ⟨A,cap,E⟩:=Zdl h3;exact ⟨_,rfl,gn.1.symm,by rw [E];rfl⟩
    .rw [if_neg l];exact ZxQ (U:=U) (fun k e m xs hk=>⟨if_neg (c k e m xs hk).1,(c k e m xs hk).2⟩) (hU.sl s) (fun k hk=>if_neg fun e=>B k yE hk) (hS s)
   .show svU _ (if s=t then .p false [.row st.n] else ZoV st (st.sl s))
    by_cases l:s=t
    .rw [if_pos l];intro y my;simp at my;subst my;exact .inr rfl
    .rw [if_neg l];exact ZyO (fun k e m xs hk=>.inl (c k e m xs hk).2) _ ((hU.sl s).mono fun _=>.inl)
   .show obU _ (if k=st.n then .row e m xs 2 else ZaX st (st.ob k))
    split
    .trivial
    .cases hk:st.ob k with
     |row e' m' f d'=>simp only[ZaX];split<;>trivial
     |box t' i=>
      intro y my;obtain ⟨x,mx,rfl⟩:=AG.1 my;exact ZuH (fun k e m xs hk=>.inl (c k e m xs hk).2) x
     |_=>trivial
   .show (if k=st.n then .row e m xs 2 else ZaX st (st.ob k))=.gone
    rw [if_neg fun e=>hk (.inr e),hU.gone k fun h=>hk (.inl h)];rfl
  .have e:ZrO st t (.p ag cs)=st:=by
    unfold ZrO;split
    .rename_i h;simp only[SV.p.injEq]at h;exact absurd ⟨_,_,_,h.1,h.2⟩ hc
    .rfl
   rw [e];exact ⟨U,⟨g,hH,hS⟩,hU,d,hh⟩
 |_=>exact ⟨U,⟨g,hH,hS⟩,hU,d,hh⟩
end
abbrev nw0:NW:=⟨0⟩
section
variable {P:Program} {J:World->Prop} {JF:Nat->Prop} {W:ZaK} {U:Nat->Prop} {st:St} {w w':World} {a:Act} {tt:Nat->Option TI} {od:OD} {g:Gh}
structure JOk (J:World->Prop) (JF:Nat->Prop):Prop where
 below:∀(x:Nat->Prop) (w w':World),J w->(∀b,x b->JF b)->w'.os=w.os->w'.tape=w.tape->w'.output=w.output->w.heap.size<=w'.heap.size->(∀k,k<w.heap.size->¬x k->w'.heap[k]?=w.heap[k]?)->J w'
 new:∀(w:World) b,J w->w.heap.size<=b->JF b
theorem Znc {args:List (Bool×List CT)}{vs:List Value}{N t o:Nat}(h:vs.length<=N) (v:Value) (hv:vs[t]?=some v):(vs.toArray++A7 (N-vs.toArray.size) undef).getD t undef=v:=by
 have hl:t<vs.length:=(List.getElem?_eq_some_iff.1 hv).1;simp only[AO,AP,AD,hl,if_true,List.getElem?_toArray,hv,Option.getD_some]
theorem ZnE {vs:List Value}{N t:Nat}(ht:vs.length<=t):(vs.toArray++A7 (N-vs.toArray.size) undef).getD t undef=undef:=by
 simp only[AO,AP,AD,show ¬t<vs.length by omega,if_false,Array.getElem?_replicate];split<;>rfl
theorem ZwK (htt:∀ t i, tt t=some i → TOk P t i) (hJ:JOk J JF) (hmix:P.follows .mixedOrders=true) {hds:FuncId → Nat} {f:FuncId} {fn:Func} {c:Code} {args:List (Bool × List CT)} {res:List RT} (hf:P.funcs[f]?=some fn) (hname:(fn.name == "runtime.NumGoroutine")=false) (hb:fn.body=some c)
  (hok:X7 od tt hds false fn.ntmps c=true) (hlen:Nat.ble args.length fn.ntmps=true) (h:fnS od tt (SC P J JF hds) fn.results.toList c args res):Sound P J f args res:=by
 letI:NW:=nw0
 refine ⟨⟨fn,hf,hname,by rw [hb];rfl⟩,fun w z vs hj hz hargs=>?_⟩
 have hlen':args.length<=fn.ntmps:=AB hlen
 have hvl:=hargs.len
 refine calls_of_wp hf hb ?_
 let W:ZaK:={w with z:=z,x:=fun _=>False,hv:=none}
 let g0:Gh:=⟨fun _=>undef,fun _=>[],fun _=>[],z⟩
 have hg0:∀b,g0.own b->z b:=fun b hb=>by
  rcases hb with ⟨k,m⟩|h
  .simp [g0]at m
  .exact h
 have hI0:Inv W (fun _=>False) (Zo args) {tmps:=vs.toArray++A7 (fn.ntmps-vs.toArray.size) undef,defers:=[]} w:=by
  refine ⟨⟨g0,⟨⟨rfl,rfl,rfl,AA _,fun _ _ _=>rfl⟩,fun k=>⟨rfl,rfl⟩,fun k=>by simp [g0],fun k j _ b m=>by simp [g0]at m,fun k b m=>by simp [g0]at m,rfl,fun b hb=>⟨hz b hb,fun h=>h⟩,fun _ _=>AI _⟩,fun t=>?_⟩,⟨fun t=>?_,fun k=>trivial,fun k _=>rfl⟩,rfl,fun v hv=>by simp [W]at hv⟩
  .show SVR g0 w (match args[t]? with|some x=>.p x.1 (x.2.map Zjj)|none=>.und) _
   cases ht:args[t]? with
   |none=>exact ZnE (by have:args.length<=t:=(by simpa using ht);omega)
   |some x=>
    obtain ⟨v,hv,hr⟩:=hargs.at ht
    show SVR g0 w (.p x.1 (x.2.map Zjj)) ((vs.toArray++A7 (fn.ntmps-vs.toArray.size) undef).getD t undef)
    rw [Znc (args:=args) (o:=0) yE v hv]
    exact Znq hg0 hr
  .show svU _ (match args[t]? with|some x=>.p x.1 (x.2.map Zjj)|none=>.und)
   split
   .exact Zmw _
   .trivial
 have hM:MOk P J JF W tt:=⟨htt,fun w' hb=>hJ.below (fun _=>False) w w' hj (fun _ h=>h.elim) hb.os hb.tape hb.output hb.size (fun k hk hx=>hb.block k hk hx),fun b hb=>hJ.new w b hj hb,fun b h=>h.elim⟩
 refine ZaD (W:=W) hM hmix (.inl rfl) c hok (ZvT tt fn.results.toList fun _ r _=>wkR r res) _ ?_ _ (Zo args) _ w hI0 (fun _ _ h=>h) (by simp;omega) h
 intro ex U' st' a' w' hI' _ _ hK
 have fin:(match Zc3 tt st' fn.results.toList with|some x=>x.2.Nodup/\wkR x.1 res|none=>False)->a'.defers=[]/\∃v,(results fn a'.tmps).run P w'=.ok v w'/\∃u n,Ending.returned v=.returned u/\ZkF w' w.heap.size n res u/\(∀b,z b->n b)/\Below w.heap.size w w':=fun hK=>by
  split at hK
  .rename_i x hx
   obtain ⟨r,ks⟩:=x
   obtain ⟨hnd,hw⟩:=hK
   obtain ⟨g,hH,hS⟩:=hI'.ex
   have hBg:∀k∈ks,∀b∈g.O k++g.D k,W.heap.size<=b:=fun k _ b mb=>(hH.plain k b mb).1.resolve_right fun h=>h
   obtain ⟨v,m,e1,e2,_,_,e4⟩:=Zxd htt hI' hH hS hx hnd hw hBg (fun _=>False) (fun _ h=>h.elim)
   have hbel:=hH.below
   exact ⟨hI'.defers,v,e1,v,m,rfl,e2,fun b hb=>e4 b (fun mb=>by obtain ⟨k,hk,mk⟩:=ZkZ mb;have:=hBg k hk b mk;have:=hz b hb;have e:W.heap.size=w.heap.size:=rfl;omega) (.inl (by rw [hH.gz];exact hb)),hbel.os,hbel.tape,hbel.output,hbel.size,fun k hk=>hbel.block k hk fun h=>h⟩
  .exact hK.elim
 cases ex with
 |normal=>exact fin hK
 |exit id=>exact hK.elim
 |ret=>exact fin hK
theorem Zwj (htt:∀ t i, tt t=some i → TOk P t i) (hJ:JOk J JF) (hmix:P.follows .mixedOrders=true) {hds:FuncId → Nat} {f:FuncId} {fn:Func} {c:Code} {args:List (Bool × List CT)} {res:List RT} (hf:P.funcs[f]?=some fn) (hname:(fn.name == "runtime.NumGoroutine")=false) (hb:fn.body=some c)
  (hok:X7 od tt hds false fn.ntmps c=true) (hlen:Nat.ble args.length fn.ntmps=true) (t0:Nat) (h:fnN od tt (SC P J JF hds) fn.results.toList t0 c args res):Sound P J f args res:=by
 refine ⟨⟨fn,hf,hname,by rw [hb];rfl⟩,fun w z vs hj hz hargs=>?_⟩
 letI:NW:=⟨w.heap.size⟩
 have hlen':args.length<=fn.ntmps:=AB hlen
 have hvl:=hargs.len
 refine calls_of_wp hf hb ?_
 let W:ZaK:={w with z:=z,x:=fun _=>False,hv:=none}
 let g0:Gh:=⟨fun _=>undef,fun _=>[],fun _=>[],z⟩
 have hg0:∀b,g0.own b->z b:=fun b hb=>by
  rcases hb with ⟨k,m⟩|h
  .simp [g0]at m
  .exact h
 have hI0:Inv W (fun _=>False) (Zo args) {tmps:=vs.toArray++A7 (fn.ntmps-vs.toArray.size) undef,defers:=[]} w:=by
  refine ⟨⟨g0,⟨⟨rfl,rfl,rfl,AA _,fun _ _ _=>rfl⟩,fun k=>⟨rfl,rfl⟩,fun k=>by simp [g0],fun k j _ b m=>by simp [g0]at m,fun k b m=>by simp [g0]at m,rfl,fun b hb=>⟨hz b hb,fun h=>h⟩,fun b hb=>hb.elim (fun h=>h) fun h=>h.elim⟩,fun t=>?_⟩,⟨fun t=>?_,fun k=>trivial,fun k _=>rfl⟩,rfl,fun v hv=>by simp [W]at hv⟩
  .show SVR g0 w (match args[t]? with|some x=>.p x.1 (x.2.map Zjj)|none=>.und) _
   cases ht:args[t]? with
   |none=>exact ZnE (by have:args.length<=t:=(by simpa using ht);omega)
   |some x=>
    obtain ⟨v,hv,hr⟩:=hargs.at ht
    show SVR g0 w (.p x.1 (x.2.map Zjj)) ((vs.toArray++A7 (fn.ntmps-vs.toArray.size) undef).getD t undef)
    rw [Znc (args:=args) (o:=0) yE v hv]
    exact Znq hg0 hr
  .show svU _ (match args[t]? with|some x=>.p x.1 (x.2.map Zjj)|none=>.und)
   split
   .exact Zmw _
   .trivial
 have hM:MOk P J JF W tt:=⟨htt,fun w' hb=>hJ.below (fun _=>False) w w' hj (fun _ h=>h.elim) hb.os hb.tape hb.output hb.size (fun k hk hx=>hb.block k hk hx),fun b hb=>hJ.new w b hj hb,fun b h=>h.elim⟩
 refine ZaD (W:=W) hM hmix (.inl rfl) c hok (Zzu t0 (ZvT tt fn.results.toList fun _ r _=>wkR r res)) _ ?_ _ (Zo args) _ w hI0 (fun _ _ h=>h) (by simp;omega) h
 intro ex U1 st1 a' w' hI1 hn1 _ hK
 obtain ⟨U',hI'⟩:=Zxg (AA _) t0 hI1 hn1
 generalize hst:st1.thaw t0=st' at hI'
 simp only[Zzu,hst]at hK
 have fin:(match Zc3 tt st' fn.results.toList with|some x=>x.2.Nodup/\wkR x.1 res|none=>False)->a'.defers=[]/\∃v,(results fn a'.tmps).run P w'=.ok v w'/\∃u n,Ending.returned v=.returned u/\ZkF w' w.heap.size n res u/\(∀b,z b->n b)/\Below w.heap.size w w':=fun hK=>by
  split at hK
  .rename_i x hx
   obtain ⟨r,ks⟩:=x
   obtain ⟨hnd,hw⟩:=hK
   obtain ⟨g,hH,hS⟩:=hI'.ex
   have hBg:∀k∈ks,∀b∈g.O k++g.D k,W.heap.size<=b:=fun k _ b mb=>(hH.plain k b mb).1.resolve_right fun h=>h
   obtain ⟨v,m,e1,e2,_,_,e4⟩:=Zxd htt hI' hH hS hx hnd hw hBg (fun _=>False) (fun _ h=>h.elim)
   have hbel:=hH.below
   exact ⟨hI'.defers,v,e1,v,m,rfl,e2,fun b hb=>e4 b (fun mb=>by obtain ⟨k,hk,mk⟩:=ZkZ mb;have:=hBg k hk b mk;have:=hz b hb;have e:W.heap.size=w.heap.size:=rfl;omega) (.inl (by rw [hH.gz];exact hb)),hbel.os,hbel.tape,hbel.output,hbel.size,fun k hk=>hbel.block k hk fun h=>h⟩
  .exact hK.elim
 cases ex with
 |normal=>exact fin hK
 |exit id=>exact hK.elim
 |ret=>exact fin hK
theorem Zvs (htt:∀ t i, tt t=some i → TOk P t i) (hJ:JOk J JF) (hmix:P.follows .mixedOrders=true) {hds:FuncId → Nat} {f:FuncId} {fn:Func} {c:Code} {args:List (Bool × List CT)} {nb:NB} (hf:P.funcs[f]?=some fn) (hname:(fn.name == "runtime.NumGoroutine")=false) (hb:fn.body=some c)
  (hok:X7 od tt hds false fn.ntmps c=true) (hlen:Nat.ble args.length fn.ntmps=true) (h:fnB od tt (SC P J JF hds) fn.results.toList c args nb):ZqL P J f args nb:=by
 letI:NW:=nw0
 refine ⟨⟨fn,hf,hname,by rw [hb];rfl⟩,fun w z vs hj hz hargs=>?_⟩
 have hlen':args.length<=fn.ntmps:=AB hlen
 have hvl:=hargs.len
 refine calls_of_wp hf hb ?_
 let W:ZaK:={w with z:=z,x:=fun _=>False,hv:=none}
 let g0:Gh:=⟨fun _=>undef,fun _=>[],fun _=>[],z⟩
 have hg0:∀b,g0.own b->z b:=fun b hb=>by
  rcases hb with ⟨k,m⟩|h
  .simp [g0]at m
  .exact h
 have hI0:Inv W (fun _=>False) (Zo args) {tmps:=vs.toArray++A7 (fn.ntmps-vs.toArray.size) undef,defers:=[]} w:=by
  refine ⟨⟨g0,⟨⟨rfl,rfl,rfl,AA _,fun _ _ _=>rfl⟩,fun k=>⟨rfl,rfl⟩,fun k=>by simp [g0],fun k j _ b m=>by simp [g0]at m,fun k b m=>by simp [g0]at m,rfl,fun b hb=>⟨hz b hb,fun h=>h⟩,fun _ _=>AI _⟩,fun t=>?_⟩,⟨fun t=>?_,fun k=>trivial,fun k _=>rfl⟩,rfl,fun v hv=>by simp [W]at hv⟩
  .show SVR g0 w (match args[t]? with|some x=>.p x.1 (x.2.map Zjj)|none=>.und) _
   cases ht:args[t]? with
   |none=>exact ZnE (by have:args.length<=t:=(by simpa using ht);omega)
   |some x=>
    obtain ⟨v,hv,hr⟩:=hargs.at ht
    show SVR g0 w (.p x.1 (x.2.map Zjj)) ((vs.toArray++A7 (fn.ntmps-vs.toArray.size) undef).getD t undef)
    rw [Znc (args:=args) (o:=0) yE v hv]
    exact Znq hg0 hr
  .show svU _ (match args[t]? with|some x=>.p x.1 (x.2.map Zjj)|none=>.und)
   split
   .exact Zmw _
   .trivial
 have hM:MOk P J JF W tt:=⟨htt,fun w' hb=>hJ.below (fun _=>False) w w' hj (fun _ h=>h.elim) hb.os hb.tape hb.output hb.size (fun k hk hx=>hb.block k hk hx),fun b hb=>hJ.new w b hj hb,fun b h=>h.elim⟩
 refine ZaD (W:=W) hM hmix (.inl rfl) c hok (Zzf fn.results.toList nb) _ ?_ _ (Zo args) _ w hI0 (fun _ _ h=>h) (by simp;omega) h
 intro ex U' st' a' w' hI' _ _ hK
 have fin:Zf6 st' fn.results.toList nb->a'.defers=[]/\∃v,(results fn a'.tmps).run P w'=.ok v w'/\∃(b:Nat) (n:Nat->Prop),Ending.returned v=.returned (ZpM b nb)/\w.heap.size<=b/\nbR w' n b nb/\n b/\(∀x,z x->n x)/\Below w.heap.size w w':=fun hK=>by
  unfold Zf6 at hK
  split at hK
  .rename_i s hrs
   have er:fn.results=#[.tmp s]:=by
    have:=congrArg AH hrs
    simpa using this
   obtain ⟨g,hH,hS⟩:=hI'.ex
   have hs:=hS s
   have hbel:=hH.below
   cases nb with
   |box t cs=>
    obtain ⟨k,ds,k1,k2,k3,k4⟩:=hK
    rw [k1]at hs
    obtain ⟨b,b1,b2⟩:=hs
    have hob:=hH.obs k
    rw [k2]at hob
    obtain ⟨b',us,o1,o2,o3,o4,o5⟩:=hob
    have hbb:b'=b:=by rw [b1]at o1;simpa using o1.symm
    subst hbb
    obtain ⟨L,hL,hL2⟩:=Zh1 hH k4 o5
    have hno:=hL2 fun y my=>by
     have:=AQ.1 k3 y my
     cases y<;>simp [ZbX]at this<;>trivial
    refine ⟨hI'.defers,_,?_,b',fun x=>g.own x,rfl,(hH.plain k b' (by simp [o2])).1.resolve_right fun h=>h,⟨us,L,o4,hL,hno⟩,.inl ⟨k,by simp [o2]⟩,fun x hx=>.inr (by rw [hH.gz];exact hx),hbel.os,hbel.tape,hbel.output,hbel.size,fun k hk=>hbel.block k hk fun h=>h⟩
    rw [ZiZ,er]
    simp [ZfZ,b2,ZpM]
   |map kk vk kv=>
    obtain ⟨k,k1,k2⟩:=hK
    rw [k1]at hs
    obtain ⟨x,hx,hx3⟩:=hs
    simp only[AE,and_true]at hx
    subst hx
    obtain ⟨hx2,_⟩:=hx3
    have hob:=hH.obs k
    rw [k2]at hob
    obtain ⟨b,es,c,o1,o2,o3,o4,o5⟩:=hob
    refine ⟨hI'.defers,_,?_,b,fun x=>g.own x,rfl,(hH.plain k b (by simp [o2])).1.resolve_right fun h=>h,⟨es,c,o4,o5⟩,.inl ⟨k,by simp [o2]⟩,fun x hx=>.inr (by rw [hH.gz];exact hx),hbel.os,hbel.tape,hbel.output,hbel.size,fun k hk=>hbel.block k hk fun h=>h⟩
    rw [ZiZ,er]
    simp [ZfZ,hx2,o1,ZpM]
  .exact hK.elim
 cases ex with
 |normal=>exact fin hK
 |exit id=>exact hK.elim
 |ret=>exact fin hK
theorem ZOe (htt:∀ t i, tt t=some i → TOk P t i) (hJ:JOk J JF) (hmix:P.follows .mixedOrders=true) {hds:FuncId → Nat} {f:FuncId} {fn:Func} {c:Code} {h h':Zme} {args:List (Bool × List CT)} {res:List RT} (hf:P.funcs[f]?=some fn) (hname:(fn.name == "runtime.NumGoroutine")=false) (hb:fn.body=some c)
  (hok:X7 od tt hds true fn.ntmps c=true) (hlen:Nat.blt args.length fn.ntmps=true) (hh:fnH od tt (SC P J JF hds) fn.results.toList c h args res h'):Zkx P J JF f h args res h':=by
 letI:NW:=nw0
 refine ⟨⟨fn,hf,hname,by rw [hb];rfl⟩,fun w z q v0 vs hj hqf hz hhand hargs=>?_⟩
 have hlen':args.length<fn.ntmps:=AB hlen
 have hvl:=hargs.len
 refine calls_of_wp hf hb ?_
 let W:ZaK:={w with z:=z,x:=fun b=>q=some b,hv:=some v0}
 let g0:Gh:=⟨fun k=>if k=0 then v0 else undef,fun k=>if k=0 then q.toList else [],fun _=>[],z⟩
 have hg0:∀b,g0.own b->inQ z q b:=fun b hb=>by
  rcases hb with ⟨k,m⟩|h
  .simp only[g0]at m
   split at m
   .exact .inr (by simpa using m)
   .simp at m
  .exact .inl h
 have hqlt:∀b,q=some b->∃cur e,w.heap[b]?=some (.cells cur e (0,0)):=fun b hb=>by
  cases h with
  |row e m xs=>
   obtain ⟨_,_,h3,cs,h4,_⟩:=hhand
   rcases h4.2 with ⟨h0,_⟩|⟨gg,o,cap,cur,hv,_,hcc,_⟩
   .rw [h0]at h3;simp [Value.ownBlock]at h3;rw [<-h3]at hb;simp at hb
   .rw [hv]at h3;simp only[Value.ownBlock]at h3;rw [hb]at h3;simp at h3;subst h3;exact ⟨_,_,hcc⟩
  |box t cs=>
   obtain ⟨b',vs,L,h1,h2,h3,_⟩:=hhand
   rw [hb]at h1;simp at h1;subst h1
   exact ⟨_,_,h3⟩
 have hob0:ObR g0 w 0 (Zef h):=by
  cases h with
  |row e m xs=>
   obtain ⟨h1,h2,h3,cs,h4,h5⟩:=hhand
   exact ⟨h2,cs,[],by simpa [g0]using h4,h5,.inl ⟨rfl,by simp [g0,h3],by simp [g0]⟩⟩
  |box t cs=>
   obtain ⟨b,vs,L,h1,h2,h3,h4,h5⟩:=hhand
   exact ⟨b,vs,by simpa [g0]using h2,by simp [g0,h1],by simp [g0],h3,h4.avr fun x mx hx=>h5 x mx (hg0 x hx)⟩
 have hsv0:SVR g0 w (ZMz h) v0:=by
  cases h with
  |row e m xs=>
   obtain ⟨h1,h2,h3,cs,h4,h5⟩:=hhand
   obtain ⟨A,cap,hv⟩:=Zdl h4
   exact ⟨_,rfl,by simp [g0],by simp [hv,Value.oneCell']⟩
  |box t cs=>
   obtain ⟨b,vs,L,h1,h2,h3,h4,h5⟩:=hhand
   exact ⟨b,by simpa [g0]using h2,h2⟩
 have hI0:Inv W (fun k=>k=0) (ZMA h args) {tmps:=(v0::vs).toArray++A7 (fn.ntmps-(v0::vs).toArray.size) undef,defers:=[]} w:=by
  refine ⟨⟨g0,⟨⟨rfl,rfl,rfl,AA _,fun _ _ _=>rfl⟩,fun k=>?_,fun k=>?_,fun k j hkj b m=>?_,fun k b m=>?_,rfl,fun b hb=>⟨(hz b hb).1,(hz b hb).2⟩,fun _ _=>AI _⟩,fun t=>?_⟩,⟨fun t=>?_,fun k=>?_,fun k hk=>by simp [ZMA,hk]⟩,rfl,fun v hv=>?_⟩
  .show ObR g0 w k (if k=0 then Zef h else .gone)
   by_cases hk:k=0
   .subst hk;exact hob0
   .rw [if_neg hk];exact ⟨by simp [g0,hk],rfl⟩
  .by_cases hk:k=0
   .subst hk;cases q<;>simp [g0]
   .simp [g0,hk]
  .by_cases hk:k=0
   .have:¬j=0:=fun e=>hkj yE
    simp [g0,this]
   .simp [g0,hk]at m
  .by_cases hk:k=0
   .subst hk
    have hb:q=some b:=by simpa [g0]using m
    refine ⟨.inr hb,?_⟩
    have hp:∃cur e,w.heap[b]?=some (.cells cur e (0,0)):=hqlt b hb
    show Qf w (if 0=0 then Zef h else .gone) b
    rw [if_pos rfl]
    cases h<;>exact hp
   .simp [g0,hk]at m
  .show SVR g0 w (match t with|0=>ZMz h|t+1=>(match args[t]? with|some x=>.p x.1 (x.2.map .c)|none=>.und)) _
   cases t with
   |zero=>
    show SVR g0 w (ZMz h) (((v0::vs).toArray++A7 (fn.ntmps-(v0::vs).toArray.size) undef).getD 0 undef)
    rw [Znc (args:=args) (o:=0) (by simp;omega) v0 rfl]
    exact hsv0
   |succ t=>
    show SVR g0 w (match args[t]? with|some x=>.p x.1 (x.2.map .c)|none=>.und) _
    cases ht:args[t]? with
    |none=>exact ZnE (by have:args.length<=t:=(by simpa using ht);simp;omega)
    |some x=>
     obtain ⟨v,hv,hr⟩:=hargs.at ht
     show SVR g0 w (.p x.1 (x.2.map .c)) (((v0::vs).toArray++A7 (fn.ntmps-(v0::vs).toArray.size) undef).getD (t+1) undef)
     rw [Znc (args:=args) (o:=0) (by simp;omega) v (by simpa using hv)]
     exact ZPK hg0 hr
  .show svU _ (match t with|0=>ZMz h|t+1=>(match args[t]? with|some x=>.p x.1 (x.2.map .c)|none=>.und))
   cases t with
   |zero=>cases h with
    |row e m xs=>intro y my;simp at my;subst my;rfl
    |box t cs=>rfl
   |succ t=>
    show svU _ (match args[t]? with|some x=>.p x.1 (x.2.map .c)|none=>.und)
    split
    .exact Zuf true _
    .trivial
  .show obU _ (if k=0 then Zef h else .gone)
   by_cases hk:k=0
   .rw [if_pos hk]
    cases h with
    |row e m xs=>trivial
    |box t cs=>exact Zuf true _
   .rw [if_neg hk];trivial
  .have:v0=v:=by simpa [W]using hv
   subst this
   exact Znc (args:=args) (o:=0) (by simp;omega) v0 rfl
 have hM:MOk P J JF W tt:=⟨htt,fun w' hb=>hJ.below (fun b=>q=some b) w w' hj hqf hb.os hb.tape hb.output hb.size (fun k hk hx=>hb.block k hk hx),fun b hb=>hJ.new w b hj hb,hqf⟩
 refine ZaD (W:=W) hM hmix (.inr rfl) c hok (ZvT tt fn.results.toList fun st r ks=>wkR r res/\ZxE st ks h') _ ?_ _ (ZMA h args) _ w hI0 (fun k hk h0=>by simp [ZMA]at hk;omega) (by simp;omega) hh
 intro ex U' st' a' w' hI' _ _ hK
 have fin:(match Zc3 tt st' fn.results.toList with|some x=>x.2.Nodup/\wkR x.1 res/\ZxE st' x.2 h'|none=>False)->a'.defers=[]/\∃v,(results fn a'.tmps).run P w'=.ok v w'/\∃u n,Ending.returned v=.returned u/\ZkF w' w.heap.size n res u/\(∀b,inQ z q b->n b)/\ZuY w' n q h' v0/\ZF7 q w w':=fun hK=>by
  split at hK
  .rename_i x hx
   obtain ⟨r,ks⟩:=x
   obtain ⟨hnd,hw,hbk⟩:=hK
   obtain ⟨g,hH,hS⟩:=hI'.ex
   have hv0:a'.tmps.getD 0 undef=v0:=hI'.hand v0 rfl
   have hS0:=hS 0
   rw [hv0]at hS0
   have hkey:∃k,g.val k=v0/\g.O k=q.toList/\g.D k=[]/\k∉ks/\(ZkR (st'.ob k)=false/\∀e m xs d,st'.ob k=.row e m xs d->d=2)/\∀n:Nat->Prop,(∀b,n b->g.own b)->ZuY w' n q h' v0:=by
    cases h' with
    |row e m xs=>
     obtain ⟨k,hk1,hk2,hk3,hk4⟩:=hbk
     rw [hk1]at hS0
     obtain ⟨x,hx1,hx2⟩:=hS0
     simp only[AE,and_true]at hx1
     subst hx1
     have hob:=hH.obs k
     rw [hk2]at hob
     obtain ⟨hm,cs,L,o1,o2,o3⟩:=hob
     obtain rfl:=Zkj o2 hk3
     rcases o3 with ⟨_,q1,q2⟩|⟨q1,_⟩|⟨q1,_⟩
     .have hq:v0.ownBlock=q:=by
       cases h with
       |row e1 m1 xs1=>exact hhand.2.2.1
       |box t1 cs1=>
        obtain ⟨b,vs,L,h1,h2,_⟩:=hhand
        obtain ⟨A,cap,hv⟩:=Zdl o1
        rw [<-hx2.1,h2]at hv
        simp at hv
      exact ⟨k,hx2.1.symm,by rw [q1,<-hx2.1,hq],q2,hk4,⟨by rw [hk2];rfl,fun e' m' xs' d' h=>by rw [hk2]at h;simp only[Ob.row.injEq]at h;exact h.2.2.2.symm⟩,fun n _=>⟨hk3,hm,hq,cs,by rw [hx2.1];exact o1,o2⟩⟩
     .omega
     .omega
    |box t cs=>
     obtain ⟨k,ds,hk1,hk2,hk3,hk4⟩:=hbk
     rw [hk1]at hS0
     obtain ⟨b,hb1,hb2⟩:=hS0
     have hob:=hH.obs k
     rw [hk2]at hob
     obtain ⟨b',vs',o1,o2,o3,o4,o5⟩:=hob
     have hbb:b'=b:=by rw [hb1]at o1;simpa using o1.symm
     subst hbb
     have hq:q=some b':=by
      cases h with
      |row e1 m1 xs1=>
       obtain ⟨_,_,_,cs1,h4,_⟩:=hhand
       obtain ⟨A,cap,hv⟩:=Zdl h4
       rw [hv]at hb2
       simp at hb2
      |box t1 cs1=>
       obtain ⟨b2,vs2,L2,h1,h2,_⟩:=hhand
       rw [h2]at hb2
       simp at hb2
       rw [h1,hb2]
     obtain ⟨L,hL,hL2⟩:=Zh1 hH hk4 o5
     refine ⟨k,by rw [o1,hb2],by rw [o2,hq];rfl,o3,fun mk=>?_,⟨by rw [hk2];rfl,fun e' m' xs' d' h=>by rw [hk2]at h;simp at h⟩,fun n hn=>⟨b',vs',L,hq,hb2,o4,hL,fun x mx hx=>hL2 (fun y my=>?_) x mx (hn x hx)⟩⟩
     .obtain ⟨e',m',xs',h'⟩:=Zl3 hx k mk
      rw [hk2]at h'
      simp at h'
     .have:=AQ.1 hk3 y my
      cases y<;>simp [ZbX]at this<;>trivial
   obtain ⟨k0,c1,c2,c3,c4,c5,c6⟩:=hkey
   have hBg:∀k∈ks,∀b∈g.O k++g.D k,W.heap.size<=b:=fun k hk b mb=>(hH.plain k b mb).1.resolve_right fun h=>hH.apart k k0 (fun e=>c4 (e ▸ hk)) b mb (by rw [c2];simp;exact .inl h)
   obtain ⟨v,m,e1,e2,e3,_,e4⟩:=Zxd htt hI' hH hS hx hnd hw hBg (fun k=>k=k0) (fun k hk=>hk ▸ c5)
   have hbel:=hH.below
   refine ⟨hI'.defers,v,e1,v,m,rfl,e2,fun b hb=>?_,c6 m e3,hbel.os,hbel.tape,hbel.output,hbel.size,fun k hk hq=>hbel.block k hk hq⟩
   refine e4 b (fun mb=>?_) ?_
   .obtain ⟨k,hk,mk⟩:=ZkZ mb
    have hge:=hBg k hk b mk
    have e:W.heap.size=w.heap.size:=rfl
    rcases hb with hb|hb
    .have:=(hz b hb).1;omega
    .obtain ⟨cur,e',hc⟩:=hqlt b hb
     have:=(AR.1 hc).1
     omega
   .rcases hb with hb|hb
    .exact .inl (by rw [hH.gz];exact hb)
    .exact .inr ⟨k0,rfl,by rw [c2,hb];simp⟩
  .exact hK.elim
 cases ex with
 |normal=>exact fin hK
 |exit id=>exact hK.elim
 |ret=>exact fin hK
end
instance nwD:NW:=nw0
end
section
open Go.RowKit
def Zlc {α β:Type}(f:α->β->Bool):List α->List β->Bool
 | [],[]=>true
 |a::l,b::r=>f a b&&Zlc f l r
 |_,_=>false
theorem ZjP {α β:Type}{f:α->β->Bool}{R:α->β->Prop}(h:∀a b,f a b=true->R a b):∀{l:List α}{r:List β},Zlc f l r=true->ZM R l r
 | [],[],_=>trivial
 |a::l,b::r,hh=>by
  simp only[Zlc,A8]at hh;exact ⟨h a b hh.1,ZjP h hh.2⟩
 | [],_::_,hh=>by simp [Zlc]at hh
 |_::_,[],hh=>by simp [Zlc]at hh
def ZwA (P:Program) (fi:FI) (f:Field):Bool:=
 f.offset==fi.off&&!(fi.size==0)&&match P.info? f.type,P.underlying f.type with
  |some j,some d=>j.size==fi.size&&(ZsK d==fi.agg)
  |_,_=>false
def ZAU:Value->Bool
 |.slice none 0 0=>true
 |_=>false
def Zv5 (P:Program):List PK->List Field->Nat->Bool
 | [],[],_=>true
 | k :: ks, f :: fs, n => (f.name != "_") && (f.offset == n) && (match P.underlying f.type with | some d => Zd8 k d | none => false) && Zv5 P ks fs (n + 1)
 |_,_,_=>false
theorem ZuU {P:Program}:∀{ks:List PK}{fs:List Field}{n:Nat},Zv5 P ks fs n=true->EqF P ks fs n
 | [],[],_,_=>trivial
 |k::ks,f::fs,n,h=>by
  simp only[Zv5,A8,bne_iff_ne,beq_iff_eq]at h;obtain ⟨⟨⟨h1,h2⟩,h3⟩,h4⟩:=h;split at h3
  .rename_i d hd;exact ⟨h1,h2,⟨d,hd,h3⟩,ZuU h4⟩
  .simp at h3
 | [],_::_,_,h=>by simp [Zv5]at h
 |_::_,[],_,h=>by simp [Zv5]at h
def ZoX:Option TypeDesc->Bool
 |some (.struct _)=>true
 |_=>false
def ZBL (P:Program) (t:TypeId) (ks:List PK):Bool:=
 Nat.ble 4000 t&&ZoX (P.underlying (t-4000))&&!(P.stoodInHeld (t-4000))&&!(P.eqGuardType P.depth (t-4000))&&Zv5 P ks (P.fieldsOf (t-4000)).toList 0
theorem ZyB {P:Program}{t:TypeId}{ks:List PK}(h:ZBL P t ks=true):TOk P t (.eqs ks):=by
 simp only[ZBL,A8,AS]at h;obtain ⟨⟨⟨⟨h1,h2⟩,h3⟩,h4⟩,h5⟩:=h;refine ⟨t-4000,?_,?_,h3,h4,ZuU h5⟩
 .have:4000<=t:=AB h1;exact (Nat.sub_add_cancel this).symm
 .unfold ZoX at h2;split at h2
  .rename_i fs e;unfold Program.fieldsOf;rw [e]
  .simp at h2
def tOk (P:Program) (t:TypeId) (ti:TI):Bool:=
 match ti with
 |.eqs ks=>ZBL P t ks
 |_=>
 match P.underlying t,P.info? t with
 |some d,some i=>match ti with
  |.atom z=>Zif d z&&i.size==1&&match i.zero with|some zv=>ZaM z zv|none=>false
  |.strct fs n z=>match d with
   |.struct fields=>i.size==n&&(match i.zero with|some (.agg zvs)=>Zlc ZaM z zvs.toList|_=>false)&&Zlc (ZwA P) fs fields.toList
   |_=>false
  |.slice e m bytes z=>match d with
   |.slice e'=>e==e'&&Nat.blt 0 m&&Nat.ble bytes 131072&&(match P.info? e with
     |some ie=>ie.size==m&&ie.bytes==bytes&&(match ie.zero with|some zv=>Zlc ZaM z zv.cells.toList|none=>false)
     |none=>false)&&z.length==m&&i.size==1&&(match i.zero with|some zv=>ZAU zv|none=>false)
   |_=>false
  |.map kk vk=>match d with
   |.map kt et=>(match P.underlying kt with|some dk=>Zd8 kk dk|none=>false)&&(match P.underlying et with|some dv=>Zd8 vk dv|none=>false)&&(match P.info? et with|some ie=>(match ie.zero with|some zv=>ZaM (Zfc vk) zv|none=>false)|none=>false)
   |_=>false
  |.ifc=>match d with
   |.interface _=>true
   |_=>false
  |.eqs _=>false
 |_,_=>false
theorem Zyj {v:Value}(h:ZAU v=true):v=.slice none 0 0:=by
 unfold ZAU at h;split at h
 .rfl
 .simp at h
theorem ZzO {P:Program}{t:TypeId}{ti:TI}(h:tOk P t ti=true):TOk P t ti:=by
 unfold tOk at h;split at h
 .exact ZyB h
 split at h
 .rename_i d i hd hi;cases ti with
  |eqs ks=>simp at h
  |ifc=>
   simp only at h;split at h
   .exact ⟨_,hd⟩
   .simp at h
  |map kk vk=>
   simp only at h;split at h
   .rename_i kt et;simp only[A8]at h;obtain ⟨⟨h1,h2⟩,h3⟩:=h;split at h1
    .rename_i dk c;split at h2
     .rename_i dv g;split at h3
      .rename_i ie b;split at h3
       .rename_i zv hz;exact ⟨kt,et,dk,dv,ie,zv,hd,c,h1,g,h2,b,hz,h3⟩
       .simp at h3
      .simp at h3
     .simp at h2
    .simp at h1
   .simp at h
  |atom z=>
   simp only[A8,beq_iff_eq]at h;obtain ⟨⟨h1,h2⟩,h3⟩:=h;split at h3
   .rename_i zv hz;exact ⟨d,zv,i,hd,h1,hi,hz,h2,h3⟩
   .simp at h3
  |strct fs n z=>
   simp only at h;split at h
   .rename_i a;simp only[A8,beq_iff_eq]at h;obtain ⟨⟨h1,h2⟩,h3⟩:=h;split at h2
    .rename_i zvs hz;refine ⟨a,i,zvs,hd,hi,h1,hz,ZjP (fun _ _ h=>h) h2,ZjP (fun fi f hf=>?_) h3⟩;unfold ZwA at hf;simp only[A8,beq_iff_eq,AS,beq_eq_false_iff_ne]at hf;obtain ⟨⟨f1,f2⟩,f3⟩:=hf;split at f3
     .rename_i j d' hj k;simp only[A8,beq_iff_eq]at f3;exact ⟨f1,f2,j,d',hj,f3.1,k,f3.2⟩
     .simp at f3
    .simp at h2
   .simp at h
  |slice e m bytes z=>
   simp only at h;split at h
   .rename_i e';simp only[A8,beq_iff_eq]at h;obtain ⟨⟨⟨⟨⟨⟨h1,h2⟩,h3⟩,h4⟩,h5⟩,h6⟩,h7⟩:=h;subst h1;split at h4
    .rename_i ie b;simp only[A8,beq_iff_eq]at h4;obtain ⟨⟨k1,k2⟩,k3⟩:=h4;split at k3
     .rename_i zv hz;split at h7
      .rename_i zv' l;exact ⟨hd,AB h2,AB h3,⟨ie,zv,b,k1,k2,hz,ZjP (fun _ _ h=>h) k3,h5⟩,i,hi,h6,by rw [l,Zyj h7]⟩
      .simp at h7
     .simp at k3
    .simp at h4
   .simp at h
 .simp at h
def Zx2:List (Nat×TI)->Nat->Option TI
 | [],_=>none
 |p::r,t=>if p.1=t then some p.2 else Zx2 r t
theorem Zxw {P:Program}:∀(l:List (Nat×TI)),(l.all fun p=>tOk P p.1 p.2)=true->∀t i,Zx2 l t=some i->TOk P t i
 | [],_,t,i,h=>by simp [Zx2]at h
 |p::r,ha,t,i,h=>by
  simp only[List.all_cons,A8]at ha;simp only[Zx2]at h;split at h
  .rename_i e;simp only[A5]at h;subst h e;exact ZzO ha.1
  .exact Zxw r ha.2 t i h
end
section
open Go.RowKit
def ZzE (P:Program) (L:List (String×(Array Value->Prop))) (w:World):Prop:=∀x∈L,∃cs,w.var? P x.1=some cs/\x.2 cs
def ZzH (P:Program) (L:List (String×(Array Value->Prop))) (b:Nat):Prop:=∀x∈L,¬P.globalNamed x.1=some b
theorem Zyc (P:Program) (L:List (String×(Array Value->Prop))):JOk (ZzE P L) (ZzH P L) where
 below:=fun x w w' hj hx _ _ _ hs hb y my=>by
  obtain ⟨cs,h1,h2⟩:=hj y my;refine ⟨cs,?_,h2⟩;unfold World.var? at h1 ⊢;obtain ⟨g,hg,h1⟩:=A9.1 h1;rw [hg,AT];have a:g<w.heap.size:=by
   rcases Nat.lt_or_ge g w.heap.size with h|h
   .exact h
   .rw [AU h]at h1;simp at h1
  rw [hb g a (fun h=>hx g h y my hg)];exact h1
 new:=fun w b hj hb y my hg=>by
  obtain ⟨cs,h1,_⟩:=hj y my;unfold World.var? at h1;rw [hg,AT,AU hb]at h1;simp at h1
theorem Qt {J:World->Prop}{JF:Nat->Prop}(h:JOk J JF) {w w':World}(hj:J w) (hb:Below w.heap.size w w'):J w':=
 h.below (fun _=>False) w w' hj (fun _ h=>h.elim) hb.os hb.tape hb.output hb.size fun k hk _=>hb.block k hk
theorem Ztg {w:World}{B:Nat}{n:Nat->Prop}{ct:CT}{v:Value}(h:OC w B n (false,ct) v []):ZkF w B n [(false,[(false,ct)])] v:=
 ⟨[v],[],⟨v,[],[],[],rfl,rfl,.inr ⟨rfl,_,rfl,h⟩,rfl,rfl⟩,Own.nil _ _,yG⟩
theorem ZrA {w:World}{B:Nat}{n:Nat->Prop}{c1 c2:CT}{v1 v2:Value}(h1:OC w B n (false,c1) v1 []) (h2:OC w B n (false,c2) v2 []):ZkF w B n [(false,[(false,c1)]),(false,[(false,c2)])] (.tuple #[v1,v2]):=
 ⟨[v1,v2],[],⟨v1,[v2],[],[],rfl,rfl,.inr ⟨rfl,_,rfl,h1⟩,v2,[],[],[],rfl,rfl,.inr ⟨rfl,_,rfl,h2⟩,rfl,rfl⟩,Own.nil _ _,yG⟩
theorem ZuT {w:World}{z:Nat->Prop}{c:CT}{v:Value}(h:ZnX w z (false,[c]) v):∃L,RC w c v L:=by
 rcases h with ⟨h,_⟩|⟨_,ct,L,h,hr,_⟩
 .simp at h
 .simp only[AE,and_true]at h;subst h;exact ⟨L,hr⟩
theorem ZmB {w:World}{z:Nat->Prop}{c:CT}{vs:List Value}(h:ZM (ZnX w z) [(false,[c])] vs):∃v L,vs=[v]/\RC w c v L:=by
 cases vs with
 |nil=>exact h.elim
 |cons v r=>
  cases r with
  |nil=>obtain ⟨L,hr⟩:=ZuT h.1;exact ⟨v,L,rfl,hr⟩
  |cons _ _=>exact h.2.elim
theorem ZxX {w:World}{z:Nat->Prop}{c d:CT}{vs:List Value}(h:ZM (ZnX w z) [(false,[c]),(false,[d])] vs):∃v u L M,vs=[v,u]/\RC w c v L/\RC w d u M:=by
 cases vs with
 |nil=>exact h.elim
 |cons v r=>
  obtain ⟨u,M,rfl,hu⟩:=ZmB h.2;obtain ⟨L,hr⟩:=ZuT h.1;exact ⟨v,u,L,M,rfl,hr,hu⟩
end
section
open Go.RowKit
def ttL:List (Nat×TI):=[
 (2,.atom (.c (.int .i64 0))),
 (3,.atom (.c (.int .i64 0))),
 (4,.atom (.c (.bool false))),
 (5,.atom (.c (.int .u8 0))),
 (9,.atom (.c (.str ⟨#[]⟩))),
 (12,.atom (.c (.int .u64 0))),
 (14,.strct [⟨0,1,false⟩,⟨1,1,false⟩] 2 [.c (.str ⟨#[]⟩),.c (.int .u64 0)]),
 (20,.ifc),
 (21,.atom (.c (.int .i32 0))),
 (22,.slice 99 4 72 [.c (.str ⟨#[]⟩),.c (.int .i64 0),.nil 103 5,.nil 206 3]),
 (23,.slice 48 2 40 [.c (.str ⟨#[]⟩),.nil 9 1]),
 (24,.slice 103 5 80 [.c (.int .i64 0),.c (.str ⟨#[]⟩),.nil 9 1,.c (.str ⟨#[]⟩),.c (.str ⟨#[]⟩)]),
 (28,.slice 109 1 24 [.nil 162 2]),
 (31,.slice 76 4 72 [.c (.str ⟨#[]⟩),.c (.int .i64 0),.nil 80 5,.nil 125 3]),
 (33,.slice 53 2 40 [.c (.str ⟨#[]⟩),.nil 9 1]),
 (35,.slice 80 5 80 [.c (.int .i64 0),.c (.str ⟨#[]⟩),.nil 9 1,.c (.str ⟨#[]⟩),.c (.str ⟨#[]⟩)]),
 (46,.slice 9 1 16 [.c (.str ⟨#[]⟩)]),
 (48,.strct [⟨0,1,false⟩,⟨1,1,false⟩] 2 [.c (.str ⟨#[]⟩),.nil 9 1]),
 (50,.slice 73 3 40 [.c (.str ⟨#[]⟩),.c (.int .i64 0),.c (.str ⟨#[]⟩)]),
 (53,.strct [⟨0,1,false⟩,⟨1,1,false⟩] 2 [.c (.str ⟨#[]⟩),.nil 9 1]),
 (63,.slice 5 1 1 [.c (.int .u8 0)]),
 (73,.strct [⟨0,1,false⟩,⟨1,1,false⟩,⟨2,1,false⟩] 3 [.c (.str ⟨#[]⟩),.c (.int .i64 0),.c (.str ⟨#[]⟩)]),
 (74,.slice 125 3 48 [.c (.int .i64 0),.c (.str ⟨#[]⟩),.nil 9 1]),
 (76,.strct [⟨0,1,false⟩,⟨1,1,false⟩,⟨2,1,false⟩,⟨3,1,false⟩] 4 [.c (.str ⟨#[]⟩),.c (.int .i64 0),.nil 80 5,.nil 125 3]),
 (78,.strct [⟨0,1,false⟩,⟨1,1,false⟩] 2 [.c (.str ⟨#[]⟩),.nil 9 1]),
 (80,.strct [⟨0,1,false⟩,⟨1,2,true⟩,⟨3,1,false⟩,⟨4,1,false⟩] 5 [.c (.int .i64 0),.c (.str ⟨#[]⟩),.nil 9 1,.c (.str ⟨#[]⟩),.c (.str ⟨#[]⟩)]),
 (82,.slice 88 4 80 [.c (.str ⟨#[]⟩),.nil 9 1,.c (.str ⟨#[]⟩),.nil 3 1]),
 (86,.slice 3 1 8 [.c (.int .i64 0)]),
 (88,.strct [⟨0,2,true⟩,⟨2,1,false⟩,⟨3,1,false⟩] 4 [.c (.str ⟨#[]⟩),.nil 9 1,.c (.str ⟨#[]⟩),.nil 3 1]),
 (97,.slice 206 3 48 [.c (.int .i64 0),.c (.str ⟨#[]⟩),.nil 9 1]),
 (99,.strct [⟨0,1,false⟩,⟨1,1,false⟩,⟨2,1,false⟩,⟨3,1,false⟩] 4 [.c (.str ⟨#[]⟩),.c (.int .i64 0),.nil 103 5,.nil 206 3]),
 (101,.strct [⟨0,1,false⟩,⟨1,1,false⟩] 2 [.c (.str ⟨#[]⟩),.nil 9 1]),
 (103,.strct [⟨0,1,false⟩,⟨1,2,true⟩,⟨3,1,false⟩,⟨4,1,false⟩] 5 [.c (.int .i64 0),.c (.str ⟨#[]⟩),.nil 9 1,.c (.str ⟨#[]⟩),.c (.str ⟨#[]⟩)]),
 (105,.slice 111 2 48 [.nil 53 2,.nil 162 2]),
 (109,.slice 162 2 32 [.c (.str ⟨#[]⟩),.c (.str ⟨#[]⟩)]),
 (111,.strct [⟨0,1,false⟩,⟨1,1,false⟩] 2 [.nil 53 2,.nil 162 2]),
 (125,.strct [⟨0,1,false⟩,⟨1,2,true⟩] 3 [.c (.int .i64 0),.c (.str ⟨#[]⟩),.nil 9 1]),
 (138,.slice 179 3 56 [.c (.int .i64 0),.nil 3 1,.nil 3 1]),
 (140,.strct [⟨0,1,false⟩,⟨1,1,false⟩] 2 [.c (.int .i64 0),.nil 179 3]),
 (151,.slice 4 1 1 [.c (.bool false)]),
 (162,.strct [⟨0,1,false⟩,⟨1,1,false⟩] 2 [.c (.str ⟨#[]⟩),.c (.str ⟨#[]⟩)]),
 (174,.slice 181 3 64 [.c (.str ⟨#[]⟩),.nil 53 2,.nil 162 2]),
 (179,.strct [⟨0,1,false⟩,⟨1,1,false⟩,⟨2,1,false⟩] 3 [.c (.int .i64 0),.nil 3 1,.nil 3 1]),
 (181,.strct [⟨0,1,false⟩,⟨1,2,true⟩] 3 [.c (.str ⟨#[]⟩),.nil 53 2,.nil 162 2]),
 (183,.slice 187 2 40 [.c (.str ⟨#[]⟩),.nil 53 2]),
 (187,.strct [⟨0,1,false⟩,⟨1,1,false⟩] 2 [.c (.str ⟨#[]⟩),.nil 53 2]),
 (189,.strct [⟨0,1,false⟩,⟨1,1,false⟩,⟨2,1,false⟩] 3 [.nil 5 1,.c (.int .i64 0),.c (.int .i64 0)]),
 (206,.strct [⟨0,1,false⟩,⟨1,2,true⟩] 3 [.c (.int .i64 0),.c (.str ⟨#[]⟩),.nil 9 1]),
 (251,.slice 151 1 24 [.nil 4 1]),
 (261,.atom (.c (.int .u64 0))),
 (269,.ifc),
 (270,.ifc),
 (276,.map .str .bool),
 (279,.atom (.c (.int .u64 0))),
 (297,.atom (.c (.int .u32 0))),
 (355,.strct [⟨0,1,false⟩] 1 [.c (.str ⟨#[]⟩)]),
 (4162,.eqs [.str,.str])]
def tt (t:Nat):Option TI:=Zx2 ttL t
theorem htt:∀t i,tt t=some i->TOk prog t i:=Zxw ttL yO
theorem hmix:prog.follows .mixedOrders=true:=yO
def Zy6:List (String × (Array Value → Prop)):=[("internal/strconv.uint64pow10", fun cs => cs=(Lib.pow10Tab.map fun z => Value.int .u64 z).toArray), ("strconv.ErrSyntax", fun cs => ∃ tp p, cs=#[.iface tp p]), ("loop.example/g03015/impl.testSigns", fun cs => cs=#[.string ⟨#[32, 61, 32]⟩, .string ⟨#[32, 33, 61, 32]⟩, .string ⟨#[32, 60, 32]⟩])]
def J0:World->Prop:=ZzE prog Zy6
def JF0:Nat->Prop:=ZzH prog Zy6
theorem hJ0:JOk J0 JF0:=Zyc _ _
theorem ZCY (w:World) (h:J0 w):Lib.TabIs prog w "internal/strconv.uint64pow10" .u64 Lib.pow10Tab:=by
 obtain ⟨cs,h1,h2⟩:=h _ (List.mem_cons_self ..)
 rw [h2]at h1
 exact h1
theorem ZzR (w:World) (h:J0 w):∃ tp p, w.var? prog "strconv.ErrSyntax" = some #[.iface tp p]:=by
 obtain ⟨cs, h1, tp, p, h2⟩:=h ("strconv.ErrSyntax", fun cs => ∃ tp p, cs=#[.iface tp p]) (by simp [Zy6])
 rw [h2]at h1
 exact ⟨tp,p,h1⟩
def hdL:List (Nat×Nat):=[(16,2),(41,2),(70,2),(97,3),(98,1),(99,1),(100,1),(101,1),(130,2),(160,1),(162,1),(163,1),(168,1),(170,2),(172,2),(210,2),(216,2),(223,1),(224,1),(225,1),(226,1),(230,1),(231,1),(232,1),(235,2),(248,1),(258,1),(261,2),(266,1),(267,1),(268,1),(269,1),(270,1),(275,1),(293,3),(303,1),(304,1),(305,1),(327,4),(328,1),(329,1),(330,1),(362,1),(363,1)]
def ZxP:List (Nat×Nat)->Nat->Nat
 | [],_=>0
 |p::r,f=>match Nat.beq p.1 f with|true=>p.2|false=>ZxP r f
def hds (f:FuncId):Nat:=ZxP hdL f
abbrev yQ(f:FuncId)(n:Nat):Prop:=(SC prog J0 JF0 hds).hd f=n
abbrev zHH(f:FuncId)(n:Nat):Prop:=(SC prog J0 JF0 hds).hd f=n
theorem zKH{f:FuncId}{n:Nat}(h:(SC prog J0 JF0 hds).hd f=n:=by kernel_rfl):zHH f n:=h
theorem ZGG:zHH 6 0:=zKH
theorem ZFJ:zHH 12 0:=zKH
theorem ZFB:zHH 16 2:=zKH
theorem ZF0:zHH 27 0:=zKH
theorem ZE2:zHH 29 0:=zKH
theorem ZFw:zHH 35 0:=zKH
theorem ZFc:zHH 36 0:=zKH
theorem ZFf:zHH 40 0:=zKH
theorem ZFQ:zHH 41 2:=zKH
theorem ZF9:zHH 42 0:=zKH
theorem ZFp:zHH 43 0:=zKH
theorem ZF3:zHH 44 0:=zKH
theorem ZEV:zHH 45 0:=zKH
theorem ZEU:zHH 46 0:=zKH
theorem ZFY:zHH 47 0:=zKH
theorem ZFG:zHH 49 0:=zKH
theorem ZFW:zHH 50 0:=zKH
theorem ZFM:zHH 51 0:=zKH
theorem ZF2:zHH 52 0:=zKH
theorem ZFO:zHH 53 0:=zKH
theorem ZEI:zHH 54 0:=zKH
theorem ZEW:zHH 55 0:=zKH
theorem ZE9:zHH 56 0:=zKH
theorem ZFZ:zHH 57 0:=zKH
theorem ZFx:zHH 58 0:=zKH
theorem ZEA:zHH 61 0:=zKH
theorem ZE5:zHH 62 0:=zKH
theorem ZFL:zHH 63 0:=zKH
theorem ZED:zHH 64 0:=zKH
theorem ZEH:zHH 65 0:=zKH
theorem ZFC:zHH 68 0:=zKH
theorem ZEK:zHH 69 0:=zKH
theorem ZFd:zHH 70 2:=zKH
theorem ZFg:zHH 71 0:=zKH
theorem ZEo:zHH 80 0:=zKH
theorem ZEs:zHH 81 0:=zKH
theorem ZEq:zHH 82 0:=zKH
theorem ZEG:zHH 84 0:=zKH
theorem ZE4:zHH 85 0:=zKH
theorem ZFS:zHH 86 0:=zKH
theorem ZFr:zHH 87 0:=zKH
theorem ZFT:zHH 88 0:=zKH
theorem ZFo:zHH 90 0:=zKH
theorem ZFk:zHH 91 0:=zKH
theorem ZEM:zHH 92 0:=zKH
theorem ZFX:zHH 93 0:=zKH
theorem ZFU:zHH 94 0:=zKH
theorem ZEt:zHH 95 0:=zKH
theorem ZFa:zHH 96 0:=zKH
theorem ZFu:zHH 97 3:=zKH
theorem ZF1:zHH 98 1:=zKH
theorem ZFt:zHH 99 1:=zKH
theorem ZAy:zHH 100 1:=zKH
theorem ZEd:zHH 101 1:=zKH
theorem ZC3:zHH 102 0:=zKH
theorem ZA4:zHH 103 0:=zKH
theorem ZEe:zHH 104 0:=zKH
theorem ZAJ:zHH 105 0:=zKH
theorem ZDV:zHH 106 0:=zKH
theorem ZCw:zHH 107 0:=zKH
theorem ZBv:zHH 108 0:=zKH
theorem ZCN:zHH 110 0:=zKH
theorem ZBb:zHH 111 0:=zKH
theorem ZEl:zHH 112 0:=zKH
theorem ZBC:zHH 113 0:=zKH
theorem ZCJ:zHH 114 0:=zKH
theorem Zz0:zHH 115 0:=zKH
theorem ZBf:zHH 116 0:=zKH
theorem ZDn:zHH 117 0:=zKH
theorem ZD1:zHH 120 0:=zKH
theorem ZBs:zHH 121 0:=zKH
theorem ZBQ:zHH 122 0:=zKH
theorem ZDW:zHH 123 0:=zKH
theorem ZA3:zHH 124 0:=zKH
theorem ZEg:zHH 127 0:=zKH
theorem ZEc:zHH 128 0:=zKH
theorem ZBz:zHH 129 0:=zKH
theorem ZDl:zHH 130 2:=zKH
theorem ZC6:zHH 131 0:=zKH
theorem ZD3:zHH 132 0:=zKH
theorem ZC9:zHH 136 0:=zKH
theorem ZCQ:zHH 137 0:=zKH
theorem ZDE:zHH 138 0:=zKH
theorem ZBV:zHH 139 0:=zKH
theorem ZCb:zHH 140 0:=zKH
theorem ZDI:zHH 141 0:=zKH
theorem ZAf:zHH 142 0:=zKH
theorem ZDY:zHH 143 0:=zKH
theorem ZBM:zHH 144 0:=zKH
theorem ZCP:zHH 145 0:=zKH
theorem ZBB:zHH 146 0:=zKH
theorem ZD7:zHH 147 0:=zKH
theorem ZD8:zHH 148 0:=zKH
theorem ZAE:zHH 149 0:=zKH
theorem Zz6:zHH 150 0:=zKH
theorem ZBE:zHH 151 0:=zKH
theorem ZDO:zHH 152 0:=zKH
theorem ZBW:zHH 153 0:=zKH
theorem ZAR:zHH 154 0:=zKH
theorem ZAZ:zHH 155 0:=zKH
theorem ZCq:zHH 156 0:=zKH
theorem ZAY:zHH 157 0:=zKH
theorem ZzN:zHH 158 0:=zKH
theorem ZBU:zHH 159 0:=zKH
theorem ZBS:zHH 160 1:=zKH
theorem ZDt:zHH 161 0:=zKH
theorem ZCp:zHH 162 1:=zKH
theorem ZD9:zHH 163 1:=zKH
theorem ZAg:zHH 164 0:=zKH
theorem ZEf:zHH 165 0:=zKH
theorem ZBN:zHH 166 0:=zKH
theorem Zz1:zHH 167 0:=zKH
theorem ZBZ:zHH 168 1:=zKH
theorem ZBX:zHH 169 0:=zKH
theorem ZBq:zHH 170 2:=zKH
theorem ZAT:zHH 171 0:=zKH
theorem ZEa:zHH 172 2:=zKH
theorem ZDa:zHH 173 0:=zKH
theorem ZAk:zHH 174 0:=zKH
theorem ZDQ:zHH 175 0:=zKH
theorem ZDg:zHH 176 0:=zKH
theorem ZA7:zHH 177 0:=zKH
theorem ZDf:zHH 179 0:=zKH
theorem ZDL:zHH 180 0:=zKH
theorem ZBD:zHH 181 0:=zKH
theorem ZBI:zHH 182 0:=zKH
theorem ZBT:zHH 183 0:=zKH
theorem ZA5:zHH 184 0:=zKH
theorem ZAj:zHH 185 0:=zKH
theorem ZCj:zHH 186 0:=zKH
theorem ZAx:zHH 187 0:=zKH
theorem ZCC:zHH 188 0:=zKH
theorem ZBd:zHH 190 0:=zKH
theorem ZAK:zHH 191 0:=zKH
theorem ZBp:zHH 192 0:=zKH
theorem Zz8:zHH 193 0:=zKH
theorem ZDZ:zHH 194 0:=zKH
theorem ZD4:zHH 195 0:=zKH
theorem ZzU:zHH 196 0:=zKH
theorem ZAC:zHH 197 0:=zKH
theorem ZB5:zHH 198 0:=zKH
theorem ZCD:zHH 199 0:=zKH
theorem ZBn:zHH 201 0:=zKH
theorem ZEj:zHH 202 0:=zKH
theorem ZDG:zHH 203 0:=zKH
theorem ZBg:zHH 204 0:=zKH
theorem ZAN:zHH 205 0:=zKH
theorem Zz2:zHH 206 0:=zKH
theorem ZB3:zHH 207 0:=zKH
theorem ZAP:zHH 208 0:=zKH
theorem ZB7:zHH 209 0:=zKH
theorem ZB1:zHH 210 2:=zKH
theorem ZCt:zHH 211 0:=zKH
theorem ZDh:zHH 212 0:=zKH
theorem ZC2:zHH 214 0:=zKH
theorem ZCs:zHH 215 0:=zKH
theorem ZAL:zHH 216 2:=zKH
theorem ZBJ:zHH 217 0:=zKH
theorem ZCd:zHH 218 0:=zKH
theorem ZAo:zHH 219 0:=zKH
theorem ZA0:zHH 221 0:=zKH
theorem ZzW:zHH 223 1:=zKH
theorem ZCf:zHH 224 1:=zKH
theorem ZBF:zHH 225 1:=zKH
theorem ZCU:zHH 226 1:=zKH
theorem ZDJ:zHH 227 0:=zKH
theorem ZCV:zHH 228 0:=zKH
theorem ZBY:zHH 229 0:=zKH
theorem ZBO:zHH 230 1:=zKH
theorem ZA1:zHH 231 1:=zKH
theorem ZAb:zHH 232 1:=zKH
theorem ZDp:zHH 233 0:=zKH
theorem ZAt:zHH 234 0:=zKH
theorem ZAs:zHH 235 2:=zKH
theorem ZAS:zHH 236 0:=zKH
theorem ZDq:zHH 237 0:=zKH
theorem ZCZ:zHH 238 0:=zKH
theorem ZDN:zHH 239 0:=zKH
theorem ZAp:zHH 240 0:=zKH
theorem ZAV:zHH 241 0:=zKH
theorem ZCW:zHH 242 0:=zKH
theorem ZCK:zHH 243 0:=zKH
theorem ZBH:zHH 244 0:=zKH
theorem ZAI:zHH 245 0:=zKH
theorem ZzK:zHH 246 0:=zKH
theorem ZCX:zHH 247 0:=zKH
theorem Zz7:zHH 248 1:=zKH
theorem ZDP:zHH 249 0:=zKH
theorem ZAn:zHH 250 0:=zKH
theorem Zz3:zHH 251 0:=zKH
theorem Zz5:zHH 252 0:=zKH
theorem ZBx:zHH 253 0:=zKH
theorem ZCL:zHH 254 0:=zKH
theorem ZBk:zHH 255 0:=zKH
theorem ZCg:zHH 256 0:=zKH
theorem ZAa:zHH 257 0:=zKH
theorem ZBu:zHH 258 1:=zKH
theorem ZAF:zHH 259 0:=zKH
theorem ZDs:zHH 260 0:=zKH
theorem ZDR:zHH 261 2:=zKH
theorem ZBy:zHH 262 0:=zKH
theorem ZCu:zHH 263 0:=zKH
theorem ZAO:zHH 264 0:=zKH
theorem ZBh:zHH 266 1:=zKH
theorem ZDF:zHH 267 1:=zKH
theorem ZCz:zHH 268 1:=zKH
theorem ZC4:zHH 269 1:=zKH
theorem ZDA:zHH 270 1:=zKH
theorem ZDi:zHH 271 0:=zKH
theorem ZCc:zHH 272 0:=zKH
theorem ZDC:zHH 273 0:=zKH
theorem ZBR:zHH 274 0:=zKH
theorem ZDD:zHH 275 1:=zKH
theorem ZB8:zHH 276 0:=zKH
theorem ZDm:zHH 277 0:=zKH
theorem ZAh:zHH 278 0:=zKH
theorem ZB4:zHH 283 0:=zKH
theorem ZEm:zHH 284 0:=zKH
theorem ZC7:zHH 285 0:=zKH
theorem ZzY:zHH 287 0:=zKH
theorem ZzM:zHH 288 0:=zKH
theorem ZzP:zHH 289 0:=zKH
theorem ZDd:zHH 290 0:=zKH
theorem ZAi:zHH 291 0:=zKH
theorem ZDz:zHH 292 0:=zKH
theorem ZEh:zHH 293 3:=zKH
theorem ZCa:zHH 294 0:=zKH
theorem ZCi:zHH 296 0:=zKH
theorem ZzZ:zHH 297 0:=zKH
theorem ZDy:zHH 302 0:=zKH
theorem ZAr:zHH 303 1:=zKH
theorem ZD6:zHH 304 1:=zKH
theorem ZAM:zHH 305 1:=zKH
theorem ZCB:zHH 306 0:=zKH
theorem ZCI:zHH 307 0:=zKH
theorem ZBG:zHH 308 0:=zKH
theorem ZBm:zHH 309 0:=zKH
theorem ZBl:zHH 313 0:=zKH
theorem ZCO:zHH 318 0:=zKH
theorem ZCA:zHH 319 0:=zKH
theorem ZBw:zHH 326 0:=zKH
theorem ZD2:zHH 327 4:=zKH
theorem ZDj:zHH 328 1:=zKH
theorem ZCF:zHH 329 1:=zKH
theorem ZB9:zHH 330 1:=zKH
theorem ZCh:zHH 331 0:=zKH
theorem ZDo:zHH 360 0:=zKH
theorem ZBK:zHH 361 0:=zKH
theorem ZCG:zHH 362 1:=zKH
theorem ZDK:zHH 363 1:=zKH
theorem ZA8:zHH 377 0:=zKH
theorem ZDU:zHH 382 0:=zKH
theorem tt2:tt 2=some (.atom (.c (.int .i64 0))):=yi rfl
theorem tt3:tt 3=some (.atom (.c (.int .i64 0))):=yi rfl
theorem tt4:tt 4=some (.atom (.c (.bool false))):=yi rfl
theorem tt5:tt 5=some (.atom (.c (.int .u8 0))):=yi rfl
theorem tt9:tt 9=some (.atom (.c (.str ⟨#[]⟩))):=yi rfl
theorem ZGz:tt 12=some (.atom (.c (.int .u64 0))):=yi rfl
theorem ZGt:tt 14=some (.strct [⟨0,1,false⟩,⟨1,1,false⟩] 2 [.c (.str ⟨#[]⟩),.c (.int .u64 0)]):=yi rfl
theorem ZGE:tt 20=some (.ifc):=yi rfl
theorem ZGj:tt 21=some (.atom (.c (.int .i32 0))):=yi rfl
theorem ZGh:tt 22=some (.slice 99 4 72 [.c (.str ⟨#[]⟩),.c (.int .i64 0),.nil 103 5,.nil 206 3]):=yi rfl
theorem ZGJ:tt 23=some (.slice 48 2 40 [.c (.str ⟨#[]⟩),.nil 9 1]):=yi rfl
theorem ZGp:tt 24=some (.slice 103 5 80 [.c (.int .i64 0),.c (.str ⟨#[]⟩),.nil 9 1,.c (.str ⟨#[]⟩),.c (.str ⟨#[]⟩)]):=yi rfl
theorem ZGV:tt 28=some (.slice 109 1 24 [.nil 162 2]):=yi rfl
theorem ZGD:tt 31=some (.slice 76 4 72 [.c (.str ⟨#[]⟩),.c (.int .i64 0),.nil 80 5,.nil 125 3]):=yi rfl
theorem ZGU:tt 33=some (.slice 53 2 40 [.c (.str ⟨#[]⟩),.nil 9 1]):=yi rfl
theorem ZGy:tt 35=some (.slice 80 5 80 [.c (.int .i64 0),.c (.str ⟨#[]⟩),.nil 9 1,.c (.str ⟨#[]⟩),.c (.str ⟨#[]⟩)]):=yi rfl
theorem ZGx:tt 46=some (.slice 9 1 16 [.c (.str ⟨#[]⟩)]):=yi rfl
theorem ZGB:tt 48=some (.strct [⟨0,1,false⟩,⟨1,1,false⟩] 2 [.c (.str ⟨#[]⟩),.nil 9 1]):=yi rfl
theorem ZGw:tt 50=some (.slice 73 3 40 [.c (.str ⟨#[]⟩),.c (.int .i64 0),.c (.str ⟨#[]⟩)]):=yi rfl
theorem ZGr:tt 53=some (.strct [⟨0,1,false⟩,⟨1,1,false⟩] 2 [.c (.str ⟨#[]⟩),.nil 9 1]):=yi rfl
theorem ZGf:tt 63=some (.slice 5 1 1 [.c (.int .u8 0)]):=yi rfl
theorem ZGq:tt 73=some (.strct [⟨0,1,false⟩,⟨1,1,false⟩,⟨2,1,false⟩] 3 [.c (.str ⟨#[]⟩),.c (.int .i64 0),.c (.str ⟨#[]⟩)]):=yi rfl
theorem ZGH:tt 74=some (.slice 125 3 48 [.c (.int .i64 0),.c (.str ⟨#[]⟩),.nil 9 1]):=yi rfl
theorem ZGK:tt 76=some (.strct [⟨0,1,false⟩,⟨1,1,false⟩,⟨2,1,false⟩,⟨3,1,false⟩] 4 [.c (.str ⟨#[]⟩),.c (.int .i64 0),.nil 80 5,.nil 125 3]):=yi rfl
theorem ZGo:tt 78=some (.strct [⟨0,1,false⟩,⟨1,1,false⟩] 2 [.c (.str ⟨#[]⟩),.nil 9 1]):=yi rfl
theorem ZGb:tt 80=some (.strct [⟨0,1,false⟩,⟨1,2,true⟩,⟨3,1,false⟩,⟨4,1,false⟩] 5 [.c (.int .i64 0),.c (.str ⟨#[]⟩),.nil 9 1,.c (.str ⟨#[]⟩),.c (.str ⟨#[]⟩)]):=yi rfl
theorem ZGn:tt 82=some (.slice 88 4 80 [.c (.str ⟨#[]⟩),.nil 9 1,.c (.str ⟨#[]⟩),.nil 3 1]):=yi rfl
theorem ZGd:tt 86=some (.slice 3 1 8 [.c (.int .i64 0)]):=yi rfl
theorem ZGO:tt 88=some (.strct [⟨0,2,true⟩,⟨2,1,false⟩,⟨3,1,false⟩] 4 [.c (.str ⟨#[]⟩),.nil 9 1,.c (.str ⟨#[]⟩),.nil 3 1]):=yi rfl
theorem ZGv:tt 97=some (.slice 206 3 48 [.c (.int .i64 0),.c (.str ⟨#[]⟩),.nil 9 1]):=yi rfl
theorem ZGe:tt 99=some (.strct [⟨0,1,false⟩,⟨1,1,false⟩,⟨2,1,false⟩,⟨3,1,false⟩] 4 [.c (.str ⟨#[]⟩),.c (.int .i64 0),.nil 103 5,.nil 206 3]):=yi rfl
theorem ZF4:tt 101=some (.strct [⟨0,1,false⟩,⟨1,1,false⟩] 2 [.c (.str ⟨#[]⟩),.nil 9 1]):=yi rfl
theorem ZFe:tt 103=some (.strct [⟨0,1,false⟩,⟨1,2,true⟩,⟨3,1,false⟩,⟨4,1,false⟩] 5 [.c (.int .i64 0),.c (.str ⟨#[]⟩),.nil 9 1,.c (.str ⟨#[]⟩),.c (.str ⟨#[]⟩)]):=yi rfl
theorem ZFl:tt 105=some (.slice 111 2 48 [.nil 53 2,.nil 162 2]):=yi rfl
theorem ZEQ:tt 109=some (.slice 162 2 32 [.c (.str ⟨#[]⟩),.c (.str ⟨#[]⟩)]):=yi rfl
theorem ZFm:tt 111=some (.strct [⟨0,1,false⟩,⟨1,1,false⟩] 2 [.nil 53 2,.nil 162 2]):=yi rfl
theorem ZEx:tt 125=some (.strct [⟨0,1,false⟩,⟨1,2,true⟩] 3 [.c (.int .i64 0),.c (.str ⟨#[]⟩),.nil 9 1]):=yi rfl
theorem ZEN:tt 138=some (.slice 179 3 56 [.c (.int .i64 0),.nil 3 1,.nil 3 1]):=yi rfl
theorem ZE6:tt 140=some (.strct [⟨0,1,false⟩,⟨1,1,false⟩] 2 [.c (.int .i64 0),.nil 179 3]):=yi rfl
theorem ZEw:tt 151=some (.slice 4 1 1 [.c (.bool false)]):=yi rfl
theorem ZEu:tt 162=some (.strct [⟨0,1,false⟩,⟨1,1,false⟩] 2 [.c (.str ⟨#[]⟩),.c (.str ⟨#[]⟩)]):=yi rfl
theorem ZE7:tt 174=some (.slice 181 3 64 [.c (.str ⟨#[]⟩),.nil 53 2,.nil 162 2]):=yi rfl
theorem ZE1:tt 179=some (.strct [⟨0,1,false⟩,⟨1,1,false⟩,⟨2,1,false⟩] 3 [.c (.int .i64 0),.nil 3 1,.nil 3 1]):=yi rfl
theorem ZFK:tt 181=some (.strct [⟨0,1,false⟩,⟨1,2,true⟩] 3 [.c (.str ⟨#[]⟩),.nil 53 2,.nil 162 2]):=yi rfl
theorem ZEX:tt 183=some (.slice 187 2 40 [.c (.str ⟨#[]⟩),.nil 53 2]):=yi rfl
theorem ZEn:tt 187=some (.strct [⟨0,1,false⟩,⟨1,1,false⟩] 2 [.c (.str ⟨#[]⟩),.nil 53 2]):=yi rfl
theorem ZFb:tt 189=some (.strct [⟨0,1,false⟩,⟨1,1,false⟩,⟨2,1,false⟩] 3 [.nil 5 1,.c (.int .i64 0),.c (.int .i64 0)]):=yi rfl
theorem ZEE:tt 206=some (.strct [⟨0,1,false⟩,⟨1,2,true⟩] 3 [.c (.int .i64 0),.c (.str ⟨#[]⟩),.nil 9 1]):=yi rfl
theorem ZFA:tt 251=some (.slice 151 1 24 [.nil 4 1]):=yi rfl
theorem ZEz:tt 261=some (.atom (.c (.int .u64 0))):=yi rfl
theorem ZFD:tt 269=some (.ifc):=yi rfl
theorem ZFP:tt 270=some (.ifc):=yi rfl
theorem ZFI:tt 276=some (.map .str .bool):=yi rfl
theorem ZFq:tt 279=some (.atom (.c (.int .u64 0))):=yi rfl
theorem ZFj:tt 297=some (.atom (.c (.int .u32 0))):=yi rfl
theorem ZFv:tt 355=some (.strct [⟨0,1,false⟩] 1 [.c (.str ⟨#[]⟩)]):=yi rfl
theorem ZBt:tt 4162=some (.eqs [.str,.str]):=yi rfl
theorem fnk {f:FuncId} {fn:Func} {c:Code} {args:List (Bool × List CT)} {res:List RT} (hf:prog.funcs[f]?=some fn) (hb:fn.body=some c) (h:fnS (fun _ => none) tt (SC prog J0 JF0 hds) fn.results.toList c args res) (hname:(fn.name == "runtime.NumGoroutine")=false:=by kernel_rfl) (hok:X7 (fun _ => none) tt hds false fn.ntmps c=true:=by kernel_rfl) (hlen:Nat.ble args.length fn.ntmps=true:=by kernel_rfl):Sound prog J0 f args res:=ZwK htt hJ0 hmix hf hname hb hok hlen h
theorem fnh {f:FuncId} {fn:Func} {c:Code} {h h':Zme} {args:List (Bool × List CT)} {res:List RT} (hf:prog.funcs[f]?=some fn) (hb:fn.body=some c) (hh:fnH (fun _ => none) tt (SC prog J0 JF0 hds) fn.results.toList c h args res h') (hname:(fn.name == "runtime.NumGoroutine")=false:=by kernel_rfl) (hok:X7 (fun _ => none) tt hds true fn.ntmps c=true:=by kernel_rfl) (hlen:Nat.blt args.length fn.ntmps=true:=by kernel_rfl):Zkx prog J0 JF0 f h args res h':=ZOe htt hJ0 hmix hf hname hb hok hlen hh
theorem fnb {f:FuncId} {fn:Func} {c:Code} {args:List (Bool × List CT)} {nb:NB} (hf:prog.funcs[f]?=some fn) (hb:fn.body=some c) (h:fnB (fun _ => none) tt (SC prog J0 JF0 hds) fn.results.toList c args nb) (hname:(fn.name == "runtime.NumGoroutine")=false:=by kernel_rfl) (hok:X7 (fun _ => none) tt hds false fn.ntmps c=true:=by kernel_rfl) (hlen:Nat.ble args.length fn.ntmps=true:=by kernel_rfl):ZqL prog J0 f args nb:=Zvs htt hJ0 hmix hf hname hb hok hlen h
theorem fnn (t0:Nat) {f:FuncId} {fn:Func} {c:Code} {args:List (Bool × List CT)} {res:List RT} (hf:prog.funcs[f]?=some fn) (hb:fn.body=some c) (h:fnN (fun _ => none) tt (SC prog J0 JF0 hds) fn.results.toList t0 c args res) (hname:(fn.name == "runtime.NumGoroutine")=false:=by kernel_rfl) (hok:X7 (fun _ => none) tt hds false fn.ntmps c=true:=by kernel_rfl) (hlen:Nat.ble args.length fn.ntmps=true:=by kernel_rfl):Sound prog J0 f args res:=Zwj htt hJ0 hmix hf hname hb hok hlen t0 h
theorem ZPg (m:List (Nat × List Nat × Bool)) {f:FuncId} {fn:Func} {c:Code} {h h':Zme} {args:List (Bool × List CT)} {res:List RT} (hf:prog.funcs[f]?=some fn) (hb:fn.body=some c) (hh:fnH (Zyb m) tt (SC prog J0 JF0 hds) fn.results.toList c h args res h') (hname:(fn.name == "runtime.NumGoroutine")=false:=by kernel_rfl) (hok:X7 (Zyb m) tt hds true fn.ntmps c=true:=by kernel_rfl) (hlen:Nat.blt args.length fn.ntmps=true:=by kernel_rfl):Zkx prog J0 JF0 f h args res h':=ZOe htt hJ0 hmix hf hname hb hok hlen hh
def ZoK (f:FuncId):Nat:=ZxP ([(151,2),(157,2)]++hdL) f
theorem ZDb:(SC prog J0 JF0 ZoK).hd 80=0:=yO
theorem ZDT:(SC prog J0 JF0 ZoK).hd 85=0:=yO
theorem Zzy:(SC prog J0 JF0 ZoK).hd 112=0:=yO
theorem Zzx:(SC prog J0 JF0 ZoK).hd 114=0:=yO
theorem ZyJ:(SC prog J0 JF0 ZoK).hd 151=2:=yO
theorem Zye:(SC prog J0 JF0 ZoK).hd 152=0:=yO
theorem Zy7:(SC prog J0 JF0 ZoK).hd 153=0:=yO
theorem Zzq:(SC prog J0 JF0 ZoK).hd 154=0:=yO
theorem Zy3:(SC prog J0 JF0 ZoK).hd 157=2:=yO
theorem Zy1:(SC prog J0 JF0 ZoK).hd 158=0:=yO
theorem ZMt {f:FuncId} {fn:Func} {c:Code} {args:List (Bool × List CT)} {res:List RT} (hf:prog.funcs[f]?=some fn) (hb:fn.body=some c) (h:fnS (fun _ => none) tt (SC prog J0 JF0 ZoK) fn.results.toList c args res) (hname:(fn.name == "runtime.NumGoroutine")=false:=by kernel_rfl) (hok:X7 (fun _ => none) tt ZoK false fn.ntmps c=true:=by kernel_rfl) (hlen:Nat.ble args.length fn.ntmps=true:=by kernel_rfl):Sound prog J0 f args res:=ZwK htt hJ0 hmix hf hname hb hok hlen h
def eFact (x:Zc):List CT:=[.str x.rel,.sl 9 1 (A0 ZA x.args)]
theorem ZxH (x:Zc):eFact x=[.str x.rel,.sl 9 1 (A0 ZA x.args)]:=yi rfl
def eMiss (x:Zwt):List CT:=[.str x.rule,.int .i64 x.done,.str x.cond]
theorem ZwO (x:Zwt):eMiss x=[.str x.rule,.int .i64 x.done,.str x.cond]:=yi rfl
theorem Ztl (l:List Zwt):ZaN (l.map eMiss)=true:=Zbf (fun _=>rfl) l
def Qp (x:Zx):List CT:=[.str x.rel,.sl 9 1 (A0 ZA x.args)]
theorem Zr6 (x:Zx):Qp x=[.str x.rel,.sl 9 1 (A0 ZA x.args)]:=yi rfl
def ZJ (x:Zl):List CT:=[.int .i64 x.kind,.str x.pattern.rel,.sl 9 1 (A0 ZA x.pattern.args),.str x.left,.str x.right]
theorem Zxh (x:Zl):ZJ x=[.int .i64 x.kind,.str x.pattern.rel,.sl 9 1 (A0 ZA x.pattern.args),.str x.left,.str x.right]:=yi rfl
def ZI (x:Zu):List CT:=[.int .i64 x.kind,.str x.pattern.rel,.sl 9 1 (A0 ZA x.pattern.args)]
theorem Zt3 (x:Zu):ZI x=[.int .i64 x.kind,.str x.pattern.rel,.sl 9 1 (A0 ZA x.pattern.args)]:=yi rfl
def eRule (x:Zg):List CT:=[.str x.name,.int .i64 x.priority,.sl 80 5 (A0 ZJ x.cond),.sl 125 3 (A0 ZI x.thn)]
theorem Zxm (x:Zg):eRule x=[.str x.name,.int .i64 x.priority,.sl 80 5 (A0 ZJ x.cond),.sl 125 3 (A0 ZI x.thn)]:=yi rfl
def ZF5 (x:ZzC):List CT:=[.str x.fact.rel,.sl 9 1 (A0 ZA x.fact.args),.str x.rule,.sl 3 1 (A0 ZO x.uses)]
theorem ZxR (x:ZzC):ZF5 x=[.str x.fact.rel,.sl 9 1 (A0 ZA x.fact.args),.str x.rule,.sl 3 1 (A0 ZO x.uses)]:=yi rfl
def ZR (x:Zi):List CT:=[.str x.var,.str x.value]
theorem Zx1 (x:Zi):ZR x=[.str x.var,.str x.value]:=yi rfl
theorem Zt8 (l:List Zi):ZaN (l.map ZR)=true:=Zbf (fun _=>rfl) l
def YU (x:Zq):List CT:=[.sl 53 2 (A0 eFact x.facts),.sl 162 2 (A0 ZR x.binding)]
theorem Zwi (x:Zq):YU x=[.sl 53 2 (A0 eFact x.facts),.sl 162 2 (A0 ZR x.binding)]:=yi rfl
def ZG (x:Zf):List CT:=[.int .i64 x.for_,.sl 3 1 (A0 ZO x.inn),.sl 3 1 (A0 ZO x.outs)]
theorem Zth (x:Zf):ZG x=[.int .i64 x.for_,.sl 3 1 (A0 ZO x.inn),.sl 3 1 (A0 ZO x.outs)]:=yi rfl
def Qu (x:Zt):List CT:=[.int .i64 x.nodes,.sl 179 3 (A0 ZG x.reasons)]
theorem Zsj (x:Zt):Qu x=[.int .i64 x.nodes,.sl 179 3 (A0 ZG x.reasons)]:=yi rfl
def ZfI (x:XR):List CT:=[.str x.rule,.sl 53 2 (A0 eFact x.token.facts),.sl 162 2 (A0 ZR x.token.binding)]
theorem ZqJ (x:XR):ZfI x=[.str x.rule,.sl 53 2 (A0 eFact x.token.facts),.sl 162 2 (A0 ZR x.token.binding)]:=yi rfl
def Zh4 (x:Za4):List CT:=[.str x.rule,.sl 53 2 (A0 eFact x.facts)]
theorem Ztx (x:Za4):Zh4 x=[.str x.rule,.sl 53 2 (A0 eFact x.facts)]:=yi rfl
def ZAW (x:ZwG):List CT:=[.sl 5 1 (A0 Zs8 x.b),.int .i64 x.i,.int .i64 x.h]
theorem Zvb (x:ZwG):ZAW x=[.sl 5 1 (A0 Zs8 x.b),.int .i64 x.i,.int .i64 x.h]:=yi rfl
def ZeO (x:List Zi):List CT:=[.sl 162 2 (A0 ZR x)]
theorem Zmh (x:List Zi):ZeO x=[.sl 162 2 (A0 ZR x)]:=yi rfl
def Zv9 (x:List Bool):List CT:=[.sl 4 1 (A0 Ze4 x)]
theorem ZqM (x:List Bool):Zv9 x=[.sl 4 1 (A0 Ze4 x)]:=yi rfl
attribute [go_sem] tt2 tt3 tt4 tt5 tt9 ZGz ZGt ZGE ZGj ZGh ZGJ ZGp ZGV ZGD ZGU ZGy ZGx ZGB ZGw ZGr ZGf ZGq ZGH ZGK ZGo ZGb ZGn ZGd ZGO ZGv ZGe ZF4 ZFe ZFl ZEQ ZFm ZEx ZEN ZE6 ZEw
attribute [go_sem] ZEu ZE7 ZE1 ZFK ZEX ZEn ZFb ZEE ZFA ZEz ZFD ZFP ZFI ZFq ZFj ZFv ZBt ZGG ZFJ ZFB ZF0 ZE2 ZFw ZFc ZFf ZFQ ZF9 ZFp ZF3 ZEV ZEU ZFY ZFG ZFW ZFM ZF2 ZFO ZEI ZEW ZE9
attribute [go_sem] ZFZ ZFx ZEA ZE5 ZFL ZED ZEH ZFC ZEK ZFd ZFg ZEo ZEs ZEq ZEG ZE4 ZFS ZFr ZFT ZFo ZFk ZEM ZFX ZFU ZEt ZFa ZFu ZF1 ZFt ZAy ZEd ZC3 ZA4 ZEe ZAJ ZDV ZCw ZBv ZCN ZBb
attribute [go_sem] ZEl ZBC ZCJ Zz0 ZBf ZDn ZD1 ZBs ZBQ ZDW ZA3 ZEg ZEc ZBz ZDl ZC6 ZD3 ZC9 ZCQ ZDE ZBV ZCb ZDI ZAf ZDY ZBM ZCP ZBB ZD7 ZD8 ZAE Zz6 ZBE ZDO ZBW ZAR ZAZ ZCq ZAY ZzN
attribute [go_sem] ZBU ZBS ZDt ZCp ZD9 ZAg ZEf ZBN Zz1 ZBZ ZBX ZBq ZAT ZEa ZDa ZAk ZDQ ZDg ZA7 ZDf ZDL ZBD ZBI ZBT ZA5 ZAj ZCj ZAx ZCC ZBd ZAK ZBp Zz8 ZDZ ZD4 ZzU ZAC ZB5 ZCD ZBn
attribute [go_sem] ZEj ZDG ZBg ZAN Zz2 ZB3 ZAP ZB7 ZB1 ZCt ZDh ZC2 ZCs ZAL ZBJ ZCd ZAo ZA0 ZzW ZCf ZBF ZCU ZDJ ZCV ZBY ZBO ZA1 ZAb ZDp ZAt ZAs ZAS ZDq ZCZ ZDN ZAp ZAV ZCW ZCK ZBH
attribute [go_sem] ZAI ZzK ZCX Zz7 ZDP ZAn Zz3 Zz5 ZBx ZCL ZBk ZCg ZAa ZBu ZAF ZDs ZDR ZBy ZCu ZAO ZBh ZDF ZCz ZC4 ZDA ZDi ZCc ZDC ZBR ZDD ZB8 ZDm ZAh ZB4 ZEm ZC7 ZzY ZzM ZzP ZDd
attribute [go_sem] ZAi ZDz ZEh ZCa ZCi ZzZ ZDy ZAr ZD6 ZAM ZCB ZCI ZBG ZBm ZBl ZCO ZCA ZBw ZD2 ZDj ZCF ZB9 ZCh ZDo ZBK ZCG ZDK ZA8 ZDU ZDb ZDT Zzy Zzx ZyJ Zye Zy7 Zzq Zy3 Zy1 ZxH
attribute [go_sem] Ztl ZwO Zr6 Zxh Zt3 Zxm ZxR Zt8 Zx1 Zwi Zth Zsj ZqJ Ztx Zvb Zmh ZqM
end
end Go.Proofs.YtlpkbfjcdaanmaaGreatDoor
namespace Go.Proofs
open Go.Shelf
def lays156_ren:Go.Shelf.Ren:=⟨fun|156=>241|165=>280|166=>281|169=>282|240=>311|241=>312|276=>332|277=>333|n=>n,fun|31=>46|9=>9|3=>3|4=>4|0=>0|20=>20|72=>267|76=>271|70=>265|37=>63|75=>270|127=>289|164=>302|5=>5|80=>273|n=>n,fun|n=>n⟩
theorem lays156:Go.Proofs.Lays.n156 prog lays156_ren:={
 mixed:=by kernel_rfl
 f156:=func241.trans (congrArg some (by kernel_rfl))
 f165:=func280.trans (congrArg some (by kernel_rfl))
 f166:=func281.trans (congrArg some (by kernel_rfl))
 f169:=func282.trans (congrArg some (by kernel_rfl))
 f240:=func311.trans (congrArg some (by kernel_rfl))
 f241:=func312.trans (congrArg some (by kernel_rfl))
 f276:=func332.trans (congrArg some (by kernel_rfl))
 f277:=func333.trans (congrArg some (by kernel_rfl))
 t0:=underlying0
 a0:=isAgg0
 z0:=sizeOf0
 v0:=zeroValue0
 t3:=underlying3
 a3:=isAgg3
 z3:=sizeOf3
 v3:=zeroValue3
 t4:=underlying4
 a4:=isAgg4
 z4:=sizeOf4
 v4:=zeroValue4
 t9:=underlying9
 a9:=isAgg9
 z9:=sizeOf9
 v9:=zeroValue9
 t20:=underlying20
 a20:=isAgg20
 z20:=sizeOf20
 v20:=zeroValue20
 t31:=underlying46
 a31:=isAgg46
 z31:=sizeOf46
 v31:=zeroValue46
 t37:=underlying63
 a37:=isAgg63
 z37:=sizeOf63
 v37:=zeroValue63
 t70:=underlying265
 a70:=isAgg265
 z70:=sizeOf265
 v70:=zeroValue265
 t72:=underlying267
 a72:=isAgg267
 z72:=sizeOf267
 v72:=zeroValue267
 t75:=underlying270
 a75:=isAgg270
 z75:=sizeOf270
 v75:=zeroValue270
 t76:=underlying271
 a76:=isAgg271
 z76:=sizeOf271
 v76:=zeroValue271
 t127:=underlying289
 a127:=isAgg289
 z127:=sizeOf289
 v127:=zeroValue289
 t164:=underlying302
 a164:=isAgg302
 z164:=sizeOf302
 v164:=zeroValue302}
theorem Tryz.Builder_Extra_156:Builder.Extra prog lays156_ren:={
 sizeBuilder:=by kernel_rfl
 liesBuilder:=by kernel_rfl
 t5:=underlying5
 a5:=isAgg5
 z5:=sizeOf5
 v5:=zeroValue5
 infoByte:=by kernel_rfl
 cellsByte:=by kernel_rfl
 sizeByte:=by kernel_rfl
 neB5:=by decide}
open Go.RowKit in
theorem strings_Join_none (a:Option Addr) (c:Nat) (sep:ByteArray) (w:World):
  Calls prog 241 #[.slice a 0 c,.string sep] w fun e w'=>e=.returned (.string ⟨#[]⟩)/\w'=w:=Any.strings_Join_none lays156 Tryz.Builder_Extra_156 a c sep w
open Go.RowKit in
theorem strings_Join (bk o c:Nat) (xs:List ByteArray) (sep:ByteArray) (w:World) (a:∀(j:Nat) x,xs[j]?=some x->w.cell? ⟨bk,o+j,none⟩=some (.string x)) (f:bk<w.heap.size) (hN:xs.length<=140737488355328) (b:xs.length<=c) (d:(Lib.join (xs.map (·.data.toList)) sep.data.toList).length<=140737488355328):
  Calls prog 241 #[.slice (some ⟨bk,o,none⟩) xs.length c,.string sep] w fun e w'=>e=.returned (.string ⟨(Lib.join (xs.map (·.data.toList)) sep.data.toList).toArray⟩)/\Below w.heap.size w w':=Any.strings_Join lays156 Tryz.Builder_Extra_156 bk o c xs sep w a f hN b d
def lays106_ren:Go.Shelf.Ren:=⟨fun|106=>238|213=>279|265=>310|n=>n,fun|9=>9|3=>3|n=>n,fun|n=>n⟩
theorem lays106:Go.Proofs.Lays.n106 prog lays106_ren:={
 mixed:=by kernel_rfl
 f106:=func238.trans (congrArg some (by kernel_rfl))
 f213:=func279.trans (congrArg some (by kernel_rfl))
 f265:=func310.trans (congrArg some (by kernel_rfl))
 t3:=underlying3
 a3:=isAgg3
 z3:=sizeOf3
 v3:=zeroValue3
 t9:=underlying9
 a9:=isAgg9
 z9:=sizeOf9
 v9:=zeroValue9}
open Go.RowKit in
theorem strings_Compare (a b:ByteArray) (w:World):
  Calls prog 238 #[.string a,.string b] w fun e w'=>e=.returned (.int .i64 (Lib.compareBytes a.data.toList b.data.toList))/\w'=w:=Any.strings_Compare lays106 a b w
def lays172_ren:Go.Shelf.Ren:=⟨fun|172=>287|244=>316|245=>317|247=>344|279=>345|280=>346|281=>347|282=>348|287=>370|316=>371|171=>159|205=>372|321=>379|322=>380|243=>222|246=>265|283=>298|284=>299|285=>300|286=>301|129=>322|317=>321|318=>323|319=>324|320=>325|337=>358|338=>359|n=>n,fun|9=>9|3=>3|75=>270|76=>271|4=>4|5=>5|167=>314|37=>63|0=>0|85=>315|2=>2|168=>317|53=>279|175=>337|46=>261|210=>341|127=>289|145=>355|143=>353|21=>21|171=>278|173=>282|212=>296|51=>297|20=>20|213=>298|232=>345|233=>346|80=>273|n=>n,fun|15=>3|16=>4|17=>2|18=>5|19=>6|n=>n⟩
theorem lays172:Go.Proofs.Lays.n172 prog lays172_ren:={
 mixed:=by kernel_rfl
 f129:=func322.trans (congrArg some (by kernel_rfl))
 f171:=func159.trans (congrArg some (by kernel_rfl))
 f172:=func287.trans (congrArg some (by kernel_rfl))
 f205:=func372.trans (congrArg some (by kernel_rfl))
 f243:=func222.trans (congrArg some (by kernel_rfl))
 f244:=func316.trans (congrArg some (by kernel_rfl))
 f245:=func317.trans (congrArg some (by kernel_rfl))
 f246:=func265.trans (congrArg some (by kernel_rfl))
 f247:=func344.trans (congrArg some (by kernel_rfl))
 f279:=func345.trans (congrArg some (by kernel_rfl))
 f280:=func346.trans (congrArg some (by kernel_rfl))
 f281:=func347.trans (congrArg some (by kernel_rfl))
 f282:=func348.trans (congrArg some (by kernel_rfl))
 f283:=func298.trans (congrArg some (by kernel_rfl))
 f284:=func299.trans (congrArg some (by kernel_rfl))
 f285:=func300.trans (congrArg some (by kernel_rfl))
 f286:=func301.trans (congrArg some (by kernel_rfl))
 f287:=func370.trans (congrArg some (by kernel_rfl))
 f316:=func371.trans (congrArg some (by kernel_rfl))
 f317:=func321.trans (congrArg some (by kernel_rfl))
 f318:=func323.trans (congrArg some (by kernel_rfl))
 f319:=func324.trans (congrArg some (by kernel_rfl))
 f320:=func325.trans (congrArg some (by kernel_rfl))
 f321:=func379.trans (congrArg some (by kernel_rfl))
 f322:=func380.trans (congrArg some (by kernel_rfl))
 f337:=func358.trans (congrArg some (by kernel_rfl))
 f338:=func359.trans (congrArg some (by kernel_rfl))
 t0:=underlying0
 a0:=isAgg0
 z0:=sizeOf0
 v0:=zeroValue0
 t2:=underlying2
 a2:=isAgg2
 z2:=sizeOf2
 v2:=zeroValue2
 t3:=underlying3
 a3:=isAgg3
 z3:=sizeOf3
 v3:=zeroValue3
 t4:=underlying4
 a4:=isAgg4
 z4:=sizeOf4
 v4:=zeroValue4
 t5:=underlying5
 a5:=isAgg5
 z5:=sizeOf5
 v5:=zeroValue5
 t9:=underlying9
 a9:=isAgg9
 z9:=sizeOf9
 v9:=zeroValue9
 t20:=underlying20
 a20:=isAgg20
 z20:=sizeOf20
 v20:=zeroValue20
 t21:=underlying21
 a21:=isAgg21
 z21:=sizeOf21
 v21:=zeroValue21
 t37:=underlying63
 a37:=isAgg63
 z37:=sizeOf63
 v37:=zeroValue63
 t46:=underlying261
 a46:=isAgg261
 z46:=sizeOf261
 v46:=zeroValue261
 t51:=underlying297
 a51:=isAgg297
 z51:=sizeOf297
 v51:=zeroValue297
 t53:=underlying279
 a53:=isAgg279
 z53:=sizeOf279
 v53:=zeroValue279
 t75:=underlying270
 a75:=isAgg270
 z75:=sizeOf270
 v75:=zeroValue270
 t76:=underlying271
 a76:=isAgg271
 z76:=sizeOf271
 v76:=zeroValue271
 t85:=underlying315
 a85:=isAgg315
 z85:=sizeOf315
 v85:=zeroValue315
 t127:=underlying289
 a127:=isAgg289
 z127:=sizeOf289
 v127:=zeroValue289
 t143:=underlying353
 a143:=isAgg353
 z143:=sizeOf353
 v143:=zeroValue353
 t145:=underlying355
 a145:=isAgg355
 z145:=sizeOf355
 v145:=zeroValue355
 t167:=underlying314
 a167:=isAgg314
 z167:=sizeOf314
 v167:=zeroValue314
 t168:=underlying317
 a168:=isAgg317
 z168:=sizeOf317
 v168:=zeroValue317
 t171:=underlying278
 a171:=isAgg278
 z171:=sizeOf278
 v171:=zeroValue278
 t173:=underlying282
 a173:=isAgg282
 z173:=sizeOf282
 v173:=zeroValue282
 t175:=underlying337
 a175:=isAgg337
 z175:=sizeOf337
 v175:=zeroValue337
 t210:=underlying341
 a210:=isAgg341
 z210:=sizeOf341
 v210:=zeroValue341
 t212:=underlying296
 a212:=isAgg296
 z212:=sizeOf296
 v212:=zeroValue296
 t213:=underlying298
 a213:=isAgg298
 z213:=sizeOf298
 t232:=underlying345
 a232:=isAgg345
 z232:=sizeOf345
 v232:=zeroValue345
 t233:=underlying346
 a233:=isAgg346
 z233:=sizeOf346
 v233:=zeroValue346
 g15:=by kernel_rfl
 g16:=by kernel_rfl
 g17:=by kernel_rfl
 g18:=by kernel_rfl
 g19:=by kernel_rfl}
open Go.RowKit in
theorem strconv_Atoi (s:ByteArray) (n:Int) (hl:s.size<=18) (h:Lib.atoi s.data.toList=some n) (w:World):
  Calls prog 287 #[.string s] w fun e w'=>e=.returned (.tuple #[.int .i64 n,.nilIface])/\∃t,w'=Lib.bytesWorld w 5 t:=Any.strconv_Atoi lays172 s n hl h w
def laysM171_ren:Go.Shelf.Ren:=⟨fun|171=>159|243=>222|246=>265|283=>298|284=>299|285=>300|286=>301|129=>322|317=>321|318=>323|319=>324|320=>325|337=>358|338=>359|n=>n,fun|3=>3|9=>9|2=>2|4=>4|171=>278|0=>0|53=>279|37=>63|5=>5|173=>282|212=>296|51=>297|20=>20|213=>298|46=>261|232=>345|233=>346|n=>n,fun|17=>2|18=>5|19=>6|n=>n⟩
theorem laysM171:Go.Proofs.LaysM.n171 prog laysM171_ren:={
 mixed:=by kernel_rfl
 f129:=func322.trans (congrArg some (by kernel_rfl))
 f171:=func159.trans (congrArg some (by kernel_rfl))
 f243:=func222.trans (congrArg some (by kernel_rfl))
 f246:=func265.trans (congrArg some (by kernel_rfl))
 f283:=func298.trans (congrArg some (by kernel_rfl))
 f284:=func299.trans (congrArg some (by kernel_rfl))
 f285:=func300.trans (congrArg some (by kernel_rfl))
 f286:=func301.trans (congrArg some (by kernel_rfl))
 f317:=func321.trans (congrArg some (by kernel_rfl))
 f318:=func323.trans (congrArg some (by kernel_rfl))
 f319:=func324.trans (congrArg some (by kernel_rfl))
 f320:=func325.trans (congrArg some (by kernel_rfl))
 f337:=func358.trans (congrArg some (by kernel_rfl))
 f338:=func359.trans (congrArg some (by kernel_rfl))
 t0:=underlying0
 a0:=isAgg0
 z0:=sizeOf0
 v0:=zeroValue0
 t2:=underlying2
 a2:=isAgg2
 z2:=sizeOf2
 v2:=zeroValue2
 t3:=underlying3
 a3:=isAgg3
 z3:=sizeOf3
 v3:=zeroValue3
 t4:=underlying4
 a4:=isAgg4
 z4:=sizeOf4
 v4:=zeroValue4
 t5:=underlying5
 a5:=isAgg5
 z5:=sizeOf5
 v5:=zeroValue5
 t9:=underlying9
 a9:=isAgg9
 z9:=sizeOf9
 v9:=zeroValue9
 t20:=underlying20
 a20:=isAgg20
 z20:=sizeOf20
 v20:=zeroValue20
 t37:=underlying63
 a37:=isAgg63
 z37:=sizeOf63
 v37:=zeroValue63
 t46:=underlying261
 a46:=isAgg261
 z46:=sizeOf261
 v46:=zeroValue261
 t51:=underlying297
 a51:=isAgg297
 z51:=sizeOf297
 v51:=zeroValue297
 t53:=underlying279
 a53:=isAgg279
 z53:=sizeOf279
 v53:=zeroValue279
 t171:=underlying278
 a171:=isAgg278
 z171:=sizeOf278
 v171:=zeroValue278
 t173:=underlying282
 a173:=isAgg282
 z173:=sizeOf282
 v173:=zeroValue282
 t212:=underlying296
 a212:=isAgg296
 z212:=sizeOf296
 v212:=zeroValue296
 t213:=underlying298
 a213:=isAgg298
 z213:=sizeOf298
 t232:=underlying345
 a232:=isAgg345
 z232:=sizeOf345
 v232:=zeroValue345
 t233:=underlying346
 a233:=isAgg346
 z233:=sizeOf346
 v233:=zeroValue346
 g17:=by kernel_rfl
 g18:=by kernel_rfl
 g19:=by kernel_rfl
 i0:=by kernel_rfl
 i2:=by kernel_rfl
 i3:=by kernel_rfl
 i4:=by kernel_rfl
 i5:=by kernel_rfl
 i9:=by kernel_rfl
 i20:=by kernel_rfl
 i37:=by kernel_rfl
 i46:=by kernel_rfl
 i51:=by kernel_rfl
 i53:=by kernel_rfl
 i171:=by kernel_rfl
 i173:=by kernel_rfl
 i212:=by kernel_rfl
 i232:=by kernel_rfl
 i233:=by kernel_rfl
 m17:=by kernel_rfl
 m18:=by kernel_rfl
 m19:=by kernel_rfl}
open Go.RowKit Go.Sort Go.Lib in
theorem strconv_Itoa (n:Int) (h0:-9223372036854775808 ≤ n) (h1:n ≤ 9223372036854775807) (w:World) (htab:Lib.TabIs prog w "internal/strconv.uint64pow10" .u64 Lib.pow10Tab) :
  Calls prog 159 #[.int .i64 n] w fun e w'=>e=.returned (.string ⟨(Lib.itoa n).toArray⟩)/\∃k os,w'=grow (w.drewN k) os:=Any.strconv_Itoa laysM171 n h0 h1 w htab
def laysC172_ren:Go.Shelf.Ren:=⟨fun|172=>287|244=>316|245=>317|247=>344|279=>345|280=>346|281=>347|282=>348|287=>370|316=>371|171=>159|205=>372|321=>379|322=>380|243=>222|246=>265|283=>298|284=>299|285=>300|286=>301|129=>322|317=>321|318=>323|319=>324|320=>325|337=>358|338=>359|n=>n,fun|9=>9|3=>3|75=>270|76=>271|4=>4|5=>5|167=>314|37=>63|0=>0|85=>315|2=>2|168=>317|53=>279|175=>337|46=>261|210=>341|127=>289|145=>355|143=>353|21=>21|171=>278|173=>282|212=>296|51=>297|20=>20|213=>298|232=>345|233=>346|80=>273|n=>n,fun|15=>3|16=>4|17=>2|18=>5|19=>6|n=>n⟩
theorem laysC172:Go.Proofs.LaysC.n172 prog laysC172_ren:={
 mixed:=by kernel_rfl
 f129:=func322.trans (congrArg some (by kernel_rfl))
 f171:=func159.trans (congrArg some (by kernel_rfl))
 f172:=func287.trans (congrArg some (by kernel_rfl))
 f205:=func372.trans (congrArg some (by kernel_rfl))
 f243:=func222.trans (congrArg some (by kernel_rfl))
 f244:=func316.trans (congrArg some (by kernel_rfl))
 f245:=func317.trans (congrArg some (by kernel_rfl))
 f246:=func265.trans (congrArg some (by kernel_rfl))
 f247:=func344.trans (congrArg some (by kernel_rfl))
 f279:=func345.trans (congrArg some (by kernel_rfl))
 f280:=func346.trans (congrArg some (by kernel_rfl))
 f281:=func347.trans (congrArg some (by kernel_rfl))
 f282:=func348.trans (congrArg some (by kernel_rfl))
 f283:=func298.trans (congrArg some (by kernel_rfl))
 f284:=func299.trans (congrArg some (by kernel_rfl))
 f285:=func300.trans (congrArg some (by kernel_rfl))
 f286:=func301.trans (congrArg some (by kernel_rfl))
 f287:=func370.trans (congrArg some (by kernel_rfl))
 f316:=func371.trans (congrArg some (by kernel_rfl))
 f317:=func321.trans (congrArg some (by kernel_rfl))
 f318:=func323.trans (congrArg some (by kernel_rfl))
 f319:=func324.trans (congrArg some (by kernel_rfl))
 f320:=func325.trans (congrArg some (by kernel_rfl))
 f321:=func379.trans (congrArg some (by kernel_rfl))
 f322:=func380.trans (congrArg some (by kernel_rfl))
 f337:=func358.trans (congrArg some (by kernel_rfl))
 f338:=func359.trans (congrArg some (by kernel_rfl))
 t0:=underlying0
 a0:=isAgg0
 z0:=sizeOf0
 v0:=zeroValue0
 t2:=underlying2
 a2:=isAgg2
 z2:=sizeOf2
 v2:=zeroValue2
 t3:=underlying3
 a3:=isAgg3
 z3:=sizeOf3
 v3:=zeroValue3
 t4:=underlying4
 a4:=isAgg4
 z4:=sizeOf4
 v4:=zeroValue4
 t5:=underlying5
 a5:=isAgg5
 z5:=sizeOf5
 v5:=zeroValue5
 t9:=underlying9
 a9:=isAgg9
 z9:=sizeOf9
 v9:=zeroValue9
 t20:=underlying20
 a20:=isAgg20
 z20:=sizeOf20
 v20:=zeroValue20
 t21:=underlying21
 a21:=isAgg21
 z21:=sizeOf21
 v21:=zeroValue21
 t37:=underlying63
 a37:=isAgg63
 z37:=sizeOf63
 v37:=zeroValue63
 t46:=underlying261
 a46:=isAgg261
 z46:=sizeOf261
 v46:=zeroValue261
 t51:=underlying297
 a51:=isAgg297
 z51:=sizeOf297
 v51:=zeroValue297
 t53:=underlying279
 a53:=isAgg279
 z53:=sizeOf279
 v53:=zeroValue279
 t75:=underlying270
 a75:=isAgg270
 z75:=sizeOf270
 v75:=zeroValue270
 t76:=underlying271
 a76:=isAgg271
 z76:=sizeOf271
 v76:=zeroValue271
 t85:=underlying315
 a85:=isAgg315
 z85:=sizeOf315
 v85:=zeroValue315
 t127:=underlying289
 a127:=isAgg289
 z127:=sizeOf289
 v127:=zeroValue289
 t143:=underlying353
 a143:=isAgg353
 z143:=sizeOf353
 v143:=zeroValue353
 t145:=underlying355
 a145:=isAgg355
 z145:=sizeOf355
 v145:=zeroValue355
 t167:=underlying314
 a167:=isAgg314
 z167:=sizeOf314
 v167:=zeroValue314
 t168:=underlying317
 a168:=isAgg317
 z168:=sizeOf317
 v168:=zeroValue317
 t171:=underlying278
 a171:=isAgg278
 z171:=sizeOf278
 v171:=zeroValue278
 t173:=underlying282
 a173:=isAgg282
 z173:=sizeOf282
 v173:=zeroValue282
 t175:=underlying337
 a175:=isAgg337
 z175:=sizeOf337
 v175:=zeroValue337
 t210:=underlying341
 a210:=isAgg341
 z210:=sizeOf341
 v210:=zeroValue341
 t212:=underlying296
 a212:=isAgg296
 z212:=sizeOf296
 v212:=zeroValue296
 t213:=underlying298
 a213:=isAgg298
 z213:=sizeOf298
 t232:=underlying345
 a232:=isAgg345
 z232:=sizeOf345
 v232:=zeroValue345
 t233:=underlying346
 a233:=isAgg346
 z233:=sizeOf346
 v233:=zeroValue346
 g15:=by kernel_rfl
 g16:=by kernel_rfl
 g17:=by kernel_rfl
 g18:=by kernel_rfl
 g19:=by kernel_rfl
 t80:=underlying273
 a80:=isAgg273
 z80:=sizeOf273
 v80:=zeroValue273
 i0:=by kernel_rfl
 i2:=by kernel_rfl
 i3:=by kernel_rfl
 i4:=by kernel_rfl
 i5:=by kernel_rfl
 i9:=by kernel_rfl
 i20:=by kernel_rfl
 i21:=by kernel_rfl
 i37:=by kernel_rfl
 i46:=by kernel_rfl
 i51:=by kernel_rfl
 i53:=by kernel_rfl
 i75:=by kernel_rfl
 i76:=by kernel_rfl
 i80:=by kernel_rfl
 i85:=by kernel_rfl
 i127:=by kernel_rfl
 i143:=by kernel_rfl
 i145:=by kernel_rfl
 i167:=by kernel_rfl
 i168:=by kernel_rfl
 i171:=by kernel_rfl
 i173:=by kernel_rfl
 i175:=by kernel_rfl
 i210:=by kernel_rfl
 i212:=by kernel_rfl
 i232:=by kernel_rfl
 i233:=by kernel_rfl
 m15:=by kernel_rfl
 m16:=by kernel_rfl
 m17:=by kernel_rfl
 m18:=by kernel_rfl
 m19:=by kernel_rfl
 c0:=by kernel_rfl
 c2:=by kernel_rfl
 c3:=by kernel_rfl
 c4:=by kernel_rfl
 c5:=by kernel_rfl
 c9:=by kernel_rfl
 c20:=by kernel_rfl
 c21:=by kernel_rfl
 c37:=by kernel_rfl
 c46:=by kernel_rfl
 c51:=by kernel_rfl
 c53:=by kernel_rfl
 c75:=by kernel_rfl
 c76:=by kernel_rfl
 c80:=by kernel_rfl
 c85:=by kernel_rfl
 c127:=by kernel_rfl
 c143:=by kernel_rfl
 c145:=by kernel_rfl
 c167:=by kernel_rfl
 c168:=by kernel_rfl
 c171:=by kernel_rfl
 c173:=by kernel_rfl
 c175:=by kernel_rfl
 c210:=by kernel_rfl
 c212:=by kernel_rfl
 c213:=by kernel_rfl
 c232:=by kernel_rfl
 c233:=by kernel_rfl}
open Go.RowKit in
theorem strconv_Atoi_err_var (s:ByteArray) (hl:s.size ≤ 18) (h:Lib.atoi s.data.toList=none) (tp:TypeId) (p:Value) (w:World) (hvar:w.var? prog "strconv.ErrSyntax" = some #[.iface tp p]) :
  Calls prog 287 #[.string s] w fun e w'=>∃N,e=.returned (.tuple #[.int .i64 0,.iface 317 (.pointer (some ⟨N,0,none⟩))])/\w.heap.size<=N/\w'.heap[N]?=some (.cells #[.string ⟨#[65,116,111,105]⟩,.string s,.iface tp p] 341 (0,0))/\Below w.heap.size w w':=Any.strconv_Atoi_err_var laysC172 s hl h tp p w hvar
def lays191_ren:Go.Shelf.Ren:=⟨fun|191=>258|189=>295|125=>315|257=>320|128=>343|129=>322|294=>349|295=>350|296=>351|297=>352|298=>353|299=>354|216=>355|300=>356|301=>357|328=>373|329=>365|330=>366|331=>374|332=>375|215=>376|343=>381|n=>n,fun|28=>86|0=>0|3=>3|46=>261|51=>297|53=>279|4=>4|183=>307|182=>306|131=>202|5=>5|9=>9|218=>331|222=>335|228=>349|229=>350|n=>n,fun|n=>n⟩
theorem lays191:Go.Proofs.Lays.n191 prog lays191_ren:={
 mixed:=by kernel_rfl
 f125:=func315.trans (congrArg some (by kernel_rfl))
 f128:=func343.trans (congrArg some (by kernel_rfl))
 f129:=func322.trans (congrArg some (by kernel_rfl))
 f189:=func295.trans (congrArg some (by kernel_rfl))
 f191:=func258.trans (congrArg some (by kernel_rfl))
 f215:=func376.trans (congrArg some (by kernel_rfl))
 f216:=func355.trans (congrArg some (by kernel_rfl))
 f257:=func320.trans (congrArg some (by kernel_rfl))
 f294:=func349.trans (congrArg some (by kernel_rfl))
 f295:=func350.trans (congrArg some (by kernel_rfl))
 f296:=func351.trans (congrArg some (by kernel_rfl))
 f297:=func352.trans (congrArg some (by kernel_rfl))
 f298:=func353.trans (congrArg some (by kernel_rfl))
 f299:=func354.trans (congrArg some (by kernel_rfl))
 f300:=func356.trans (congrArg some (by kernel_rfl))
 f301:=func357.trans (congrArg some (by kernel_rfl))
 f328:=func373.trans (congrArg some (by kernel_rfl))
 f329:=func365.trans (congrArg some (by kernel_rfl))
 f330:=func366.trans (congrArg some (by kernel_rfl))
 f331:=func374.trans (congrArg some (by kernel_rfl))
 f332:=func375.trans (congrArg some (by kernel_rfl))
 f343:=func381.trans (congrArg some (by kernel_rfl))
 t0:=underlying0
 a0:=isAgg0
 z0:=sizeOf0
 v0:=zeroValue0
 t3:=underlying3
 a3:=isAgg3
 z3:=sizeOf3
 v3:=zeroValue3
 t4:=underlying4
 a4:=isAgg4
 z4:=sizeOf4
 v4:=zeroValue4
 t5:=underlying5
 a5:=isAgg5
 z5:=sizeOf5
 v5:=zeroValue5
 t9:=underlying9
 a9:=isAgg9
 z9:=sizeOf9
 v9:=zeroValue9
 t28:=underlying86
 a28:=isAgg86
 z28:=sizeOf86
 v28:=zeroValue86
 t46:=underlying261
 a46:=isAgg261
 z46:=sizeOf261
 v46:=zeroValue261
 t51:=underlying297
 a51:=isAgg297
 z51:=sizeOf297
 v51:=zeroValue297
 t53:=underlying279
 a53:=isAgg279
 z53:=sizeOf279
 v53:=zeroValue279
 t131:=underlying202
 a131:=isAgg202
 z131:=sizeOf202
 v131:=zeroValue202
 t182:=underlying306
 a182:=isAgg306
 z182:=sizeOf306
 v182:=zeroValue306
 t183:=underlying307
 a183:=isAgg307
 z183:=sizeOf307
 v183:=zeroValue307
 t218:=underlying331
 a218:=isAgg331
 z218:=sizeOf331
 v218:=zeroValue331
 t222:=underlying335
 a222:=isAgg335
 z222:=sizeOf335
 v222:=zeroValue335
 t228:=underlying349
 a228:=isAgg349
 z228:=sizeOf349
 v228:=zeroValue349
 t229:=underlying350
 a229:=isAgg350
 z229:=sizeOf350
 v229:=zeroValue350}
open Go.Sort Go.RowKit in
theorem sort_Ints (a off cap:Nat) (zs:List Int) (w:World) (hH:Holds (Value.int .i64) w a off zs.toArray) (b:a<w.heap.size) (c:zs.length<4611686018427387904):
  Calls prog 258 #[.slice (some ⟨a,off,none⟩) zs.length cap] w fun e w'=>
   e=.returned (.tuple #[])/\∃n os,w'=grow (putRow (Value.int .i64) (Sort.ahead w n) a off (zs.mergeSort fun x y=>decide (x<=y)).toArray) os:=Any.sort_Ints lays191 a off cap zs w hH b c
def lays192_ren:Go.Shelf.Ren:=⟨fun|192=>248|190=>286|125=>315|258=>314|128=>343|129=>322|302=>334|303=>335|304=>336|305=>337|306=>338|307=>339|308=>340|309=>341|310=>342|333=>364|329=>365|330=>366|334=>367|335=>368|336=>369|344=>378|n=>n,fun|31=>46|0=>0|9=>9|3=>3|46=>261|51=>297|53=>279|4=>4|183=>307|182=>306|131=>202|5=>5|218=>331|222=>335|228=>349|229=>350|n=>n,fun|n=>n⟩
theorem lays192:Go.Proofs.Lays.n192 prog lays192_ren:={
 mixed:=by kernel_rfl
 f125:=func315.trans (congrArg some (by kernel_rfl))
 f128:=func343.trans (congrArg some (by kernel_rfl))
 f129:=func322.trans (congrArg some (by kernel_rfl))
 f190:=func286.trans (congrArg some (by kernel_rfl))
 f192:=func248.trans (congrArg some (by kernel_rfl))
 f258:=func314.trans (congrArg some (by kernel_rfl))
 f302:=func334.trans (congrArg some (by kernel_rfl))
 f303:=func335.trans (congrArg some (by kernel_rfl))
 f304:=func336.trans (congrArg some (by kernel_rfl))
 f305:=func337.trans (congrArg some (by kernel_rfl))
 f306:=func338.trans (congrArg some (by kernel_rfl))
 f307:=func339.trans (congrArg some (by kernel_rfl))
 f308:=func340.trans (congrArg some (by kernel_rfl))
 f309:=func341.trans (congrArg some (by kernel_rfl))
 f310:=func342.trans (congrArg some (by kernel_rfl))
 f329:=func365.trans (congrArg some (by kernel_rfl))
 f330:=func366.trans (congrArg some (by kernel_rfl))
 f333:=func364.trans (congrArg some (by kernel_rfl))
 f334:=func367.trans (congrArg some (by kernel_rfl))
 f335:=func368.trans (congrArg some (by kernel_rfl))
 f336:=func369.trans (congrArg some (by kernel_rfl))
 f344:=func378.trans (congrArg some (by kernel_rfl))
 t0:=underlying0
 a0:=isAgg0
 z0:=sizeOf0
 v0:=zeroValue0
 t3:=underlying3
 a3:=isAgg3
 z3:=sizeOf3
 v3:=zeroValue3
 t4:=underlying4
 a4:=isAgg4
 z4:=sizeOf4
 v4:=zeroValue4
 t5:=underlying5
 a5:=isAgg5
 z5:=sizeOf5
 v5:=zeroValue5
 t9:=underlying9
 a9:=isAgg9
 z9:=sizeOf9
 v9:=zeroValue9
 t31:=underlying46
 a31:=isAgg46
 z31:=sizeOf46
 v31:=zeroValue46
 t46:=underlying261
 a46:=isAgg261
 z46:=sizeOf261
 v46:=zeroValue261
 t51:=underlying297
 a51:=isAgg297
 z51:=sizeOf297
 v51:=zeroValue297
 t53:=underlying279
 a53:=isAgg279
 z53:=sizeOf279
 v53:=zeroValue279
 t131:=underlying202
 a131:=isAgg202
 z131:=sizeOf202
 v131:=zeroValue202
 t182:=underlying306
 a182:=isAgg306
 z182:=sizeOf306
 v182:=zeroValue306
 t183:=underlying307
 a183:=isAgg307
 z183:=sizeOf307
 v183:=zeroValue307
 t218:=underlying331
 a218:=isAgg331
 z218:=sizeOf331
 v218:=zeroValue331
 t222:=underlying335
 a222:=isAgg335
 z222:=sizeOf335
 v222:=zeroValue335
 t228:=underlying349
 a228:=isAgg349
 z228:=sizeOf349
 v228:=zeroValue349
 t229:=underlying350
 a229:=isAgg350
 z229:=sizeOf350
 v229:=zeroValue350}
open Go.Sort Go.RowKit in
theorem sort_Strings (a off cap:Nat) (ss:List (List UInt8)) (w:World) (hH:Holds encStr w a off ss.toArray) (b:a<w.heap.size) (c:ss.length<4611686018427387904):
  Calls prog 248 #[.slice (some ⟨a,off,none⟩) ss.length cap] w fun e w'=>
   e=.returned (.tuple #[])/\∃n os,w'=grow (putRow encStr (Sort.ahead w n) a off (ss.mergeSort fun x y=>decide (x<=y)).toArray) os:=Any.sort_Strings lays192 a off cap ss w hH b c
open Go.RowKit Go.Sort in
theorem sort_Strings_none (p:Option Addr) (cap:Nat) (w:World):
  Calls prog 248 #[.slice p 0 cap] w fun e w'=>e=.returned (.tuple #[])/\w'=w:=Any.sort_Strings_none lays192 p cap w
open Go.RowKit Go.Sort in
theorem sort_Ints_none (p:Option Addr) (cap:Nat) (w:World):
  Calls prog 258 #[.slice p 0 cap] w fun e w'=>e=.returned (.tuple #[])/\w'=w:=Any.sort_Ints_none lays191 p cap w
end Go.Proofs
namespace Go.Proofs.YtlpkbfjcdaanmaaGreatDoor
section
open Go.RowKit Go.Sort Go.Lib
theorem ZCR {J:World → Prop} (hJ:∀ w, J w → Lib.TabIs prog w "internal/strconv.uint64pow10" .u64 Lib.pow10Tab) {n:Int} {r:ByteArray} (h:ZqT n=some r):Sound prog J 159 [(false, [.int .i64 n])] [(false, [(false, .str r)])]:=by
 obtain ⟨h1,h2⟩:=Zv h
 obtain rfl:=A3 h2
 refine ⟨⟨f159,func159,yO,yO⟩,fun w z vs hj hz hargs=>?_⟩
 obtain ⟨v,L,rfl,rfl,_⟩:=ZmB hargs
 refine (strconv_Itoa n h1.1 h1.2 w (hJ w hj)).mono ?_
 rintro e w' ⟨rfl,k,os,rfl⟩
 refine ⟨_,z,rfl,Ztg ⟨⟨rfl,rfl,?_⟩,rfl⟩,fun b h=>h,below_grow _ _ (AA _) _ _⟩
 have:=Lib.itoa_length_le n h1.1 h1.2
 show (Lib.itoa n).toArray.size<=_
 rw [AD]
 omega
end
section
open Go.RowKit
theorem ZvB {J:World->Prop}{a b:ByteArray}{r:Int}(h:ZfS a b=some r):Sound prog J 238 [(false,[.str a]),(false,[.str b])] [(false,[(false,.int .i64 r)])]:=by
 obtain rfl:=A3 h;refine ⟨⟨f238,func238,yO,yO⟩,fun w z vs hj hz c=>?_⟩;obtain ⟨v,u,L,M,rfl,⟨rfl,_⟩,rfl,_⟩:=ZxX c;refine (strings_Compare a b w).mono ?_;rintro e w' ⟨rfl,rfl⟩;exact ⟨_,z,rfl,Ztg ⟨⟨rfl,rfl⟩,rfl⟩,fun b h=>h,Below.refl _ _⟩
end
section
open Go.RowKit
theorem ZIg {w:World}:∀{l:List ByteArray}{xs:List Value}{L:List Nat},REs w 1 (l.map ZA) xs L->xs=l.map Value.string
 | [],_,_,h=>h.1
 |x::l,_,_,h=>by
  obtain ⟨c1,c2,L1,L2,rfl,_,h1,h2⟩:=h;obtain ⟨⟨v,cs,M1,M2,rfl,_,hv,hc,_⟩,_⟩:=h1;rw [ZIg h2,hc,hv.1];rfl
theorem ZIS {J:World->Prop}{l:List ByteArray}{sep r:ByteArray}(h:ZIa l sep=some r):Sound prog J 241 [(false,[.sl 9 1 (l.map ZA)]),(false,[.str sep])] [(false,[(false,.str r)])]:=by
 obtain ⟨h1,h2⟩:=Zv h;obtain rfl:=A3 h2;refine ⟨⟨f241,func241,yO,yO⟩,fun w z vs hj hz a=>?_⟩;obtain ⟨v,u,L,M,rfl,hv,⟨rfl,_⟩⟩:=ZxX a;have g:=hv.lt;obtain ⟨A,cap,cs,L0,L1,rfl,d,hc2,rfl,_,hs,he⟩:=hv;rw [AW]at hs d;have i:=ZIg he;have f:(ofL (Lib.join (l.map toL) (toL sep))).size<=9223372036854775807:=by
  show (Lib.join (l.map toL) (toL sep)).toArray.size<=_
  rw [AD];omega
 rcases hs.2 with ⟨h0,_⟩|⟨hn,b,off,rfl,rfl,c⟩
 .have:l=[]:=AJ h0;subst this;refine (strings_Join_none A cap sep w).mono ?_;rintro e w' ⟨rfl,rfl⟩;exact ⟨_,z,rfl,Ztg ⟨⟨rfl,rfl,f⟩,rfl⟩,fun b h=>h,Below.refl _ _⟩
 .rw [AW];refine (strings_Join b off cap l sep w (fun j x hx=>c j _ (by rw [i,AK,hx];rfl)) ?_ h1.1 d h1.2).mono ?_
  .exact g b yG
  .rintro e w' ⟨rfl,hb⟩;exact ⟨_,z,rfl,Ztg ⟨⟨rfl,rfl,f⟩,rfl⟩,fun b h=>h,hb⟩
end
section
open Go.RowKit Go.Sort
theorem Zpp {α:Type}[Inhabited α] {P:Program}{J:World->Prop}{JF:Nat->Prop}(a:α->Value) (el:α->List CT) (I:∀(w:World) x v L,RCs w (el x) v L->v=[a x]) (K:∀(w w':World) x,RCs w (el x) [a x] []->RCs w' (el x) [a x] []) (u:∀l:List α,ZaN (l.map el)=true) {f:FuncId}{e:TypeId}{zs d:List α}(hc:Zez P f) (hd:d.length=zs.length) (C:∀x∈d,x∈zs)
  (hN:∀p cap w,Calls P f #[.slice p 0 cap] w fun e w'=>e=.returned (.tuple #[])/\w'=w)
  (hC:∀i off cap w,Holds a w i off zs.toArray->i<w.heap.size->Calls P f #[.slice (some ⟨i,off,none⟩) zs.length cap] w fun e w'=>e=.returned (.tuple #[])/\∃n os,w'=grow (putRow a (Sort.ahead w n) i off d.toArray) os):
  Zkx P J JF f (.row e 1 (zs.map el)) [] [] (.row e 1 (d.map el)):=by
 refine ⟨hc,fun w z q v0 vs hj hqf hz hh ha=>?_⟩;cases vs with
 |cons _ _=>exact ha.elim
 |nil=>
 obtain ⟨hfl,hm,hq,cs,c,M⟩:=hh;have N:∀(l:List α) (cs:List Value) (L:List Nat),REs w 1 (l.map el) cs L->cs=l.map a/\(L=[]->∀x∈l,RCs w (el x) [a x] []):=by
  intro l;induction l with
  |nil=>intro cs L h;exact ⟨h.1,fun _ x mx=>by simp at mx⟩
  |cons x l ih=>
   rintro cs L ⟨c1,c2,L1,L2,rfl,rfl,h3,h4⟩;obtain ⟨i1,i2⟩:=ih _ _ h4;have e1:=I _ _ _ _ h3.1;refine ⟨by rw [e1,i1];rfl,fun hL y my=>?_⟩;obtain ⟨l1,l2⟩:=List.append_eq_nil_iff.1 hL;rcases List.mem_cons.1 my with rfl|my
   .rw [<-e1,<-l1];exact h3.1
   .exact i2 l2 y my
 obtain ⟨e1,e2⟩:=N zs cs [] M;have e2:=e2 rfl;subst e1;have D:∀(w':World) (l:List α),(∀x∈l,x∈zs)->REs w' 1 (l.map el) (l.map a) []:=by
  intro w' l;induction l with
  |nil=>intro _;exact ⟨rfl,rfl⟩
  |cons x l ih=>intro hl;exact ⟨[a x],l.map a,[],[],rfl,rfl,⟨K w w' x (e2 x (hl x yG)),rfl⟩,ih fun y my=>hl y (by simp [my])⟩
 have O:(zs.map el).length=zs.length:=by simp
 rw [O]at c;have t:∀w':World,w'.os=w.os->w'.tape=w.tape->w'.output=w.output->w.heap.size<=w'.heap.size->(∀k,k<w.heap.size->¬q=some k->w'.heap[k]?=w.heap[k]?)->w'.ownsV 0 e 1 v0 d.length (d.map a)->∃v n,Ending.returned (.tuple #[])=.returned v/\ZkF w' w.heap.size n [] v/\(∀b,inQ z q b->n b)/\ZuY w' n q (.row e 1 (d.map el)) v0/\ZF7 q w w':=
  fun w' h1 h2 h3 h4 h5 h6=>⟨_,inQ z q,rfl,⟨[],[],⟨rfl,rfl⟩,Own.nil _ _,rfl⟩,fun _ h=>h,⟨u d,yE,hq,d.map a,by simpa using h6,D w' d C⟩,⟨h1,h2,h3,h4,h5⟩⟩
 rcases Nat.eq_zero_or_pos zs.length with h0|h0
 .have Q:zs=[]:=AJ h0;have R:d=[]:=AJ (hd.trans h0);obtain ⟨A,cap,hv⟩:=Zdl c;rw [h0]at hv;subst hv;refine (hN A cap w).mono ?_;rintro e' w' ⟨rfl,rfl⟩;exact t w' rfl rfl rfl (AA _) (fun _ _ _=>rfl) (by rw [R];rw [Q]at c;exact c)
 .rcases c.2 with ⟨h',hl0⟩|⟨g,o,cap,m,h',hb,hg,hnc,S,E,B⟩
  .omega
  .subst h';have F:g<w.heap.size:=(AR.1 hg).1;have G:∀j,j<zs.length->m[o+j]?=some (a zs[j]!):=fun j hj=>by
    have:=congrArg (fun l=>l[j]?) B;simp only[Nat.mul_one,AX,hj,if_true,AY,AZ,AK]at this;rw [this];simp [List.getElem!_eq_getElem?_getD,hj]
   refine (hC g o cap w (fun j hj=>?_) F).mono ?_
   .have H:j<zs.length:=by simpa using hj
    refine ⟨?_,by simp [World.frozen?,hg]⟩;simp only[World.cell?,hg,Option.isSome_none,Bool.false_eq_true,if_false];rw [G j H];simp [H]
   .rintro e' w' ⟨rfl,n,os,rfl⟩;have hh:(putRow a (Sort.ahead w n) g o d.toArray).heap[g]?=some (.cells (putCells a o d.toArray m) e (0,0)):=by
     simp only[putRow,mapBlock,heap_ahead,Aa,if_true,hg,Option.map_some,onCells]
    refine t _ rfl rfl rfl yG (fun k hk T=>?_) ⟨yG,.inr ⟨g,o,cap,putCells a o d.toArray m,by rw [hd],yE,?_,yE,S,by simpa [putCells]using E,?_⟩⟩
    .rw [heap_grow_old _ _ (by simpa using hk)];simp only[putRow,mapBlock,heap_ahead,Aa];rw [if_neg (fun e=>T (by rw [<-hq];simp [Value.ownBlock,e]))]
    .rw [heap_grow_old _ _ (by simpa using F)];exact hh
    .apply List.ext_getElem?;intro j;simp only[Nat.mul_one,AX,AY,AK,AZ,putCells,Array.getElem?_mapIdx,AD];by_cases hj:j<d.length
     .have U:o+j<m.size:=by omega
      simp [hj,U]
     .simp [hj]
end
section
open Go.RowKit Go.Sort
theorem ZoD {J:World->Prop}{JF:Nat->Prop}{l r:List ByteArray}(h:Zcw l=some r):Zkx prog J JF 248 (.row 9 1 (l.map ZA)) [] [] (.row 9 1 (r.map ZA)):=by
 obtain ⟨h1,h2⟩:=Zv h;obtain rfl:=A3 h2;have e1:l.map ZA=(l.map toL).map fun x=>ZA (ofL x):=by rw [Ab];exact List.map_congr_left fun x _=>by simp [Zj7]
 have e2:(ZfD l).map ZA=((l.map toL).mergeSort fun x y=>decide (x<=y)).map fun x=>ZA (ofL x):=by simp [ZfD,Ab,Function.comp_def]
 rw [e1,e2];refine Zpp encStr (fun x=>ZA (ofL x)) (fun w x v L h=>?_) (fun w w' x h=>h) (fun l=>Zbf (fun _=>rfl) l) ⟨f248,func248,yO,yO⟩ yG (fun x hx=>by simpa using hx) (fun p cap w=>sort_Strings_none p cap w) (fun a off cap w hH hb=>sort_Strings a off cap (l.map toL) w hH hb (by simp;omega));obtain ⟨u,vs,L1,L2,rfl,rfl,q1,rfl,rfl⟩:=h;rw [q1.1];rfl
end
section
open Go.RowKit Go.Sort
theorem Ztt {J:World->Prop}{JF:Nat->Prop}{l r:List Int}(h:Zf8 l=some r):Zkx prog J JF 258 (.row 3 1 (l.map ZO)) [] [] (.row 3 1 (r.map ZO)):=by
 obtain ⟨h1,h2⟩:=Zv h;obtain rfl:=A3 h2;refine Zpp (Value.int .i64) ZO (fun w x v L h=>?_) (fun w w' x h=>h) Zpz ⟨f258,func258,yO,yO⟩ (by simp [Zk4]) (fun x hx=>by simpa [Zk4]using hx) (fun p cap w=>sort_Ints_none p cap w) (fun a off cap w hH hb=>sort_Ints a off cap l w hH hb yE);obtain ⟨u,vs,L1,L2,rfl,rfl,q1,rfl,rfl⟩:=h;rw [q1.1]
end
section
open Go.RowKit
theorem ZCE {J:World → Prop} (hJ:∀ w, J w → ∃ tp p, w.var? prog "strconv.ErrSyntax" = some #[.iface tp p]) {s:ByteArray} {r:Int × Bool} (h:ZmK s=some r):Sound prog J 287 [(false, [.str s])] [(false, [(false, .int .i64 r.1)]), (false, [(false, .ifc r.2)])]:=by
 obtain ⟨h1,h2⟩:=Zv h
 refine ⟨⟨f287,func287,yO,yO⟩,fun w z vs hj hz hargs=>?_⟩
 obtain ⟨v,L,rfl,rfl,_⟩:=ZmB hargs
 cases ha:Lib.atoi (toL s) with
 |some n=>
  rw [ha]at h2
  obtain rfl:=A3 h2
  refine (strconv_Atoi s n h1 ha w).mono ?_
  rintro e w' ⟨rfl,t,rfl⟩
  exact ⟨_,z,rfl,ZrA ⟨⟨rfl,rfl⟩,rfl⟩ ⟨⟨rfl,rfl,rfl⟩,rfl⟩,fun b h=>h,Lib.bytesWorld_below _ _ _⟩
 |none=>
  rw [ha]at h2
  obtain rfl:=A3 h2
  obtain ⟨tp,p,hv⟩:=hJ w hj
  refine (strconv_Atoi_err_var s h1 ha tp p w hv).mono ?_
  rintro e w' ⟨N,rfl,_,_,hb⟩
  exact ⟨_,z,rfl,ZrA ⟨⟨rfl,rfl⟩,rfl⟩ ⟨⟨rfl,rfl,_,_,rfl⟩,rfl⟩,fun b h=>h,hb⟩
end
theorem ZvG {n:Int}{r:ByteArray}(h:ZqT n=some r):Sound prog J0 159 [(false,[.int .i64 n])] [(false,[(false,.str r)])]:=ZCR ZCY h
theorem Zki {a b:ByteArray}{r:Int}(h:ZfS a b=some r):Sound prog J0 238 [(false,[.str a]),(false,[.str b])] [(false,[(false,.int .i64 r)])]:=ZvB h
theorem ZIK {l:List ByteArray}{s r:ByteArray}(h:ZIa l s=some r):Sound prog J0 241 [(false,[.sl 9 1 (l.map ZA)]),(false,[.str s])] [(false,[(false,.str r)])]:=ZIS h
theorem ZkV {l r:List ByteArray}(h:Zcw l=some r):Zkx prog J0 JF0 248 (.row 9 1 (l.map ZA)) [] [] (.row 9 1 (r.map ZA)):=ZoD h
theorem Zn5 {l r:List Int}(h:Zf8 l=some r):Zkx prog J0 JF0 258 (.row 3 1 (l.map ZO)) [] [] (.row 3 1 (r.map ZO)):=Ztt h
theorem Zv1 {s:ByteArray}{r:Int×Bool}(h:ZmK s=some r):Sound prog J0 287 [(false,[.str s])] [(false,[(false,.int .i64 r.1)]),(false,[(false,.ifc r.2)])]:=ZCE ZzR h
section
theorem yA{p q:Prop}(h:q)(e:p=q:=by simp only[*,go_sem,seval];try rfl):p:=e▸h
theorem yD{p:Prop}(e:p:=by simp only[*,go_sem,seval]):p:=e
theorem yB{α:Type}{G q v:Prop}{b:Bool}{x y:Option α}{r:α}(h:(if b=true then x else y)=some r)(h1:b=true→x=some r→q)(h2:b=false→y=some r→v)(e:∀(_:b=true)(_:x=some r),G=q:=by intro _ _;(try simp only[*,go_sem,seval]);try rfl)(f:∀(_:b=false)(_:y=some r),G=v:=by intro _ _;(try simp only[*,go_sem,seval]);try rfl):G:=Ze h (fun a c=>(e a c)▸h1 a c) fun a c=>(f a c)▸h2 a c
theorem yC{σ ρ:Type}{s:σ}{y:σ⊕ρ}{C:σ→List (Bool×Nat×Nat)→List Nat→Prop}(h:some (.inl s)=some y)(ms:List (Bool×Nat×Nat))(k:List Nat)(d:k.Nodup:=by decide)(e:C s ms k:=by simp only[*,go_sem,seval]):∃s' ms k,y=.inl s'∧k.Nodup∧C s' ms k:=⟨s,ms,k,(Option.some.inj h).symm,d,e⟩
theorem yR{σ ρ:Type}{s:σ}{y:σ⊕ρ}{C:σ→List (Bool×Nat×Nat)→List Nat→Prop}(h:some (.inl s)=some y)(k:List Nat)(d:k.Nodup:=by decide)(e:C s [] k:=by simp only[*,go_sem,seval]):∃s' ms k,y=.inl s'∧k.Nodup∧C s' ms k:=⟨s,[],k,(Option.some.inj h).symm,d,e⟩
def yL(n:Nat):SV:=.p false [.c (.int .i64 (n:Int))]
def yM(x:CT):SV:=.p false [.c x]
def zD(t:Nat)(l:List CT):Ob:=.box t (l.map .c)
attribute [go_sem] yL yM zD List.map_cons List.map_nil
def yT(l:List Zc):CT:=.sl 53 2 (List.map eFact l)
attribute [go_sem] yT
def yU(l:List ByteArray):CT:=.sl 9 1 (List.map ZA l)
attribute [go_sem] yU
def yV(l:List Int):CT:=.sl 3 1 (List.map ZO l)
attribute [go_sem] yV
def yW(l:List Zg):CT:=.sl 76 4 (List.map eRule l)
attribute [go_sem] yW
def yX(l:List Zl):CT:=.sl 80 5 (List.map ZJ l)
attribute [go_sem] yX
def yY(l:List Zu):CT:=.sl 125 3 (List.map ZI l)
attribute [go_sem] yY
def yZ(l:List Zi):CT:=.sl 162 2 (List.map ZR l)
attribute [go_sem] yZ
def zA(l:List Zf):CT:=.sl 179 3 (List.map ZG l)
attribute [go_sem] zA
def zB(l:List Int):CT:=.sl 5 1 (List.map Zs8 l)
attribute [go_sem] zB
def zC(l:List Zq):CT:=.sl 111 2 (List.map YU l)
attribute [go_sem] zC
theorem QG {s_0:ByteArray}{r:Bool}(h:QS s_0=some r):Sound prog J0 142 [(false,[.str s_0])] [(false,[(false,.bool r)])]:=by
 refine fnk func142 rfl ?_;unfold QS at h;simp only[fnS,f142,Zo,go_sem,seval];iterate 2 ((refine Ze h (fun _ h=>?_) fun _ h=>?_<;>try simp only[*,go_sem,seval]);cases h;simp only[*,go_sem,seval])
 refine Zh h (fun i _ st=>IV [(0,yM (.str s_0)),(3,yL i)] [] st) [] [] yF yD ?_ ?_;rintro _ _ ⟨⟩ ⟨_,_,_⟩ _ b d f h a;simp only[go_sem,seval,Zb]at d;obtain ⟨⟨g,_⟩,hn⟩:=d;subst hn;have k:=WF.slotS f g (j:=0) rfl;have:=Zp3 b;have:=Zxp b;have:=Zk (ZuC b) k;simp only[*,go_sem,seval];iterate 2 refine yB h (fun _ h=>?_) fun _ h=>?_
 replace h:=Zr h a;cases h;exact yD;refine yB h (fun _ h=>?_) fun _ h=>?_;replace h:=Zr h a;cases h;exact yD;exact yR h [];iterate 2 refine yB h (fun _ h=>?_) fun _ h=>?_
 replace h:=Zr h a;cases h;exact yD;refine yB h (fun _ h=>?_) fun _ h=>?_;replace h:=Zr h a;cases h;exact yD;exact yR h [];exact yR h [];rintro ⟨⟩ ⟨_,_,_⟩ e _ h;simp only[go_sem,seval,Zb]at e;obtain ⟨⟨_,_⟩,hn⟩:=e;subst hn;have:=ZB (s_0.size);cases h;exact yD
theorem Zhq {b_0:List Zi}{r:List Zi}(h:Zbn b_0=some r):Sound prog J0 146 [(false,[.sl 162 2 (A0 ZR b_0)])] [(false,[(false,.sl 162 2 (A0 ZR r))])]:=by
 refine fnk func146 rfl ?_;unfold Zbn at h;simp only[fnS,f146,Zo,go_sem,seval];obtain ⟨_,h⟩:=Zv h;cases h;exact yD
theorem Zhb {l_0:List ByteArray}{r:List ByteArray}(h:Zbx l_0=some r):Sound prog J0 175 [(false,[.sl 9 1 (A0 ZA l_0)])] [(false,[(false,.sl 9 1 (A0 ZA r))])]:=by
 refine fnk func175 rfl ?_;unfold Zbx at h;simp only[fnS,f175,Zo,go_sem,seval];obtain ⟨_,h⟩:=Zv h;cases h;exact yD
theorem ZaA {p_0:Zx}{r:Bool}(h:Xt p_0=some r):Sound prog J0 209 [(true,Qp p_0)] [(false,[(false,.bool r)])]:=by
 refine fnk func209 rfl ?_;unfold Xt at h;have a:ZbS ⟨#[]⟩=true:=by decide
 simp only[fnS,f209,Zo,go_sem,seval,a];refine yB h (fun _ h=>?_) fun _ h=>?_;iterate 2 (cases h;exact yD)
theorem Zmm {n_0:Int}{r:ByteArray}(h:Zbu n_0=some r):Sound prog J0 95 [(false,[.int .i64 n_0])] [(false,[(false,.str r)])]:=by
 refine fnk func95 rfl ?_;unfold Zbu at h;have a:ZbS ⟨#[]⟩=true:=by decide
 simp only[fnS,f95,Zo,go_sem,seval,a];refine ZPO h fun v1 b h=>Zd (ZvG b) ?_;cases h;exact yD
theorem Znk {a_0:List ByteArray}{b_1:List ByteArray}{r:Bool}(h:ZcN a_0 b_1=some r):Sound prog J0 205 [(false,[.sl 9 1 (A0 ZA a_0)]),(false,[.sl 9 1 (A0 ZA b_1)])] [(false,[(false,.bool r)])]:=by
 refine fnk func205 rfl ?_;unfold ZcN at h;simp only[fnS,f205,Zo,go_sem,seval];refine yB h (fun _ h=>?_) fun _ h=>?_;cases h;exact yD;refine Zh h (fun i _ st=>IV [(0,yM (yU a_0)),(1,yM (yU b_1)),(12,yL a_0.length),(13,yL i)] [] st) [] [] yF yD ?_ ?_;rintro _ _ ⟨⟩ ⟨_,_,_⟩ _ a b e h f;simp only[go_sem,seval,Zb]at b;obtain ⟨⟨g,_,_,_⟩,hn⟩:=b;subst hn;have k:=WF.slotL e g (j:=0) rfl;have:=ZC a;have:=ZE a;have:=Zk (ZD a) k;obtain ⟨_,_,_,l,h⟩:=ZcM h;simp only[AF]at l;simp only[*,go_sem,seval];refine yB h (fun _ h=>?_) fun _ h=>?_;exact yR h [];replace h:=Zr h f;cases h;exact yD;rintro ⟨⟩ ⟨_,_,_⟩ d _ h;simp only[go_sem,seval,Zb]at d;obtain ⟨⟨_,_,_,_⟩,hn⟩:=d;subst hn;have:=ZB (a_0.length);cases h;exact yD
theorem Zcm {a_0:Int}{b_1:Int}{r:Int}(h:X4 a_0 b_1=some r):Sound prog J0 240 [(false,[.int .i64 a_0]),(false,[.int .i64 b_1])] [(false,[(false,.int .i64 r)])]:=by
 refine fnk func240 rfl ?_;unfold X4 at h;simp only[fnS,f240,Zo,go_sem,seval];iterate 2 ((refine Ze h (fun _ h=>?_) fun _ h=>?_<;>try simp only[*,go_sem,seval]);cases h;simp only[*,go_sem,seval])
 cases h;exact yD
theorem ZfN {r_0:Zg}{r:List Zl}(h:Xb r_0=some r):Sound prog J0 216 [(true,eRule r_0)] [(false,[(true,.sl 80 5 (A0 ZJ r))])]:=by
 refine fnk func216 rfl ?_;unfold Xb at h;simp only[fnS,f216,Zo,go_sem,seval];refine Zh h (fun i a st=>IV [(3,.p false [.row 0]),(7,yM (yX r_0.cond)),(8,yL r_0.cond.length),(9,yL i)] [.row 80 5 (A0 ZJ a) 1] st) [(false,3,0),(true,112,1)] [112] yF yD ?_ ?_;rintro _ _ a ⟨_,_,_⟩ _ b d f h _;simp only[go_sem,seval,Zb]at d;obtain ⟨⟨_,g,_,_⟩,_,hn⟩:=d;subst hn;have k:=WF.slotL f g (j:=0) rfl;have:=ZC b;have:=ZE b;have:=Zk (ZD b) k;simp only[*,go_sem,seval];refine yB h (fun _ h=>?_) fun _ h=>?_;obtain ⟨l,h⟩:=Zv h;try simp only[Nat.reduceLeDiff]at l
 simp only[*,go_sem,seval];exact yR h [177];exact yR h [0];rintro a ⟨_,_,_⟩ e _ h;simp only[go_sem,seval,Zb]at e;obtain ⟨⟨_,_,_,_⟩,_,hn⟩:=e;subst hn;have:=ZB (r_0.cond.length);cases h;exact yD
theorem Qy {l_0:List ByteArray}{r:List ByteArray}(h:Yy l_0=some r):Sound prog J0 196 [(false,[.sl 9 1 (A0 ZA l_0)])] [(false,[(false,.sl 9 1 (A0 ZA r))])]:=by
 refine fnk func196 rfl ?_;unfold Yy at h;simp only[fnS,f196,Zo,go_sem,seval];obtain ⟨_,h⟩:=Zv h;simp only[*,go_sem,seval];obtain ⟨v1,f,h⟩:=Za h;refine Zwm (ZkV f)<|yA ?_;refine Zh h (fun i a st=>IV [(3,.p false [.row 0]),(4,.p false [.row 1]),(11,.p false [.row 0]),(12,yL v1.length),(13,yL i)] [.row 9 1 (A0 ZA v1) 2,.row 9 1 (A0 ZA a) 2] st) [(false,4,0)] [32,160] yF yD ?_ ?_;rintro _ _ a ⟨_,_,_⟩ _ b d g h _;simp only[go_sem,seval,Zb]at d;obtain ⟨⟨_,_,_,_,_⟩,j,_,hn⟩:=d;subst hn;have k:=WF.rowL g j;have:=ZC b;have:=ZE b;have:=Zk (ZD b) k;simp only[*,go_sem,seval];refine yB h (fun _ h=>?_) fun _ h=>?_;obtain ⟨l,h⟩:=Zv h;try simp only[Nat.reduceLeDiff]at l
 simp only[*,go_sem,seval];exact yR h [0,322];obtain ⟨_,h⟩:=Zv h;obtain ⟨_,_,h⟩:=Za h;simp only[*,go_sem,seval];refine yB h (fun _ h=>?_) fun _ h=>?_;exact yR h [0,1];obtain ⟨m,h⟩:=Zv h;try simp only[Nat.reduceLeDiff]at m
 simp only[*,go_sem,seval];exact yR h [0,322];rintro a ⟨_,_,_⟩ e _ h;simp only[go_sem,seval,Zb]at e;obtain ⟨⟨_,_,_,_,_⟩,_,_,hn⟩:=e;subst hn;have:=ZB (v1.length);cases h;exact yD
theorem ZaB {l_0:List ByteArray}{s_1:ByteArray}{r:Bool}(h:Xv l_0 s_1=some r):Sound prog J0 195 [(false,[.sl 9 1 (A0 ZA l_0)]),(false,[.str s_1])] [(false,[(false,.bool r)])]:=by
 refine fnk func195 rfl ?_;unfold Xv at h;simp only[fnS,f195,Zo,go_sem,seval];refine Zh h (fun i _ st=>IV [(1,yM (.str s_1)),(7,yM (yU l_0)),(8,yL l_0.length),(9,yL i)] [] st) [] [] yF yD ?_ ?_;rintro _ _ ⟨⟩ ⟨_,_,_⟩ _ a b e h f;simp only[go_sem,seval,Zb]at b;obtain ⟨⟨_,g,_,_⟩,hn⟩:=b;subst hn;have k:=WF.slotL e g (j:=0) rfl;have:=ZC a;have:=ZE a;have:=Zk (ZD a) k;simp only[*,go_sem,seval];refine yB h (fun _ h=>?_) fun _ h=>?_;replace h:=Zr h f;cases h;exact yD;exact yR h [];rintro ⟨⟩ ⟨_,_,_⟩ d _ h;simp only[go_sem,seval,Zb]at d;obtain ⟨⟨_,_,_,_⟩,hn⟩:=d;subst hn;have:=ZB (l_0.length);cases h;exact yD
theorem ZoE {l_0:List Zg}{name_1:ByteArray}{r:Int}(h:Zbd l_0 name_1=some r):Sound prog J0 169 [(false,[.sl 76 4 (A0 eRule l_0)]),(false,[.str name_1])] [(false,[(false,.int .i64 r)])]:=by
 refine fnk func169 rfl ?_;unfold Zbd at h;simp only[fnS,f169,Zo,go_sem,seval];refine Zh h (fun i _ st=>IV [(1,yM (.str name_1)),(7,yM (yW l_0)),(8,yL l_0.length),(9,yL i)] [] st) [] [] yF yD ?_ ?_;rintro _ _ ⟨⟩ ⟨_,_,_⟩ _ a b e h f;simp only[go_sem,seval,Zb]at b;obtain ⟨⟨_,g,_,_⟩,hn⟩:=b;subst hn;have k:=WF.slotL e g (j:=0) rfl;have:=ZC a;have:=ZE a;have:=Zk (ZD a) k;simp only[*,go_sem,seval];refine yB h (fun _ h=>?_) fun _ h=>?_;replace h:=Zr h f;cases h;exact yD;exact yR h [];rintro ⟨⟩ ⟨_,_,_⟩ d _ h;simp only[go_sem,seval,Zb]at d;obtain ⟨⟨_,_,_,_⟩,hn⟩:=d;subst hn;have:=ZB (l_0.length);cases h;exact yD
theorem ZoM {r_0:Zg}{r:Bool}(h:Zeg r_0=some r):Sound prog J0 318 [(true,eRule r_0)] [(false,[(false,.bool r)])]:=by
 refine fnk func318 rfl ?_;unfold Zeg at h;simp only[fnS,f318,Zo,go_sem,seval];refine Zh h (fun i _ st=>IV [(6,yM (yY r_0.thn)),(7,yL r_0.thn.length),(8,yL i)] [] st) [] [] yF yD ?_ ?_;rintro _ _ ⟨⟩ ⟨_,_,_⟩ _ a b e h f;simp only[go_sem,seval,Zb]at b;obtain ⟨⟨g,_,_⟩,hn⟩:=b;subst hn;have k:=WF.slotL e g (j:=0) rfl;have:=ZC a;have:=ZE a;have:=Zk (ZD a) k;simp only[*,go_sem,seval];refine yB h (fun _ h=>?_) fun _ h=>?_;replace h:=Zr h f;cases h;exact yD;exact yR h [];rintro ⟨⟩ ⟨_,_,_⟩ d _ h;simp only[go_sem,seval,Zb]at d;obtain ⟨⟨_,_,_⟩,hn⟩:=d;subst hn;have:=ZB (r_0.thn.length);cases h;exact yD
theorem Zrg {l_0:List Int}{n_1:Int}{r:Bool}(h:ZgY l_0 n_1=some r):Sound prog J0 257 [(false,[.sl 3 1 (A0 ZO l_0)]),(false,[.int .i64 n_1])] [(false,[(false,.bool r)])]:=by
 refine fnk func257 rfl ?_;unfold ZgY at h;simp only[fnS,f257,Zo,go_sem,seval];refine Zh h (fun i _ st=>IV [(1,yM (.int .i64 n_1)),(7,yM (yV l_0)),(8,yL l_0.length),(9,yL i)] [] st) [] [] yF yD ?_ ?_;rintro _ _ ⟨⟩ ⟨_,_,_⟩ _ a b e h f;simp only[go_sem,seval,Zb]at b;obtain ⟨⟨_,g,_,_⟩,hn⟩:=b;subst hn;have k:=WF.slotL e g (j:=0) rfl;have:=ZC a;have:=ZE a;have:=Zk (ZD a) k;simp only[*,go_sem,seval];refine yB h (fun _ h=>?_) fun _ h=>?_;replace h:=Zr h f;cases h;exact yD;exact yR h [];rintro ⟨⟩ ⟨_,_,_⟩ d _ h;simp only[go_sem,seval,Zb]at d;obtain ⟨⟨_,_,_,_⟩,hn⟩:=d;subst hn;have:=ZB (l_0.length);cases h;exact yD
theorem ZiE {a_0:List Int}{b_1:List Int}{r:Bool}(h:Zcj a_0 b_1=some r):Sound prog J0 296 [(false,[.sl 3 1 (A0 ZO a_0)]),(false,[.sl 3 1 (A0 ZO b_1)])] [(false,[(false,.bool r)])]:=by
 refine fnk func296 rfl ?_;unfold Zcj at h;simp only[fnS,f296,Zo,go_sem,seval];refine yB h (fun _ h=>?_) fun _ h=>?_;cases h;exact yD;refine Zh h (fun i _ st=>IV [(0,yM (yV a_0)),(1,yM (yV b_1)),(12,yL a_0.length),(13,yL i)] [] st) [] [] yF yD ?_ ?_;rintro _ _ ⟨⟩ ⟨_,_,_⟩ _ a b e h f;simp only[go_sem,seval,Zb]at b;obtain ⟨⟨g,_,_,_⟩,hn⟩:=b;subst hn;have k:=WF.slotL e g (j:=0) rfl;have:=ZC a;have:=ZE a;have:=Zk (ZD a) k;obtain ⟨_,_,_,l,h⟩:=ZcM h;simp only[AF]at l;simp only[*,go_sem,seval];refine yB h (fun _ h=>?_) fun _ h=>?_;replace h:=Zr h f;cases h;exact yD;exact yR h [];rintro ⟨⟩ ⟨_,_,_⟩ d _ h;simp only[go_sem,seval,Zb]at d;obtain ⟨⟨_,_,_,_⟩,hn⟩:=d;subst hn;have:=ZB (a_0.length);cases h;exact yD
theorem Zsl {a:Zt}{r:List Int}(h:ZgM a=some r):Sound prog J0 263 [(true,Qu a)] [(false,[(false,.sl 3 1 (A0 ZO r))])]:=by
 refine fnk func263 rfl ?_;unfold ZgM at h;simp only[fnS,f263,Zo,go_sem,seval];obtain ⟨_,h⟩:=Zv h;simp only[*,go_sem,seval];refine Xj h (fun s st=>match s with|(q,t)=>IV [(1,.bp 0 0),(3,.p false [.row 1]),(4,yM (.bool t))] [.box 140 [.c (.int .i64 a.nodes),.c (zA a.reasons)],.row 3 1 (A0 ZO q) 2] st) [] [0,64] yF yD ?_;rintro ⟨q,t⟩ ⟨_,_,_⟩ _ u _ h C;simp only[go_sem,seval,Zb]at u;obtain ⟨⟨_,_,_⟩,_,_,hn⟩:=u;subst hn;simp only[*,go_sem,seval];refine yB h (fun _ h=>?_) fun _ h=>?_;refine Zh h (fun i s st=>match s with|(e,f)=>IV [(1,.bp 0 0),(3,.p false [.row 1]),(4,yM (.bool f)),(17,yM (zA a.reasons)),(18,yL a.reasons.length),(19,yL i)] [.box 140 [.c (.int .i64 a.nodes),.c (zA a.reasons)],.row 3 1 (A0 ZO e) 2] st) [] [0,1] yF yD ?_ ?_;rintro v d ⟨e,f⟩ ⟨_,_,_⟩ _ g w D h _;simp only[go_sem,seval,Zb]at w;obtain ⟨⟨_,_,_,E,_,_⟩,_,_,hn⟩:=w;subst hn;have F:=WF.slotL D E (j:=0) rfl;have:=ZC g
 have:=ZE g;have:=Zk (ZD g) F;obtain ⟨_,h⟩:=Zv h;obtain ⟨_,_,h⟩:=Za h;simp only[*,go_sem,seval];refine Zh h (fun i k st=>IV [(1,.bp 0 0),(3,.p false [.row 1]),(4,yM (.bool f)),(6,.bp 2 0),(7,yM (.int .i64 k)),(17,yM (zA a.reasons)),(18,yL a.reasons.length),(19,yL v),(29,yM (yV d.inn)),(30,yL d.inn.length),(31,yL i)] [.box 140 [.c (.int .i64 a.nodes),.c (zA a.reasons)],.row 3 1 (A0 ZO e) 2,zD 179 (ZG d)] st) [] [0,1,50] yF yD ?_ ?_;rintro _ _ k ⟨_,_,_⟩ _ l x G h _;simp only[go_sem,seval,Zb]at x;obtain ⟨⟨_,_,_,_,_,_,_,_,H,_,_⟩,_,_,_,hn⟩:=x;subst hn;have I:=WF.slotL G H (j:=0) rfl;have:=ZC l;have:=ZE l;have:=Zk (ZD l) I;obtain ⟨_,h⟩:=Zv h;obtain ⟨_,_,h⟩:=Za h;simp only[*,go_sem,seval];exact yR h [0,1,2];rintro k ⟨_,_,_⟩ y _ h;simp only[go_sem,seval,Zb]at y;obtain ⟨⟨_,_,_,_,_,_,_,_,_,_,_⟩,_,_,_,hn⟩:=y;subst hn;have:=ZB (d.inn.length);simp only[*,go_sem,seval]
 refine Zh h (fun i m st=>IV [(1,.bp 0 0),(3,.p false [.row 1]),(4,yM (.bool f)),(6,.bp 2 0),(7,yM (.int .i64 m)),(17,yM (zA a.reasons)),(18,yL a.reasons.length),(19,yL v),(43,yM (yV d.outs)),(44,yL d.outs.length),(45,yL i)] [.box 140 [.c (.int .i64 a.nodes),.c (zA a.reasons)],.row 3 1 (A0 ZO e) 2,zD 179 (ZG d)] st) [] [0,1,2] yF yD ?_ ?_;rintro _ _ m ⟨_,_,_⟩ _ o z J h _;simp only[go_sem,seval,Zb]at z;obtain ⟨⟨_,_,_,_,_,_,_,_,K,_,_⟩,_,_,_,hn⟩:=z;subst hn;have L:=WF.slotL J K (j:=0) rfl;have:=ZC o;have:=ZE o;have:=Zk (ZD o) L;obtain ⟨_,h⟩:=Zv h;obtain ⟨_,_,h⟩:=Za h;simp only[*,go_sem,seval];exact yR h [0,1,2];rintro m ⟨_,_,_⟩ A _ h;simp only[go_sem,seval,Zb]at A;obtain ⟨⟨_,_,_,_,_,_,_,_,_,_,_⟩,_,_,_,hn⟩:=A;subst hn;have:=ZB (d.outs.length);simp only[*,go_sem,seval];refine yB h (fun _ h=>?_) fun _ h=>?_;exact yR h [0,1];exact yR h [0,1];rintro ⟨e,f⟩ ⟨_,_,_⟩ B _ h
 simp only[go_sem,seval,Zb]at B;obtain ⟨⟨_,_,_,_,_,_⟩,_,_,hn⟩:=B;subst hn;have:=ZB (a.reasons.length);simp only[*,go_sem,seval];exact yR h [0,1];replace h:=Zr h C;cases h;exact yD
theorem Zm7 {r_0:Zf}{rounds_1:List Int}{before_2:Int}{r:Bool}(h:Zbq r_0 rounds_1 before_2=some r):Sound prog J0 264 [(true,ZG r_0),(false,[.sl 3 1 (A0 ZO rounds_1)]),(false,[.int .i64 before_2])] [(false,[(false,.bool r)])]:=by
 refine fnk func264 rfl ?_;unfold Zbq at h;simp only[fnS,f264,Zo,go_sem,seval];refine Zh h (fun i _ st=>IV [(1,yM (yV rounds_1)),(2,yM (.int .i64 before_2)),(3,.bp 0 0),(12,yM (yV r_0.inn)),(13,yL r_0.inn.length),(14,yL i)] [zD 179 (ZG r_0)] st) [] [0] yF yD ?_ ?_;rintro _ _ ⟨⟩ ⟨_,_,_⟩ _ a d l h e;simp only[go_sem,seval,Zb]at d;obtain ⟨⟨_,_,_,m,_,_⟩,_,hn⟩:=d;subst hn;have o:=WF.slotL l m (j:=0) rfl;have:=ZC a;have:=ZE a;have:=Zk (ZD a) o;obtain ⟨_,_,_,_,h⟩:=ZcM h;simp only[*,go_sem,seval];refine yB h (fun _ h=>?_) fun _ h=>?_;replace h:=Zr h e;cases h;exact yD;refine yB h (fun _ h=>?_) fun _ h=>?_;replace h:=Zr h e;cases h;exact yD;exact yR h [0];rintro ⟨⟩ ⟨_,_,_⟩ f _ h;simp only[go_sem,seval,Zb]at f;obtain ⟨⟨_,_,_,_,_,_⟩,_,hn⟩:=f;subst hn;have:=ZB (r_0.inn.length);simp only[*,go_sem,seval]
 refine Zh h (fun i _ st=>IV [(1,yM (yV rounds_1)),(33,yM (yV r_0.outs)),(34,yL r_0.outs.length),(35,yL i)] [] st) [] [] yF yD ?_ ?_;rintro _ _ ⟨⟩ ⟨_,_,_⟩ _ b g q h t;simp only[go_sem,seval,Zb]at g;obtain ⟨⟨_,u,_,_⟩,hn⟩:=g;subst hn;have v:=WF.slotL q u (j:=0) rfl;have:=ZC b;have:=ZE b;have:=Zk (ZD b) v;obtain ⟨_,_,_,_,h⟩:=ZcM h;simp only[*,go_sem,seval];refine yB h (fun _ h=>?_) fun _ h=>?_;replace h:=Zr h t;cases h;exact yD;exact yR h [];rintro ⟨⟩ ⟨_,_,_⟩ k _ h;simp only[go_sem,seval,Zb]at k;obtain ⟨⟨_,_,_,_⟩,hn⟩:=k;subst hn;have:=ZB (r_0.outs.length);cases h;exact yD
theorem ZII {l_0:List ByteArray}{sep_1:ByteArray}{r:ByteArray}(h:ZHV l_0 sep_1=some r):Sound prog J0 177 [(false,[.sl 9 1 (A0 ZA l_0)]),(false,[.str sep_1])] [(false,[(false,.str r)])]:=by
 refine fnk func177 rfl ?_;unfold ZHV at h;have a:ZbS ⟨#[]⟩=true:=by decide
 simp only[fnS,f177,Zo,go_sem,seval,a];refine ZPO h fun v1 b h=>Zd (ZIK b) ?_;cases h;exact yD
theorem ZJx {l_0:List Int}{nodes_1:Int}{r:Bool}(h:ZIU l_0 nodes_1=some r):Sound prog J0 297 [(false,[.sl 3 1 (A0 ZO l_0)]),(false,[.int .i64 nodes_1])] [(false,[(false,.bool r)])]:=by
 refine fnk func297 rfl ?_;unfold ZIU at h;simp only[fnS,f297,Zo,go_sem,seval];refine Zh h (fun i _ st=>IV [(0,yM (yV l_0)),(1,yM (.int .i64 nodes_1)),(7,yM (yV l_0)),(8,yL l_0.length),(9,yL i)] [] st) [] [] yF yD ?_ ?_;rintro _ _ ⟨⟩ ⟨_,_,_⟩ _ a d f h b;simp only[go_sem,seval,Zb]at d;obtain ⟨⟨g,_,_,_,_⟩,hn⟩:=d;subst hn;have k:=WF.slotL f g (j:=0) rfl;have:=ZC a;have:=ZE a;have:=Zk (ZD a) k;simp only[*,go_sem,seval];refine yB h (fun _ h=>?_) fun _ h=>?_;replace h:=Zr h b;cases h;exact yD;refine yB h (fun _ h=>?_) fun _ h=>?_;replace h:=Zr h b;cases h;exact yD;refine yB h (fun _ h=>?_) fun _ h=>?_;obtain ⟨_,_,_,_,h⟩:=ZcM h;simp only[*,go_sem,seval];refine yB h (fun _ h=>?_) fun _ h=>?_;replace h:=Zr h b;cases h;exact yD;exact yR h [];exact yR h [];rintro ⟨⟩ ⟨_,_,_⟩ e _ h;simp only[go_sem,seval,Zb]at e;obtain ⟨⟨_,_,_,_,_⟩,hn⟩:=e;subst hn;have:=ZB (l_0.length);cases h;exact yD
theorem w_big_ok {code_0:List Int}{r:Bool}(h:ZO4 code_0=some r):Sound prog J0 40 [(false,[.sl 5 1 (A0 Zs8 code_0)])] [(false,[(false,.bool r)])]:=by
 refine fnk func40 rfl ?_;unfold ZO4 at h;simp only[fnS,f40,Zo,go_sem,seval];cases h;exact yD
theorem ZP3 {code_0:List Int}{r:ZwG}(h:ZNt code_0=some r):ZqL prog J0 97 [(false,[.sl 5 1 (A0 Zs8 code_0)])] (.box 189 (ZAW r)):=by
 refine fnb func97 rfl ?_;unfold ZNt at h;simp only[fnB,f97,Zo,go_sem,seval];refine Zh h (fun i a st=>IV [(0,yM (zB code_0)),(3,yM (.int .i64 a)),(4,yL i)] [] st) [] [] yF yD ?_ ?_;rintro _ _ a ⟨_,_,_⟩ _ b d f h g;simp only[go_sem,seval,Zb]at d;obtain ⟨⟨k,_,_⟩,hn⟩:=d;subst hn;have l:=WF.slotL f k (j:=0) rfl;have:=ZC b;have:=ZE b;have:=Zk (ZD b) l;simp only[*,go_sem,seval];refine yB h (fun _ h=>?_) fun _ h=>?_;exact yR h [];replace h:=Zr h g;cases h;exact yD;rintro a ⟨_,_,_⟩ e _ h;simp only[go_sem,seval,Zb]at e;obtain ⟨⟨_,_,_⟩,hn⟩:=e;subst hn;have:=ZB (code_0.length);cases h;exact yD
theorem ZNb {c_0:ZwG}{r:(Int×ZwG)}(h:ZM0 c_0=some r):Zkx prog J0 JF0 230 (.box 189 (ZAW c_0)) [] [(false,[(false,.int .i64 r.1)])] (.box 189 (ZAW r.2)):=by
 refine fnh func230 rfl ?_;unfold ZM0 at h;have a:¬((35:Int)<0):=by decide
 have b:¬((45:Int)<0):=by decide
 simp only[fnH,f230,ZMA,ZMz,Zef,go_sem,seval,a,b];refine yB h (fun _ h=>?_) fun _ h=>?_;obtain ⟨_,_,_,_,h⟩:=ZcM h;iterate 2 (cases h;exact yD)
theorem ZkK {n_0:Int}{r:ByteArray}(h:ZaQ n_0=some r):Sound prog J0 91 [(false,[.int .i64 n_0])] [(false,[(false,.str r)])]:=by
 refine fnk func91 rfl ?_;unfold ZaQ at h;have f:ZbS ⟨#[45,57,50,50,51,51,55,50,48,51,54,56,53,52,55,55,53,56,48,56]⟩=true:=by decide
 have g:ZbS ⟨#[]⟩=true:=by decide
 have i:¬((10:Int)=0):=by decide
 simp only[fnS,f91,Zo,go_sem,seval,f,g,i];refine yB h (fun _ h=>?_) fun _ h=>?_;cases h;exact yD;refine yB h (fun _ h=>?_) fun _ h=>?_;cases h;refine Xj h (fun s st=>match s with|(a,b)=>IV [(0,yM (.int .i64 a)),(3,yM (.str b))] [] st) [] [] yF yD ?_;rintro ⟨a,b⟩ ⟨_,_,_⟩ _ d _ h j;simp only[go_sem,seval,Zb]at d;obtain ⟨⟨_,_⟩,hn⟩:=d;subst hn;obtain ⟨_,h⟩:=Zv h;simp only[*,go_sem,seval];refine yB h (fun _ h=>?_) fun _ h=>?_;replace h:=Zr h j;cases h;exact yD;exact yR h []
theorem ZmT {n_0:Int}{r:ByteArray}(h:Zbl n_0=some r):Sound prog J0 91 [(false,[.int .i64 n_0])] [(false,[(false,.str r)])]:=by
 refine fnk func91 rfl ?_;unfold Zbl at h;have f:ZbS ⟨#[45,57,50,50,51,51,55,50,48,51,54,56,53,52,55,55,53,56,48,56]⟩=true:=by decide
 have g:ZbS ⟨#[45]⟩=true:=by decide
 have i:ZbS ⟨#[]⟩=true:=by decide
 have j:¬((10:Int)=0):=by decide
 simp only[fnS,f91,Zo,go_sem,seval,f,g,i,j];refine yB h (fun _ h=>?_) fun _ h=>?_;cases h;exact yD;refine yB h (fun _ h=>?_) fun _ h=>?_;refine ZPO h fun v1 k h=>Zd (ZkK k) ?_;obtain ⟨l,h⟩:=Zv h;simp only[go_sem]at l;cases h;exact yD;refine Xj h (fun s st=>match s with|(a,b)=>IV [(0,yM (.int .i64 a)),(3,yM (.str b))] [] st) [] [] yF yD ?_;rintro ⟨a,b⟩ ⟨_,_,_⟩ _ d _ h m;simp only[go_sem,seval,Zb]at d;obtain ⟨⟨_,_⟩,hn⟩:=d;subst hn;obtain ⟨_,h⟩:=Zv h;simp only[*,go_sem,seval];refine yB h (fun _ h=>?_) fun _ h=>?_;replace h:=Zr h m;cases h;exact yD;exact yR h []
theorem XM {x_0:Int}{least_1:Int}{most_2:Int}{r:Bool}(h:Qr x_0 least_1 most_2=some r):Sound prog J0 122 [(false,[.int .i64 x_0]),(false,[.int .i64 least_1]),(false,[.int .i64 most_2])] [(false,[(false,.bool r)])]:=by
 refine fnk func122 rfl ?_;unfold Qr at h;simp only[fnS,f122,Zo,go_sem,seval];refine yB h (fun _ h=>?_) fun _ h=>?_;iterate 2 (cases h;exact yD)
end
section
theorem ZMJ {a:ByteArray}{b:ByteArray}{r:List ByteArray}(h:ZMF a b=some r):Sound prog J0 326 [(false,[.str a]),(false,[.str b])] [(false,[(false,.sl 9 1 (A0 ZA r))])]:=by
 refine fnk func326 rfl ?_;unfold ZMF at h;have i:ZbS ⟨#[]⟩=true:=by decide
 simp only[fnS,f326,Zo,go_sem,seval,i];refine yB h (fun _ h=>?_) fun _ h=>?_;cases h;exact yD;refine Xj h (fun s st=>match s with|(d,e,f)=>IV [(0,yM (.str a)),(1,yM (.str b)),(5,.p false [.row 0]),(6,yM (.int .i64 e)),(7,yM (.int .i64 f))] [.row 9 1 (A0 ZA d) 2] st) [] [16] yF yD ?_;rintro ⟨d,e,f⟩ ⟨_,_,_⟩ _ g _ h k;simp only[go_sem,seval,Zb]at g;obtain ⟨⟨_,_,_,_,_⟩,_,hn⟩:=g;subst hn;simp only[*,go_sem,seval];refine yB h (fun _ h=>?_) fun _ h=>?_;obtain ⟨_,h⟩:=Zv h;simp only[*,go_sem,seval];refine yB h (fun _ h=>?_) fun _ h=>?_;obtain ⟨_,h⟩:=Zv h;obtain ⟨l,h⟩:=Zv h;try simp only[Nat.reduceLeDiff]at l
 simp only[*,go_sem,seval];exact yR h [353];exact yR h [0];obtain ⟨_,h⟩:=Zv h;obtain ⟨m,h⟩:=Zv h;try simp only[Nat.reduceLeDiff]at m
 replace h:=Zr h k;cases h;exact yD
theorem XF {a:List ByteArray}{b:ByteArray}{r:List ByteArray}(h:Qd a b=some r):Sound prog J0 242 [(false,[.sl 9 1 (A0 ZA a)]),(false,[.str b])] [(false,[(false,.sl 9 1 (A0 ZA r))])]:=by
 refine fnk func242 rfl ?_;unfold Qd at h;simp only[fnS,f242,Zo,go_sem,seval];refine Zh h (fun i s st=>match s with|(d,e)=>IV [(0,yM (yU a)),(1,yM (.str b)),(5,.p false [.row 0]),(6,yM (.bool e)),(7,yL i)] [.row 9 1 (A0 ZA d) 2] st) [] [16] yF yD ?_ ?_;rintro _ _ ⟨d,e⟩ ⟨_,_,_⟩ _ f g l h _;simp only[go_sem,seval,Zb]at g;obtain ⟨⟨m,_,_,_,_⟩,_,hn⟩:=g;subst hn;have o:=WF.slotL l m (j:=0) rfl;have:=ZC f;have:=ZE f;have:=Zk (ZD f) o;simp only[*,go_sem,seval];refine yB h (fun _ h=>?_) fun _ h=>?_;obtain ⟨q,h⟩:=Zv h;try simp only[Nat.reduceLeDiff]at q
 simp only[*,go_sem,seval];exact yR h [321];refine yB h (fun _ h=>?_) fun _ h=>?_;obtain ⟨t,h⟩:=Zv h;try simp only[Nat.reduceLeDiff]at t
 simp only[*,go_sem,seval];exact yR h [321];refine yB h (fun _ h=>?_) fun _ h=>?_;obtain ⟨u,h⟩:=Zv h;try simp only[Nat.reduceLeDiff]at u
 simp only[*,go_sem,seval];exact yR h [433];obtain ⟨v,h⟩:=Zv h;try simp only[Nat.reduceLeDiff]at v
 obtain ⟨w,h⟩:=Zv h;try simp only[Nat.reduceLeDiff]at w
 simp only[*,go_sem,seval];exact yR h [513];rintro ⟨d,e⟩ ⟨_,_,_⟩ k _ h;simp only[go_sem,seval,Zb]at k;obtain ⟨⟨_,_,_,_,_⟩,_,hn⟩:=k;subst hn;have:=ZB (a.length);simp only[*,go_sem,seval];refine yB h (fun _ h=>?_) fun _ h=>?_;cases h;exact yD;obtain ⟨x,h⟩:=Zv h;try simp only[Nat.reduceLeDiff]at x
 cases h;exact yD
theorem YQ {l_0:List ByteArray}{s_1:ByteArray}{r:Bool}(h:ZW l_0 s_1=some r):Sound prog J0 181 [(false,[.sl 9 1 (A0 ZA l_0)]),(false,[.str s_1])] [(false,[(false,.bool r)])]:=by
 refine fnk func181 rfl ?_;unfold ZW at h;simp only[fnS,f181,Zo,go_sem,seval];refine Zh h (fun i _ st=>IV [(0,yM (yU l_0)),(1,yM (.str s_1)),(5,yL i)] [] st) [] [] yF yD ?_ ?_;rintro _ _ ⟨⟩ ⟨_,_,_⟩ _ a b e h f;simp only[go_sem,seval,Zb]at b;obtain ⟨⟨g,_,_⟩,hn⟩:=b;subst hn;have k:=WF.slotL e g (j:=0) rfl;have:=ZC a;have:=ZE a;have:=Zk (ZD a) k;simp only[*,go_sem,seval];refine yB h (fun _ h=>?_) fun _ h=>?_;replace h:=Zr h f;cases h;exact yD;exact yR h [];rintro ⟨⟩ ⟨_,_,_⟩ d _ h;simp only[go_sem,seval,Zb]at d;obtain ⟨⟨_,_,_⟩,hn⟩:=d;subst hn;have:=ZB (l_0.length);cases h;exact yD
theorem ZIj {kind_0:Int}{r:ByteArray}(h:ZHq kind_0=some r):Sound prog J0 108 [(false,[.int .i64 kind_0])] [(false,[(false,.str r)])]:=by
 refine fnk func108 rfl ?_;unfold ZHq at h;have a:ZbS ⟨#[32,33,61,32]⟩=true:=by decide
 have b:ZbS ⟨#[32,60,32]⟩=true:=by decide
 have c:ZbS ⟨#[32,61,32]⟩=true:=by decide
 have d:ZbS ⟨#[]⟩=true:=by decide
 simp only[fnS,f108,Zo,go_sem,seval,a,b,c,d];iterate 2 ((refine Ze h (fun _ h=>?_) fun _ h=>?_<;>try simp only[*,go_sem,seval]);cases h;simp only[*,go_sem,seval])
 cases h;exact yD
theorem Zmz {a_0:ByteArray}{b_1:ByteArray}{r:Int}(h:Zh8 a_0 b_1=some r):Sound prog J0 115 [(false,[.str a_0]),(false,[.str b_1])] [(false,[(false,.int .i64 r)])]:=by
 refine fnk func115 rfl ?_;unfold Zh8 at h;simp only[fnS,f115,Zo,go_sem,seval];refine yB h (fun a h=>?_) fun a h=>?_;cases h;exact yD;refine Ze h (fun b h=>?_) (fun b h=>?_);have c:=b;try simp only[a,Ac,Ad]at c
 cases h;exact yD;have c:=b;try simp only[a,Ac,Ad]at c
 cases h;exact yD
theorem ZqC {l_0:List ByteArray}{r:List ByteArray}(h:ZfK l_0=some r):Sound prog J0 214 [(false,[.sl 9 1 (A0 ZA l_0)])] [(false,[(false,.sl 9 1 (A0 ZA r))])]:=by
 refine fnk func214 rfl ?_;unfold ZfK at h;simp only[fnS,f214,Zo,go_sem,seval];obtain ⟨_,h⟩:=Zv h;cases h;exact yD
theorem ZeN {b_0:List Zi}{r:List Zi}(h:ZaS b_0=some r):Sound prog J0 65 [(false,[.sl 162 2 (A0 ZR b_0)])] [(false,[(false,.sl 162 2 (A0 ZR r))])]:=by
 refine fnk func65 rfl ?_;unfold ZaS at h;simp only[fnS,f65,Zo,go_sem,seval];obtain ⟨_,h⟩:=Zv h;cases h;exact yD
theorem ZtD {a:List Zi}{b:ByteArray}{d:ByteArray}{r:List Zi}(h:ZjO a b d=some r):Sound prog J0 204 [(false,[.sl 162 2 (A0 ZR a)]),(false,[.str b]),(false,[.str d])] [(false,[(false,.sl 162 2 (A0 ZR r))])]:=by
 refine fnk func204 rfl ?_;unfold ZjO at h;simp only[fnS,f204,Zo,go_sem,seval];refine Zh h (fun i s st=>match s with|(e,f)=>IV [(0,yM (yZ a)),(1,yM (.str b)),(2,yM (.str d)),(7,.p false [.row 0]),(8,yM (.bool f)),(9,yL i)] [.row 162 2 (A0 ZR e) 2] st) [] [16] yF yD ?_ ?_;rintro _ _ ⟨e,f⟩ ⟨_,_,_⟩ _ g l o h _;simp only[go_sem,seval,Zb]at l;obtain ⟨⟨q,_,_,_,_,_⟩,_,hn⟩:=l;subst hn;have t:=WF.slotL o q (j:=0) rfl;have:=ZC g;have:=ZE g;have:=Zk (ZD g) t;simp only[*,go_sem,seval];refine yB h (fun _ h=>?_) fun _ h=>?_;obtain ⟨u,h⟩:=Zv h;try simp only[Nat.reduceLeDiff]at u
 simp only[*,go_sem,seval];exact yR h [337];refine Ze h (fun k h=>?_) (fun k h=>?_);have v:=k;obtain ⟨w,h⟩:=Zv h;try simp only[Nat.reduceLeDiff]at w
 simp only[*,go_sem,seval];exact yR h [337];have v:=k;obtain ⟨x,h⟩:=Zv h;try simp only[Nat.reduceLeDiff]at x
 obtain ⟨y,h⟩:=Zv h;try simp only[Nat.reduceLeDiff]at y
 simp only[*,go_sem,seval];exact yR h [465];rintro ⟨e,f⟩ ⟨_,_,_⟩ m _ h;simp only[go_sem,seval,Zb]at m;obtain ⟨⟨_,_,_,_,_,_⟩,_,hn⟩:=m;subst hn;have:=ZB (a.length);simp only[*,go_sem,seval];refine yB h (fun _ h=>?_) fun _ h=>?_;cases h;exact yD;obtain ⟨z,h⟩:=Zv h;try simp only[Nat.reduceLeDiff]at z
 cases h;exact yD
theorem ZfX {r_0:Zg}{r:List Zl}(h:X8 r_0=some r):Sound prog J0 210 [(true,eRule r_0)] [(false,[(true,.sl 80 5 (A0 ZJ r))])]:=by
 refine fnk func210 rfl ?_;unfold X8 at h;simp only[fnS,f210,Zo,go_sem,seval];refine Zh h (fun i a st=>IV [(1,.bp 0 0),(3,.p false [.row 1]),(4,yL i)] [zD 76 (eRule r_0),.row 80 5 (A0 ZJ a) 1] st) [(true,32,1)] [0,32] yF yD ?_ ?_;rintro _ _ a ⟨_,_,_⟩ _ b d f h _;simp only[go_sem,seval,Zb]at d;obtain ⟨⟨_,_,_⟩,g,_,hn⟩:=d;subst hn;have k:=WF.boxL f g (j:=2) rfl;have:=ZC b;have:=ZE b;have:=Zk (ZD b) k;simp only[*,go_sem,seval];refine yB h (fun _ h=>?_) fun _ h=>?_;obtain ⟨l,h⟩:=Zv h;try simp only[Nat.reduceLeDiff]at l
 simp only[*,go_sem,seval];exact yR h [0,306];exact yR h [0,1];rintro a ⟨_,_,_⟩ e _ h;simp only[go_sem,seval,Zb]at e;obtain ⟨⟨_,_,_⟩,_,_,hn⟩:=e;subst hn;have:=ZB (r_0.cond.length);cases h;exact yD
theorem s_FindRule_ok {l_0:List Zg}{name_1:ByteArray}{r:Int}(h:Zga l_0 name_1=some r):Sound prog J0 45 [(false,[.sl 76 4 (A0 eRule l_0)]),(false,[.str name_1])] [(false,[(false,.int .i64 r)])]:=by
 refine fnk func45 rfl ?_;unfold Zga at h;simp only[fnS,f45,Zo,go_sem,seval];refine Zh h (fun i _ st=>IV [(0,yM (yW l_0)),(1,yM (.str name_1)),(5,yL i)] [] st) [] [] yF yD ?_ ?_;rintro _ _ ⟨⟩ ⟨_,_,_⟩ _ a b e h f;simp only[go_sem,seval,Zb]at b;obtain ⟨⟨g,_,_⟩,hn⟩:=b;subst hn;have k:=WF.slotL e g (j:=0) rfl;have:=ZC a;have:=ZE a;have:=Zk (ZD a) k;simp only[*,go_sem,seval];refine yB h (fun _ h=>?_) fun _ h=>?_;replace h:=Zr h f;cases h;exact yD;exact yR h [];rintro ⟨⟩ ⟨_,_,_⟩ d _ h;simp only[go_sem,seval,Zb]at d;obtain ⟨⟨_,_,_⟩,hn⟩:=d;subst hn;have:=ZB (l_0.length);cases h;exact yD
theorem Zks {a_0:List ByteArray}{b_1:List ByteArray}{r:Bool}(h:Ze7 a_0 b_1=some r):Sound prog J0 201 [(false,[.sl 9 1 (A0 ZA a_0)]),(false,[.sl 9 1 (A0 ZA b_1)])] [(false,[(false,.bool r)])]:=by
 refine fnk func201 rfl ?_;unfold Ze7 at h;simp only[fnS,f201,Zo,go_sem,seval];refine yB h (fun _ h=>?_) fun _ h=>?_;cases h;exact yD;refine Zh h (fun i _ st=>IV [(0,yM (yU a_0)),(1,yM (yU b_1)),(5,yL i)] [] st) [] [] yF yD ?_ ?_;rintro _ _ ⟨⟩ ⟨_,_,_⟩ _ a b e h f;simp only[go_sem,seval,Zb]at b;obtain ⟨⟨g,_,_⟩,hn⟩:=b;subst hn;have k:=WF.slotL e g (j:=0) rfl;have:=ZC a;have:=ZE a;have:=Zk (ZD a) k;obtain ⟨_,_,_,l,h⟩:=ZcM h;simp only[AF]at l;simp only[*,go_sem,seval];refine yB h (fun _ h=>?_) fun _ h=>?_;exact yR h [];replace h:=Zr h f;cases h;exact yD;rintro ⟨⟩ ⟨_,_,_⟩ d _ h;simp only[go_sem,seval,Zb]at d;obtain ⟨⟨_,_,_⟩,hn⟩:=d;subst hn;have:=ZB (a_0.length);cases h;exact yD
theorem ZsW {a:List Int}{b:Int}{r:List Int}(h:ZhE a b=some r):Sound prog J0 288 [(false,[.sl 3 1 (A0 ZO a)]),(false,[.int .i64 b])] [(false,[(false,.sl 3 1 (A0 ZO r))])]:=by
 refine fnk func288 rfl ?_;unfold ZhE at h;simp only[fnS,f288,Zo,go_sem,seval];refine Zh h (fun i s st=>match s with|(d,e)=>IV [(0,yM (yV a)),(1,yM (.int .i64 b)),(5,.p false [.row 0]),(6,yM (.bool e)),(7,yL i)] [.row 3 1 (A0 ZO d) 2] st) [] [16] yF yD ?_ ?_;rintro _ _ ⟨d,e⟩ ⟨_,_,_⟩ _ f k m h _;simp only[go_sem,seval,Zb]at k;obtain ⟨⟨o,_,_,_,_⟩,_,hn⟩:=k;subst hn;have q:=WF.slotL m o (j:=0) rfl;have:=ZC f;have:=ZE f;have:=Zk (ZD f) q;simp only[*,go_sem,seval];refine yB h (fun _ h=>?_) fun _ h=>?_;obtain ⟨t,h⟩:=Zv h;try simp only[Nat.reduceLeDiff]at t
 simp only[*,go_sem,seval];exact yR h [321];iterate 2 refine yB h (fun _ h=>?_) fun _ h=>?_
 obtain ⟨u,h⟩:=Zv h;try simp only[Nat.reduceLeDiff]at u
 obtain ⟨v,h⟩:=Zv h;try simp only[Nat.reduceLeDiff]at v
 simp only[*,go_sem,seval];exact yR h [513];obtain ⟨w,h⟩:=Zv h;try simp only[Nat.reduceLeDiff]at w
 simp only[*,go_sem,seval];exact yR h [433];obtain ⟨x,h⟩:=Zv h;try simp only[Nat.reduceLeDiff]at x
 simp only[*,go_sem,seval];exact yR h [321];rintro ⟨d,e⟩ ⟨_,_,_⟩ l _ h;simp only[go_sem,seval,Zb]at l;obtain ⟨⟨_,_,_,_,_⟩,_,hn⟩:=l;subst hn;have:=ZB (a.length);simp only[*,go_sem,seval];refine yB h (fun _ h=>?_) fun _ h=>?_;cases h;exact yD;obtain ⟨y,h⟩:=Zv h;try simp only[Nat.reduceLeDiff]at y
 cases h;exact yD
theorem Zgz {a_0:List Int}{b_1:List Int}{r:Bool}(h:Zb3 a_0 b_1=some r):Sound prog J0 252 [(false,[.sl 3 1 (A0 ZO a_0)]),(false,[.sl 3 1 (A0 ZO b_1)])] [(false,[(false,.bool r)])]:=by
 refine fnk func252 rfl ?_;unfold Zb3 at h;simp only[fnS,f252,Zo,go_sem,seval];refine yB h (fun _ h=>?_) fun _ h=>?_;cases h;exact yD;refine Zh h (fun i _ st=>IV [(0,yM (yV a_0)),(1,yM (yV b_1)),(5,yL i)] [] st) [] [] yF yD ?_ ?_;rintro _ _ ⟨⟩ ⟨_,_,_⟩ _ a b e h f;simp only[go_sem,seval,Zb]at b;obtain ⟨⟨g,_,_⟩,hn⟩:=b;subst hn;have k:=WF.slotL e g (j:=0) rfl;have:=ZC a;have:=ZE a;have:=Zk (ZD a) k;obtain ⟨_,_,_,l,h⟩:=ZcM h;simp only[AF]at l;simp only[*,go_sem,seval];refine yB h (fun _ h=>?_) fun _ h=>?_;replace h:=Zr h f;cases h;exact yD;exact yR h [];rintro ⟨⟩ ⟨_,_,_⟩ d _ h;simp only[go_sem,seval,Zb]at d;obtain ⟨⟨_,_,_⟩,hn⟩:=d;subst hn;have:=ZB (a_0.length);cases h;exact yD
theorem Zq8 {l_0:List Int}{r:List Int}(h:Zjo l_0=some r):Sound prog J0 234 [(false,[.sl 3 1 (A0 ZO l_0)])] [(false,[(false,.sl 3 1 (A0 ZO r))])]:=by
 refine fnk func234 rfl ?_;unfold Zjo at h;simp only[fnS,f234,Zo,go_sem,seval];obtain ⟨_,h⟩:=Zv h;cases h;exact yD
theorem ZmL {l_0:List Int}{rounds_1:List Int}{round_2:Int}{r:Bool}(h:Zc5 l_0 rounds_1 round_2=some r):Sound prog J0 289 [(false,[.sl 3 1 (A0 ZO l_0)]),(false,[.sl 3 1 (A0 ZO rounds_1)]),(false,[.int .i64 round_2])] [(false,[(false,.bool r)])]:=by
 refine fnk func289 rfl ?_;unfold Zc5 at h;simp only[fnS,f289,Zo,go_sem,seval];refine Zh h (fun i _ st=>IV [(0,yM (yV l_0)),(1,yM (yV rounds_1)),(2,yM (.int .i64 round_2)),(7,yL i)] [] st) [] [] yF yD ?_ ?_;rintro _ _ ⟨⟩ ⟨_,_,_⟩ _ a b f h d;simp only[go_sem,seval,Zb]at b;obtain ⟨⟨g,_,_,_⟩,hn⟩:=b;subst hn;have k:=WF.slotL f g (j:=0) rfl;have:=ZC a;have:=ZE a;have:=Zk (ZD a) k;obtain ⟨_,_,_,_,h⟩:=ZcM h;simp only[*,go_sem,seval];refine yB h (fun _ h=>?_) fun _ h=>?_;replace h:=Zr h d;cases h;exact yD;refine yB h (fun _ h=>?_) fun _ h=>?_;replace h:=Zr h d;cases h;exact yD;exact yR h [];rintro ⟨⟩ ⟨_,_,_⟩ e _ h;simp only[go_sem,seval,Zb]at e;obtain ⟨⟨_,_,_,_⟩,hn⟩:=e;subst hn;have:=ZB (l_0.length);cases h;exact yD
theorem Zqc {l_0:List Int}{rounds_1:List Int}{r:Bool}(h:ZfV l_0 rounds_1=some r):Sound prog J0 290 [(false,[.sl 3 1 (A0 ZO l_0)]),(false,[.sl 3 1 (A0 ZO rounds_1)])] [(false,[(false,.bool r)])]:=by
 refine fnk func290 rfl ?_;unfold ZfV at h;simp only[fnS,f290,Zo,go_sem,seval];refine Zh h (fun i _ st=>IV [(0,yM (yV l_0)),(1,yM (yV rounds_1)),(5,yL i)] [] st) [] [] yF yD ?_ ?_;rintro _ _ ⟨⟩ ⟨_,_,_⟩ _ a b e h f;simp only[go_sem,seval,Zb]at b;obtain ⟨⟨g,_,_⟩,hn⟩:=b;subst hn;have k:=WF.slotL e g (j:=0) rfl;have:=ZC a;have:=ZE a;have:=Zk (ZD a) k;obtain ⟨_,_,_,_,h⟩:=ZcM h;simp only[*,go_sem,seval];refine yB h (fun _ h=>?_) fun _ h=>?_;replace h:=Zr h f;cases h;exact yD;exact yR h [];rintro ⟨⟩ ⟨_,_,_⟩ d _ h;simp only[go_sem,seval,Zb]at d;obtain ⟨⟨_,_,_⟩,hn⟩:=d;subst hn;have:=ZB (l_0.length);cases h;exact yD
theorem ZIH {l_0:List ByteArray}{sep_1:ByteArray}{r:ByteArray}(h:ZHX l_0 sep_1=some r):Sound prog J0 166 [(false,[.sl 9 1 (A0 ZA l_0)]),(false,[.str sep_1])] [(false,[(false,.str r)])]:=by
 refine fnk func166 rfl ?_;unfold ZHX at h;have f:ZbS ⟨#[]⟩=true:=by decide
 simp only[fnS,f166,Zo,go_sem,seval,f];refine Zh h (fun i a st=>IV [(0,yM (yU l_0)),(1,yM (.str sep_1)),(5,yM (.str a)),(6,yL i)] [] st) [] [] yF yD ?_ ?_;rintro _ _ a ⟨_,_,_⟩ _ b d g h _;simp only[go_sem,seval,Zb]at d;obtain ⟨⟨k,_,_,_⟩,hn⟩:=d;subst hn;have l:=WF.slotL g k (j:=0) rfl;have:=ZC b;have:=ZE b;have:=Zk (ZD b) l;simp only[*,go_sem,seval];refine yB h (fun _ h=>?_) fun _ h=>?_;obtain ⟨_,h⟩:=Zv h;obtain ⟨m,h⟩:=Zv h;simp only[go_sem]at m;simp only[*,go_sem,seval];exact yR h [];obtain ⟨_,h⟩:=Zv h;simp only[*,go_sem,seval];exact yR h [];rintro a ⟨_,_,_⟩ e _ h;simp only[go_sem,seval,Zb]at e;obtain ⟨⟨_,_,_,_⟩,hn⟩:=e;subst hn;have:=ZB (l_0.length);cases h;exact yD
end
section
theorem Zhr {s_0:ByteArray}{r:Bool}(h:Zey s_0=some r):Sound prog J0 141 [(false,[.str s_0])] [(false,[(false,.bool r)])]:=by
 refine fnk func141 rfl ?_;unfold Zey at h;simp only[fnS,f141,Zo,go_sem,seval];refine ZPO h fun v1 a h=>Zd (QG a)<|yA ?_;refine yB h (fun _ h=>?_) fun _ h=>?_;obtain ⟨_,_,b,h⟩:=ZuE h;try simp only[seval]at b
 iterate 2 (cases h;exact yD)
theorem ZdX {s_0:ByteArray}{r:Bool}(h:Zdp s_0=some r):Sound prog J0 207 [(false,[.str s_0])] [(false,[(false,.bool r)])]:=by
 refine fnk func207 rfl ?_;unfold Zdp at h;simp only[fnS,f207,Zo,go_sem,seval];refine yB h (fun _ h=>?_) fun _ h=>?_;obtain ⟨_,_,a,h⟩:=ZuE h;try simp only[seval]at a
 simp only[*,go_sem,seval];refine yB h (fun _ h=>?_) fun _ h=>?_;obtain ⟨_,h⟩:=Zv h;simp only[*,go_sem,seval];refine ZPO h fun _ b h=>Zd (QG b) ?_;iterate 3 (cases h;exact yD)
theorem YO {f_0:Zc}{r:Zc}(h:YE f_0=some r):Sound prog J0 114 [(true,eFact f_0)] [(true,[(false,.str r.rel),(false,.sl 9 1 (A0 ZA r.args))])]:=by
 refine fnk func114 rfl ?_;unfold YE at h;simp only[fnS,f114,Zo,go_sem,seval];refine ZPO h fun v1 a h=>Zd (Zhb a) ?_;cases h;exact yD
theorem ZcG {s_0:ByteArray}{r:(Int×Bool)}(h:Zae s_0=some r):Sound prog J0 250 [(false,[.str s_0])] [(false,[(false,.int .i64 r.1)]),(false,[(false,.bool r.2)])]:=by
 refine fnk func250 rfl ?_;unfold Zae at h;simp only[fnS,f250,Zo,go_sem,seval];iterate 2 ((refine Ze h (fun _ h=>?_) fun _ h=>?_<;>try simp only[*,go_sem,seval]);cases h;simp only[*,go_sem,seval])
 refine ZPO h fun v1 a h=>Zd (Zv1 a)<|yA ?_;iterate 2 refine yB h (fun _ h=>?_) fun _ h=>?_
 cases h;exact yD;refine yB h (fun _ h=>?_) fun _ h=>?_;cases h;exact yD;refine ZPO h fun _ b h=>Zd (Zmm b)<|yA ?_;refine yB h (fun _ h=>?_) fun _ h=>?_;iterate 3 (cases h;exact yD)
theorem ZoB {a_0:Zc}{b_1:Zc}{r:Bool}(h:Zca a_0 b_1=some r):Sound prog J0 143 [(true,eFact a_0),(true,eFact b_1)] [(false,[(false,.bool r)])]:=by
 refine fnk func143 rfl ?_;unfold Zca at h;simp only[fnS,f143,Zo,go_sem,seval];refine yB h (fun _ h=>?_) fun _ h=>?_;refine ZPO h fun v1 a h=>Zd (Znk a) ?_;iterate 2 (cases h;exact yD)
theorem Zp2 {x_0:Zl}{r:List ByteArray}(h:ZhS x_0=some r):Sound prog J0 285 [(true,ZJ x_0)] [(false,[(false,.sl 9 1 (A0 ZA r))])]:=by
 refine fnk func285 rfl ?_;unfold ZhS at h;simp only[fnS,f285,Zo,go_sem,seval];refine ZPO h fun v1 a h=>Zd (Zhb a) ?_;obtain ⟨b,h⟩:=Zv h;try simp only[Nat.reduceLeDiff]at b
 cases h;exact yD
theorem Zit {r_0:Zg}{r:List ByteArray}(h:QR r_0=some r):Sound prog J0 294 [(true,eRule r_0)] [(false,[(false,.sl 9 1 (A0 ZA r))])]:=by
 refine fnk func294 rfl ?_;unfold QR at h;simp only[fnS,f294,Zo,go_sem,seval];refine Zh h (fun i a st=>IV [(3,.p false [.row 0]),(7,yM (yY r_0.thn)),(8,yL r_0.thn.length),(9,yL i)] [.row 9 1 (A0 ZA a) 2] st) [(false,3,0)] [112] yF yD ?_ ?_;rintro _ _ a ⟨_,_,_⟩ _ b d f h _;simp only[go_sem,seval,Zb]at d;obtain ⟨⟨_,g,_,_⟩,_,hn⟩:=d;subst hn;have k:=WF.slotL f g (j:=0) rfl;have:=ZC b;have:=ZE b;have:=Zk (ZD b) k;simp only[*,go_sem,seval];refine yB h (fun _ h=>?_) fun _ h=>?_;obtain ⟨l,h⟩:=Zv h;try simp only[Nat.reduceLeDiff]at l
 simp only[*,go_sem,seval];exact yR h [289];refine yB h (fun _ h=>?_) fun _ h=>?_;obtain ⟨m,h⟩:=Zv h;try simp only[Nat.reduceLeDiff]at m
 simp only[*,go_sem,seval];exact yR h [289];exact yR h [0];rintro a ⟨_,_,_⟩ e _ h;simp only[go_sem,seval,Zb]at e;obtain ⟨⟨_,_,_,_⟩,_,hn⟩:=e;subst hn;have:=ZB (r_0.thn.length);simp only[*,go_sem,seval];refine ZPO h fun _ o h=>Zd (Qy o) ?_;cases h;exact yD
theorem ZqF {r_0:Zg}{r:List ByteArray}(h:Zcp r_0=some r):Sound prog J0 319 [(true,eRule r_0)] [(false,[(false,.sl 9 1 (A0 ZA r))])]:=by
 refine fnk func319 rfl ?_;unfold Zcp at h;simp only[fnS,f319,Zo,go_sem,seval];refine Zh h (fun i a st=>IV [(3,.p false [.row 0]),(7,yM (yX r_0.cond)),(8,yL r_0.cond.length),(9,yL i)] [.row 9 1 (A0 ZA a) 2] st) [(false,3,0)] [112] yF yD ?_ ?_;rintro _ _ a ⟨_,_,_⟩ _ b d f h _;simp only[go_sem,seval,Zb]at d;obtain ⟨⟨_,g,_,_⟩,_,hn⟩:=d;subst hn;have k:=WF.slotL f g (j:=0) rfl;have:=ZC b;have:=ZE b;have:=Zk (ZD b) k;simp only[*,go_sem,seval];refine yB h (fun _ h=>?_) fun _ h=>?_;obtain ⟨l,h⟩:=Zv h;try simp only[Nat.reduceLeDiff]at l
 simp only[*,go_sem,seval];exact yR h [289];refine yB h (fun _ h=>?_) fun _ h=>?_;obtain ⟨m,h⟩:=Zv h;try simp only[Nat.reduceLeDiff]at m
 simp only[*,go_sem,seval];exact yR h [289];exact yR h [0];rintro a ⟨_,_,_⟩ e _ h;simp only[go_sem,seval,Zb]at e;obtain ⟨⟨_,_,_,_⟩,_,hn⟩:=e;subst hn;have:=ZB (r_0.cond.length);simp only[*,go_sem,seval];refine ZPO h fun _ o h=>Zd (Qy o) ?_;cases h;exact yD
theorem ZlS {a_0:Zf}{b_1:Zf}{r:Bool}(h:Zb1 a_0 b_1=some r):Sound prog J0 259 [(true,ZG a_0),(true,ZG b_1)] [(false,[(false,.bool r)])]:=by
 refine fnk func259 rfl ?_;unfold Zb1 at h;simp only[fnS,f259,Zo,go_sem,seval];refine yB h (fun _ h=>?_) fun _ h=>?_;refine ZPO h fun v1 a h=>Zd (ZiE a)<|yA ?_;refine yB h (fun _ h=>?_) fun _ h=>?_;refine ZPO h fun _ b h=>Zd (ZiE b) ?_;iterate 3 (cases h;exact yD)
theorem Zq7 {b:Zt}{r:List Int}(h:ZhI b=some r):Sound prog J0 221 [(true,Qu b)] [(false,[(false,.sl 3 1 (A0 ZO r))])]:=by
 refine fnk func221 rfl ?_;unfold ZhI at h;simp only[fnS,f221,Zo,go_sem,seval];refine ZPO h fun v1 A h=>Zd (Zsl A) ?_;obtain ⟨_,h⟩:=Zv h;simp only[*,go_sem,seval];refine Xj h (fun s st=>match s with|(q,t,e)=>IV [(1,.bp 0 0),(3,.p false [.row 1]),(4,.p false [.row 2]),(5,yM (.int .i64 e)),(20,yM (.int .i64 ((Int.toNat b.nodes:Nat):Int))),(21,yM (.int .i64 t))] [.box 140 [.c (.int .i64 b.nodes),.c (zA b.reasons)],.row 3 1 (A0 ZO v1) 2,.row 3 1 (A0 ZO q) 2] st) [] [0,48,112] yF yD ?_;rintro ⟨q,t,e⟩ ⟨_,_,_⟩ _ u _ h B;simp only[go_sem,seval,Zb]at u;obtain ⟨⟨_,_,_,_,_,_⟩,_,_,_,hn⟩:=u;subst hn;simp only[*,go_sem,seval];refine yB h (fun _ h=>?_) fun _ h=>?_;obtain ⟨_,h⟩:=Zv h;obtain ⟨_,_,h⟩:=Za h;obtain ⟨_,h⟩:=Zv h;obtain ⟨_,_,h⟩:=Za h;simp only[*,go_sem,seval];exact yR h [0,1,2]
 refine Xj h (fun s st=>match s with|(k,f,g)=>IV [(1,.bp 0 0),(3,.p false [.row 1]),(4,.p false [.row 2]),(5,yM (.int .i64 e)),(7,yM (.int .i64 f)),(8,yM (.int .i64 g))] [.box 140 [.c (.int .i64 b.nodes),.c (zA b.reasons)],.row 3 1 (A0 ZO v1) 2,.row 3 1 (A0 ZO k) 2] st) [] [0,1,2] yF yD ?_;rintro ⟨k,f,g⟩ ⟨_,_,_⟩ _ v _ h C;simp only[go_sem,seval,Zb]at v;obtain ⟨⟨_,_,_,_,_,_⟩,_,_,_,hn⟩:=v;subst hn;simp only[*,go_sem,seval];refine yB h (fun _ h=>?_) fun _ h=>?_;refine Zh h (fun i d st=>IV [(1,.bp 0 0),(3,.p false [.row 1]),(4,.p false [.row 2]),(5,yM (.int .i64 e)),(7,yM (.int .i64 f)),(8,yM (.int .i64 g)),(9,.p false [.row 3]),(38,yM (zA b.reasons)),(39,yL b.reasons.length),(40,yL i)] [.box 140 [.c (.int .i64 b.nodes),.c (zA b.reasons)],.row 3 1 (A0 ZO v1) 2,.row 3 1 (A0 ZO k) 2,.row 3 1 (A0 ZO d) 2] st) [(false,9,0)] [0,1,2,131] yF yD ?_ ?_;rintro _ _ d ⟨_,_,_⟩ _ l w D h _
 simp only[go_sem,seval,Zb]at w;obtain ⟨⟨_,_,_,_,_,_,_,E,_,_⟩,_,_,_,_,hn⟩:=w;subst hn;have F:=WF.slotL D E (j:=0) rfl;have:=ZC l;have:=ZE l;have:=Zk (ZD l) F;obtain ⟨_,h⟩:=Zv h;obtain ⟨_,_,h⟩:=Za h;simp only[*,go_sem,seval];refine yB h (fun _ h=>?_) fun _ h=>?_;obtain ⟨_,h⟩:=Zv h;obtain ⟨_,_,h⟩:=Za h;simp only[*,go_sem,seval];refine yB h (fun _ h=>?_) fun _ h=>?_;refine ZPO h fun _ G h=>Zd (Zm7 G)<|yA ?_;refine yB h (fun _ h=>?_) fun _ h=>?_;obtain ⟨H,h⟩:=Zv h;try simp only[Nat.reduceLeDiff]at H
 simp only[*,go_sem,seval];exact yR h [0,1,2,484];exact yR h [0,1,2,3];exact yR h [0,1,2,3];exact yR h [0,1,2,3];rintro d ⟨_,_,_⟩ x _ h;simp only[go_sem,seval,Zb]at x;obtain ⟨⟨_,_,_,_,_,_,_,_,_,_⟩,_,_,_,_,hn⟩:=x;subst hn;have:=ZB (b.reasons.length);simp only[*,go_sem,seval];refine yB h (fun _ h=>?_) fun _ h=>?_;exact yR h [0,1,2];refine Zh h (fun i m st=>IV [(1,.bp 0 0),(3,.p false [.row 1]),(4,.p false [.row 2]),(5,yM (.int .i64 e)),(7,yM (.int .i64 f)),(8,yM (.int .i64 g)),(76,.p false [.row 3]),(77,yL d.length),(78,yL i)] [.box 140 [.c (.int .i64 b.nodes),.c (zA b.reasons)],.row 3 1 (A0 ZO v1) 2,.row 3 1 (A0 ZO m) 2,.row 3 1 (A0 ZO d) 2] st) [] [0,1,2,3] yF yD ?_ ?_;rintro _ _ m ⟨_,_,_⟩ _ o y I h _;simp only[go_sem,seval,Zb]at y;obtain ⟨⟨_,_,_,_,_,_,_,_,_⟩,_,_,_,J,hn⟩:=y;subst hn;have K:=WF.rowL I J;have:=ZC o;have:=ZE o;have:=Zk (ZD o) K;obtain ⟨_,h⟩:=Zv h;obtain ⟨_,_,h⟩:=Za h
 simp only[*,go_sem,seval];exact yR h [0,1,2,3];rintro m ⟨_,_,_⟩ z _ h;simp only[go_sem,seval,Zb]at z;obtain ⟨⟨_,_,_,_,_,_,_,_,_⟩,_,_,_,_,hn⟩:=z;subst hn;have:=ZB (d.length);simp only[*,go_sem,seval];exact yR h [0,1,2];replace h:=Zr h C;replace h:=Zr h B;cases h;exact yD
theorem ZKJ {b_0:Zt}{r:Bool}(h:ZJt b_0=some r):Sound prog J0 260 [(true,Qu b_0)] [(false,[(false,.bool r)])]:=by
 refine fnk func260 rfl ?_;unfold ZJt at h;simp only[fnS,f260,Zo,go_sem,seval];iterate 3 ((refine Ze h (fun _ h=>?_) fun _ h=>?_<;>try simp only[*,go_sem,seval]);cases h;simp only[*,go_sem,seval])
 refine Zh h (fun i _ st=>IV [(1,.bp 0 0),(20,yM (zA b_0.reasons)),(21,yL b_0.reasons.length),(22,yL i)] [.box 140 [.c (.int .i64 b_0.nodes),.c (zA b_0.reasons)]] st) [] [0] yF yD ?_ ?_;rintro _ _ ⟨⟩ ⟨_,_,_⟩ _ a d f h b;simp only[go_sem,seval,Zb]at d;obtain ⟨⟨_,g,_,_⟩,_,hn⟩:=d;subst hn;have k:=WF.slotL f g (j:=0) rfl;have:=ZC a;have:=ZE a;have:=Zk (ZD a) k;simp only[*,go_sem,seval];refine yB h (fun _ h=>?_) fun _ h=>?_;replace h:=Zr h b;cases h;exact yD;refine yB h (fun _ h=>?_) fun _ h=>?_;replace h:=Zr h b;cases h;exact yD;refine ZPO h fun _ l h=>Zd (ZJx l)<|yA ?_;refine yB h (fun _ h=>?_) fun _ h=>?_;refine ZPO h fun _ m h=>Zd (ZJx m)<|yA ?_;refine yB h (fun _ h=>?_) fun _ h=>?_;refine ⟨_,[],[0],(A3 h).symm,yF,?_⟩;iterate 2 (simp only[*,go_sem,seval];replace h:=Zr h b;cases h)
 simp only[*,go_sem,seval];rintro ⟨⟩ ⟨_,_,_⟩ e _ h;simp only[go_sem,seval,Zb]at e;obtain ⟨⟨_,_,_,_⟩,_,hn⟩:=e;subst hn;have:=ZB (b_0.reasons.length);cases h;exact yD
theorem ZLm {b_0:Zt}{rounds_1:List Int}{x_2:Int}{r:Int}(h:ZI1 b_0 rounds_1 x_2=some r):Sound prog J0 262 [(true,Qu b_0),(false,[.sl 3 1 (A0 ZO rounds_1)]),(false,[.int .i64 x_2])] [(false,[(false,.int .i64 r)])]:=by
 refine fnk func262 rfl ?_;unfold ZI1 at h;simp only[fnS,f262,Zo,go_sem,seval];iterate 2 ((refine Ze h (fun _ h=>?_) fun _ h=>?_<;>try simp only[*,go_sem,seval]);cases h;simp only[*,go_sem,seval])
 obtain ⟨_,_,_,_,h⟩:=ZcM h;simp only[*,go_sem,seval];refine yB h (fun _ h=>?_) fun _ h=>?_;cases h;exact yD;refine Zh h (fun i _ st=>IV [(1,yM (yV rounds_1)),(2,yM (.int .i64 x_2)),(25,yM (zA b_0.reasons)),(26,yL b_0.reasons.length),(27,yL i)] [] st) [] [] yF yD ?_ ?_;rintro _ _ ⟨⟩ ⟨_,_,_⟩ _ a b e h f;simp only[go_sem,seval,Zb]at b;obtain ⟨⟨_,_,g,_,_⟩,hn⟩:=b;subst hn;have k:=WF.slotL e g (j:=0) rfl;have:=ZC a;have:=ZE a;have:=Zk (ZD a) k;simp only[*,go_sem,seval];refine yB h (fun _ h=>?_) fun _ h=>?_;refine ZPO h fun _ l h=>Zd (Zm7 l)<|yA ?_;refine yB h (fun _ h=>?_) fun _ h=>?_;replace h:=Zr h f;cases h;exact yD;exact yR h [];exact yR h [];rintro ⟨⟩ ⟨_,_,_⟩ d _ h;simp only[go_sem,seval,Zb]at d;obtain ⟨⟨_,_,_,_,_⟩,hn⟩:=d;subst hn;have:=ZB (b_0.reasons.length);cases h;exact yD
theorem ZKO {x_0:Zwt}{r:ByteArray}(h:ZI9 x_0=some r):Sound prog J0 96 [(true,eMiss x_0)] [(false,[(false,.str r)])]:=by
 refine fnk func96 rfl ?_;unfold ZI9 at h;have a:ZbS ⟨#[32]⟩=true:=by decide
 have b:ZbS ⟨#[]⟩=true:=by decide
 simp only[fnS,f96,Zo,go_sem,seval,a,b];obtain ⟨c,h⟩:=Zv h;simp only[go_sem]at c;simp only[*,go_sem,seval];refine ZPO h fun v1 d h=>Zd (Zmm d) ?_;obtain ⟨e,h⟩:=Zv h;simp only[go_sem]at e;obtain ⟨f,h⟩:=Zv h;simp only[go_sem]at f;obtain ⟨g,h⟩:=Zv h;simp only[go_sem]at g;cases h;exact yD
theorem ZPP {c_0:ZwG}{n_1:Int}{r:(Int×ZwG)}(h:ZMw c_0 n_1=some r):Zkx prog J0 JF0 162 (.box 189 (ZAW c_0)) [(false,[.int .i64 n_1])] [(false,[(false,.int .i64 r.1)])] (.box 189 (ZAW r.2)):=by
 refine fnh func162 rfl ?_;unfold ZMw at h;simp only[fnH,f162,ZMA,ZMz,Zef,go_sem,seval];refine yB h (fun _ h=>?_) fun _ h=>?_;cases h;exact yD;refine yB h (fun _ h=>?_) fun _ h=>?_;obtain ⟨v1,a,h⟩:=Za h;refine Zwm (ZNb a) ?_;obtain ⟨_,h⟩:=Zv h;cases h;exact yD;obtain ⟨_,b,h⟩:=Za h;refine Zwm (ZNb b)<|yA ?_;obtain ⟨_,c,h⟩:=Za h;refine Zwm (ZNb c)<|yA ?_;obtain ⟨_,d,h⟩:=Za h;refine Zwm (ZNb d) ?_;obtain ⟨_,h⟩:=Zv h;cases h;exact yD
theorem Zfh {s_0:ByteArray}{r:(Int×Bool)}(h:Zag s_0=some r):Sound prog J0 176 [(false,[.str s_0])] [(false,[(false,.int .i64 r.1)]),(false,[(false,.bool r.2)])]:=by
 refine fnk func176 rfl ?_;unfold Zag at h;simp only[fnS,f176,Zo,go_sem,seval];refine ZPO h fun v1 g h=>Zd (XM g)<|yA ?_;refine yB h (fun _ h=>?_) fun _ h=>?_;refine Zh h (fun i a st=>IV [(0,yM (.str s_0)),(4,yM (.int .i64 a)),(5,yL i)] [] st) [] [] yF yD ?_ ?_;rintro _ _ a ⟨_,_,_⟩ _ b d k h e;simp only[go_sem,seval,Zb]at d;obtain ⟨⟨l,_,_⟩,hn⟩:=d;subst hn;have m:=WF.slotS k l (j:=0) rfl;have:=Zp3 b;have:=Zxp b;have:=Zk (ZuC b) m;simp only[*,go_sem,seval];refine yB h (fun _ h=>?_) fun _ h=>?_;replace h:=Zr h e;cases h;exact yD;refine yB h (fun _ h=>?_) fun _ h=>?_;replace h:=Zr h e;cases h;exact yD;exact yR h [];rintro a ⟨_,_,_⟩ f _ h;simp only[go_sem,seval,Zb]at f;obtain ⟨⟨_,_,_⟩,hn⟩:=f;subst hn;have:=ZB (s_0.size);simp only[*,go_sem,seval];refine ZPO h fun _ o h=>Zd (ZmT o)<|yA ?_;refine yB h (fun _ h=>?_) fun _ h=>?_;iterate 3 (cases h;exact yD)
theorem QA {s_0:ByteArray}{r:Bool}(h:QT s_0=some r):Sound prog J0 104 [(false,[.str s_0])] [(false,[(false,.bool r)])]:=by
 refine fnk func104 rfl ?_;unfold QT at h;simp only[fnS,f104,Zo,go_sem,seval];refine Zh h (fun i _ st=>IV [(0,yM (.str s_0)),(3,yL i)] [] st) [] [] yF yD ?_ ?_;rintro _ _ ⟨⟩ ⟨_,_,_⟩ _ a b e h f;simp only[go_sem,seval,Zb]at b;obtain ⟨⟨g,_⟩,hn⟩:=b;subst hn;have k:=WF.slotS e g (j:=0) rfl;have:=Zp3 a;have:=Zxp a;have:=Zk (ZuC a) k;simp only[*,go_sem,seval];refine ZPO h fun _ l h=>Zd (XM l)<|yA ?_;refine yB h (fun _ h=>?_) fun _ h=>?_;exact yR h [];refine ZPO h fun _ m h=>Zd (XM m)<|yA ?_;refine yB h (fun _ h=>?_) fun _ h=>?_;exact yR h [];replace h:=Zr h f;cases h;exact yD;rintro ⟨⟩ ⟨_,_,_⟩ d _ h;simp only[go_sem,seval,Zb]at d;obtain ⟨⟨_,_⟩,hn⟩:=d;subst hn;have:=ZB (s_0.size);simp only[*,go_sem,seval];refine ZPO h fun _ o h=>Zd (XM o) ?_;cases h;exact yD
theorem ZOm {s_0:ByteArray}{r:(ByteArray×(List ByteArray)×Bool)}(h:ZMX s_0=some r):Sound prog J0 382 [(false,[.str s_0])] [(false,[(false,.str r.1)]),(false,[(false,.sl 9 1 (A0 ZA r.2.1))]),(false,[(false,.bool r.2.2)])]:=by
 refine fnk func382 rfl ?_;unfold ZMX at h;have a:ZbS ⟨#[40]⟩=true:=by decide
 have b:ZbS ⟨#[44]⟩=true:=by decide
 have c:ZbS ⟨#[]⟩=true:=by decide
 simp only[fnS,f382,Zo,go_sem,seval,a,b,c];refine ZPO h fun v1 d h=>Zd (ZMJ d)<|yA ?_;refine yB h (fun _ h=>?_) fun _ h=>?_;cases h;exact yD;obtain ⟨_,h⟩:=Zv h;obtain ⟨_,e,h⟩:=Za h;try simp only[seval]at e
 simp only[*,go_sem,seval];refine yB h (fun _ h=>?_) fun _ h=>?_;cases h;exact yD;obtain ⟨_,_,_,h⟩:=ZuE h;simp only[*,go_sem,seval];refine yB h (fun _ h=>?_) fun _ h=>?_;cases h;exact yD;obtain ⟨_,h⟩:=Zv h;simp only[*,go_sem,seval];refine yB h (fun _ h=>?_) fun _ h=>?_;obtain ⟨_,h⟩:=Zv h;obtain ⟨_,f,h⟩:=Za h;try simp only[seval]at f
 cases h;exact yD;obtain ⟨_,h⟩:=Zv h;obtain ⟨_,g,h⟩:=Za h;try simp only[seval]at g
 simp only[*,go_sem,seval];refine ZPO h fun _ i h=>Zd (ZMJ i) ?_;cases h;exact yD
theorem Xr {f_0:Zc}{r:Zc}(h:XE f_0=some r):Sound prog J0 153 [(true,eFact f_0)] [(true,[(false,.str r.rel),(false,.sl 9 1 (A0 ZA r.args))])]:=by
 refine fnk func153 rfl ?_;unfold XE at h;simp only[fnS,f153,Zo,go_sem,seval];refine ZPO h fun v1 a h=>Zd (ZqC a) ?_;cases h;exact yD
theorem Zop {a_0:List ByteArray}{b_1:List ByteArray}{r:Bool}(h:Zd6 a_0 b_1=some r):Sound prog J0 306 [(false,[.sl 9 1 (A0 ZA a_0)]),(false,[.sl 9 1 (A0 ZA b_1)])] [(false,[(false,.bool r)])]:=by
 refine fnk func306 rfl ?_;unfold Zd6 at h;simp only[fnS,f306,Zo,go_sem,seval];refine Zh h (fun i _ st=>IV [(0,yM (yU a_0)),(1,yM (yU b_1)),(5,yL i)] [] st) [] [] yF yD ?_ ?_;rintro _ _ ⟨⟩ ⟨_,_,_⟩ _ a b e h f;simp only[go_sem,seval,Zb]at b;obtain ⟨⟨g,_,_⟩,hn⟩:=b;subst hn;have k:=WF.slotL e g (j:=0) rfl;have:=ZC a;have:=ZE a;have:=Zk (ZD a) k;simp only[*,go_sem,seval];refine ZPO h fun _ l h=>Zd (YQ l)<|yA ?_;refine yB h (fun _ h=>?_) fun _ h=>?_;exact yR h [];replace h:=Zr h f;cases h;exact yD;rintro ⟨⟩ ⟨_,_,_⟩ d _ h;simp only[go_sem,seval,Zb]at d;obtain ⟨⟨_,_,_⟩,hn⟩:=d;subst hn;have:=ZB (a_0.length);cases h;exact yD
theorem Zij {r_0:Zg}{r:List ByteArray}(h:Q9 r_0=some r):Sound prog J0 272 [(true,eRule r_0)] [(false,[(false,.sl 9 1 (A0 ZA r))])]:=by
 refine fnk func272 rfl ?_;unfold Q9 at h;simp only[fnS,f272,Zo,go_sem,seval];refine Zh h (fun i a st=>IV [(1,.bp 0 0),(3,.p false [.row 1]),(4,yL i)] [zD 76 (eRule r_0),.row 9 1 (A0 ZA a) 2] st) [] [0,32] yF yD ?_ ?_;rintro _ _ a ⟨_,_,_⟩ _ b d f h _;simp only[go_sem,seval,Zb]at d;obtain ⟨⟨_,_,_⟩,g,_,hn⟩:=d;subst hn;have k:=WF.boxL f g (j:=3) rfl;have:=ZC b;have:=ZE b;have:=Zk (ZD b) k;simp only[*,go_sem,seval];refine yB h (fun _ h=>?_) fun _ h=>?_;refine ZPO h fun _ l h=>Zd (XF l)<|yA ?_;exact yR h [0,466];refine yB h (fun _ h=>?_) fun _ h=>?_;refine ZPO h fun _ m h=>Zd (XF m)<|yA ?_;exact yR h [0,466];exact yR h [0,1];rintro a ⟨_,_,_⟩ e _ h;simp only[go_sem,seval,Zb]at e;obtain ⟨⟨_,_,_⟩,_,_,hn⟩:=e;subst hn;have:=ZB (r_0.thn.length);cases h;exact yD
end
end Go.Proofs.YtlpkbfjcdaanmaaGreatDoor
