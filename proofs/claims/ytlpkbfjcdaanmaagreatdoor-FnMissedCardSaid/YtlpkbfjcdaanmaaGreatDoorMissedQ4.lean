/- A part of the proof; no conditions. -/
import Derived.Test.YtlpkbfjcdaanmaaGreatDoorMissedQ3
open Bool renaming and_eq_true→A3,false_eq_true→AB,or_eq_true→Ab,not_eq_true→Ak
open ByteArray renaming size_extract→AT
open Int renaming toNat→A7,toNat_natCast→A8,le_refl→AK,toNat_of_nonneg→AP,le_trans→AY
open List renaming getElem?_eq_getElem→A4,replicate→A5,mem_flatMap→A6,getElem?_eq_some_iff→AA,range'→AC,mem_of_getElem?→AD,length_append→AE,mem_append→AF,all_eq_true→AG,eq_nil_of_length_eq_zero→AH,getElem?_eq_none→AJ,getElem_mem→AM,mem_filterMap→AO,mem_map→AQ,length_cons→AR,pairwise_iff_getElem→AS,getElem?_cons_succ→AU,getElem?_cons_zero→AW,getElem?_append_left→AX,any_eq_true→Aa,dropLast_concat_getLast→Ad,mem_filter→Af,foldl_cons→Ag,getElem?_set→Ah,range_eq_range'→Aj,mem_range'_1→Al,map_cons→Am,mem_cons→Aq,all_cons→Ar,getElem?_append_right→As,mem_iff_getElem?→At,append_nil→Au,getElem?_replicate→Aw,length_singleton→Ax,append_of_mem→B3,append_assoc→B4,getElem?_map→B5,foldl_append→B6,take_append_of_le_length→B7,take_length→B8,drop_zero→B9,map_append→BC,map_flatMap→BE,length_map→BF,take_append_drop→BH
open Nat renaming le_refl→A9,zero_le→AN,zero_add→AZ,le_trans→Ac,lt_trichotomy→Ae,and_le_right→BG
open Option renaming bind_some→A0,map_eq_some_iff→AI,map_some→Ay,bind_eq_some_iff→B2,isSome_some→BB
open Option.some renaming inj→AL,injEq→Az
set_option linter.unusedSimpArgs false
set_option linter.unusedVariables false
set_option maxRecDepth 1000000
set_option maxHeartbeats 4000000
namespace Go.Proofs.YtlpkbfjcdaanmaaGreatDoor
open Go.IntKind (i64)
noncomputable section
section
open Classical
theorem ZiN {row:List Int}{i:Nat}(h:i<row.length):row[i]?=some (lvN row i):=by
 unfold lvN;rw [A4 h];rfl
theorem Zun {x:Int}(h1:-1000000<=x) (h2:x<=1000000):i64.wrap x=x:=ZeT yE yE
theorem Zio {k:Nat}(h:k<1000000000):i64.wrap ((k:Int)+1)=((k+1:Nat):Int):=Zk (n:=k+1) yE yE
theorem ZvS (l:List Int) (h:l.length<=1073741824):Zjo l=some l:=Zj _ h
/- what a node depends on -/
theorem Zpt {ρ:Type}{n:Nat}{R:List Zf}{x:Int}{l:List Int}{body:List Bool×List Int×Int->Option ((List Bool×List Int×Int) ⊕ ρ)}(g:List Bool×List Int->ρ)
  (h1:∀s i y,QJ n R x s->i<l.length->l[i]?=some y->(0<=y/\y.toNat<n)->body (s.1,s.2,(i:Int))=some (.inl ((ZfC s y).1,(ZfC s y).2,((i+1:Nat):Int))))
  (h2:∀s,body (s.1,s.2,(l.length:Int))=some (.inr (g s))) (hl:∀y∈l,(0<=y/\y.toNat<n)/\ZbB R x y):
  ∀(b a:List Int) (s:List Bool×List Int),l=a++b->QJ n R x s->iter body (s.1,s.2,(a.length:Int))=some (g (b.foldl ZfC s))
 | [],a,s,e,_=>by
  rw [Au]at e;subst e;exact YI (h2 s)
 |y::b,a,s,e,hI=>by
  have hy:l[a.length]?=some y:=by rw [e];simp
  have my:y∈l:=AD hy;have c:=(AA.1 hy).1;rw [YV (h1 s a.length y hI c hy (hl y my).1)];have:=Zpt g h1 h2 hl b (a++[y]) (ZfC s y) (by rw [e];simp) (Zu8 hI (hl y my).1 (hl y my).2).1;simpa using this
theorem ZoL {b:Zt}(h:Zdx b) (x:Int):∃row,ZdN b x=some row/\row.length=b.nodes.toNat/\∀y:Int,0<=y->(row[y.toNat]?=some true↔ZbB b.reasons x y):=by
 have h0:=h.n0;have h1:=h.n1;have hn:b.nodes.toNat<=24:=by omega
 unfold ZdN;rw [Zj _ ⟨h0,yE⟩];have k:QJ b.nodes.toNat b.reasons x (A5 b.nodes.toNat false,[x]):=⟨yG,[],rfl,yG,fun y _ hy=>by
  by_cases hl:y.toNat<b.nodes.toNat
  .simp [hl]at hy
  .rw [AJ (by simp;omega)]at hy;simp at hy,by simp [Zv6,List.countP_replicate]⟩
 refine ZtH h.ok (fun g d i=>(g,d,(i:Int))) (fun r=>r) ?_ ?_ (b.nodes.toNat+1) _ _ 0 k yG yE (fun j z hj=>by omega)
 .intro g d i z hI hi hz o;have D:=(AA.1 hz).1;have ht:decide ((i:Int)<(d.length:Int))=true:=decide_eq_true yE;simp only[ht,if_true];rw [Y9 (f:=Zho z) (fun _ s=>QJ b.nodes.toNat b.reasons x s/\Zhe (g,d) s) ⟨hI,.refl _⟩]
  .rw [Zio yE]
  .intro j r s mr _ _ hs;obtain ⟨p,q⟩:=hs;obtain ⟨k1,k2,_⟩:=Zu0 h.ok o p mr;refine ⟨?_,k1,q.trans k2⟩;obtain ⟨a,c⟩:=s;obtain ⟨v,hv⟩:=q.more;simp only at hv;have w:c[i]?=some z:=by rw [hv,AX D];exact hz
   have hcl:i<c.length:=(AA.1 w).1;simp only[A8];rw [Zj _ ⟨yE,yE⟩,w,A0];unfold Zho;by_cases e:r.for_=z
   .obtain ⟨f1,f2⟩:=h.few r mr;have e2:(r.for_ != z)=false:=by simp [e]
    rw [if_pos e,e2];simp only[AB,if_false];rw [ZvS _ yE,A0,Zj _ yE];have hd:=Zwu h.ok o mr e;refine Zpt (n:=b.nodes.toNat) (R:=b.reasons) (x:=x) (l:=r.inn++r.outs) (fun s=>Sum.inl s) ?_ ?_ hd (r.inn++r.outs) [] (a,c) rfl p
    .intro s u y hu A hy B;have C:decide ((u:Int)<((r.inn.length+r.outs.length:Nat):Int))=true:=decide_eq_true (by rw [AE]at A;omega);simp only[C,if_true,A8];rw [AE]at A;rw [Zj _ ⟨yE,yE⟩,hy,A0];have m:y.toNat<s.1.length:=by rw [hu.len];exact B.2
     rw [Zj _ ⟨B.1,yE⟩,A4 m,A0,Zio yE];unfold ZfC;obtain ⟨t,t1,_,_,t4⟩:=hu.row;have hlen:s.2.length=t.length+1:=by rw [t1];simp
     by_cases hb:s.1[y.toNat]=true
     .rw [if_pos hb,if_pos (by rw [A4 m,hb])]
     .rw [if_neg hb,if_neg (by rw [A4 m];simpa using hb),Zj _ yE]
    .intro s;have hf:decide ((((r.inn++r.outs).length:Nat):Int)<((r.inn.length+r.outs.length:Nat):Int))=false:=decide_eq_false (by rw [AE];omega);simp only[hf,AB,if_false]
   .have e2:(r.for_ != z)=true:=by simp [e]
    rw [if_neg e,e2,if_pos rfl]
 .intro g d hI;simp only[ZB,AB,if_false]
theorem ZgC {b:Zt}(h:Zdx b):Qx b=some true:=by
 unfold Qx;have h60:=h.len;rw [Znj h.small yE,h.valid,A0,if_pos rfl,Z0 (p:=fun _=>true) (r:=true)]
 .simp
 .intro i r mr;rw [Z0 (p:=fun _=>true) (r:=.inl ())]
  .simp
  .intro j y my;obtain ⟨k1,k2⟩:=h.strat r mr y my;obtain ⟨row,e,hl,hd⟩:=ZoL h y;obtain ⟨⟨f0,f1⟩,_,_⟩:=h.ok r mr;have ey:(y==r.for_)=false:=by simpa using k1
   have a:r.for_.toNat<row.length:=by omega
   have hv:row[r.for_.toNat]=false:=by
    cases hb:row[r.for_.toNat]with
    |false=>rfl
    |true=>exact absurd ((hd r.for_ f0).1 (by rw [A4 a,hb])) k2
   rw [ey];simp only[AB,if_false];rw [e,A0,Zj _ ⟨f0,yE⟩,A4 a,A0,hv];rfl
/- strata -/
theorem ZlY (n i:Nat):lvN (A5 n 0) i=0:=by
 unfold lvN;by_cases hi:i<n
 .simp [hi]
 .rw [AJ (by simp;omega)];rfl
theorem Ztf {b:Zt}(h:Zdx b):Zeb b=some (lvB b):=by
 obtain ⟨hL,hv⟩:=h.lv;have h0:=h.n0;have h1:=h.n1;unfold Zeb;rw [ZgC h,A0,if_pos rfl,Zj _ ⟨h0,yE⟩];generalize hn:b.nodes.toNat=n at *
 have k:∀(body:List Int×Int->Option ((List Int×Int) ⊕ List Int)),(∀row (i:Nat),i<=n->row.length=n->(∀j,0<=lvN row j/\lvN row j<=lvN (lvB b) j)->body (row,(i:Int))=some (.inl (Qb b.reasons row,((i+1:Nat):Int))))->(∀row,body (row,((n+1:Nat):Int))=some (.inr row))->
   ∀d i row,i+d=n+1->row.length=n->(∀j,0<=lvN row j/\lvN row j<=lvN (lvB b) j)->iter body (row,(i:Int))=some (Zts b.reasons d row):=by
  intro body b1 b2 d;induction d with
  |zero=>
   intro i row hi hl hb;obtain rfl:i=n+1:=by omega
   exact YI (b2 row)
  |succ d ih=>
   intro i row hi hl hb;rw [YV (b1 row i yE hl hb)];exact ih (i+1) _ yE (by rw [ZfJ];exact hl) fun j=>⟨AY (hb j).1 (ZbU b.reasons row j),ZdY hL.sol (fun _ h=>h) (fun j=>(hb j).2) j⟩
 rw [<-Zm1 hL (by have:=h.ok;rw [hn]at this;exact this) (n+1) (A5 n 0) yG (fun j=>by rw [ZlY];exact AK _) (fun j=>by rw [ZlY];exact (hv j).1) (by have:=Zu1 n (lvB b) (A5 n 0);omega)];refine k _ ?_ ?_ (n+1) 0 _ yE yG (fun j=>by rw [ZlY];exact ⟨AK _,(hv j).1⟩)
 .intro row i hi hl hb;have ht:decide ((i:Int)<=b.nodes)=true:=decide_eq_true yE;simp only[ht,if_true];rw [Y9 (f:=Qj) (fun _ s=>s.length=n/\∀j,0<=lvN s j/\lvN s j<=lvN (lvB b) j) ⟨hl,hb⟩]
  .rw [Zio yE];rfl
  .intro j r s mr _ _ hs;obtain ⟨c,g⟩:=hs;have hok:=h.ok r mr;rw [hn]at hok;obtain ⟨⟨f0,f1⟩,f2,f3⟩:=hok;refine ⟨?_,by rw [Zdy];exact c,fun j=>⟨AY (g j).1 (ZgZ s r j),Znu hL.sol mr (fun j=>(g j).2) j⟩⟩;have a:∀y∈r.outs,y.toNat≠r.for_.toNat:=fun y my e=>(h.strat r mr y my).1 (by have:=f3 y my;omega);rw [Y9 (f:=fun u y=>u.set r.for_.toNat (mx (lvN u r.for_.toNat) (lvN u y.toNat))) (fun _ u=>u.length=n/\∀j,j≠r.for_.toNat->lvN u j=lvN s j) ⟨c,fun _ _=>rfl⟩]
   .rw [Y9 (f:=fun u y=>u.set r.for_.toNat (mx (lvN u r.for_.toNat) (lvN u y.toNat+1))) (fun _ u=>u.length=n/\∀j,j≠r.for_.toNat->lvN u j=lvN s j)]
    .rw [Ztu yE a]
    .have e:=Zqx (row:=s) (f:=r.for_.toNat) yE r.inn (lvN s r.for_.toNat) (AK _);rw [Zw9 yE]at e;rw [e];exact ⟨by simp [c],fun j hj=>by rw [ZaF,if_neg fun hh=>hj hh.1]⟩
    .intro j y u my _ _ hu;obtain ⟨y0,y1⟩:=f3 y my;have hy:=a y my;have hyv:=hu.2 y.toNat hy;have hb1:=g y.toNat;have hb2:=hv y.toNat;refine ⟨?_,by simp [hu.1],fun j hj=>by rw [ZaF,if_neg fun hh=>hj hh.1];exact hu.2 j hj⟩;rw [Zj _ ⟨f0,yE⟩,ZiN yE,A0,Zj _ ⟨y0,yE⟩,ZiN yE,A0,Zun yE yE];rfl
   .intro j y u my _ _ hu;obtain ⟨y0,y1⟩:=f2 y my;refine ⟨?_,by simp [hu.1],fun j hj=>by rw [ZaF,if_neg fun hh=>hj hh.1];exact hu.2 j hj⟩;rw [Zj _ ⟨f0,yE⟩,ZiN yE,A0,Zj _ ⟨y0,yE⟩,ZiN yE,A0];rfl
 .intro row;have hf:decide (((n+1:Nat):Int)<=b.nodes)=false:=decide_eq_false yE;simp only[hf,AB,if_false]
theorem ZvK {b:Zt}(h:Zdx b):ZgM b=some (lvB b):=by
 obtain ⟨hL,hv⟩:=h.lv;have h0:=h.n0;have h1:=h.n1;unfold ZgM;rw [Zj _ ⟨h0,yE⟩];refine ZsG hL h.ok (fun row m=>(row,m)) (fun row=>row) ?_ ?_ b.nodes.toNat _ yG (fun j=>by rw [ZlY];exact ⟨AK _,(hv j).1⟩) (Zu1 _ _ _)
 .intro row hl hb;simp only[if_true];rw [Y9 (f:=Zdf) (fun _ s=>s.1.length=b.nodes.toNat/\∀j,0<=lvN s.1 j/\lvN s.1 j<=lvN (lvB b) j) ⟨hl,hb⟩];intro j r s mr _ _ hs;obtain ⟨c,a⟩:=hs;obtain ⟨⟨f0,f1⟩,f2,f3⟩:=h.ok r mr;obtain ⟨row,m⟩:=s;simp only at c a;refine ⟨?_,?_⟩
  .dsimp only;rw [Zj _ ⟨f0,yE⟩,ZiN yE,A0];rw [ZiU (f:=fun u y=>mx u (lvN row y.toNat)) fun j y u my=>by
    obtain ⟨y0,y1⟩:=f2 y my;rw [Zj _ ⟨y0,yE⟩,ZiN yE,A0];rfl]
   rw [ZiU (f:=fun u y=>mx u (lvN row y.toNat+1)) fun j y u my=>by
    obtain ⟨y0,y1⟩:=f3 y my;have hb1:=a y.toNat;have hb2:=hv y.toNat;rw [Zj _ ⟨y0,yE⟩,ZiN yE,A0,Zun yE yE];rfl]
   show (if decide (lvN row r.for_.toNat<Zjk row r)=true then some (Sum.inl (row.set r.for_.toNat (Zjk row r),true)) else some (Sum.inl (row,m)))=some (Sum.inl (Zdf (row,m) r))
   unfold Zdf;by_cases hc:lvN row r.for_.toNat<Zjk row r
   .rw [if_pos (decide_eq_true hc),if_pos hc];rfl
   .rw [if_neg (by simpa using hc),if_neg hc]
  .unfold Zdf;by_cases hc:lvN row r.for_.toNat<Zjk row r
   .rw [if_pos hc];exact ⟨by rw [Zdy];exact c,fun j=>⟨AY (a j).1 (ZgZ row r j),Znu hL.sol mr (fun j=>(a j).2) j⟩⟩
   .rw [if_neg hc];exact ⟨c,a⟩
 .intro row;rfl
end
section
open Classical
theorem Zu5 {n k:Nat}{row:List Int}(h:RIn n row k) {y:Int}(h0:0<=y) (hy:y.toNat<n):atI row y=some (rdN row y)/\row[y.toNat]?=some (rdN row y):=by
 obtain ⟨v,hv,_⟩:=h.val y.toNat hy;have e:row[y.toNat]?=some (rdN row y):=by unfold rdN;rw [hv];rfl
 refine ⟨?_,e⟩;unfold atI;rw [if_pos h0,e]
def Zqy (row:List Int) (k:Nat) (y:Int):Bool:=decide (0<=rdN row y/\rdN row y<(k:Int))
def Zqv (row:List Int) (y:Int):Bool:=decide (rdN row y<0)
theorem Zrq {ρ:Type}{n k:Nat}{row:List Int}(h:RIn n row k) {l:List Int}(hl:∀y∈l,0<=y/\y.toNat<n) {fin:Unit->Option ρ}{z:ρ}{body:Nat->Int->Unit->Option (Unit ⊕ ρ)}
  (hb:∀i y u,body i y u=(atI row y).bind fun x=>if decide (x<0)=true then some (.inr z) else if decide ((k:Int)<=x)=true then some (.inr z) else some (.inl ())):forL body fin l 0 ()=if l.all (Zqy row k)=true then fin () else some z:=by
 rw [Z0 (p:=Zqy row k) (r:=z)];intro i y my;obtain ⟨y0,y1⟩:=hl y my;rw [hb,(Zu5 h y0 y1).1,A0];unfold Zqy;by_cases h1:rdN row y<0
 .rw [if_pos (decide_eq_true h1),decide_eq_false yE];rfl
 .rw [if_neg (by simpa using h1)];by_cases h2:(k:Int)<=rdN row y
  .rw [if_pos (decide_eq_true h2),decide_eq_false yE];rfl
  .rw [if_neg (by simpa using h2),decide_eq_true yE];rfl
theorem Zrt {ρ:Type}{n k:Nat}{row:List Int}(h:RIn n row k) {l:List Int}(hl:∀y∈l,0<=y/\y.toNat<n) {fin:Unit->Option ρ}{z:ρ}{body:Nat->Int->Unit->Option (Unit ⊕ ρ)}
  (hb:∀i y u,body i y u=(atI row y).bind fun x=>if decide (0<=x)=true then some (.inr z) else some (.inl ())):forL body fin l 0 ()=if l.all (Zqv row)=true then fin () else some z:=by
 rw [Z0 (p:=Zqv row) (r:=z)];intro i y my;obtain ⟨y0,y1⟩:=hl y my;rw [hb,(Zu5 h y0 y1).1,A0];unfold Zqv;by_cases h1:0<=rdN row y
 .rw [if_pos (decide_eq_true h1),decide_eq_false yE];rfl
 .rw [if_neg (by simpa using h1),decide_eq_true yE];rfl
theorem ZfW {row:List Int}{k:Nat}{r:Zf}:(r.inn.all (Zqy row k)=true/\r.outs.all (Zqv row)=true)↔Zkb row k r:=by
 simp only[AG,Zqy,Zqv,decide_eq_true_eq];exact Iff.rfl
theorem Zqr {n k:Nat}{row:List Int}(h:RIn n row k) {r:Zf}(hr:OkN n r):Zbq r row (k:Int)=some (decide (Zkb row k r)):=by
 unfold Zbq;rw [Zrq h hr.2.1 fun i y u=>rfl,Zrt h hr.2.2 fun i y u=>rfl];by_cases h1:r.inn.all (Zqy row k)=true
 .rw [if_pos h1];by_cases h2:r.outs.all (Zqv row)=true
  .rw [if_pos h2,decide_eq_true (ZfW.1 ⟨h1,h2⟩)]
  .rw [if_neg h2,decide_eq_false fun h=>h2 (ZfW.2 h).2]
 .rw [if_neg h1,decide_eq_false fun h=>h1 (ZfW.2 h).1]
theorem Zqw {n k:Nat}{row:List Int}(h:RIn n row k) {l:List Int}(hl:∀y∈l,0<=y/\y.toNat<n):Zc5 l row (k:Int)=some (l.all (Zqy row k)):=by
 unfold Zc5;rw [Zrq h hl fun i y u=>rfl];cases l.all (Zqy row k)<;>rfl
theorem Zt5 {n k:Nat}{row:List Int}(h:RIn n row k) {l:List Int}(hl:∀y∈l,0<=y/\y.toNat<n):ZfV l row=some (l.all (Zqv row)):=by
 unfold ZfV;rw [Zrt h hl fun i y u=>rfl];cases l.all (Zqv row)<;>rfl
/- the program's rounds -/
theorem Zw0 {n:Nat}{L:List Int}{ρ:Type}{body:List Int×Int×Int->Option ((List Int×Int×Int) ⊕ ρ)}{r:ρ}(hv:∀i,0<=lvN L i/\lvN L i<=(n:Int))
  (h1:∀k row u,k<n->row.length=n->body (row,(k:Int),u)=some (.inl (row.set k (-1),((k+1:Nat):Int),mx u (lvN L k))))
  (h2:∀u,0<=u->u<=(n:Int)->(∀i,i<n->lvN L i<=u)->body (A5 n (-1),(n:Int),u)=some (.inr r)):
  ∀m k row u,k+m=n->row.length=n->(∀i,i<k->row[i]?=some (-1))->0<=u->u<=(n:Int)->(∀i,i<k->lvN L i<=u)->iter body (row,(k:Int),u)=some r:=by
 intro m;induction m with
 |zero=>
  intro k row u hk hl hr h0 hu hm;obtain rfl:k=n:=by omega
  have:row=A5 k (-1):=by
   apply List.ext_getElem?;intro i;by_cases hi:i<k
   .rw [hr i hi];simp [hi]
   .rw [AJ yE,AJ (by simp;omega)]
  rw [this];exact YI (h2 u h0 hu hm)
 |succ m ih=>
  intro k row u hk hl hr h0 hu hm;rw [YV (h1 k row u yE hl)];have hx:=Zx8 u (lvN L k);refine ih (k+1) _ _ yE (by simp [hl]) (fun i hi=>?_) yE (ZzB hu (hv k).2) fun i hi=>?_
  .rw [Ah];by_cases e:k=i
   .rw [if_pos e,if_pos yE]
   .rw [if_neg e];exact hr i yE
  .by_cases e:i=k
   .rw [e];exact hx.2
   .exact AY (hm i yE) hx.1
theorem Zzj {b:Zt}(h:Zdx b) {t:Nat}(ht:∀i,i<b.nodes.toNat->lvN (lvB b) i<=(t:Int)):(QN b.reasons (lvB b) b.nodes.toNat (AC 0 (t+1)) (A5 b.nodes.toNat (-1),0)).1=rdB b:=by
 unfold rdB;rw [<-Aj,ZrQ (a:=t+1) (b:=b.nodes.toNat)]
 .intro r mr;have:=ht r.for_.toNat (h.ok r mr).1.2;omega
 .intro r mr;have:=(h.lv.2 r.for_.toNat).2;have:=(h.ok r mr).1.2;omega
theorem Zo4 {ρ:Type}{n k:Nat}{row:List Int}(hl:row.length=n) {l:List Int}(hx:∀x∈l,0<=x/\x.toNat<n) {fin:List Int->Option ρ}{body:Nat->Int->List Int->Option (List Int ⊕ ρ)}
  (hb:∀i x s,body i x s=chk (0<=x/\x<(s.length:Int)) ((s[A7 x]?).bind fun _=>some (.inl (List.set s (A7 x) (k:Int))))):forL body fin l 0 row=fin (ZgH row l (k:Int)):=by
 rw [Y9 (f:=fun s x=>s.set x.toNat (k:Int)) (fun _ s=>s.length=n) hl]
 .rfl
 .intro j x s mx _ _ hs;obtain ⟨x0,x1⟩:=hx x mx;refine ⟨?_,by simp [hs]⟩;rw [hb,Zj _ ⟨x0,yE⟩,A4 (show x.toNat<s.length by omega),A0]
theorem ZpW {n:Nat}{R:List Zf}(hR:∀r∈R,OkN n r) {L:List Int}{s:Int}{row:List Int}{k:Nat}:∀x∈Qa R L s row k,0<=x/\x.toNat<n:=fun x mx=>by
 obtain ⟨r,mr,rfl,_⟩:=Zh6.1 mx;exact (hR r mr).1
theorem Zna {b:Zt}(h:Zdx b) {ρ:Type}{row:List Int}{k s:Nat}(hI:RIn b.nodes.toNat row k) {fin:List Int->Option ρ}{body:Nat->Zf->List Int->Option (List Int ⊕ ρ)}
  (hb:∀i r a,body i r a=chk (0<=r.for_/\r.for_<(((lvB b).length:Nat):Int)) (((lvB b)[(A7 r.for_)]?).bind fun c=>
         if (c==(s:Int))=true then
          chk (r.for_<(row.length:Int)) <|
          (row[(A7 r.for_)]?).bind fun d=>
          if (decide (d<0))=true then
           (Zbq r row (k:Int)).bind fun e=>
           if e=true then
            chk (a.length+1<=1073741824) <|
            some (.inl (a++[r.for_]))
           else
            some (.inl a)
          else
           some (.inl a)
         else
          some (.inl a))):forL body fin b.reasons 0 []=fin (Qa b.reasons (lvB b) (s:Int) row k):=by
 have hLl:=h.lv.1.len;have h60:=h.len;rw [YT (g:=fun r=>if lvN (lvB b) r.for_.toNat=(s:Int)/\rdN row r.for_<0/\Zkb row k r then some r.for_ else none)]
 .rfl
 .intro j r a mr ha;simp only[List.length_nil,AZ]at ha;have hok:=h.ok r mr;obtain ⟨f0,f1⟩:=hok.1;rw [hb,Zj _ ⟨f0,yE⟩,ZiN yE,A0];by_cases c1:lvN (lvB b) r.for_.toNat=(s:Int)
  .rw [if_pos (by simpa using c1),Zj _ (by rw [hI.len];omega),(Zu5 hI f0 f1).2,A0];by_cases c2:rdN row r.for_<0
   .rw [if_pos (decide_eq_true c2),Zqr hI hok,A0];by_cases c3:Zkb row k r
    .rw [if_pos (decide_eq_true c3),Zj _ yE,if_pos ⟨c1,c2,c3⟩];rfl
    .rw [if_neg (by simpa using c3),if_neg fun hh=>c3 hh.2.2];simp
   .rw [if_neg (by simpa using c2),if_neg fun hh=>c2 hh.2.1];simp
  .rw [if_neg (by simpa using c1),if_neg fun hh=>c1 hh.1];simp
theorem ZvP {b:Zt}(h:Zdx b):ZhI b=some (rdB b):=by
 obtain ⟨hL,hv⟩:=h.lv;have h0:=h.n0;have h1:=h.n1;have h60:=h.len;unfold ZhI;rw [ZvK h,A0,Zj _ ⟨h0,yE⟩];have a:∀i,0<=lvN (lvB b) i/\lvN (lvB b) i<=(b.nodes.toNat:Int):=fun i=>by have:=hv i;omega
 refine Zw0 (n:=b.nodes.toNat) (L:=lvB b) a ?_ ?_ b.nodes.toNat 0 _ 0 yE yG (fun i hi=>by omega) (AK _) yE (fun i hi=>by omega)
 .intro k row u hk hl;have ht:decide ((k:Int)<(b.nodes.toNat:Int))=true:=decide_eq_true yE;simp only[ht,if_true,A8];have:=hL.len;rw [Zj _ ⟨yE,yE⟩,A4 (show k<row.length by omega),A0,Zj _ yE,ZiN yE,A0,Zio yE];rfl
 .intro u u0 un um;simp only[ZB,AB,if_false];obtain ⟨t,rfl⟩:∃t:Nat,u=(t:Int):=⟨u.toNat,yE⟩
  rw [<-Zzj h um];refine ZsU (top:=t) h.ok (fun row k s=>(row,(k:Int),(s:Int))) (fun row=>Sum.inr row) ?_ ?_ ?_ (t+1) 0 _ 0 yE (ZkE _)
  .intro row k s hI hs hc;have ht:decide ((s:Int)<=(t:Int))=true:=decide_eq_true yE;simp only[ht,if_true];rw [Zna h hI fun i r c=>rfl];have d:((((Qa b.reasons (lvB b) (s:Int) row k).length:Nat):Int)==0)=false:=by
    have:(Qa b.reasons (lvB b) (s:Int) row k).length≠0:=fun e=>hc (AH e);simpa using this
   simp only[d,AB,if_false];rw [Zo4 hI.len (ZpW h.ok) fun i x s=>rfl,Zio (by have:=hI.few;omega)]
  .intro row k s hI hs hc;have ht:decide ((s:Int)<=(t:Int))=true:=decide_eq_true yE;simp only[ht,if_true];rw [Zna h hI fun i r c=>rfl,hc,Zio yE];rfl
  .intro row k hI;have hf:decide (((t+1:Nat):Int)<=(t:Int))=false:=decide_eq_false yE;simp only[hf,AB,if_false]
/- the reference's rounds -/
def Zkk (n:Nat) (R:List Zf) (L:List Int) (s:Int) (row:List Int) (k x:Nat):Option Int:=if lvN L x=s/\rdN row (x:Int)<0/\R.any (fun r=>decide (r.for_=(x:Int)/\Zkb row k r))=true then some (x:Int) else none
theorem ZoR {n:Nat}{R:List Zf}(hR:∀r∈R,OkN n r) {L:List Int}{s:Int}{row:List Int}{k:Nat}{x:Int}:x∈(AC 0 n).filterMap (Zkk n R L s row k)↔x∈Qa R L s row k:=by
 rw [Zh6,AO];constructor
 .rintro ⟨i,mi,hi⟩;unfold Zkk at hi;split at hi
  .rename_i hc;obtain rfl:=AL hi;obtain ⟨h1,h2,h3⟩:=hc;obtain ⟨r,mr,hr⟩:=Aa.1 h3;rw [decide_eq_true_iff]at hr;exact ⟨r,mr,hr.1,by simpa using h1,h2,hr.2⟩
  .simp at hi
 .rintro ⟨r,mr,rfl,h1,h2,h3⟩;obtain ⟨f0,f1⟩:=(hR r mr).1;have e:(r.for_.toNat:Int)=r.for_:=AP f0;refine ⟨r.for_.toNat,List.mem_range'.2 ⟨r.for_.toNat,f1,yE⟩,?_⟩;unfold Zkk;rw [if_pos ⟨h1,by rw [e];exact h2,Aa.2 ⟨r,mr,by rw [decide_eq_true_iff,e];exact ⟨rfl,h3⟩⟩⟩,e]
theorem Zln {b:Zt}(h:Zdx b) {row:List Int}{k s:Nat}(hI:RIn b.nodes.toNat row k):Zce b (lvB b) (s:Int) row (k:Int)=some ((AC 0 b.nodes.toNat).filterMap (Zkk b.nodes.toNat b.reasons (lvB b) (s:Int) row k)):=by
 obtain ⟨hL,hv⟩:=h.lv;have h0:=h.n0;have h1:=h.n1;unfold Zce;have c:∀(body:List Int×Int->Option ((List Int×Int) ⊕ List Int)) (G:Nat->Option Int),(∀a (i:Nat),i<b.nodes.toNat->a.length<=24->body (a,(i:Int))=some (.inl (a++(G i).toList,((i+1:Nat):Int))))->(∀a,body (a,(b.nodes.toNat:Int))=some (.inr a))->
   ∀d i a,i+d=b.nodes.toNat->a.length<=i->iter body (a,(i:Int))=some (a++(AC i d).filterMap G):=by
  intro body G b1 b2 d;induction d with
  |zero=>
   intro i a hi ha;obtain rfl:i=b.nodes.toNat:=by omega
   rw [YI (b2 a)];simp
  |succ d ih=>
   intro i a hi ha;rw [YV (b1 a i yE yE),ih (i+1) _ yE (by rw [AE];cases G i<;>simp<;>omega),List.range'_succ,List.filterMap_cons]
   cases G i<;>simp
 refine c _ (Zkk b.nodes.toNat b.reasons (lvB b) (s:Int) row k) ?_ ?_ b.nodes.toNat 0 [] yE yG
 .intro a i hi ha;have ht:decide ((i:Int)<b.nodes)=true:=decide_eq_true yE;have hLl:=hL.len;have e1:atI (lvB b) (i:Int)=some (lvN (lvB b) i):=by rw [Za1];exact ZiN yE
  have e2:=(Zu5 hI (y:=(i:Int)) yE (by simpa using hi)).1;simp only[ht,if_true];rw [e1,A0,e2,Zio yE];unfold Zkk;by_cases c1:lvN (lvB b) i=(s:Int)
  .have d1:(lvN (lvB b) i != (s:Int))=false:=by simp [c1]
   simp only[d1,AB,if_false,A0];by_cases c2:rdN row (i:Int)<0
   .have d2:decide (0<=rdN row (i:Int))=false:=decide_eq_false yE;simp only[d2,AB,if_false];rw [ZcX (p:=fun r=>decide (r.for_=(i:Int)/\Zkb row k r)) (r:=.inl (a++[(i:Int)],((i+1:Nat):Int)))]
    .by_cases c3:b.reasons.any (fun r=>decide (r.for_=(i:Int)/\Zkb row k r))=true
     .rw [if_pos c3,if_pos ⟨c1,c2,c3⟩];rfl
     .rw [if_neg c3,if_neg fun hh=>c3 hh.2.2];simp
    .intro j r mr;obtain ⟨f1,f2,f3⟩:=h.ok r mr;by_cases c3:r.for_=(i:Int)
     .rw [if_pos (by simpa using c3),Zqw hI f2,A0];by_cases c4:r.inn.all (Zqy row k)=true
      .rw [if_pos c4,Zt5 hI f3,A0];by_cases c5:r.outs.all (Zqv row)=true
       .rw [if_pos c5,Zj _ yE,decide_eq_true ⟨c3,ZfW.1 ⟨c4,c5⟩⟩];rfl
       .rw [if_neg c5,decide_eq_false fun hh=>c5 (ZfW.2 hh.2).2];rfl
      .rw [if_neg c4,decide_eq_false fun hh=>c4 (ZfW.2 hh.2).1];rfl
     .rw [if_neg (by simpa using c3),decide_eq_false fun hh=>c3 hh.1];rfl
   .have d2:decide (0<=rdN row (i:Int))=true:=decide_eq_true yE;simp only[d2,if_true];rw [if_neg fun hh=>c2 hh.2.1];simp
  .have d1:(lvN (lvB b) i != (s:Int))=true:=by simp [c1]
   simp only[d1,if_true];rw [if_neg fun hh=>c1 hh.1];simp
 .intro a;have hf:decide ((b.nodes.toNat:Int)<b.nodes)=false:=decide_eq_false yE;simp only[hf,AB,if_false]
theorem ZsV {b:Zt}(h:Zdx b):Zee b=some (rdB b):=by
 have h0:=h.n0;have h1:=h.n1;unfold Zee;rw [ZgC h,A0,if_pos rfl,Ztf h,A0];have c:∀(body:List Int×Int->Option ((List Int×Int) ⊕ List Int)),(∀(i:Nat),i<b.nodes.toNat->body (A5 i (-1),(i:Int))=some (.inl (A5 i (-1)++[-1],((i+1:Nat):Int))))->body (A5 b.nodes.toNat (-1),(b.nodes.toNat:Int))=some (.inr (rdB b))->
   ∀d i,i+d=b.nodes.toNat->iter body (A5 i (-1),(i:Int))=some (rdB b):=by
  intro body b1 b2 d;induction d with
  |zero=>
   intro i hi;obtain rfl:i=b.nodes.toNat:=by omega
   exact YI b2
  |succ d ih=>
   intro i hi;rw [YV (b1 i yE),<-ih (i+1) yE,List.replicate_succ']
 refine c _ ?_ ?_ b.nodes.toNat 0 yE
 .intro i hi;have ht:decide ((i:Int)<b.nodes)=true:=decide_eq_true yE;simp only[ht,if_true];rw [Zj _ (by simp;omega),Zio yE]
 .have hf:decide ((b.nodes.toNat:Int)<b.nodes)=false:=decide_eq_false yE;simp only[hf,AB,if_false];have a:∀(body:List Int×Int×Int->Option ((List Int×Int×Int) ⊕ ((List Int×Int) ⊕ List Int))),(∀row (k s:Nat),RIn b.nodes.toNat row k->s<b.nodes.toNat->body (row,(k:Int),(s:Int))=some (.inl ((QY b.reasons (lvB b) (s:Int) b.nodes.toNat row k).1,(((QY b.reasons (lvB b) (s:Int) b.nodes.toNat row k).2:Nat):Int),((s+1:Nat):Int))))->(∀row (k:Nat),body (row,(k:Int),(b.nodes.toNat:Int))=some (.inr (.inr row)))->
    ∀d s row k,s+d=b.nodes.toNat->RIn b.nodes.toNat row k->iter body (row,(k:Int),(s:Int))=some (.inr (QN b.reasons (lvB b) b.nodes.toNat (AC s d) (row,k)).1):=by
   intro body b1 b2 d;induction d with
   |zero=>
    intro s row k hs hI;obtain rfl:s=b.nodes.toNat:=by omega
    exact YI (b2 row k)
   |succ d ih=>
    intro s row k hs hI;rw [YV (b1 row k s hI yE)];exact ih (s+1) _ _ yE (Zgj h.ok b.nodes.toNat row k hI (by have:=hI.few;omega)).1
  have e:rdB b=(QN b.reasons (lvB b) b.nodes.toNat (AC 0 b.nodes.toNat) (A5 b.nodes.toNat (-1),0)).1:=by unfold rdB;rw [Aj]
  rw [e];refine a _ ?_ ?_ b.nodes.toNat 0 _ 0 yE (ZkE _)
  .intro row k s hI hs;have ht:decide ((s:Int)<b.nodes)=true:=decide_eq_true yE;simp only[ht,if_true];rw [Zln h hI,A0,Zio yE];refine Zt7 (s:=(s:Int)) h.ok (fun row k l=>(row,l,(k:Int))) (fun row k=>Sum.inl (row,(k:Int),((s+1:Nat):Int))) (fun row k=>(AC 0 b.nodes.toNat).filterMap (Zkk b.nodes.toNat b.reasons (lvB b) (s:Int) row k)) (fun row k x _=>ZoR h.ok) ?_ ?_ b.nodes.toNat row k hI (by have:=hI.few;omega)
   .intro row k hI hc hN;have f:decide (0<((((AC 0 b.nodes.toNat).filterMap (Zkk b.nodes.toNat b.reasons (lvB b) (s:Int) row k)).length:Nat):Int))=true:=by
     have:((AC 0 b.nodes.toNat).filterMap (Zkk b.nodes.toNat b.reasons (lvB b) (s:Int) row k)).length≠0:=fun e=>hc (AH e);exact decide_eq_true yE
    simp only[f,if_true];rw [Zo4 hI.len (fun x mx=>ZpW h.ok x (ZoR h.ok |>.1 mx)) fun i x s=>rfl,Zio (by have:=hI.few;omega),Zln h hN,A0]
   .intro row k hI;rfl
  .intro row k;simp only[hf,AB,if_false]
end
section
open Classical
def ZI4 {α:Type} (p:α->Bool):List α->Nat->Int
 | [],_=>-1
 |x::l,i=>if p x=true then (i:Int) else ZI4 p l (i+1)
theorem ZJS {α:Type}{p:α->Bool}:∀{l:List α}{i:Nat},0<=ZI4 p l i->∃j x,ZI4 p l i=((i+j:Nat):Int)/\l[j]?=some x/\p x=true
 | [],_,h=>by simp [ZI4]at h
 |x::l,i,h=>by
  by_cases hp:p x=true
  .exact ⟨0,x,by simp [ZI4,hp],rfl,hp⟩
  .rw [ZI4,if_neg hp]at h ⊢;obtain ⟨j,y,h1,h2,h3⟩:=ZJS h;exact ⟨j+1,y,by rw [h1];omega,by simpa using h2,h3⟩
theorem ZJL {α:Type}{p:α->Bool}:∀{l:List α}{i:Nat},ZI4 p l i=-1\/0<=ZI4 p l i
 | [],_=>.inl rfl
 |x::l,i=>by
  by_cases hp:p x=true
  .right;rw [ZI4,if_pos hp];omega
  .rw [ZI4,if_neg hp];exact ZJL
theorem ZJq {α σ:Type}{p:α->Bool}{s:σ}{body:Nat->α->σ->Option (σ ⊕ Int)}{fin:σ->Option Int}(hf:fin s=some (-1)):∀{l:List α}{i:Nat},(∀i x,x∈l->body i x s=some (bif p x then .inr (i:Int) else .inl s))->forL body fin l i s=some (ZI4 p l i)
 | [],_,_=>by rw [ZnV,hf];rfl
 |x::l,i,h=>by
  have hx:=h i x yG;by_cases hp:p x=true
  .rw [hp]at hx;rw [YF hx,ZI4,if_pos hp]
  .rw [Ak]at hp;rw [hp]at hx;rw [Z4 hx,ZI4,if_neg (by simp [hp])];exact ZJq hf (fun i y hy=>h i y (by simp [hy]))
/- the same as S22's for any row of the right length (its numbers may be any) -/
theorem ZLs {n:Nat}{row:List Int}(h:row.length=n) {y:Int}(h0:0<=y) (hy:y.toNat<n):atI row y=some (rdN row y):=by
 obtain ⟨v,hv⟩:∃v,row[y.toNat]?=some v:=⟨_,A4 yE⟩
 unfold atI rdN;rw [if_pos h0,hv];rfl
theorem ZLc {ρ:Type}{n k:Nat}{row:List Int}(h:row.length=n) {l:List Int}(hl:∀y∈l,0<=y/\y.toNat<n) {fin:Unit->Option ρ}{z:ρ}{body:Nat->Int->Unit->Option (Unit ⊕ ρ)}
  (hb:∀i y u,body i y u=(atI row y).bind fun x=>if decide (x<0)=true then some (.inr z) else if decide ((k:Int)<=x)=true then some (.inr z) else some (.inl ())):forL body fin l 0 ()=if l.all (Zqy row k)=true then fin () else some z:=by
 rw [Z0 (p:=Zqy row k) (r:=z)];intro i y my;obtain ⟨y0,y1⟩:=hl y my;rw [hb,ZLs h y0 y1,A0];unfold Zqy;by_cases h1:rdN row y<0
 .rw [if_pos (decide_eq_true h1),decide_eq_false yE];rfl
 .rw [if_neg (by simpa using h1)];by_cases h2:(k:Int)<=rdN row y
  .rw [if_pos (decide_eq_true h2),decide_eq_false yE];rfl
  .rw [if_neg (by simpa using h2),decide_eq_true yE];rfl
theorem ZK9 {ρ:Type}{n:Nat}{row:List Int}(h:row.length=n) {l:List Int}(hl:∀y∈l,0<=y/\y.toNat<n) {fin:Unit->Option ρ}{z:ρ}{body:Nat->Int->Unit->Option (Unit ⊕ ρ)}
  (hb:∀i y u,body i y u=(atI row y).bind fun x=>if decide (0<=x)=true then some (.inr z) else some (.inl ())):forL body fin l 0 ()=if l.all (Zqv row)=true then fin () else some z:=by
 rw [Z0 (p:=Zqv row) (r:=z)];intro i y my;obtain ⟨y0,y1⟩:=hl y my;rw [hb,ZLs h y0 y1,A0];unfold Zqv;by_cases h1:0<=rdN row y
 .rw [if_pos (decide_eq_true h1),decide_eq_false yE];rfl
 .rw [if_neg (by simpa using h1),decide_eq_true yE];rfl
theorem ZLn {n k:Nat}{row:List Int}(h:row.length=n) {r:Zf}(hr:OkN n r):Zbq r row (k:Int)=some (decide (Zkb row k r)):=by
 unfold Zbq;rw [ZLc h hr.2.1 fun i y u=>rfl,ZK9 h hr.2.2 fun i y u=>rfl];by_cases h1:r.inn.all (Zqy row k)=true
 .rw [if_pos h1];by_cases h2:r.outs.all (Zqv row)=true
  .rw [if_pos h2,decide_eq_true (ZfW.1 ⟨h1,h2⟩)]
  .rw [if_neg h2,decide_eq_false fun h=>h2 (ZfW.2 h).2]
 .rw [if_neg h1,decide_eq_false fun h=>h1 (ZfW.2 h).1]
theorem ZLj {n k:Nat}{row:List Int}(h:row.length=n) {l:List Int}(hl:∀y∈l,0<=y/\y.toNat<n):Zc5 l row (k:Int)=some (l.all (Zqy row k)):=by
 unfold Zc5;rw [ZLc h hl fun i y u=>rfl];cases l.all (Zqy row k)<;>rfl
theorem ZLO {n:Nat}{row:List Int}(h:row.length=n) {l:List Int}(hl:∀y∈l,0<=y/\y.toNat<n):ZfV l row=some (l.all (Zqv row)):=by
 unfold ZfV;rw [ZK9 h hl fun i y u=>rfl];cases l.all (Zqv row)<;>rfl
def ZLv (b:Zt) (s:Int):List Int:=((b.reasons[s.toNat]?).map (·.inn)).getD []
def ZMh (b:Zt) (s:Int):Int:=((b.reasons[s.toNat]?).map (·.for_)).getD 0
def ZKH (b:Zt) (x:Int) (r:Zf):Bool:=decide (r.for_=x/\Zkb (rdB b) (rdN (rdB b) x).toNat r)
def ZI2 (b:Zt) (x:Int):Int:=if 0<=x/\x<b.nodes/\0<=rdN (rdB b) x then ZI4 (ZKH b x) b.reasons 0 else -1
theorem ZJA {b:Zt}{x:Int}(h:0<=ZI2 b x):0<=x/\x<b.nodes/\0<=rdN (rdB b) x/\∃r,b.reasons[(ZI2 b x).toNat]?=some r/\r.for_=x/\Zkb (rdB b) (rdN (rdB b) x).toNat r:=by
 unfold ZI2 at h ⊢;by_cases hc:0<=x/\x<b.nodes/\0<=rdN (rdB b) x
 .rw [if_pos hc]at h ⊢;obtain ⟨j,r,h1,h2,h3⟩:=ZJS h;refine ⟨hc.1,hc.2.1,hc.2.2,r,?_,of_decide_eq_true h3⟩;rw [h1];simpa using h2
 .rw [if_neg hc]at h;omega
theorem ZLz {b:Zt}{x:Int}(h:0<=ZI2 b x):∀y∈ZLv b (ZI2 b x),(rdN (rdB b) y).toNat<(rdN (rdB b) x).toNat:=by
 obtain ⟨_,_,h0,r,h1,_,h2⟩:=ZJA h;intro y hy;unfold ZLv at hy;rw [h1]at hy;have:=h2.1 y (by simpa using hy);omega
theorem ZL7 {b:Zt}{x:Int}(h:0<=ZI2 b x):ZMh b (ZI2 b x)=x:=by
 obtain ⟨_,_,h0,r,h1,h2,_⟩:=ZJA h;unfold ZMh;rw [h1];simpa using h2
theorem ZKF {b:Zt}(h:Zdx b) {r:Zf}(mr:r∈b.reasons) {x:Int}(h0:0<=rdN (rdB b) x):Zbq r (rdB b) (rdN (rdB b) x)=some (decide (Zkb (rdB b) (rdN (rdB b) x).toNat r)):=by
 have e:(((rdN (rdB b) x).toNat:Nat):Int)=rdN (rdB b) x:=by omega
 have:=ZLn (k:=(rdN (rdB b) x).toNat) h.rd (h.ok r mr)
 rwa [e]at this
theorem ZLw {b:Zt}(h:Zdx b) {r:Zf}(mr:r∈b.reasons) {x:Int}(h0:0<=rdN (rdB b) x):Zc5 r.inn (rdB b) (rdN (rdB b) x)=some (r.inn.all (Zqy (rdB b) (rdN (rdB b) x).toNat)):=by
 have e:(((rdN (rdB b) x).toNat:Nat):Int)=rdN (rdB b) x:=by omega
 have:=ZLj (k:=(rdN (rdB b) x).toNat) h.rd (h.ok r mr).2.1
 rwa [e]at this
theorem ZL6 {b:Zt}(h:Zdx b) {r:Zf}(mr:r∈b.reasons):ZfV r.outs (rdB b)=some (r.outs.all (Zqv (rdB b))):=ZLO h.rd (h.ok r mr).2.2
def ZKj (b:Zt) (n:Nat) (x:Int) (l:List Int):Option (List Int):=ZJI (ZI2 b) (ZLv b) n x l
theorem ZJ7 (b:Zt) (n:Nat) (x:Int) (l:List Int) (h:(rdN (rdB b) x).toNat<n):
  ∃r,ZKj b n x l=some r/\ZJo (ZI2 b) (ZLv b) (fun y=>(rdN (rdB b) y).toNat) ((rdN (rdB b) x).toNat+1) l r/\(0<=ZI2 b x->ZI2 b x∈r)/\(0<=ZI2 b x->ZI2 b x∉l->∃t,r=t++[ZI2 b x]):=
 ZKg (back:=ZMh b) (fun _ hx=>ZLz hx) (fun _ hx=>ZL7 hx) n x l h
theorem ZL5 {b:Zt}{r:List Int}(hn:r.Nodup) (h:∀s∈r,∃y,s=ZI2 b y/\0<=ZI2 b y):r.length<=b.reasons.length:=by
 have hs:∀s∈r,s∈(List.range b.reasons.length).map (fun i=>((i:Nat):Int)):=fun s hs=>by
  obtain ⟨y,e1,e2⟩:=h s hs
  obtain ⟨_,_,_,q,h1,_⟩:=ZJA e2
  rw [<-e1]at h1 e2
  exact AQ.2 ⟨s.toNat,List.mem_range.2 (AA.1 h1).1,yE⟩
 have:=ZhP hn hs
 simpa using this
end
section
open Go.RowKit
structure SqM (n:Nat) (d:List (List Bool)):Prop where
 len:d.length=n
 row:∀r∈d,r.length=n
theorem SqM.new (n:Nat):SqM n (A5 n (A5 n false)):=⟨yG,fun r mr=>by rw [(List.mem_replicate.1 mr).2];simp⟩
theorem SqM.get {n:Nat}{d:List (List Bool)}(h:SqM n d) {i j:Nat}(hi:i<n) (hj:j<n):∃(h1:i<d.length) (h2:j<d[i].length),ZJw d i j=d[i][j]/\∀v,ZKt d i j v=d.set i (d[i].set j v):=by
 have h1:i<d.length:=by rw [h.len];exact hi
 have h2:j<d[i].length:=by rw [h.row _ (AM h1)];exact hj
 refine ⟨h1,h2,?_,fun v=>?_⟩
 .unfold ZJw;rw [A4 h1];simp only;rw [A4 h2]
 .unfold ZKt;rw [A4 h1]
theorem SqM.set {n:Nat}{d:List (List Bool)}(h:SqM n d) (i j:Nat) (v:Bool):SqM n (ZKt d i j v):=by
 unfold ZKt;cases hd:d[i]? with
 |none=>exact h
 |some r=>
  refine ⟨by simp [h.len],fun q mq=>?_⟩;rcases List.mem_or_eq_of_mem_set mq with mq|rfl
  .exact h.row q mq
  .rw [List.length_set];exact h.row r (AD hd)
theorem ZLk {n:Nat}{d:List (List Bool)}(h:SqM n d) {i j:Nat}{v:Bool}(hi:i<n) (hj:j<n) (a b:Nat):ZJw (ZKt d i j v) a b=if a=i/\b=j then v else ZJw d a b:=by
 obtain ⟨h1,h2,_,h4⟩:=h.get hi hj;rw [h4];unfold ZJw;rw [Ah];by_cases e:i=a
 .subst e;rw [if_pos rfl,if_pos h1];simp only;rw [Ah,A4 h1];by_cases e2:j=b
  .subst e2;rw [if_pos rfl,if_pos h2];simp
  .rw [if_neg e2,if_neg (fun hh=>e2 hh.2.symm)]
 .rw [if_neg e,if_neg (fun hh=>e hh.1.symm)]
theorem ZJk {α β:Type}{P:β->Prop}{f:β->α->β}:∀{l:List α}{b:β},P b->(∀b x,x∈l->P b->P (f b x))->P (l.foldl f b)
 | [],_,h,_=>h
 |x::l,b,h,hs=>ZJk (l:=l) (hs b x yG h) fun b y my=>hs b y (by simp [my])
theorem ZMk {n:Nat}{R:List Zf}{D:Nat->Nat->Prop}(hR:∀r∈R,r.for_.toNat<n/\(∀y∈r.inn,y.toNat<n)/\∀y∈r.outs,y.toNat<n) (h1:∀r∈R,∀y,y∈r.inn\/y∈r.outs->D r.for_.toNat y.toNat) (h2:∀i k j,D i k->D k j->D i j):SqM n (ZJR n R)/\∀i j,ZJw (ZJR n R) i j=true->D i j:=by
 have f:∀{d:List (List Bool)} {i j:Nat} {v:Bool},i<n->j<n->(v=true->D i j)->(SqM n d/\∀i j,ZJw d i j=true->D i j)->SqM n (ZKt d i j v)/\∀a b,ZJw (ZKt d i j v) a b=true->D a b:=fun {d i j v} hi hj hv ⟨s,g⟩=>by
  refine ⟨s.set _ _ _,fun a b c=>?_⟩;rw [ZLk s hi hj]at c;split at c
  .rename_i e;obtain ⟨rfl,rfl⟩:=e;exact hv c
  .exact g a b c
 unfold ZJR;refine ZJk (P:=fun d=>SqM n d/\∀i j,ZJw d i j=true->D i j) ?_ fun d k mk h=>?_
 .refine ZJk (P:=fun d=>SqM n d/\∀i j,ZJw d i j=true->D i j) ⟨SqM.new n,fun i j h=>?_⟩ fun d r mr h=>?_
  .exfalso;unfold ZJw at h;rw [Aw]at h;split at h
   .rename_i r e;split at e
    .simp at e;subst e;rw [Aw]at h;split at h
     .rename_i e;split at e
      .simp at e;subst e;simp at h
      .simp at e
     .simp at h
    .simp at e
   .simp at h
  .obtain ⟨q1,q2,q3⟩:=hR r mr;unfold ZJ6;refine ZJk (P:=fun d=>SqM n d/\∀i j,ZJw d i j=true->D i j) (ZJk (P:=fun d=>SqM n d/\∀i j,ZJw d i j=true->D i j) h fun d y my h=>f q1 (q2 y my) (fun _=>h1 r mr y (.inl my)) h) fun d y my h=>f q1 (q3 y my) (fun _=>h1 r mr y (.inr my)) h
 .have hk:k<n:=by rw [Al]at mk;omega
  unfold ZKX;refine ZJk (P:=fun d=>SqM n d/\∀i j,ZJw d i j=true->D i j) h fun d i mi h=>?_;have hi:i<n:=by rw [Al]at mi;omega
  unfold ZLd;refine ZJk (P:=fun d=>SqM n d/\∀i j,ZJw d i j=true->D i j) h fun d j mj h=>?_;have hj:j<n:=by rw [Al]at mj;omega
  refine f hi hj (fun hv=>?_) h;rw [Ab,A3]at hv;rcases hv with hv|⟨l,m⟩
  .exact h.2 i j hv
  .exact h2 i k j (h.2 i k l) (h.2 k j m)
end
section
open Classical
theorem Zld {ρ:Type}{l:List Int}(hl:l.length<=1000) {fin:List Bool->Option ρ}{body:Nat->Int->List Bool->Option (List Bool ⊕ ρ)}(hb:∀i x s,body i x s=chk (s.length+1<=1073741824) (some (.inl (s++[decide (0<=x)])))):forL body fin l 0 []=fin (l.map fun x=>decide (0<=x)):=by
 rw [ZhK (g:=fun x=>decide (0<=x))]
 .rfl
 .intro j x s _ hs;simp at hs;rw [hb,Zj _ yE]
theorem Zve {b:Zt}(h:Zdx b):Zhs b=some ((rdB b).map fun x=>decide (0<=x)):=by
 unfold Zhs;have:=h.n1;rw [ZvP h,A0,Zld (by rw [h.rd];omega) fun i x s=>rfl]
theorem Zq3 {b:Zt}(h:Zdx b):Zeu b=some ((rdB b).map fun x=>decide (0<=x)):=by
 unfold Zeu;have:=h.n1;rw [ZsV h,A0,Zld (by rw [h.rd];omega) fun i x s=>rfl]
theorem Znb {ρ:Type}{fin:List Zc->Option ρ}{body:Nat->Bool->List Zc->Option (List Zc ⊕ ρ)}{F:List Zc}(hF:∀f∈F,f.args.length<=1048576) (hl:F.length<=1000)
  (hb:∀i x s,body i x s=if x=true then (atI F (i:Int)).bind fun f=>(YE f).bind fun g=>chk (s.length+1<=1073741824) (some (.inl (s++[g]))) else some (.inl s)):
  ∀(a:List Zc) (l:List Int) (b c:List Zc),F=b++a->l.length=a.length->c.length<=b.length->forL body fin (l.map fun x=>decide (0<=x)) b.length c=fin (c++ZaI a l)
 | [],[],b,c,_,_,_=>by simp [forL,ZaI]
 | [],_::_,_,_,_,e,_=>by simp at e
 |_::_,[],_,_,_,e,_=>by simp at e
 |f::a,v::l,b,c,e,el,ha=>by
  have hf:F[b.length]?=some f:=by rw [e];simp
  have hlt:=(AA.1 hf).1;have ih:=fun d h'=>Znb (fin:=fin) hF hl hb a l (b++[f]) d (by rw [e];simp) (by simpa using el) h';simp only[AE,Ax]at ih;rw [Am];unfold ZaI;by_cases hv:0<=v
  .rw [Z4 (s':=c++[f]) (by
    rw [hb,if_pos (decide_eq_true hv),Za1,hf,A0,YN _ (hF f (AD hf)),A0,Zj _ yE]),ih _ (by simp;omega),if_pos hv]
   simp
  .rw [Z4 (s':=c) (by rw [hb,if_neg (by simpa using hv)]),ih _ yE,if_neg hv]
theorem ZnF {ρ:Type}{fin:List Zc->Option ρ}{body:Nat->Zc->List Zc->Option (List Zc ⊕ ρ)}{L:List Bool}{N:Nat}(hN:N<=1000) {z:List Zc->ρ}
  (hb:∀i x s,body i x s=if decide ((i:Int)<(L.length:Int))=true then chk (0<=(i:Int)/\(i:Int)<(L.length:Int)) ((L[i]?).bind fun v=>if v=true then (XE x).bind fun g=>chk (s.length+1<=1073741824) (some (.inl (s++[g]))) else some (.inl s)) else some (.inr (z s))):
  ∀(a:List Zc) (l:List Int) (b:List Bool) (c:List Zc),(∀f∈a,f.args.length<=1048576)->L=b++(l.map fun x=>decide (0<=x))->l.length=a.length->c.length<=b.length->b.length+a.length<=N->forL body fin a b.length c=fin (c++ZaI a l)
 | [],[],b,c,_,_,_,_,_=>by simp [forL,ZaI]
 | [],_::_,_,_,_,_,e,_,_=>by simp at e
 |_::_,[],_,_,_,_,e,_,_=>by simp at e
 |f::a,v::l,b,c,hF,e,el,ha,hn=>by
  have hf:L[b.length]?=some (decide (0<=v)):=by rw [e];simp
  have hlt:=(AA.1 hf).1;have ih:=fun d h'=>ZnF (fin:=fin) hN hb a l (b++[decide (0<=v)]) d (fun g mg=>hF g (by simp [mg])) (by rw [e];simp) (by simpa using el) h' (by simp at hn ⊢;omega);simp only[AE,Ax]at ih;simp only[AR]at hn;have hx:∀s,body b.length f s=if 0<=v then chk (s.length+1<=1073741824) (some (.inl (s++[f]))) else some (.inl s):=fun s=>by
   rw [hb,if_pos (decide_eq_true yE),Zj _ ⟨yE,yE⟩,hf,A0];by_cases hv:0<=v
   .rw [if_pos (decide_eq_true hv),if_pos hv,Xs _ (hF f yG),A0]
   .rw [if_neg (by simpa using hv),if_neg hv]
  unfold ZaI;by_cases hv:0<=v
  .rw [Z4 (s':=c++[f]) (by rw [hx,if_pos hv,Zj _ yE]),ih _ (by simp;omega),if_pos hv];simp
  .rw [Z4 (s':=c) (by rw [hx,if_neg hv]),ih _ yE,if_neg hv]
theorem Zrx {b:Zt}(h:Zdx b) {F:List Zc}(hF:∀f∈F,f.args.length<=1048576) (hn:b.nodes=(F.length:Int)):Zec F b=some (ZaI F (rdB b)):=by
 have h1:=h.n1;have hr:=h.rd;unfold Zec;rw [Zve h,A0];exact Znb hF yE (fun i x s=>rfl) F (rdB b) [] [] rfl yE (A9 _)
theorem Zw7 {b:Zt}(h:Zdx b) {F:List Zc}(hF:∀f∈F,f.args.length<=1048576) (hn:b.nodes=(F.length:Int)):ZjI F b=some (ZaI F (rdB b)):=by
 have h1:=h.n1;have hr:=h.rd;unfold ZjI;rw [Zq3 h,A0];exact ZnF (N:=F.length) yE (fun i x s=>rfl) F (rdB b) [] [] hF rfl yE (A9 _) yG
theorem Yo.args {R:List Zg}{base F:List Zc}(h:Yo R base F):∀f∈F,f.args.length<=1048576:=fun f mf=>by
 have:=Y8 (h.good.ok f mf);omega
structure Zyg (M:List Zc):Prop where
 len:M.length<=24
 ok:∀f∈M,Y3 f=true
theorem Zyp:Zyg []:=⟨yG,yG⟩
theorem Yo.few {R:List Zg}{base F:List Zc}(h:Yo R base F) (l:List Int):Zyg (ZaI F l):=by
 have h1:=h.len;obtain ⟨k1,k2⟩:=Zo5 (F:=F) (l:=l);exact ⟨yE,fun f mf=>h.good.ok f (k2 f mf)⟩
theorem ZMl (l:List Int) (x:Int):ZJy l x=some (Zx9 l x):=Zrc l x
end
section
open Classical
theorem ZLR {b:Zt}(h:Zdx b) (x:Int):ZI1 b (rdB b) x=some (ZI2 b x):=by
 unfold ZI1 ZI2;have h0:=h.n0;have a:=h.rd;by_cases c1:x<0
 .rw [if_pos (decide_eq_true c1),if_neg yE]
 .rw [if_neg (by simpa using c1)];by_cases c2:b.nodes<=x
  .rw [if_pos (decide_eq_true c2),if_neg yE]
  .rw [if_neg (by simpa using c2),ZLs a yE yE,A0];by_cases c3:rdN (rdB b) x<0
   .rw [if_pos (decide_eq_true c3),if_neg yE]
   .rw [if_neg (by simpa using c3),if_pos ⟨yE,yE,yE⟩];refine ZJq (s:=()) (fin:=fun _=>some (-1)) (p:=ZKH b x) rfl fun i r mr=>?_;unfold ZKH;by_cases c4:r.for_=x
    .rw [if_pos (by simpa using c4),ZKF h mr yE,A0];by_cases c5:Zkb (rdB b) (rdN (rdB b) x).toNat r
     .rw [if_pos (decide_eq_true c5),decide_eq_true (show r.for_=x/\_ from ⟨c4,c5⟩)];rfl
     .rw [if_neg (by simpa using c5),decide_eq_false (fun hh:r.for_=x/\_=>c5 hh.2)];rfl
    .rw [if_neg (by simpa using c4),decide_eq_false (fun hh:r.for_=x/\_=>c4 hh.1)];rfl
theorem ZLp {b:Zt}(h:Zdx b) (x:Int):ZIT b x=some (ZI2 b x):=by
 unfold ZIT ZI2;have h0:=h.n0;have h1:=h.n1;have a:=h.rd;rw [ZsV h,A0,Zun yE yE,Zh0,A0];by_cases c1:0<=x/\x<b.nodes
 .rw [if_pos (by simp;omega),Zj _ ⟨yE,yE⟩];have hg:=ZLs a c1.1 yE;unfold atI at hg;rw [if_pos c1.1]at hg;rw [hg,A0];by_cases c3:rdN (rdB b) x<0
  .rw [if_pos (decide_eq_true c3),if_neg yE]
  .rw [if_neg (by simpa using c3),if_pos ⟨c1.1,c1.2,yE⟩];refine ZJq (s:=()) (fin:=fun _=>some (-1)) (p:=ZKH b x) rfl fun i r mr=>?_;unfold ZKH;by_cases c4:r.for_=x
   .rw [if_pos (by simpa using c4),ZLw h mr yE,A0];by_cases c6:r.inn.all (Zqy (rdB b) (rdN (rdB b) x).toNat)=true
    .rw [if_pos c6,ZL6 h mr,A0];by_cases c7:r.outs.all (Zqv (rdB b))=true
     .rw [if_pos c7,decide_eq_true (show r.for_=x/\_ from ⟨c4,ZfW.1 ⟨c6,c7⟩⟩)];rfl
     .rw [if_neg c7,decide_eq_false (fun hh:r.for_=x/\_=>c7 (ZfW.2 hh.2).2)];rfl
    .rw [if_neg c6,decide_eq_false (fun hh:r.for_=x/\_=>c6 (ZfW.2 hh.2).1)];rfl
   .rw [if_neg (by simpa using c4),decide_eq_false (fun hh:r.for_=x/\_=>c4 hh.1)];rfl
 .rw [if_neg (by simp;omega),if_neg yE]
theorem ZbB.join {R:List Zf}{x y z:Int}(h:ZbB R x y) (k:ZbB R y z):ZbB R x z:=by
 induction k with
 |one h1=>exact .step h h1
 |step _ h1 ih=>exact .step ih h1
theorem Zdx.depOk {b:Zt}(h:Zdx b):ZK3 b=true:=by
 have h0:=h.n0;unfold ZK3;rw [A3,decide_eq_true_iff];refine ⟨⟨h.n0,h.n1,h.len⟩,AG.2 fun r mr=>?_⟩;obtain ⟨⟨f0,f1⟩,f2,f3⟩:=h.ok r mr;rw [A3,A3,decide_eq_true_iff];refine ⟨⟨⟨f0,yE⟩,AG.2 fun y my=>?_⟩,AG.2 fun y my=>?_⟩
 .have:=f2 y my;rw [decide_eq_true_iff];omega
 .have:=f3 y my;rw [decide_eq_true_iff];omega
theorem ZKs {b:Zt}(h:Zdx b):ZIW b=some true:=by
 unfold ZIW;have h0:=h.n0;have h60:=h.len;rw [ZKG h.small yE,h.valid,A0,if_pos rfl];unfold ZJh;rw [if_pos h.depOk,A0];obtain ⟨hS,hD⟩:=ZMk (n:=b.nodes.toNat) (R:=b.reasons) (D:=fun i j=>ZbB b.reasons (i:Int) (j:Int)) (fun r mr=>by
   obtain ⟨⟨f0,f1⟩,f2,f3⟩:=h.ok r mr;exact ⟨f1,fun y my=>(f2 y my).2,fun y my=>(f3 y my).2⟩) (fun r mr y my=>by
   obtain ⟨⟨f0,f1⟩,f2,f3⟩:=h.ok r mr;have hy:0<=y:=by
    rcases my with my|my
    .exact (f2 y my).1
    .exact (f3 y my).1
   exact .one ⟨r,mr,yE,by rw [AP hy];exact my⟩) (fun i k j h1 h2=>h1.join h2)
 rw [Z0 (p:=fun _=>true) (r:=true)]
 .simp
 .intro i r mr;rw [Z0 (p:=fun _=>true) (r:=.inl ())]
  .simp
  .intro j y my;obtain ⟨k1,k2⟩:=h.strat r mr y my;obtain ⟨⟨f0,f1⟩,_,f3⟩:=h.ok r mr;obtain ⟨y0,y1⟩:=f3 y my;have ey:(y==r.for_)=false:=by simpa using k1
   obtain ⟨q1,q2,q3,_⟩:=hS.get y1 f1;have hv:(ZJR b.nodes.toNat b.reasons)[y.toNat][r.for_.toNat]=false:=by
    cases hb:(ZJR b.nodes.toNat b.reasons)[y.toNat][r.for_.toNat]with
    |false=>rfl
    |true=>
     have:=hD y.toNat r.for_.toNat (by rw [q3,hb]);rw [AP y0,AP f0]at this;exact absurd this k2
   rw [ey];simp only[AB,if_false];have a1:atI (ZJR b.nodes.toNat b.reasons) y=some (ZJR b.nodes.toNat b.reasons)[y.toNat]:=by
    unfold atI;rw [if_pos y0,A4 q1]
   have a2:atI (ZJR b.nodes.toNat b.reasons)[y.toNat] r.for_=some false:=by
    unfold atI;rw [if_pos f0,A4 q2,hv]
   rw [a1,A0,a2,A0];rfl
end
section
open Classical
structure ZKc (b:Zt) (l:List Int):Prop where
 nodup:l.Nodup
 sup:∀s∈l,∃y,s=ZI2 b y/\0<=ZI2 b y
theorem ZL3 (b:Zt):ZKc b []:=⟨List.nodup_nil,yG⟩
theorem ZKc.len {b:Zt}(h:Zdx b) {l:List Int}(g:ZKc b l):l.length<=60:=Ac (ZL5 g.nodup g.sup) h.len
theorem ZLa {b:Zt}(h:Zdx b) {sup:Int->Option Int}{d:List Int->Int->Option Bool}(hs:∀x,sup x=some (ZI2 b x)) (hh:∀l s,d l s=some (Zx9 l s)):
  ∀(n:Nat) (x:Int) (l:List Int),(rdN (rdB b) x).toNat<n->ZKc b l->∃r,ZJa sup d b n x l=some r/\ZKj b n x l=some r/\ZKc b r
 |0,_,_,hx,_=>by omega
 |n+1,x,l,hx,hg=>by
  obtain ⟨r,e1,e2,e3,e4⟩:=ZJ7 b (n+1) x l hx;have hr:ZKc b r:=⟨e2.nodup hg.nodup,fun s ms=>(e2.new s ms).elim (hg.sup s) (fun ⟨y,a,c,_⟩=>⟨y,a,c⟩)⟩
  refine ⟨r,?_,e1,hr⟩;rw [ZJa,hs,A0];unfold ZKj at e1;rw [ZJI]at e1;by_cases h1:ZI2 b x<0
  .rw [if_pos (decide_eq_true h1)];rw [if_pos (.inl h1)]at e1;exact e1
  .rw [if_neg (by simpa using h1),hh,A0];by_cases h2:ZI2 b x∈l
   .rw [if_pos (ZrF.2 h2)];rw [if_pos (.inr h2)]at e1;exact e1
   .rw [if_neg (by rw [ZrF];exact h2)];rw [if_neg (fun a=>a.elim h1 h2)]at e1;have h0:0<=ZI2 b x:=by omega
    obtain ⟨_,_,_,q,hq,_,_⟩:=ZJA h0;have hi:ZLv b (ZI2 b x)=q.inn:=by unfold ZLv;rw [hq];rfl
    have e:∀(ys l:List Int),(∀y∈ys,(rdN (rdB b) y).toNat<n)->ZKc b l->∃t,goO (ZJa sup d b n) ys l=some t/\goP (ZJI (ZI2 b) (ZLv b) n) ys l=some t/\ZKc b t:=by
     intro ys;induction ys with
     |nil=>intro l _ g;exact ⟨l,rfl,rfl,g⟩
     |cons y ys ih=>
      intro l hy g;obtain ⟨u,u1,u2,u3⟩:=ZLa h hs hh n y l (hy y yG) g;obtain ⟨t,t1,t2,t3⟩:=ih u (fun z hz=>hy z (by simp [hz])) u3;unfold ZKj at u2;exact ⟨t,by rw [goO,u1,A0,t1],by rw [goP,u2,A0,t2],t3⟩
    rw [hq,A0];rw [hi]at e1;obtain ⟨t,t1,t2,t3⟩:=e q.inn l (fun y my=>by have:=ZLz h0 y (by rw [hi];exact my);omega) hg;rw [t2]at e1;rw [t1,A0,if_pos (by have:=t3.len h;omega)];exact e1
structure ZJ3 (b:Zt) (x:Int) (l:List Int):Prop where
 good:ZKc b l
 ord:ZLq (ZI2 b) (ZLv b) l
 none:ZI2 b x<0->l=[]
 last:0<=ZI2 b x->∃t,l=t++[ZI2 b x]
theorem ZK8 {b:Zt}(h:Zdx b) {sup:Int->Option Int}{a:List Int->Int->Option Bool}(hs:∀x,sup x=some (ZI2 b x)) (hh:∀l s,a l s=some (Zx9 l s)) (x:Int):
  ∃r,ZJa sup a b ((((rdB b)[x.toNat]?).getD 0).toNat+1) x []=some r/\ZKj b ((((rdB b)[x.toNat]?).getD 0).toNat+1) x []=some r/\ZJ3 b x r:=by
 have hx:(rdN (rdB b) x).toNat<(((rdB b)[x.toNat]?).getD 0).toNat+1:=by
  unfold rdN;cases (rdB b)[x.toNat]? with
  |none=>simp
  |some v=>simp
 obtain ⟨r,r1,r2,r3⟩:=ZLa h hs hh _ x [] hx (ZL3 b);obtain ⟨r',e1,e2,e3,e4⟩:=ZJ7 b _ x [] hx;obtain rfl:r=r':=by rw [r2]at e1;exact AL e1
 refine ⟨r,r1,r2,r3,e2.ord (ZLq.nil _ _),fun hn=>?_,fun h0=>e4 h0 yG⟩;unfold ZKj at r2;rw [ZJI,if_pos (.inl hn)]at r2;exact (AL r2).symm
theorem ZJ5 {b:Zt}(h:Zdx b) (x:Int):∃l,ZIX b x=some l/\ZIV b x=some l/\ZJ3 b x l:=by
 obtain ⟨r,r1,r2,r3⟩:=ZK8 h (ZLR h) Zrc x;obtain ⟨r',q1,q2,_⟩:=ZK8 h (ZLp h) ZMl x;obtain rfl:r=r':=by rw [r2]at q2;exact AL q2
 refine ⟨r,?_,?_,r3⟩
 .unfold ZIX;rw [ZKs h,A0,if_pos rfl,ZvP h,A0];exact r1
 .unfold ZIV;rw [ZsV h,A0];exact q1
end
section
open Classical
structure ZLP (n:Nat) (R:List Zf) (L:List Int) (s:Int) (row:List Int) (k:Nat):Prop where
 rin:RIn n row k
 low:∀x:Nat,0<=rdN row (x:Int)->lvN L x<s
 supp:∀x:Nat,0<=rdN row (x:Int)->∃r∈R,r.for_.toNat=x/\(∀y∈r.inn,0<=rdN row y/\rdN row y<rdN row (x:Int))/\∀y∈r.outs,rdN row y<0
 clos:∀r∈R,lvN L r.for_.toNat<s->(∀y∈r.inn,0<=rdN row y)->(∀y∈r.outs,rdN row y<0)->0<=rdN row r.for_
theorem ZK2 (row:List Int) (y:Int):rdN row y=rdN row (y.toNat:Int):=by unfold rdN;rw [A8]
theorem ZMj {row l:List Int}{k:Nat}{y:Int}(hl:y.toNat<row.length):rdN (ZgH row l (k:Int)) y=if ∃x∈l,x.toNat=y.toNat then (k:Int) else rdN row y:=by
 unfold rdN;rw [Zl1];by_cases hc:∃x∈l,x.toNat=y.toNat
 .rw [if_pos ⟨hc,hl⟩,if_pos hc];rfl
 .rw [if_neg fun h=>hc h.1,if_neg hc]
theorem ZLZ {row:List Int}{y:Int}(hl:¬y.toNat<row.length):rdN row y=-1:=by
 unfold rdN;rw [AJ yE];rfl
structure ZMc (n:Nat) (R:List Zf) (L:List Int) (s:Int) (row:List Int) (k:Nat):Prop where
 rin:RIn n row k
 low:∀x:Nat,0<=rdN row (x:Int)->lvN L x<=s
 supp:∀x:Nat,0<=rdN row (x:Int)->∃r∈R,r.for_.toNat=x/\(∀y∈r.inn,0<=rdN row y/\rdN row y<rdN row (x:Int))/\∀y∈r.outs,rdN row y<0
 clos:∀r∈R,lvN L r.for_.toNat<s->(∀y∈r.inn,0<=rdN row y)->(∀y∈r.outs,rdN row y<0)->0<=rdN row r.for_
theorem RIn.lt {n:Nat}{row:List Int}{k:Nat}(h:RIn n row k) (y:Int) (h0:0<=rdN row y):y.toNat<n/\rdN row y<(k:Int):=by
 by_cases hl:y.toNat<n
 .obtain ⟨v,hv,hv2⟩:=h.val y.toNat hl;have e:rdN row y=v:=by unfold rdN;rw [hv];rfl
  rw [e]at h0 ⊢;exact ⟨hl,yE⟩
 .rw [ZLZ (by rw [h.len];exact hl)]at h0;omega
theorem ZMc.next {n:Nat}{R:List Zf}{L:List Int}{s:Int}{row:List Int}{k:Nat}(hR:∀r∈R,OkN n r) (hL:ZlR R (lvN L)) (h:ZMc n R L s row k) (hc:Qa R L s row k≠[]):ZMc n R L s (ZgH row (Qa R L s row k) (k:Int)) (k+1):=by
 have d:=(h.rin.next hR hc).1;have hlen:=h.rin.len;have a:∀y:Int,y.toNat<n->rdN (ZgH row (Qa R L s row k) (k:Int)) y=if ∃x∈Qa R L s row k,x.toNat=y.toNat then (k:Int) else rdN row y:=fun y hy=>ZMj yE;have f:∀y:Int,(∃x∈Qa R L s row k,x.toNat=y.toNat)->lvN L y.toNat=s/\rdN row y<0:=fun y ⟨x,mx,e⟩=>by
  obtain ⟨r,mr,e2,h1,h2,_⟩:=Zh6.1 mx;rw [<-e];refine ⟨h1,?_⟩;rw [ZK2 row y,<-e,<-ZK2];exact h2
 have up:∀y:Int,0<=rdN row y->rdN (ZgH row (Qa R L s row k) (k:Int)) y=rdN row y:=fun y hy=>by
  have hl:=(h.rin.lt y hy).1;rw [a y hl,if_neg fun hx=>by have:=(f y hx).2;omega]
 have dn:∀y:Int,y.toNat<n->lvN L y.toNat<s->rdN (ZgH row (Qa R L s row k) (k:Int)) y=rdN row y:=fun y hl hy=>by
  rw [a y hl,if_neg fun hx=>by have:=(f y hx).1;omega]
 refine ⟨d,fun x hx=>?_,fun x hx=>?_,fun r mr hs hi ho=>?_⟩
 .have hl:=(d.lt _ hx).1;rw [A8]at hl;rw [a _ (by simpa using hl)]at hx;split at hx
  .rename_i c;have:=(f (x:Int) c).1;rw [A8]at this;omega
  .exact h.low x hx
 .have hl:=(d.lt _ hx).1;rw [A8]at hl;by_cases c:∃y∈Qa R L s row k,y.toNat=x
  .obtain ⟨y,my,e⟩:=c;obtain ⟨r,mr,rfl,h1,h2,h3,h4⟩:=Zh6.1 my;have hk:rdN (ZgH row (Qa R L s row k) (k:Int)) (x:Int)=(k:Int):=by
    rw [a _ (by simpa using hl),if_pos ⟨r.for_,my,by simpa using e⟩]
   refine ⟨r,mr,e,fun y b=>?_,fun y b=>?_⟩
   .obtain ⟨k1,k2⟩:=h3 y b;rw [up y k1,hk];exact ⟨k1,k2⟩
   .have hy:=(hR r mr).2.2 y b;have:=hL.outs r mr y b;rw [dn y hy.2 yE];exact h4 y b
  .have e:rdN (ZgH row (Qa R L s row k) (k:Int)) (x:Int)=rdN row (x:Int):=by
    rw [a _ (by simpa using hl),if_neg (by simpa using c)]
   rw [e]at hx ⊢;obtain ⟨r,mr,e2,h3,h4⟩:=h.supp x hx;refine ⟨r,mr,e2,fun y my=>?_,fun y my=>?_⟩
   .obtain ⟨k1,k2⟩:=h3 y my;rw [up y k1];exact ⟨k1,k2⟩
   .have hy:=(hR r mr).2.2 y my;have h5:=hL.outs r mr y my;have h6:=h.low x hx;rw [e2]at h5;rw [dn y hy.2 yE];exact h4 y my
 .have g:∀y∈r.inn,0<=rdN row y:=fun y my=>by
   have hy:=(hR r mr).2.1 y my;have h5:=hL.inn r mr y my;have:=hi y my
   rwa [dn y hy.2 yE]at this
  have i:∀y∈r.outs,rdN row y<0:=fun y my=>by
   have hy:=(hR r mr).2.2 y my;have h5:=hL.outs r mr y my;have:=ho y my
   rwa [dn y hy.2 yE]at this
  have:=h.clos r mr hs g i;rw [up _ this];exact this
theorem ZKY {n:Nat}{R:List Zf}{L:List Int}{s:Int}(hR:∀r∈R,OkN n r) (hL:ZlR R (lvN L)):∀(f:Nat) (row:List Int) (k:Nat),ZMc n R L s row k->Zgt row<=f->ZMc n R L s (QY R L s f row k).1 (QY R L s f row k).2
 |0,row,k,h,hf=>h
 |f+1,row,k,h,hf=>by
  unfold QY;by_cases hc:Qa R L s row k=[]
  .rw [if_pos hc];exact h
  .rw [if_neg hc];exact ZKY hR hL f _ _ (h.next hR hL hc) (by have:=(h.rin.next hR hc).2;omega)
theorem ZLP.level {n:Nat}{R:List Zf}{L:List Int}{s:Int}{row:List Int}{k:Nat}(hR:∀r∈R,OkN n r) (hL:ZlR R (lvN L)) (h:ZLP n R L s row k):ZLP n R L (s+1) (QY R L s n row k).1 (QY R L s n row k).2:=by
 have hu:Zgt row<=n:=by have:=h.rin.few;omega
 have hm:ZMc n R L s row k:=⟨h.rin,fun x hx=>by have:=h.low x hx;omega,h.supp,h.clos⟩
 have h1:=ZKY hR hL n row k hm hu;have h2:=(Zgj (L:=L) (s:=s) hR n row k h.rin hu).2;refine ⟨h1.rin,fun x hx=>by have:=h1.low x hx;omega,h1.supp,fun r mr hs hi ho=>?_⟩;by_cases e:lvN L r.for_.toNat=s
 .refine Classical.byContradiction fun hn=>?_;have:r.for_∈Qa R L s (QY R L s n row k).1 (QY R L s n row k).2:=Zh6.2 ⟨r,mr,rfl,e,yE,fun y my=>⟨hi y my,(h1.rin.lt y (hi y my)).2⟩,ho⟩;rw [h2]at this;simp at this
 .exact h1.clos r mr yE hi ho
theorem ZKD {n:Nat}{R:List Zf}{L:List Int}(hR:∀r∈R,OkN n r) (hL:ZlR R (lvN L)):∀(d s:Nat) (st:List Int×Nat),ZLP n R L (s:Int) st.1 st.2->ZLP n R L ((s+d:Nat):Int) (QN R L n (AC s d) st).1 (QN R L n (AC s d) st).2
 |0,_,_,h=>h
 |d+1,s,st,h=>by
  have h1:ZLP n R L ((s+1:Nat):Int) (QY R L (s:Int) n st.1 st.2).1 (QY R L (s:Int) n st.1 st.2).2:=by
   have:=h.level hR hL
   rwa [show (s:Int)+1=((s+1:Nat):Int) by omega]at this
  have:=ZKD hR hL d (s+1) _ h1
  rwa [show s+1+d=s+(d+1) by omega]at this
theorem Zdx.end {b:Zt}(h:Zdx b):(∀x:Nat,0<=rdN (rdB b) (x:Int)->∃r∈b.reasons,r.for_.toNat=x/\(∀y∈r.inn,0<=rdN (rdB b) y/\rdN (rdB b) y<rdN (rdB b) (x:Int))/\∀y∈r.outs,rdN (rdB b) y<0)/\∀r∈b.reasons,(∀y∈r.inn,0<=rdN (rdB b) y)->(∀y∈r.outs,rdN (rdB b) y<0)->0<=rdN (rdB b) r.for_:=by
 obtain ⟨hL,hv⟩:=h.lv;have none:∀y:Int,rdN (A5 b.nodes.toNat (-1)) y=-1:=fun y=>by
  unfold rdN;by_cases hy:y.toNat<b.nodes.toNat
  .simp [hy]
  .rw [AJ (by simp;omega)];rfl
 have a:ZLP b.nodes.toNat b.reasons (lvB b) ((0:Nat):Int) (A5 b.nodes.toNat (-1),0).1 (A5 b.nodes.toNat (-1),0).2:=⟨ZkE _,fun x hx=>by rw [none]at hx;omega,fun x hx=>by rw [none]at hx;omega,fun r mr hs=>by have:=(hv r.for_.toNat).1;omega⟩
 have hE:=ZKD h.ok hL.sol b.nodes.toNat 0 _ a;have e:rdB b=(QN b.reasons (lvB b) b.nodes.toNat (AC 0 b.nodes.toNat) (A5 b.nodes.toNat (-1),0)).1:=by unfold rdB;rw [Aj]
 rw [<-e]at hE;refine ⟨hE.supp,fun r mr=>hE.clos r mr ?_⟩;have:=hv r.for_.toNat;have:=(h.ok r mr).1.2;omega
end
section
open Classical
theorem ZPb {M F:List Zc}:∀n (l:List Zl),l.length=n->(∀x∈l,¬x.kind=2)->∀t∈Zz l F,(∀f∈t.facts,f∈M)->t∈Zz l M:=by
 intro n;induction n with
 |zero=>
  intro l h _ t mt _;rw [AH h]at mt ⊢;exact mt
 |succ n ih=>
  intro l h hk;obtain ⟨p,x,rfl⟩:∃p x,l=p++[x]:=⟨l.dropLast,l.getLast (by intro e;simp [e]at h),(Ad _).symm⟩
  intro t mt hf;rw [Zaw]at mt ⊢;obtain ⟨s,ms,mt⟩:=A6.1 mt;have hx:=hk x yG;unfold QD at mt;by_cases h1:x.kind=1
  .rw [if_pos h1]at mt;obtain ⟨g,mg,hg⟩:=AO.1 mt;obtain ⟨b,hb,rfl⟩:=AI.1 hg;have hs:=ih p (by simpa using h) (fun y my=>hk y (by simp [my])) s ms fun f mf=>hf f (by simp [mf]);refine A6.2 ⟨s,hs,?_⟩;unfold QD;rw [if_pos h1];exact AO.2 ⟨g,hf g yG,by rw [hb];rfl⟩
  .rw [if_neg h1]at mt;have hh:∀G,Zgo x s.binding G=Zgo x s.binding F:=fun G=>by
    unfold Zgo;simp only[if_neg h1,if_neg hx]
   split at mt
   .rename_i hb;simp at mt;subst mt;have hs:=ih p (by simpa using h) (fun y my=>hk y (by simp [my])) t ms hf;refine A6.2 ⟨t,hs,?_⟩;unfold QD;rw [if_neg h1,hh,if_pos hb];simp
   .simp at mt
theorem ZPC {R:List Zg}{r:Zg}{M F:List Zc}{t:Zq}(mt:t∈Zz (ZaR r) F) (hf:∀f∈t.facts,f∈M):t∈Zz (ZaR r) M:=ZPb _ (ZaR r) rfl Zvp t mt hf
theorem ZO5 {r:Zg}{F:List Zc}{t:Zq}(mt:t∈Zz (ZaR r) F):∀f∈t.facts,f∈F:=(Zbw F _ t mt).sub
structure ZNE (R:List Zg) (base M:List Zc):Prop where
 giv:∀f∈base,f∈M
 clos:∀r∈R,∀t∈Zz (ZaR r) M,(∀g∈Zuc r t,g∉M)->∀a∈r.thn,Yn a t∈M
 supp:∃rank:Zc->Nat,∀f∈M,f∈base\/∃r∈R,∃t∈Zz (ZaR r) M,∃a∈r.thn,Yn a t=f/\(∀g∈t.facts,rank g<rank f)/\∀g∈Zuc r t,g∉M
theorem ZK6 {f:Zc}:∀{F:List Zc}{l:List Int},l.length=F.length->(f∈ZaI F l↔∃i,F[i]?=some f/\0<=rdN l ((i:Nat):Int))
 | [],l,_=>by simp [ZaI]
 |g::F,[],h=>by simp at h
 |g::F,v::l,h=>by
  have ih:=ZK6 (f:=f) (F:=F) (l:=l) (by simpa using h)
  have sh:∀i:Nat,rdN (v::l) ((i+1:Nat):Int)=rdN l ((i:Nat):Int):=fun i=>by unfold rdN;rw [A8,A8];simp
  have s0:rdN (v::l) ((0:Nat):Int)=v:=by unfold rdN;rfl
  have key:(∃i,(g::F)[i]?=some f/\0<=rdN (v::l) ((i:Nat):Int))↔(g=f/\0<=v)\/∃i,F[i]?=some f/\0<=rdN l ((i:Nat):Int):=by
   constructor
   .rintro ⟨i,h1,h2⟩
    cases i with
    |zero=>rw [s0]at h2;exact .inl ⟨by simpa using h1,h2⟩
    |succ i=>rw [sh]at h2;exact .inr ⟨i,by simpa using h1,h2⟩
   .rintro (⟨h1,h2⟩|⟨i,h1,h2⟩)
    .exact ⟨0,by simp [h1],by rw [s0];exact h2⟩
    .exact ⟨i+1,by simpa using h1,by rw [sh];exact h2⟩
  rw [key]
  unfold ZaI
  by_cases hv:0<=v
  .rw [if_pos hv,Aq,ih]
   constructor
   .rintro (h|h)
    .exact .inl ⟨h.symm,hv⟩
    .exact .inr h
   .rintro (⟨h,_⟩|h)
    .exact .inl h.symm
    .exact .inr h
  .rw [if_neg hv,ih]
   constructor
   .exact .inr
   .rintro (⟨_,h⟩|h)
    .exact absurd h hv
    .exact h
theorem ZOc {F:List Zc}{f g:Zc}(hf:f∈F) (hg:g∈F) (h:YD F f=YD F g):f=g:=by
 obtain ⟨i,h1,h2⟩:=ZpL hf;obtain ⟨j,h3,h4⟩:=ZpL hg;have:i=j:=by omega
 subst this;rw [h2]at h4;exact AL h4
theorem ZL9 {F:List Zc}(hF:F.Nodup) {j:Nat}{f:Zc}(h:F[j]?=some f):YD F f=(j:Int):=by
 obtain ⟨k,h1,h2⟩:=ZpL (AD h);obtain ⟨hj,ej⟩:=AA.1 h;obtain ⟨hk,ek⟩:=AA.1 h2;have:k=j:=by
  rcases Ae k j with hl|hl|hl
  .exact absurd (ek.trans ej.symm) (AS.1 hF k j hk hj hl)
  .exact hl
  .exact absurd (ej.trans ek.symm) (AS.1 hF j k hj hk hl)
 rw [h1,this]
theorem ZMg {F:List Zc}(hF:F.Nodup) {l:List Int}(hl:l.length=F.length) {f:Zc}:f∈ZaI F l↔f∈F/\0<=rdN l (YD F f):=by
 rw [ZK6 hl]
 constructor
 .rintro ⟨i,h1,h2⟩
  exact ⟨AD h1,by rw [ZL9 hF h1];exact h2⟩
 .rintro ⟨h1,h2⟩
  obtain ⟨j,h3,h4⟩:=ZpL h1
  exact ⟨j,h4,by rw [<-h3];exact h2⟩
theorem ZPj {R:List Zg}{base F:List Zc}(h:Yo R base F) {rs:List Zf}{c:List Zc}(hB:Zdx {nodes:=(F.length:Int),reasons:=rs})
  (k:∀x,x∈rs↔(∃f∈c,x={for_:=YD F f,inn:=[],outs:=[]})\/∃r∈R,∃t∈Zz (ZaR r) F,∃a∈r.thn,x=Yk F r t a) (hg:∀f∈c,f∈F):ZNE R c (ZaI F (rdB {nodes:=(F.length:Int),reasons:=rs})):=by
 obtain ⟨e1,e2⟩:=hB.end;have hF:=Znr h.good.asc;have hl:=hB.rd;generalize rdB {nodes:=(F.length:Int),reasons:=rs}=rd at e1 e2 hl
 simp only[A8]at hl;have hm:∀f,f∈ZaI F rd↔f∈F/\0<=rdN rd (YD F f):=fun f=>ZMg hF hl;have d:∀f∈F,((YD F f).toNat:Int)=YD F f:=fun f mf=>by
  obtain ⟨j,h1,_⟩:=ZpL mf;omega
 refine ⟨fun f mf=>?_,fun r mr t mt m a ma=>?_,fun f=>(rdN rd (YD F f)).toNat,fun f mf=>?_⟩
 .rw [hm];exact ⟨hg f mf,e2 _ ((k _).2 (.inl ⟨f,mf,rfl⟩)) yG yG⟩
 .have ht:∀g∈t.facts,g∈ZaI F rd:=ZO5 mt;have l:t∈Zz (ZaR r) F:=ZPC (R:=R) mt fun g mg=>((hm g).1 (ht g mg)).1;have i:=h.closed r mr t l a ma;rw [hm];refine ⟨i,e2 _ ((k _).2 (.inr ⟨r,mr,t,l,a,ma,rfl⟩)) (fun y my=>?_) fun y my=>?_⟩
  .obtain ⟨g,mg,e,_⟩:=((Qz F t.facts).2.1 y).1 my;rw [<-e];exact ((hm g).1 (ht g mg)).2
  .obtain ⟨g,mg,e,e0⟩:=((Qz F (Zuc r t)).2.1 y).1 my;have gF:g∈F:=by
    rcases ZnU F g with ⟨_,h2⟩|⟨j,_,h2⟩
    .omega
    .exact AD h2
   refine Classical.byContradiction fun hn=>m g mg ((hm g).2 ⟨gF,?_⟩);rw [e];omega
 .obtain ⟨fF,f0⟩:=(hm f).1 mf;obtain ⟨x,mx,ex,hi,ho⟩:=e1 (YD F f).toNat (by rw [d f fF];exact f0);rw [d f fF]at hi;rcases (k x).1 mx with ⟨g,mg,rfl⟩|⟨r,mr,t,mt,a,ma,rfl⟩
  .left
   have:YD F g=YD F f:=by have:=d g (hg g mg);have:=d f fF;simp only at ex;omega
   rw [<-ZOc (hg g mg) fF this];exact mg
  .right
   have i:=h.closed r mr t mt a ma;have e:Yn a t=f:=ZOc i fF (by
    have h1:=d _ i;have h2:=d f fF;have ex':(YD F (Yn a t)).toNat=(YD F f).toNat:=ex;omega)
   have b:∀g∈t.facts,g∈ZaI F rd/\rdN rd (YD F g)<rdN rd (YD F f):=fun g mg=>by
    have gF:=ZO5 mt g mg;obtain ⟨j,k1,_⟩:=ZpL gF;have my:YD F g∈Zbh F t.facts:=((Qz F t.facts).2.1 _).2 ⟨g,mg,rfl,yE⟩;obtain ⟨k2,k3⟩:=hi _ my;exact ⟨(hm g).2 ⟨gF,k2⟩,k3⟩
   refine ⟨r,mr,t,ZPC (R:=R) mt fun g mg=>(b g mg).1,a,ma,e,fun g mg=>?_,fun g mg o=>?_⟩
   .have k2:=(b g mg).2;have k1:=((hm g).1 (b g mg).1).2;show (rdN rd (YD F g)).toNat<(rdN rd (YD F f)).toNat
    omega
   .obtain ⟨gF,g0⟩:=(hm g).1 o;obtain ⟨j,k1,_⟩:=ZpL gF;have my:YD F g∈Zbh F (Zuc r t):=((Qz F (Zuc r t)).2.1 _).2 ⟨g,mg,rfl,yE⟩;have:=ho _ my;omega
theorem ZPD {R:List Zg}{base F:List Zc}(h:Yo R base F) (a:(Xg R F base).length<=60):ZNE R base (ZaI F (rdB {nodes:=(F.length:Int),reasons:=Xg R F base})):=
 ZPj h (Zdx.of h a) (fun _=>ZnR) h.good.inc
/- one model alone -/
end
section
open Classical
theorem ZNp {b:List Zi}(hb:ZY b=true):∀{p f:List ByteArray},p.all YJ=true->f.all ZT=true->p.length=f.length->(∀a∈p,Yr a=true->∃z,Q6 b a=some z)->((Ze9 p f b).isSome=true↔Zfy p b=some f)
 | [],[],_,_,_,_=>by simp [Ze9,Zfy]
 | [],_::_,_,_,h,_=>by simp at h
 |_::_,[],_,_,h,_=>by simp at h
 |a::p,w::f,hp,hf,hl,hv=>by
  simp only[Ar,A3]at hp hf;have ih:=ZNp hb (p:=p) (f:=f) hp.2 hf.2 (by simpa using hl) fun x mx=>hv x (by simp [mx]);obtain ⟨l,el,hll⟩:=Znw hp.2 fun x mx=>hv x (by simp [mx]);by_cases ha:ZT a=true
  .have d:X9 b a=some a:=by unfold X9;rw [if_pos ha]
   simp only[Ze9,Zfy,if_pos ha,d,A0];by_cases e:a=w
   .subst e;rw [if_pos rfl,ih,el];simp
   .rw [if_neg e,el];simp [e]
  .have c:Yr a=true:=by
    have:=hp.1;unfold YJ at this;rw [Ab]at this;exact this.resolve_left ha
   obtain ⟨z,hz⟩:=hv a yG c;have d:X9 b a=some z:=by rw [Zi0 c];exact hz
   have he:Zhw b a w=if z=w then some b else none:=by
    unfold Zhw;rw [if_pos ⟨hb,c,hf.1⟩,hz]
   simp only[Ze9,Zfy,if_neg ha,d,A0,he];by_cases e:z=w
   .subst e;rw [if_pos rfl,A0,ih,el];simp
   .rw [if_neg e,el];simp [e]
theorem ZNN {p:Zx}{g:Zc}{b:List Zi}(hp:Z9 p=true) (hb:ZY b=true) (hv:∀a∈p.args,Yr a=true->∃z,Q6 b a=some z) (hg:Y3 g=true):(XL p g b).isSome=true↔Zb8 p b=some g:=by
 have c:=hp;have d:=hg;unfold Z9 at c;unfold Y3 at d;simp only[A3]at c d;obtain ⟨l,el,f⟩:=Znw c.2 hv;unfold Zb8;rw [if_pos ⟨hp,hb⟩,el];unfold XL;by_cases hc:ZhA p g b=true
 .rw [if_pos hc];unfold ZhA at hc;simp only[A3,decide_eq_true_eq]at hc;rw [ZNp hb c.2 d.2 hc.2 hv,el];simp only[Ay,Az];constructor
  .intro e;rw [e,hc.1.2]
  .intro e;rw [<-e]
 .rw [if_neg hc];simp only[Option.isSome_none,AB,Ay,Az,false_iff];intro e;refine hc ?_;unfold ZhA;simp only[A3,decide_eq_true_eq];exact ⟨⟨⟨⟨hp,hg⟩,hb⟩,by rw [<-e]⟩,by rw [<-e];exact f.symm⟩
theorem ZOj {p:Zx}{b:List Zi}(hp:Z9 p=true) (hb:ZY b=true) (hv:∀a∈p.args,Yr a=true->∃z,Q6 b a=some z):∃i,Zb8 p b=some i:=by
 have c:=hp;unfold Z9 at c;simp only[A3]at c;obtain ⟨l,el,_⟩:=Znw c.2 hv;unfold Zb8;rw [if_pos ⟨hp,hb⟩,el];exact ⟨_,rfl⟩
theorem ZNT {b c:List Zi}(h:∀u z,Q6 b u=some z->Q6 c u=some z):∀{p l:List ByteArray},Zfy p b=some l->Zfy p c=some l
 | [],_,e=>e
 |a::p,l,e=>by
  simp only[Zfy]at e ⊢;obtain ⟨v,e1,e⟩:=B2.1 e;obtain ⟨q,e2,rfl⟩:=AI.1 e;have:X9 c a=some v:=by
   unfold X9 at e1 ⊢;split at e1
   .rename_i h1;rw [if_pos h1];exact e1
   .rename_i h1;rw [if_neg h1];split at e1
    .rename_i h2;rw [if_pos h2];exact h _ _ e1
    .simp at e1
  rw [this,A0,ZNT h e2];rfl
theorem ZNR {p:Zx}{b c:List Zi}(hc:ZY c=true) (h:∀u z,Q6 b u=some z->Q6 c u=some z) {i:Zc}(e:Zb8 p b=some i):Zb8 p c=some i:=by
 unfold Zb8 at e ⊢;split at e
 .rename_i h1;rw [if_pos ⟨h1.1,hc⟩];obtain ⟨l,e1,rfl⟩:=AI.1 e;rw [ZNT h e1];rfl
 .simp at e
theorem ZOS {x:Zl}{b:List Zi}{M:List Zc}(hk:x.kind=2) (hc:Y1 x=true) (hb:ZY b=true) (hv:∀a∈x.pattern.args,Yr a=true->∃z,Q6 b a=some z) (hM:∀f∈M,Y3 f=true):Zgo x b M=true↔(Zdk (Zb8 x.pattern b)).1∉M:=by
 have hp:Z9 x.pattern=true:=by
  unfold Y1 at hc;rw [if_pos (.inr hk)]at hc;simp only[A3]at hc;exact hc.1.1
 obtain ⟨i,hi⟩:=ZOj hp hb hv;have e1:(Zdk (Zb8 x.pattern b)).1=i:=by rw [hi];rfl
 have h1:¬x.kind=1:=by omega
 unfold Zgo;rw [if_pos ⟨hc,hb⟩,if_neg h1,if_pos hk,decide_eq_true_iff,e1];unfold ZdF;rw [List.length_eq_zero_iff,List.filter_eq_nil_iff];constructor
 .intro h mi;exact h i mi ((ZNN hp hb hv (hM i mi)).2 hi)
 .intro h g mg hs;have:=(ZNN hp hb hv (hM g mg)).1 hs;rw [hi]at this;exact h (by rw [AL this];exact mg)
structure ZOV (l:List Zl):Prop where
 valid:∀x∈l,Y1 x=true
 bound:∀p x q,l=p++x::q->x.kind=2->∀a∈x.pattern.args,Yr a=true->a∈Y2 p
theorem ZOC {M:List Zc}(hM:∀f∈M,Y3 f=true):∀n (l:List Zl),l.length=n->ZOV l->∀t,t∈Zz l M↔t∈Zz (l.filter fun x=>x.kind != 2) M/\∀x∈l,x.kind=2->(Zdk (Zb8 x.pattern t.binding)).1∉M:=by
 intro n;induction n with
 |zero=>
  intro l h _ t;rw [AH h];simp
 |succ n ih=>
  intro l h hB t;obtain ⟨p,x,rfl⟩:∃p x,l=p++[x]:=⟨l.dropLast,l.getLast (by intro e;simp [e]at h),(Ad _).symm⟩
  have k:ZOV p:=⟨fun y my=>hB.valid y (by simp [my]),fun q y s e=>hB.bound q y (s++[x]) (by rw [e];simp)⟩
  have j:=ih p (by simpa using h) k;have o:∀s u:Zq,s∈Zz p M->ZY u.binding=true->(∀v z,Q6 s.binding v=some z->Q6 u.binding v=some z)->∀y∈p,y.kind=2->(Zdk (Zb8 y.pattern u.binding)).1=(Zdk (Zb8 y.pattern s.binding)).1:=fun s u ms hu hg y my hk=>by
   obtain ⟨q,r,e⟩:=B3 my;have hp:Z9 y.pattern=true:=by
    have hc:=k.valid y my;unfold Y1 at hc;rw [if_pos (.inr hk)]at hc;simp only[A3]at hc;exact hc.1.1
   have ho:=Zbw M p s ms;obtain ⟨i,hi⟩:=ZOj hp ho.bind fun a ma hv=>ho.vars a (by
    have:=k.bound q y r e hk a ma hv;rw [e];unfold Y2 at this ⊢;rw [List.flatMap_append];exact AF.2 (.inl this))
   rw [hi,ZNR hu hg hi]
  rw [Zaw,List.filter_append];by_cases h1:x.kind=1
  .have hf:[x].filter (fun x=>x.kind != 2)=[x]:=by simp [h1]
   rw [hf,Zaw];have m:∀s u:Zq,s∈Zz p M->u∈QD x M s->((∀y∈p++[x],y.kind=2->(Zdk (Zb8 y.pattern u.binding)).1∉M)↔∀y∈p,y.kind=2->(Zdk (Zb8 y.pattern s.binding)).1∉M):=fun s u ms mu=>by
    have hu:=mu;unfold QD at hu;rw [if_pos h1]at hu;obtain ⟨g,mg,hg⟩:=AO.1 hu;obtain ⟨b,hb,rfl⟩:=AI.1 hg;obtain ⟨k1,_,k3⟩:=ZvH hb;have w:=o s {facts:=s.facts++[g],binding:=b} ms k1 k3;constructor
    .intro hh y my hk;rw [<-w y my hk];exact hh y (by simp [my]) hk
    .intro hh y my hk;rcases AF.1 my with my|my
     .rw [w y my hk];exact hh y my hk
     .simp at my;subst my;omega
   constructor
   .intro mt;obtain ⟨s,ms,mt⟩:=A6.1 mt;obtain ⟨i1,i2⟩:=(j s).1 ms;exact ⟨A6.2 ⟨s,i1,mt⟩,(m s t ms mt).2 i2⟩
   .rintro ⟨mt,ha⟩;obtain ⟨s,ms,mt⟩:=A6.1 mt;have hs:s∈Zz p M:=(j s).2 ⟨ms,fun y my hk=>?_⟩
    .exact A6.2 ⟨s,hs,mt⟩
    .have hu:=mt;unfold QD at hu;rw [if_pos h1]at hu;obtain ⟨g,mg,hg⟩:=AO.1 hu;obtain ⟨b,hb,e⟩:=AI.1 hg;obtain ⟨k1,_,k3⟩:=ZvH hb;have hp:Z9 y.pattern=true:=by
      have hc:=k.valid y my;unfold Y1 at hc;rw [if_pos (.inr hk)]at hc;simp only[A3]at hc;exact hc.1.1
     obtain ⟨q,r,e2⟩:=B3 my;have ho:=Zbw M _ s ms;obtain ⟨i,hi⟩:=ZOj hp ho.bind fun a ma hv=>ho.vars a (by
      have:=k.bound q y r e2 hk a ma hv;rw [e2];unfold Y2 at this ⊢;obtain ⟨c,mc,hc⟩:=A6.1 this;by_cases A:c.kind=1
      .exact A6.2 ⟨c,Af.2 ⟨by simp [mc],by simp [A]⟩,hc⟩
      .rw [if_neg A]at hc;simp at hc)
     have:=ha y (by simp [my]) hk;rw [<-e,ZNR k1 k3 hi]at this;rw [hi];exact this
  .by_cases h2:x.kind=2
   .have hf:[x].filter (fun x=>x.kind != 2)=[]:=by simp [h2]
    rw [hf,Au];have hn:∀s,QD x M s=if Zgo x s.binding M=true then [s] else []:=fun s=>by unfold QD;rw [if_neg h1]
    have hx:∀s,s∈Zz p M->(Zgo x s.binding M=true↔(Zdk (Zb8 x.pattern s.binding)).1∉M):=fun s ms=>by
     have ho:=Zbw M p s ms;exact ZOS h2 (hB.valid x yG) ho.bind (fun a ma hv=>ho.vars a (hB.bound p x [] yG h2 a ma hv)) hM
    constructor
    .intro mt;obtain ⟨s,ms,mt⟩:=A6.1 mt;rw [hn]at mt;split at mt
     .rename_i hh;simp at mt;subst mt;obtain ⟨i1,i2⟩:=(j t).1 ms;refine ⟨i1,fun y my hk=>?_⟩;rcases AF.1 my with my|my
      .exact i2 y my hk
      .simp at my;subst my;exact (hx t ms).1 hh
     .simp at mt
    .rintro ⟨mt,ha⟩;have hs:t∈Zz p M:=(j t).2 ⟨mt,fun y my hk=>ha y (by simp [my]) hk⟩;refine A6.2 ⟨t,hs,?_⟩;rw [hn,if_pos ((hx t hs).2 (ha x yG h2))];simp
   .have hf:[x].filter (fun x=>x.kind != 2)=[x]:=by simp [h2]
    rw [hf,Zaw];have hn:∀s,QD x M s=if Zgo x s.binding M=true then [s] else []:=fun s=>by unfold QD;rw [if_neg h1]
    constructor
    .intro mt;obtain ⟨s,ms,mt⟩:=A6.1 mt;have d:=mt;rw [hn]at d;split at d
     .simp at d;subst d;obtain ⟨i1,i2⟩:=(j t).1 ms;refine ⟨A6.2 ⟨t,i1,mt⟩,fun y my hk=>?_⟩;rcases AF.1 my with my|my
      .exact i2 y my hk
      .simp at my;subst my;exact absurd hk h2
     .simp at d
    .rintro ⟨mt,ha⟩;obtain ⟨s,ms,mt⟩:=A6.1 mt;have d:=mt;rw [hn]at d;split at d
     .simp at d;subst d;exact A6.2 ⟨t,(j t).2 ⟨ms,fun y my hk=>ha y (by simp [my]) hk⟩,mt⟩
     .simp at d
end
section
open Classical
theorem ZPE {r:Zg}(h:Z2 r=true):ZOV r.cond:=by
 unfold Z2 at h;simp only[A3]at h;obtain ⟨⟨hr,hb⟩,_⟩:=h;unfold YP at hr;simp only[A3]at hr;have hv:=hr.1.1.2;refine ⟨fun x mx=>?_,fun p x q e hk a ma ha=>?_⟩
 .obtain ⟨j,hj,e⟩:=List.getElem_of_mem mx;have:=ZjG hv j x (by rw [A4 hj,e]);simp only[A3]at this;exact this.1.1
 .have:=ZjG hb p.length x (by rw [e];simp);unfold ZiX at this;rw [hk]at this;simp only[AZ,decide_true,Bool.not_true,Bool.false_or,AG]at this;have hm:a∈Y5 x:=by
   unfold Y5;rw [ZX];refine Af.2 ⟨?_,ha⟩;unfold ZgL;simp [ma]
  have h2:=Qo.1 (this a hm);unfold YY at h2;rw [ZX,e]at h2;simpa using h2
theorem ZOl {r:Zg}(h:Z2 r=true) {M:List Zc}(hM:∀f∈M,Y3 f=true) (t:Zq):t∈Zz r.cond M↔t∈Zz (ZaR r) M/\∀g∈Zuc r t,g∉M:=by
 rw [ZOC hM _ r.cond rfl (ZPE h)];refine and_congr_right fun _=>?_;unfold Zuc;constructor
 .intro hh g mg;obtain ⟨x,mx,rfl⟩:=AQ.1 mg;obtain ⟨m1,m2⟩:=Af.1 mx;exact hh x m1 (by simpa using m2)
 .intro hh x mx hk;exact hh _ (AQ.2 ⟨x,Af.2 ⟨mx,by simp [hk]⟩,rfl⟩)
theorem ZNE.closed {R:List Zg}{base M:List Zc}(h:ZNE R base M) (hR:∀r∈R,Z2 r=true) (hM:∀f∈M,Y3 f=true):∀r∈R,∀t∈Zz r.cond M,∀a∈r.thn,Yn a t∈M:=fun r mr t mt a ma=>by
 obtain ⟨h1,h2⟩:=(ZOl (hR r mr) hM t).1 mt;exact h.clos r mr t h1 h2 a ma
/- without one of the given facts -/
end
section
open Classical
theorem Zsz {l:List Zc}(hl:l.length<=24) (ha:Zg7 l) (hok:∀f∈l,Y3 f=true):Yj l=true:=by
 unfold Yj;rw [A3,decide_eq_true_iff];refine ⟨hl,?_⟩;have key:∀(b a:List Zc),l=a++b->Q5 (ZdT l) b a.length=true:=by
  intro b;induction b with
  |nil=>intro a _;rfl
  |cons x b ih=>
   intro a e;simp only[Q5,A3];refine ⟨?_,by have:=ih (a++[x]) (by rw [e];simp);simpa using this⟩;unfold ZdT;rw [A3];refine ⟨hok x (by rw [e];simp),?_⟩;by_cases h0:a.length=0
   .rw [if_pos h0]
   .rw [if_neg h0];obtain ⟨q,y,rfl⟩:∃q y,a=q++[y]:=⟨a.dropLast,a.getLast (by intro e2;simp [e2]at h0),(Ad _).symm⟩
    have hy:l[(q++[y]).length-1]?=some y:=by rw [e];simp
    rw [hy,decide_eq_true_iff];unfold Zg7 at ha;rw [e,B4,List.pairwise_append]at ha;have h2:=ha.2.1;rw [List.singleton_append,List.pairwise_cons]at h2;exact h2.1 x yG
 exact key l [] rfl
theorem Zyr {a b:List Zc}(h:a.Sublist b) (hb:Zg7 b):Zg7 a:=List.Pairwise.sublist h hb
theorem Zkt:∀{F:List Zc}{l:List Int},(ZaI F l).Sublist F
 | [],l=>by simp [ZaI]
 |f::F,[]=>by simp [ZaI]
 |f::F,v::l=>by
  unfold ZaI;split
  .exact Zkt.cons_cons f
  .exact Zkt.cons f
theorem ZLx {R L:List Zg}(hS:Zaz L) (hL:∀r∈L,r∈R) (b:(YW L&&L.all (Xo L))=true) {base F:List Zc}(h:Yo R base F) {a:List Zc}(hs:a.Sublist base):∃G,YA L a=some (G,true)/\YB L a=some (G,true)/\Yo L a G/\∀f∈G,f∈F:=by
 obtain ⟨c,d⟩:=Zc7 h.facts;have hg:Yj a=true:=Zsz (Ac hs.length_le c) (Zyr hs (Zj0 h.facts)) fun f mf=>d f (hs.subset mf);have e:Cl L a F:=⟨h.good.asc,fun f mf=>h.good.inc f (hs.subset mf),fun r mr=>h.closed r (hL r mr)⟩
 have g:a.length<=1048576:=by have:=hs.length_le;omega
 obtain ⟨s1,s2⟩:=Zic hS a g;obtain ⟨i1,i2⟩:=Zid hS a;obtain ⟨x,e1,r1⟩:=s2 b hg;obtain ⟨y,e2,r2⟩:=i2 b hg;rw [<-r1.uniq r2]at e2;obtain ⟨G,ok⟩:=x;rcases r1 with ⟨h1,h2,h3,h4⟩|⟨h1,h2,h3⟩
 .simp only at h1 h2 h3 h4;subst h1;exact ⟨G,e1,e2,⟨b,hg,h2,h3,h4⟩,fun f mf=>h2.low F e f mf⟩
 .have:=h3 F e;have:=h.len;omega
/- reasons, of the smaller set -/
def ZLX (F:List Zc) (y:Int):Zc:=match F[y.toNat]? with|some f=>f|none=>{rel:=⟨#[]⟩,args:=[]}
end
section
open Classical
def givesB (t:Zq) (f:Zc) (a:Zu):Bool:=(Zdk (Zb8 a.pattern t.binding)).2&&decide ((Zdk (Zb8 a.pattern t.binding)).1=f)
end
section
open Classical
theorem ZLA {β:Type}{P:Zf->β->Prop}:∀(c:List (Zf×β)) (s:List Zf×List β),(∀x∈c,P x.1 x.2)->s.2.length=s.1.length->(∀(k:Nat) (q:Zf) (o:β),s.1[k]?=some q->s.2[k]?=some o->P q o)->∀(k:Nat) (q:Zf) (o:β),(c.foldl Q4 s).1[k]?=some q->(c.foldl Q4 s).2[k]?=some o->P q o
 | [],s,_,_,h=>h
 |x::c,s,hc,hl,h=>by
  rw [Ag];refine ZLA c (Q4 s x) (fun y my=>hc y (by simp [my])) ?_ ?_
  .unfold Q4;split
   .exact hl
   .simp [hl]
  .intro k q o hq ho;unfold Q4 at hq ho;split at hq
   .rename_i hm;rw [if_pos hm]at ho;exact h k q o hq ho
   .rename_i hm;rw [if_neg hm]at ho;rcases Ae k s.1.length with hk|hk|hk
    .rw [AX hk]at hq;rw [AX yE]at ho;exact h k q o hq ho
    .subst hk;rw [As (A9 _)]at hq;rw [<-hl,As (A9 _)]at ho;simp at hq ho;subst hq ho;exact hc x yG
    .rw [AJ (by simp;omega)]at hq;simp at hq
def ZMs {β:Type}(oF:Zg->Zq->β) (z:β) (R:List Zg) (base F:List Zc) (q:Zf) (o:β):Prop:=
 (∃f∈base,q={for_:=YD F f,inn:=[],outs:=[]}/\o=z)\/∃r∈R,∃t∈Zz (ZaR r) F,∃a∈r.thn,q=Yk F r t a/\o=oF r t
theorem ZLB {β:Type}(oF:Zg->Zq->β) (z:β) (R:List Zg) (base F:List Zc) (k:Nat) (q:Zf) (o:β) (hq:(Za5 oF F z R base).1[k]?=some q) (ho:(Za5 oF F z R base).2[k]?=some o):ZMs oF z R base F q o:=by
 refine ZLA (P:=ZMs oF z R base F) (R.flatMap (Zmg oF F)) (ZdU F base,base.map fun _=>z) ?_ (by simp [ZdU]) ?_ k q o hq ho
 .intro x mx;obtain ⟨r,mr,mx⟩:=A6.1 mx;obtain ⟨t,mt,mx⟩:=A6.1 mx;obtain ⟨a,ma,rfl⟩:=AQ.1 mx;exact .inr ⟨r,mr,t,mt,a,ma,rfl,rfl⟩
 .intro k q o hq ho;simp only[ZdU,B5,AI]at hq ho;obtain ⟨f,hf,rfl⟩:=hq;obtain ⟨_,_,rfl⟩:=ho;exact .inl ⟨f,AD hf,rfl,rfl⟩
def ZJv (out:List ZzC) (x:Zc):Int:=ZI4 (fun s:ZzC=>decide (s.fact=x)) out 0
theorem ZKq {α:Type}{p:α->Bool}:∀{l:List α}{i:Nat},ZI4 p l i<0->∀x∈l,p x=false
 | [],_,_,x,mx=>by simp at mx
 |y::l,i,h,x,mx=>by
  rw [ZI4]at h;by_cases hp:p y=true
  .rw [if_pos hp]at h;omega
  .rw [if_neg hp]at h;rcases Aq.1 mx with rfl|mx
   .simpa using hp
   .exact ZKq h x mx
def mkS (F:List Zc) (Q:List Zf) (O:List Za4) (out:List ZzC) (k:Int):ZzC:=
 {fact:=ZLX F (((Q[k.toNat]?).map (·.for_)).getD 0),rule:=((O[k.toNat]?).map (·.rule)).getD ⟨#[]⟩,uses:=(((O[k.toNat]?).map (·.facts)).getD []).map (ZJv out)}
def Q0 (F:List Zc) (Q:List Zf) (O:List Za4) (l:List Int):List ZzC:=l.foldl (fun out k=>out++[mkS F Q O out k]) []
theorem ZJT (F:List Zc) (Q:List Zf) (O:List Za4) (l:List Int) (k:Int):Q0 F Q O (l++[k])=Q0 F Q O l++[mkS F Q O (Q0 F Q O l) k]:=by
 unfold Q0;rw [B6];rfl
theorem ZLH {α:Type}{P:List α->Prop}(h0:P []) (h:∀p x,P p->P (p++[x])) (l:List α):P l:=by
 have:∀n (l:List α),l.length=n->P l:=by
  intro n;induction n with
  |zero=>intro l hl;rw [AH hl];exact h0
  |succ n ih=>
   intro l hl;obtain ⟨p,x,rfl⟩:∃p x,l=p++[x]:=⟨l.dropLast,l.getLast (by intro e;simp [e]at hl),(Ad _).symm⟩
   exact h p x (ih p (by simpa using hl))
 exact this _ l rfl
theorem ZJj (F:List Zc) (Q:List Zf) (O:List Za4) (l:List Int):(Q0 F Q O l).length=l.length:=
 ZLH (P:=fun l=>(Q0 F Q O l).length=l.length) rfl (fun p x ih=>by rw [ZJT,AE,AE,ih];rfl) l
theorem ZK7 {F:List Zc}{Q:List Zf}{O:List Za4}:∀{l:List Int}{i:Nat}{s:ZzC},(Q0 F Q O l)[i]?=some s->∃p k q,l=p++k::q/\p.length=i/\s=mkS F Q O (Q0 F Q O p) k/\(Q0 F Q O l).take i=Q0 F Q O p:=by
 intro l;refine ZLH (P:=fun l=>∀{i:Nat} {s:ZzC},(Q0 F Q O l)[i]?=some s->∃p k q,l=p++k::q/\p.length=i/\s=mkS F Q O (Q0 F Q O p) k/\(Q0 F Q O l).take i=Q0 F Q O p) ?_ ?_ l
 .intro i s h;simp [Q0]at h
 .intro p x ih i s h;have hl:=ZJj F Q O p;rw [ZJT]at h ⊢;by_cases hi:i<p.length
  .rw [AX yE]at h;obtain ⟨p',k,q,e1,e2,e3,e4⟩:=ih h;refine ⟨p',k,q++[x],by rw [e1];simp,e2,e3,?_⟩;rw [B7 yE,e4]
  .have a:i<(Q0 F Q O p++[mkS F Q O (Q0 F Q O p) x]).length:=(AA.1 h).1;have b:i=p.length:=by simp at a;omega
   subst b;rw [<-hl,As (A9 _)]at h;simp at h;exact ⟨p,x,[],rfl,rfl,h.symm,by rw [<-hl,B7 (A9 _),B8]⟩
theorem ZMp {b:Zt}(h:Zdx b) {x:Int}(h0:0<=x) (hx:0<=rdN (rdB b) x):0<=ZI2 b x:=by
 have hxl:x.toNat<b.nodes.toNat:=by
  refine Classical.byContradiction fun hn=>?_;rw [ZLZ (by rw [h.rd];exact hn)]at hx;omega
 have h1:=h.n0;have e0:(x.toNat:Int)=x:=AP h0;obtain ⟨r,mr,hf,hi,ho⟩:=h.end.1 x.toNat (by rw [e0];exact hx);rw [e0]at hi;have a:r.for_=x:=by have:=(h.ok r mr).1.1;omega
 unfold ZI2;rw [if_pos ⟨h0,yE,hx⟩];rcases ZJL (p:=ZKH b x) (l:=b.reasons) (i:=0) with e|e
 .exfalso;have:=ZKq (by rw [e];omega) r mr;unfold ZKH at this;rw [decide_eq_false_iff_not]at this;exact this ⟨a,fun y my=>by have:=hi y my;omega,ho⟩
 .exact e
section
variable {R:List Zg} {base F:List Zc}
end
end
section
open Classical
theorem Yo.factsM {R:List Zg}{base F:List Zc}(h:Yo R base F) (l:List Int):Yj (ZaI F l)=true:=
 Zsz (h.few l).len (Zyr Zkt h.good.asc) (h.few l).ok
end
section
open Classical
theorem ZNJ (n:ByteArray):∀(l:List Zg) (i:Nat),(∃z,forL (σ:=Unit) (ρ:=Int) (fun (i4:Nat) (x5:Zg) _=>if (sEq x5.name n)=true then some (.inr (i4:Int)) else some (.inl ())) (fun _=>some (-1)) l i ()=some z/\((z=-1/\∀r∈l,r.name≠n)\/∃j r,z=((i+j:Nat):Int)/\l[j]?=some r/\r.name=n/\∀k u,k<j->l[k]?=some u->u.name≠n))
 | [],i=>⟨-1,rfl,.inl ⟨rfl,yG⟩⟩
 |x::l,i=>by
  by_cases hx:x.name=n
  .exact ⟨(i:Int),YF (by rw [if_pos (ZQ.2 hx)]),.inr ⟨0,x,yG,rfl,hx,fun k u hk=>by omega⟩⟩
  .obtain ⟨z,e,hz⟩:=ZNJ n l (i+1);refine ⟨z,(Z4 (s':=()) (by rw [if_neg (by rw [ZQ];exact hx)])).trans e,?_⟩;rcases hz with ⟨h1,h2⟩|⟨j,r,h1,h2,h3,h4⟩
   .refine .inl ⟨h1,fun r mr=>?_⟩;rcases Aq.1 mr with rfl|mr
    .exact hx
    .exact h2 r mr
   .refine .inr ⟨j+1,r,by rw [h1];congr 1;omega,by simpa using h2,h3,fun k u hk hu=>?_⟩;cases k with
    |zero=>simp at hu;subst hu;exact hx
    |succ k=>exact h4 k u yE (by simpa using hu)
theorem ZNZ (l:List Zg) (n:ByteArray):(Zly l n=-1/\∀r∈l,r.name≠n)\/∃j r,Zly l n=((j:Nat):Int)/\l[j]?=some r/\r.name=n/\∀k u,k<j->l[k]?=some u->u.name≠n:=by
 obtain ⟨z,e,hz⟩:=ZNJ n l 0
 have e2:Zbd l n=some z:=e
 rw [Zii]at e2
 obtain rfl:=AL e2
 simpa using hz
theorem ZOi (R:List Zg):YW R=true↔R.length<=6/\(∀r∈R,YP r=true)/\R.Pairwise fun a b=>a.name≠b.name:=by
 unfold YW
 rw [A3,decide_eq_true_iff]
 refine and_congr_right fun _=>?_
 constructor
 .intro h
  have f:∀j r,R[j]?=some r->YP r=true/\Zly R r.name=((j:Nat):Int):=fun j r hj=>by
   have:=ZjG h j r hj
   unfold Zg6 at this
   rw [A3,beq_iff_eq,AZ]at this
   exact this
  refine ⟨fun r mr=>?_,AS.2 fun i j hi hj hij e=>?_⟩
  .obtain ⟨j,hj⟩:=List.getElem?_of_mem mr
   exact (f j r hj).1
  .have h1:=(f i _ (A4 hi)).2
   have h2:=(f j _ (A4 hj)).2
   rw [e]at h1
   omega
 .rintro ⟨h1,h2⟩
  have key:∀(d c:List Zg),R=c++d->Q5 (Zg6 R) d c.length=true:=by
   intro d
   induction d with
   |nil=>intro c _;rfl
   |cons x d ih=>
    intro c e
    simp only[Q5,A3]
    refine ⟨?_,by have:=ih (c++[x]) (by rw [e];simp);simpa using this⟩
    unfold Zg6
    rw [A3,beq_iff_eq]
    refine ⟨h1 x (by rw [e];simp),?_⟩
    have hx:R[c.length]?=some x:=by rw [e];simp
    rcases ZNZ R x.name with ⟨_,k2⟩|⟨j,r,k1,k2,k3,k4⟩
    .exact absurd rfl (k2 x (by rw [e];simp))
    .rw [k1]
     congr 1
     rcases Ae j c.length with hl|hl|hl
     .exfalso
      obtain ⟨q1,e1⟩:=AA.1 k2
      obtain ⟨q2,e2⟩:=AA.1 hx
      exact AS.1 h2 j c.length q1 q2 hl (by rw [e1,e2,k3])
     .exact hl
     .exact absurd rfl (k4 c.length x hl hx)
  exact key R [] rfl
end
section
open Classical
theorem ZPI {R:List Zg}(h:YW R=true) {r:Zg}(mr:r∈R):∃j:Nat,Zly R r.name=((j:Nat):Int)/\R[j]?=some r:=by
 obtain ⟨_,_,hp⟩:=(ZOi R).1 h
 rcases ZNZ R r.name with ⟨_,h2⟩|⟨j,u,h1,h2,h3,_⟩
 .exact absurd rfl (h2 r mr)
 .refine ⟨j,h1,?_⟩
  obtain ⟨i,hi⟩:=At.1 mr
  obtain ⟨b,ei⟩:=AA.1 hi
  obtain ⟨c,ej⟩:=AA.1 h2
  have d:=AS.1 hp
  rcases Ae i j with a|rfl|a
  .exact absurd (by rw [ei,ej,h3]) (d i j b c a)
  .exact hi
  .exact absurd (by rw [ei,ej,h3]) (d j i c b a)
end
section
open Classical
def ZtB (R:List Zg) (base M:List Zc) (ok:Bool):Prop:=(ok=false/\M=[])\/(ok=true/\∃F,Yo R base F/\(Xg R F base).length<=60/\M=ZaI F (rdB {nodes:=(F.length:Int),reasons:=Xg R F base}))
theorem Zkp {R:List Zg}(hR:Zaz R) (base:List Zc) (a:base.length<=1048576):∃M ok,ZfH R base=some (M,ok)/\Zbi R base=some (M,ok)/\ZtB R base M ok:=by
 obtain ⟨F,b,ok,h1,h2,h3⟩:=Zi4 hR base a;unfold ZfH Zbi;rw [h1,h2];rcases h3 with ⟨rfl,rfl,rfl⟩|⟨rfl,hG,rfl,c⟩
 .exact ⟨_,_,rfl,rfl,.inl ⟨rfl,rfl⟩⟩
 .have hB:=Zdx.of hG c;refine ⟨_,true,?_,?_,.inr ⟨rfl,F,hG,c,rfl⟩⟩
  .rw [A0,if_pos rfl,Zw7 hB hG.args rfl];rfl
  .rw [A0,if_pos rfl,Zrx hB hG.args rfl];rfl
theorem ZtB.few {R:List Zg}{base M:List Zc}{ok:Bool}(h:ZtB R base M ok):Zyg M:=by
 rcases h with ⟨_,rfl⟩|⟨_,F,hG,_,rfl⟩
 .exact Zyp
 .exact hG.few _
theorem ZIJ {l:List Zc}{f:Zc}:YD l f<0↔f∉l:=by
 rcases ZnU l f with ⟨h1,h2⟩|⟨j,h1,h2⟩
 .exact ⟨fun _=>h1,fun _=>by omega⟩
 .exact ⟨fun h=>by omega,fun h=>absurd (AD h2) h⟩
theorem ZHo {l:List Zc}{f:Zc}:0<=YD l f↔f∈l:=by
 have:=ZIJ (l:=l) (f:=f);by_cases h:f∈l
 .exact ⟨fun _=>h,fun _=>Int.not_lt.1 fun hn=>this.1 hn h⟩
 .exact ⟨fun hn=>absurd hn (Int.not_le.2 (this.2 h)),fun hh=>absurd hh h⟩
end
def ZHC (p:Nat->Bool):Nat->Nat
 |0=>0
 |n+1=>if p n=true then n else ZHC p n
theorem ZIt (p:Nat->Bool):∀n,ZHC p n<=n
 |0=>A9 _
 |n+1=>by
  have:=ZIt p n;rw [ZHC];split<;>omega
theorem ZIQ (p:Nat->Bool) (n:Nat):ZHC p (n+1)<=n:=by
 have:=ZIt p n;rw [ZHC];split<;>omega
theorem ZNS {p q:Nat->Bool}(h:∀n,p n=true->q n=true):∀n,ZHC p n<=ZHC q n
 |0=>A9 _
 |n+1=>by
  have h1:=ZNS h n;have h2:=ZIt p n;rw [ZHC,ZHC];by_cases hp:p n=true
  .rw [if_pos hp,if_pos (h n hp)];exact A9 _
  .rw [if_neg hp];split<;>omega
theorem ZPd {p:Nat->Bool}{n:Nat}(h:ZHC p (n+1)=n) (hn:0<n):p n=true:=by
 refine Classical.byContradiction fun hp=>?_;rw [ZHC,if_neg hp]at h;obtain ⟨m,rfl⟩:∃m,n=m+1:=⟨n-1,yE⟩
 have:=ZIQ p m;omega
def ZG9 (b aim:List Zi):Bool:=b.all fun x=>match Q6 aim x.var with|some v=>decide (v=x.value)|none=>true
theorem ZOP {b a:List Zi}(h:ZG9 b a=true) {u z y:ByteArray}(hb:Q6 b u=some z) (ha:Q6 a u=some y):z=y:=by
 obtain ⟨x,mx,rfl,rfl⟩:=Zvy hb;have:=AG.1 h x mx;rw [ha]at this;exact (of_decide_eq_true this).symm
theorem ZNr {b d:List Zi}(c:ZG9 b d=true):∀{p f:List ByteArray}{b0:List Zi},ZY b0=true->p.all YJ=true->p.length=f.length->Ze9 p f b0=some d->(∀a∈p,Yr a=true->∃z,Q6 b a=some z)->Zfy p b=some f
 | [],[],_,_,_,_,_,_=>rfl
 | [],_::_,_,_,_,h,_,_=>by simp at h
 |_::_,[],_,_,_,h,_,_=>by simp at h
 |a::p,w::f,b0,h0,ht,hl,hm,hv=>by
  simp only[Ar,A3]at ht;simp only[Ze9]at hm;have g:p.length=f.length:=by simpa using hl
  have i:∀x∈p,Yr x=true->∃z,Q6 b x=some z:=fun x mx=>hv x (by simp [mx]);by_cases ha:ZT a=true
  .rw [if_pos ha]at hm;split at hm
   .rename_i e;rw [Zfy,ZNr c h0 ht.2 g hm i];unfold X9;rw [if_pos ha,e];rfl
   .simp at hm
  .rw [if_neg ha]at hm;obtain ⟨b1,e1,hm⟩:=B2.1 hm;obtain ⟨k1,k2,k3⟩:=ZuS e1;obtain ⟨_,_,h3⟩:=Zkr k1 hm;have j:Yr a=true:=by
    have:=ht.1;unfold YJ at this;rw [Ab]at this;rcases this with h|h
    .exact absurd h ha
    .exact h
   obtain ⟨z,hz⟩:=hv a yG j;have k:=ZOP c hz (h3 _ _ k2);rw [Zfy,ZNr c k1 ht.2 g hm i,Zi0 j,hz,k];rfl
theorem ZOL {r:Zg}(hr:Z2 r=true) {M:List Zc}{t:Zq}(mt:t∈Zz r.cond M) {a:Zu}(ma:a∈r.thn) {f:Zc}{b:List Zi}(hm:XL a.pattern f []=some b) (i:ZG9 t.binding b=true):Yn a t=f:=by
 unfold Z2 at hr;simp only[A3]at hr;have hk:a.kind=1:=by
  have:=AG.1 hr.2 a ma;simpa using this
 have c:=Zbw M _ t mt;obtain ⟨h1,h2⟩:=ZvL hr.1.1 a ma hk;have hp:=h1;unfold Z9 at hp;simp only[A3,decide_eq_true_iff]at hp;unfold XL at hm;split at hm
 .rename_i hc;unfold ZhA at hc;simp only[A3,decide_eq_true_iff]at hc;obtain ⟨⟨⟨⟨_,_⟩,hb⟩,d⟩,g⟩:=hc;have e:=ZNr i hb hp.2 g hm (fun v mv hv=>c.vars v (h2 v mv hv));unfold Yn Zb8;rw [if_pos ⟨h1,c.bind⟩,e];show ({rel:=a.pattern.rel,args:=f.args}:Zc)=f
  rw [d]
 .simp at hm
def ZHS (l:List Zl) (M:List Zc) (aim:List Zi):Nat:=ZHC (fun n=>(Zz (l.take n) M).any fun t=>ZG9 t.binding aim) (l.length+1)
def ZPp (l:List Zl) (M:List Zc):Nat:=ZHC (fun n=>decide (0<(Zz (l.take n) M).length)) (l.length+1)
theorem ZPz (l:List Zl) (M:List Zc) (a:List Zi):ZHS l M a<=ZPp l M:=
 ZNS (fun n h=>by
  obtain ⟨t,mt,_⟩:=Aa.1 h;exact decide_eq_true (List.length_pos_of_mem mt)) _
theorem ZPL {R:List Zg}{base M:List Zc}(h:ZNE R base M) (hL:∀r∈R,Z2 r=true) (hM:∀f∈M,Y3 f=true) {r:Zg}(mr:r∈R) (h0:0<r.cond.length) {a:Zu}(ma:a∈r.thn) {f:Zc}(hf:f∉M) {b:List Zi}(hm:XL a.pattern f []=some b):ZHS r.cond M b<r.cond.length:=by
 have h1:=ZIQ (fun n=>(Zz (r.cond.take n) M).any fun t=>ZG9 t.binding b) r.cond.length;refine Nat.lt_of_le_of_ne h1 fun e=>hf ?_;have h2:=ZPd e h0;obtain ⟨t,mt,c⟩:=Aa.1 h2;rw [B8]at mt;have:=h.closed hL hM r mr t mt a ma
 rwa [ZOL (hL r mr) mt ma hm c]at this
theorem ZIG {s:ByteArray}(h:Yr s=true):s.size<=9:=by
 unfold Yr at h;simp only[A3,decide_eq_true_eq]at h;have h1:=(ZbW h.2).2;unfold ZuN at h1;rw [AT]at h1;omega
theorem ZHI {s:ByteArray}(h:YJ s=true):s.size<=9:=by
 unfold YJ at h;rw [Ab]at h;rcases h with h|h
 .have:=ZbW h;omega
 .exact ZIG h
theorem ZIs {l:List ByteArray}(h:l.all YJ=true) (sep:ByteArray) (hs:sep.size<=1):ZHh l sep<=10*l.length:=by
 induction l with
 |nil=>simp [ZHh]
 |cons x l ih=>
  simp only[Ar,A3]at h;have h1:=ZHI h.1;have h2:=ih h.2;rw [ZHA,AR];omega
def ZH1 (p:Zx):ByteArray:=if Z9 p=true then ((p.rel++(⟨#[40]⟩:ByteArray))++ZHg p.args ⟨#[44]⟩)++(⟨#[41]⟩:ByteArray) else ⟨#[]⟩
theorem ZHH {p:Zx}(h:Z9 p=true):p.rel.size<=8/\ZHh p.args ⟨#[44]⟩<=30/\p.args.length<=3:=by
 unfold Z9 at h;simp only[A3,decide_eq_true_iff]at h;have h1:=h.1.1;unfold XG at h1;rw [A3]at h1;have h2:=(ZbW h1.1).2;have h3:=ZIs h.2 ⟨#[44]⟩ yF;exact ⟨h2,yE,h.1.2⟩
theorem ZG4 (p:Zx):(ZH1 p).size<=40:=by
 unfold ZH1;split
 .rename_i h;obtain ⟨h1,h2,_⟩:=ZHH h;have h3:=ZHf ⟨#[44]⟩ p.args;have e1:(⟨#[40]⟩:ByteArray).size=1:=rfl;have e2:(⟨#[41]⟩:ByteArray).size=1:=rfl;rw [ZyE,ZyE,ZyE];omega
 .exact AN _
theorem ZHz (p:Zx):ZG1 p=some (ZH1 p):=by
 have e1:(⟨#[40]⟩:ByteArray).size=1:=rfl;have e2:(⟨#[41]⟩:ByteArray).size=1:=rfl;unfold ZG1 ZH1;rw [ZbD,A0];split
 .rename_i h;obtain ⟨h1,h2,_⟩:=ZHH h;have h3:=ZHf ⟨#[44]⟩ p.args;rw [Zj _ yE,ZIO _ _ yE,A0,Zj _ (by rw [ZyE];omega),Zj _ (by rw [ZyE,ZyE];omega)]
 .rfl
theorem ZHe (p:Zx):ZGZ p=some (ZH1 p):=by
 have e1:(⟨#[40]⟩:ByteArray).size=1:=rfl;have e2:(⟨#[41]⟩:ByteArray).size=1:=rfl;unfold ZGZ ZH1;rw [ZbE,A0];split
 .rename_i h;obtain ⟨h1,h2,h4⟩:=ZHH h;have h3:=ZHf ⟨#[44]⟩ p.args;rw [Zj _ yE,ZIM _ _ yE yE,A0,Zj _ (by rw [ZyE];omega),Zj _ (by rw [ZyE,ZyE];omega)]
 .rfl
section
open Classical
theorem ZIr (k:Int):ZHq k=some (ZHL k):=by
 unfold ZHq ZHL;by_cases h3:k=3
 .rw [if_pos (by simp [h3]),if_pos h3]
 .rw [if_neg (by simpa using h3),if_neg h3];by_cases h4:k=4
  .rw [if_pos (by simp [h4]),if_pos h4]
  .rw [if_neg (by simpa using h4),if_neg h4]
theorem ZHU (k:Int):(ZHL k).size<=4:=by
 unfold ZHL;split
 .decide
 .split<;>decide
def ZHT (x:Zl):ByteArray:=if Y1 x=true then (if x.kind=1 then ZH1 x.pattern else if x.kind=2 then (⟨#[110,111,116,32]⟩:ByteArray)++ZH1 x.pattern else (x.left++ZHL x.kind)++x.right) else ⟨#[]⟩
theorem ZHy {x:Zl}(h:Y1 x=true) (h1:¬x.kind=1) (h2:¬x.kind=2):(3<=x.kind/\x.kind<=5)/\x.left.size<=9/\x.right.size<=9:=by
 have hk:=Zqk h;unfold Y1 at h;rw [if_neg yE,if_pos yE]at h;simp only[A3]at h;exact ⟨yE,ZHI h.1.2,ZHI h.2⟩
theorem ZIz (x:Zl):(ZHT x).size<=44:=by
 unfold ZHT;split
 .rename_i h;split
  .exact Ac (ZG4 _) yE
  .rename_i h1;split
   .rw [ZyE];have e0:(⟨#[110,111,116,32]⟩:ByteArray).size=4:=rfl;have:=ZG4 x.pattern;omega
   .rename_i h2;obtain ⟨_,a,b⟩:=ZHy h h1 h2;rw [ZyE,ZyE];have:=ZHU x.kind;omega
 .exact AN _
theorem ZHP (x:Zl):ZG7 x=some (ZHT x):=by
 have e0:(⟨#[110,111,116,32]⟩:ByteArray).size=4:=rfl;have hp:=ZG4 x.pattern;unfold ZG7 ZHT;rw [ZeH,A0,ZHz];by_cases h:Y1 x=true
 .rw [if_pos h,if_pos h];by_cases h1:x.kind=1
  .rw [if_pos (by simp [h1]),if_pos h1];rfl
  .rw [if_neg (by simpa using h1),if_neg h1];by_cases h2:x.kind=2
   .rw [if_pos (by simp [h2]),if_pos h2,A0,Zj _ yE]
   .obtain ⟨_,a,b⟩:=ZHy h h1 h2;have hs:=ZHU x.kind;rw [if_neg (by simpa using h2),if_neg h2,ZIr,A0,Zj _ yE,Zj _ (by rw [ZyE];omega)]
 .rw [if_neg h,if_neg h]
theorem ZHN (x:Zl):ZG3 x=some (ZHT x):=by
 have hp:=ZG4 x.pattern;unfold ZG3 ZHT;rw [Zhy,A0,ZHe];by_cases h:Y1 x=true
 .rw [if_pos h,if_pos h];by_cases h1:x.kind=1
  .rw [if_pos h1,if_pos h1]
  .rw [if_neg h1,if_neg h1];by_cases h2:x.kind=2
   .rw [if_pos h2,if_pos h2,A0,if_pos yE]
   .obtain ⟨k,a,b⟩:=ZHy h h1 h2;rw [if_neg h2,if_neg h2,if_pos ⟨k.1,k.2,yE,yE⟩]
 .rw [if_neg h,if_neg h]
theorem ZIy {b:List Zi}(hb:ZY b=true):∀x∈b,Yr x.var=true:=fun x mx=>by
 unfold ZY at hb;rw [A3]at hb;have:=(Zpm hb.2 x mx).1;unfold Zfp at this;rw [A3]at this;exact this.1
theorem ZHJ {b a:List Zi}(hb:ZY b=true):ZHj b a=some (ZG9 b a):=by
 have hv:=ZIy hb;have e:ZG9 b a=b.all (fun x=>match Q6 a x.var with|some v=>decide (v=x.value)|none=>true):=rfl;rw [e];unfold ZHj;rw [Z0 (p:=fun x=>match Q6 a x.var with|some v=>decide (v=x.value)|none=>true) (r:=false)]
 .split
  .rename_i h;rw [h]
  .rename_i h;rw [Ak]at h;rw [h]
 .intro i x mx;rw [Zdq,A0];unfold Zzp;rw [Zi0 (hv x mx)];cases Q6 a x.var with
  |none=>rfl
  |some v=>
   by_cases e:v=x.value
   .simp [e,sEq]
   .simp [e,sEq]
theorem ZH7 {b a:List Zi}(hb:ZY b=true):ZHm b a=some (ZG9 b a):=by
 rw [<-ZHJ hb];unfold ZHm ZHj;simp only[Zdm,Zdq]
theorem ZH5 (p:Nat->Bool):∀n,(AC 0 n).foldl (fun (s:Int) k=>if p k=true then (k:Int) else s) 0=((ZHC p n:Nat):Int)
 |0=>rfl
 |n+1=>by
  rw [List.range'_1_concat,B6,ZH5 p n,ZHC];simp only[Ag,List.foldl_nil,AZ];split<;>rfl
theorem ZH3 {ρ:Type}{body:Int×Int->Option ((Int×Int) ⊕ Int)}(p:Nat->Bool) (n:Nat)
  (h1:∀(k:Nat) (s:Int),k<=n->body (s,(k:Int))=some (.inl (if p k=true then (k:Int) else s,((k+1:Nat):Int))))
  (h2:∀s:Int,body (s,((n+1:Nat):Int))=some (.inr s)):iter body ((0:Int),(0:Int))=some ((ZHC p (n+1):Nat):Int):=by
 have:=ZHW (body:=body) (f:=fun (s:Int) k=>if p k=true then (k:Int) else s) (fin:=fun s=>some s) (fun _ _=>True) (n+1) (fun k s hk _=>⟨h1 k s yE,trivial⟩) (fun s _=>h2 s) (n+1) 0 0 yE trivial;rw [<-ZH5 p (n+1)];exact this
theorem ZId {r:Zg}{M:List Zc}(hr:ZaL r) (h1:YP r=true) (h2:Yj M=true) {k:Nat}(hk:k<=r.cond.length):Zck r (k:Int) M=some (Zz (r.cond.take k) M):=by
 obtain ⟨a,b⟩:=Zc7 h2;have hc:=(Zbk h1).1;unfold Zck;rw [ZeJ r hr,A0,h1,if_pos rfl,Zfm M yE,A0,h2,if_pos rfl,Ztb,A0,if_pos (by simp;omega),Zj _ ⟨yE,yE⟩,A8,B9,Zfl _ _ (by simp;omega) a (fun f mf=>Y8 (b f mf))];rfl
theorem ZH6 {α ρ:Type}{q:α->Bool}{z:Int}{fin:Int->Option ρ}{body:Nat->α->Int->Option (Int ⊕ ρ)}:∀{l:List α}{i:Nat}{s:Int},(∀j t s,t∈l->body j t s=some (.inl (if q t=true then z else s)))->forL body fin l i s=fin (if l.any q=true then z else s)
 | [],i,s,_=>by simp [forL]
 |t::l,i,s,h=>by
  rw [Z4 (h i t s yG),ZH6 fun j t s m=>h j t s (by simp [m]),List.any_cons];cases q t<;>simp
section
variable {r:Zg} {M:List Zc}
theorem ZHZ (h4:r.cond.length<=4) (hM:Yj M=true) (a:List Zi):ZHb r M a=some ((ZHS r.cond M a:Nat):Int):=by
 obtain ⟨b,c⟩:=Zc7 hM;unfold ZHb ZHS;refine ZH3 (ρ:=Unit) _ r.cond.length (fun k s hk=>?_) (fun s=>?_)
 .have ht:(r.cond.take k).length<=4:=by simp;omega
  show (if _ then _ else _)=_
  rw [if_pos (decide_eq_true yE),Zj _ ⟨yE,yE⟩,A8,B9,Zfr _ _ ht b (fun f mf=>Y8 (c f mf)),A0,Zk (n:=k+1) yE yE];rw [ZcX (p:=fun t:Zq=>ZG9 t.binding a) (r:=Sum.inl ((k:Int),((k+1:Nat):Int)))]
  .split<;>rfl
  .intro i t mt;rw [ZHJ (Zbw M _ t mt).bind,A0];cases ZG9 t.binding a<;>rfl
 .show (if _ then _ else _)=_
  rw [if_neg (by simp;omega)]
theorem ZIl (hr:ZaL r) (hv:YP r=true) (hM:Yj M=true) (a:List Zi):ZHs r M a=some ((ZHS r.cond M a:Nat):Int):=by
 have h4:=(Zbk hv).1;unfold ZHs ZHS;refine ZH3 (ρ:=Unit) _ r.cond.length (fun k s hk=>?_) (fun s=>?_)
 .show (if _ then _ else _)=_
  rw [if_pos (decide_eq_true yE),ZId hr hv hM hk,A0,Zk (n:=k+1) yE yE];rw [ZH6 (q:=fun t:Zq=>ZG9 t.binding a) (z:=(k:Int))];intro j t s mt;rw [ZH7 (Zbw M _ t mt).bind,A0];cases ZG9 t.binding a<;>rfl
 .show (if _ then _ else _)=_
  rw [if_neg (by simp;omega)]
def ZHD (M:List Zc) (f:Zc) (r:Zg) (a:Zu):Option Zwt:=(XL a.pattern f []).map fun aim=>{rule:=r.name,done:=((ZHS r.cond M aim:Nat):Int),cond:=if ZHS r.cond M aim<r.cond.length then (match r.cond[ZHS r.cond M aim]? with|some x=>ZHT x|none=>⟨#[]⟩) else ⟨#[]⟩}
def ZG5 (M:List Zc) (f:Zc) (R:List Zg):List Zwt:=R.flatMap fun r=>r.thn.filterMap (ZHD M f r)
theorem ZHB (M:List Zc) (f:Zc):∀R:List Zg,(∀r∈R,r.thn.length<=2)->(ZG5 M f R).length<=2*R.length
 | [],_=>by simp [ZG5]
 |r::R,h=>by
  have:=ZHB M f R fun u mu=>h u (by simp [mu]);have h2:=h r yG;have h3:=List.length_filterMap_le (ZHD M f r) r.thn;unfold ZG5 at this ⊢;rw [List.flatMap_cons,AE,AR];omega
theorem ZIu (M:List Zc) (f:Zc) (p:List Zg) (r:Zg):ZG5 M f (p++[r])=ZG5 M f p++r.thn.filterMap (ZHD M f r):=by
 unfold ZG5;simp
end
theorem ZIi {R:List Zg}(hl:R.length<=6) (h2:∀r∈R,r.thn.length<=2) {M:List Zc}{f:Zc}{body:Nat->Zg->List Zwt->Option (List Zwt ⊕ (List Zwt×Bool))}{b:Zg->Nat->Zu->List Zwt->Option (List Zwt ⊕ (List Zwt ⊕ (List Zwt×Bool)))}
  (hb:∀i r row,body i r row=forL (b r) (fun row=>some (.inl row)) r.thn 0 row)
  (hi:∀r∈R,∀j a row,a∈r.thn->row.length<=100->b r j a row=some (.inl (row++(ZHD M f r a).toList))):forL body (fun row=>some (row,true)) R 0 []=some (ZG5 M f R,true):=by
 have h0:ZG5 M f []=[]:=rfl;rw [<-h0,ZaC (fun p=>ZG5 M f p) R];intro p r q e;have mr:r∈R:=by rw [e];simp
 have hp:p.length<=6:=by rw [e]at hl;simp at hl;omega
 have hlen:=ZHB M f p fun u mu=>h2 u (by rw [e];simp [mu]);have hr:=h2 r mr;rw [hb,ZIu,YT (g:=ZHD M f r)];intro j a s ma hs;exact hi r mr j a s ma yE
def ZHt (R:List Zg) (M:List Zc) (ok:Bool) (f:Zc):List Zwt×Bool:=if ok=true/\Y3 f=true/\f∉M then (ZG5 M f R,true) else ([],false)
theorem ZtB.rules {R:List Zg}{base M:List Zc}(h:ZtB R base M true):YW R=true/\(∀r∈R,Z2 r=true/\r.cond.length<=4/\r.thn.length<=2)/\Yj M=true:=by
 rcases h with ⟨h,_⟩|⟨_,F,hG,_,rfl⟩
 .cases h
 .have h1:=hG.logical;rw [A3]at h1;exact ⟨h1.1,fun r mr=>hG.rule mr,hG.factsM _⟩
theorem ZHG {r:Zg}(h:Z2 r=true):YP r=true:=by
 unfold Z2 at h;simp only[A3]at h;exact h.1.1
theorem ZHF {R:List Zg}(h:YW R=true):R.length<=6:=by
 unfold YW at h;rw [A3,decide_eq_true_iff]at h;exact h.1
theorem ZIv {R:List Zg}(hR:Zaz R) {base M:List Zc}{ok:Bool}(hs:ZfH R base=some (M,ok)) (hi:Zbi R base=some (M,ok)) (hB:ZtB R base M ok) (f:Zc):ZHk R base f=some (ZHt R M ok f)/\ZHi R base f=some (ZHt R M ok f):=by
 unfold ZHk ZHi;rw [hs,hi,A0,A0,Zlu,Zli,Zcx,Zfk];cases ok with
 |false=>
  have hw:ZHt R M false f=([],false):=by unfold ZHt;rw [if_neg (fun h=>by cases h.1)]
  rw [hw];exact ⟨rfl,rfl⟩
 |true=>
  obtain ⟨hA,hL,hM⟩:=hB.rules;have h6:=ZHF hA;have h2:∀r∈R,r.thn.length<=2:=fun r mr=>(hL r mr).2.2;rw [if_pos rfl,if_pos rfl,A0,A0,A0,A0];by_cases hf:Y3 f=true
  .rw [if_pos hf,if_pos hf];by_cases hm:f∈M
   .have hw:ZHt R M true f=([],false):=by unfold ZHt;rw [if_neg (fun h=>h.2.2 hm)]
    rw [hw,if_pos (decide_eq_true (ZHo.2 hm)),if_pos (decide_eq_true (ZHo.2 hm))];exact ⟨rfl,rfl⟩
   .have hw:ZHt R M true f=(ZG5 M f R,true):=by unfold ZHt;rw [if_pos ⟨rfl,hf,hm⟩]
    have hn:¬decide (0<=YD M f)=true:=by simpa [ZHo]using hm
    rw [hw,if_neg hn,if_neg hn];refine ⟨ZIi h6 h2 (fun i r row=>rfl) fun r mr j a row ma d=>?_,ZIi h6 h2 (fun i r row=>rfl) fun r mr j a row ma d=>?_⟩
    .rw [ZbF,A0,Zgu];unfold ZHD;cases hm:XL a.pattern f []with
     |none=>simp
     |some c=>
      simp only[BB,if_true,Zlw];rw [ZHZ (hL r mr).2.1 hM,A0];by_cases b:ZHS r.cond M c<r.cond.length
      .rw [if_pos (decide_eq_true yE),Za1,A4 b,A0,ZHN,A0,Zj _ yE];simp [b]
      .rw [if_neg (by simpa using b),Zj _ yE];simp [b]
    .rw [ZgV _ _ _ yG,A0,Zgu];unfold ZHD;cases hm:XL a.pattern f []with
     |none=>simp
     |some c=>
      simp only[BB,if_true,Zlw];rw [ZIl (hR.s r mr) (ZHG (hL r mr).1) hM,A0];by_cases b:ZHS r.cond M c<r.cond.length
      .rw [if_pos (decide_eq_true yE),Za1,A4 b,A0,ZHP,A0,Zj _ yE];simp [b]
      .rw [if_neg (by simpa using b),Zj _ yE];simp [b]
  .have hw:ZHt R M true f=([],false):=by unfold ZHt;rw [if_neg (fun h=>hf h.2.1)]
   rw [hw,if_neg hf,if_neg hf];exact ⟨rfl,rfl⟩
theorem ZIx {M:List Zc}{f:Zc}{r:Zg}(h:YP r=true) {a:Zu}{x:Zwt}(hx:ZHD M f r a=some x):x.rule.size<=8/\x.cond.size<=44/\0<=x.done/\x.done<=4:=by
 unfold ZHD at hx;obtain ⟨b,_,rfl⟩:=AI.1 hx;have h8:r.name.size<=8:=by
  simp only[YP,A3]at h;have h1:=h.1.1.1.1.1.1.1.1.1;unfold XG at h1;rw [A3]at h1;exact (ZbW h1.1).2
 have h4:=(Zbk h).1;have hm:=ZIQ (fun n=>(Zz (r.cond.take n) M).any fun t=>ZG9 t.binding b) r.cond.length;refine ⟨h8,?_,yG,?_⟩
 .dsimp only;split
  .split
   .exact ZIz _
   .exact AN _
  .exact AN _
 .show ((ZHS r.cond M b:Nat):Int)<=4
  unfold ZHS;omega
theorem ZIL {R:List Zg}{base M:List Zc}{ok:Bool}(hB:ZtB R base M ok) (f:Zc):(ZHt R M ok f).1.length<=12/\∀x∈(ZHt R M ok f).1,x.rule.size<=8/\x.cond.size<=44/\0<=x.done/\x.done<=4:=by
 unfold ZHt;split
 .rename_i h;obtain ⟨rfl,_,_⟩:=h;obtain ⟨hA,hL,hM⟩:=hB.rules;have h6:=ZHF hA;refine ⟨Ac (ZHB M f R fun r mr=>(hL r mr).2.2) yE,fun x mx=>?_⟩;obtain ⟨r,mr,mx⟩:=A6.1 mx;obtain ⟨a,_,hx⟩:=AO.1 mx;exact ZIx (ZHG (hL r mr).1) hx
 .simp
end
section
open Classical
theorem ZKA (a:List ZzC) (x:Zc):ZJs a x=some (ZJv a x):=by
 unfold ZJs ZJv;refine ZJq (s:=()) (fin:=fun _=>some (-1)) (p:=fun s:ZzC=>decide (s.fact=x)) rfl fun i s _=>?_;rw [Zcv,A0];cases decide (s.fact=x)<;>rfl
theorem ZKS (a:List ZzC) (x:Zc):ZJC a x=some (ZJv a x):=by
 unfold ZJC ZJv;refine ZJq (s:=()) (fin:=fun _=>some (-1)) (p:=fun s:ZzC=>decide (s.fact=x)) rfl fun i s _=>?_;rw [ZLC,A0];cases decide (s.fact=x)<;>rfl
def toI (c:XR):Za4:={rule:=c.rule,facts:=c.token.facts}
theorem ZLE {β γ:Type}(g:β->γ):∀(c:List (Zf×β)) (s:List Zf×List β),((c.map fun p=>(p.1,g p.2)).foldl Q4 (s.1,s.2.map g))=((c.foldl Q4 s).1,(c.foldl Q4 s).2.map g)
 | [],_=>rfl
 |x::c,s=>by
  have e:Q4 (s.1,s.2.map g) (x.1,g x.2)=((Q4 s x).1,(Q4 s x).2.map g):=by
   unfold Q4;by_cases h:x.1∈s.1
   .simp only[h,if_true]
   .simp only[h,if_false,BC,Am,List.map_nil]
  rw [Am,Ag,Ag,e];exact ZLE g c (Q4 s x)
theorem ZLu (R:List Zg) (base F:List Zc):(Za5 Zqs F noI R base).2=(Za5 Zri F noS R base).2.map toI:=by
 have h:=ZLE toI (R.flatMap (Zmg Zri F)) (ZdU F base,base.map fun _=>noS);have e1:(R.flatMap (Zmg Zri F)).map (fun p=>(p.1,toI p.2))=R.flatMap (Zmg Zqs F):=by
  rw [BE];congr 1
  funext r
  rw [Zmg,Zmg,BE];congr 1
  funext t
  simp [Zn6,toI,Zri,Zqs]
 have e2:(base.map fun _=>noS).map toI=base.map fun _=>noI:=by
  rw [List.map_map];rfl
 rw [e1,e2]at h;unfold Za5;rw [h]
theorem ZKK {ρ:Type}{F:List Zc}{Q:List Zf}{O:List Za4}{l:List Int}{fin:List ZzC->Option ρ}{body:Nat->Int->List ZzC->Option (List ZzC ⊕ ρ)}(hl:l.length<=60) (hb:∀i k a,k∈l->a.length<=60->body i k a=some (.inl (a++[mkS F Q O a k]))):forL body fin l 0 []=fin (Q0 F Q O l):=by
 have h0:([]:List ZzC)=Q0 F Q O []:=rfl;rw [h0,ZaC (fun p=>Q0 F Q O p) l];intro p k q e;have:p.length+(q.length+1)=l.length:=by rw [e,AE,AR]
 rw [hb _ _ _ (by rw [e];simp) (by rw [ZJj];omega),ZJT]
section
variable {R:List Zg} {base F:List Zc}
theorem ZJ9 (hG:Yo R base F) (a:(Xg R F base).length<=60) {x:Int}{l:List Int}(hl:ZJ3 {nodes:=(F.length:Int),reasons:=Xg R F base} x l) {k:Int}(mk:k∈l):
  ∃c o,0<=k/\k.toNat<(Xg R F base).length/\(Xg R F base)[k.toNat]?=some c/\(Za5 Zqs F noI R base).2[k.toNat]?=some o/\ZMs Zqs noI R base F c o/\0<=c.for_/\c.for_.toNat<F.length:=by
 have hB:=Zdx.of hG a;obtain ⟨y,e1,e2⟩:=hl.good.sup k mk;obtain ⟨y0,y1,y2,c,c1,c2,c3⟩:=ZJA e2;rw [<-e1]at c1 e2;simp only at c1 y1;obtain ⟨g1,g2⟩:=Zlx Zqs F noI R base;have b:k.toNat<(Xg R F base).length:=(AA.1 c1).1;have ho:(Za5 Zqs F noI R base).2[k.toNat]?=some _:=A4 yE;exact ⟨c,_,e2,b,c1,ho,ZLB Zqs noI R base F k.toNat c _ (by rw [g1];exact c1) ho,yE,yE⟩
theorem ZJJ (hG:Yo R base F) {c:Zf}{o:Za4}(h:ZMs Zqs noI R base F c o):o.rule.size<=8/\o.facts.length<=4:=by
 rcases h with ⟨f,_,_,rfl⟩|⟨r,mr,t,mt,a,_,_,rfl⟩
 .exact ⟨yF,yF⟩
 .have h1:=(hG.tokS mr mt).len;refine ⟨?_,by show t.facts.length<=4;omega⟩;have hl:=(hG.rule mr).1;unfold Z2 at hl;simp only[A3]at hl;have hv:=hl.1.1;unfold YP at hv;simp only[A3]at hv;have hn:=hv.1.1.1.1.1.1.1.1.1;unfold XG at hn;rw [A3]at hn;exact (ZbW hn.1).2
theorem ZKy {O:List Za4}{Q:List Zf}{a:List ZzC}{k:Int}{c:Zf}{o:Za4}(h1:Q[k.toNat]?=some c) (h2:O[k.toNat]?=some o):mkS F Q O a k={fact:=ZLX F c.for_,rule:=o.rule,uses:=o.facts.map (ZJv a)}:=by unfold mkS;rw [h1,h2];rfl
theorem ZKk {y:Int}{f:Zc}(h:F[y.toNat]?=some f):ZLX F y=f:=by unfold ZLX;rw [h]
theorem ZLS (hG:Yo R base F) (d:(Xg R F base).length<=60) (hi:ZJz R base=some (F,{nodes:=(F.length:Int),reasons:=Xg R F base},(Za5 Zqs F noI R base).2,true)) (hs:ZI6 R base=some (F,{nodes:=(F.length:Int),reasons:=Xg R F base},(Za5 Zri F noS R base).2,true)) (f:Zc):
  ∃l,ZJ3 {nodes:=(F.length:Int),reasons:=Xg R F base} (YD F f) l/\ZJd R base f=some (Q0 F (Xg R F base) (Za5 Zqs F noI R base).2 l,decide (0<l.length))/\ZJf R base f=some (Q0 F (Xg R F base) (Za5 Zqs F noI R base).2 l,decide (0<l.length)):=by
 have hB:=Zdx.of hG d;obtain ⟨l,f1,f2,f3⟩:=ZJ5 hB (YD F f);have b:=f3.good.len hB;have a:=hG.args;refine ⟨l,f3,?_,?_⟩
 .unfold ZJd;rw [hi,A0,if_pos rfl,Zcx,A0,f1,A0];by_cases h0:l.length=0
  .rw [if_pos (by simpa using h0)];rw [AH h0];rfl
  .rw [if_neg (by simpa using h0),ZKK (F:=F) (Q:=Xg R F base) (O:=(Za5 Zqs F noI R base).2) b]
   .rw [decide_eq_true (show 0<l.length by omega)]
   .intro i k e mk p;obtain ⟨c,o,k0,k1,hc,ho,hm,c0,c1⟩:=ZJ9 hG d f3 mk;obtain ⟨_,q⟩:=ZJJ hG hm;obtain ⟨g,hg⟩:∃g,F[c.for_.toNat]?=some g:=⟨_,A4 c1⟩
    have a1:atI F c.for_=some g:=by unfold atI;rw [if_pos c0,hg]
    have a2:atI (Za5 Zqs F noI R base).2 k=some o:=by unfold atI;rw [if_pos k0,ho]
    dsimp only;rw [Zj _ ⟨k0,yE⟩,hc,A0,a1,A0,YN _ (a g (AD hg)),A0,a2,A0,ZhK (g:=ZJv e)]
    .rw [Zj _ yE,ZKy hc ho,ZKk hg];rfl
    .intro j y s _ m;rw [ZKA,A0,Zj _ (by simp at m;omega)]
 .unfold ZJf;rw [hs,A0,if_pos rfl,Zfk,A0,f2,A0,ZKK (F:=F) (Q:=Xg R F base) (O:=(Za5 Zqs F noI R base).2) b]
  .rw [ZJj];congr 2
   exact decide_eq_decide.2 yE
  .intro i k e mk p;obtain ⟨c,o,k0,k1,hc,ho,hm,c0,c1⟩:=ZJ9 hG d f3 mk;obtain ⟨_,q⟩:=ZJJ hG hm;obtain ⟨g,hg⟩:∃g,F[c.for_.toNat]?=some g:=⟨_,A4 c1⟩
   obtain ⟨u,hu,t⟩:∃u,(Za5 Zri F noS R base).2[k.toNat]?=some u/\toI u=o:=by
    rw [ZLu,B5]at ho;exact AI.1 ho
   subst t;have a2:atI (Za5 Zri F noS R base).2 k=some u:=by unfold atI;rw [if_pos k0,hu]
   have hof2:u.token.facts.length<=4:=q;dsimp only;rw [Zj _ ⟨k0,yE⟩,hc,A0,Zj _ ⟨c0,yE⟩,hg,A0,Xs _ (a g (AD hg)),A0,a2,A0,ZhK (g:=ZJv e)]
   .rw [Zj _ yE,ZKy hc ho,ZKk hg];rfl
   .intro j y s _ m;rw [ZKS,A0,Zj _ (by simp at m;omega)]
end
theorem ZKN {R:List Zg}{base F:List Zc}(hG:Yo R base F) (a:(Xg R F base).length<=60) {x:Int}{l:List Int}(hl:ZJ3 {nodes:=(F.length:Int),reasons:=Xg R F base} x l):(Q0 F (Xg R F base) (Za5 Zqs F noI R base).2 l).length<=60/\∀s∈Q0 F (Xg R F base) (Za5 Zqs F noI R base).2 l,ZJB s<=80/\s.uses.length<=4:=by
 have hB:=Zdx.of hG a;refine ⟨by rw [ZJj];exact hl.good.len hB,fun s ms=>?_⟩;obtain ⟨i,hi⟩:=At.1 ms;obtain ⟨p,k,q,e1,_,rfl,_⟩:=ZK7 hi;obtain ⟨c,o,k0,k1,hc,ho,hm,c0,c1⟩:=ZJ9 hG a hl (k:=k) (by rw [e1];simp);obtain ⟨h8,h4⟩:=ZJJ hG hm;obtain ⟨g,hg⟩:∃g,F[c.for_.toNat]?=some g:=⟨_,A4 c1⟩
 rw [ZKy hc ho,ZKk hg];have hgc:=ZL2 (hG.good.ok g (AD hg));have e:ZJB {fact:=g,rule:=o.rule,uses:=o.facts.map (ZJv (Q0 F (Xg R F base) (Za5 Zqs F noI R base).2 p))}=Xx g+o.rule.size+(o.facts.map (ZJv (Q0 F (Xg R F base) (Za5 Zqs F noI R base).2 p))).length:=rfl;rw [BF]at e;refine ⟨by rw [e];omega,?_⟩;show (o.facts.map _).length<=4
 rw [BF];exact h4
theorem ZKr (R:List Zg) (base:List Zc):ZJz R base=ZbJ R base/\ZI6 R base=XZ R base:=⟨rfl,rfl⟩
theorem ZLW {β:Type}{F:List Zc}{g:List Zf×List β}(h:g.1.length<=60):ZtA F g=(F,{nodes:=(F.length:Int),reasons:=g.1},g.2,true):=by
 unfold ZtA;rw [if_neg yE]
end
theorem ZOn (y:Int):0<=ZFE .i64 y 255/\ZFE .i64 y 255<=255:=by
 have e:ZFE .i64 y 255=(((BitVec.ofInt 64 y &&& BitVec.ofInt 64 255).toNat:Nat):Int):=by
  show i64.wrap (((BitVec.ofInt 64 y &&& BitVec.ofInt 64 255).toNat:Nat):Int)=_
  have:=BG (n:=(BitVec.ofInt 64 y).toNat) (m:=(BitVec.ofInt 64 255).toNat);rw [BitVec.toNat_and];have h2:(BitVec.ofInt 64 255).toNat=255:=by decide
  exact ZeT yE yE
 have:=BG (n:=(BitVec.ofInt 64 y).toNat) (m:=(BitVec.ofInt 64 255).toNat);rw [e,BitVec.toNat_and];have h2:(BitVec.ofInt 64 255).toNat=255:=by decide
 omega
structure ZMv (c:ZwG):Prop where
 i:0<=c.i
 b:c.b.length<=4096
theorem ZPu (a:List Int) (h:a.length<=4096):∃c,ZNt a=some c/\ZMv c:=by
 unfold ZNt;have key:∀(l:List Int) (i:Nat) (s:Int),∃c,forL (fun (i5:Nat) (x6:Int) (d:Int)=>
   if (decide ((i5:Int)<4000))=true then
    some (.inl (ZFE .i64 (i64.wrap ((i64.wrap ((i64.wrap (d*167))+i64.wrap x6))+29)) 1073741823))
   else
    some (.inr ({b:=a,i:=0,h:=d}:ZwG))) (fun d=>some ({b:=a,i:=0,h:=d}:ZwG)) l i s=some c/\ZMv c:=by
  intro l;induction l with
  |nil=>intro i s;exact ⟨_,rfl,AK _,h⟩
  |cons x l ih=>
   intro i s;cases hd:decide ((i:Int)<4000) with
   |true=>
    obtain ⟨c,h1,h2⟩:=ih (i+1) (ZFE .i64 (i64.wrap ((i64.wrap ((i64.wrap (s*167))+i64.wrap x))+29)) 1073741823);exact ⟨c,by rw [Z4 (by rw [hd,if_pos rfl])];exact h1,h2⟩
   |false=>exact ⟨_,by rw [YF (by rw [hd];rfl)],AK _,h⟩
 exact key a 0 _
theorem ZPa {c:ZwG}(h:ZMv c):∃x c',ZM0 c=some (x,c')/\0<=x/\x<=255/\ZMv c':=by
 unfold ZM0;cases hd:decide (c.i<(c.b.length:Int)) with
 |true=>
  have hlt:c.i<(c.b.length:Int):=by simpa using hd
  have hi:=h.i;have hb:=h.b;have hn:c.i.toNat<c.b.length:=by omega
  rw [if_pos rfl,show atI c.b c.i=some (c.b[c.i.toNat]) by unfold atI;rw [if_pos hi,A4 hn]];refine ⟨_,_,rfl,(ZOn _).1,(ZOn _).2,?_,hb⟩;show 0<=i64.wrap (c.i+1)
  rw [ZeT yE yE];omega
 |false=>
  rw [if_neg yG];exact ⟨_,_,rfl,(ZOn _).1,(ZOn _).2,h.i,h.b⟩
theorem ZMx {c:ZwG}(h:ZMv c) {n:Int}(h0:0<n) (h1:n<=256):∃x c',ZMw c n=some (x,c')/\0<=x/\x<n/\ZMv c':=by
 unfold ZMw;obtain ⟨x,c',e,hx,_,hc⟩:=ZPa h;rw [if_neg (by simp;omega),if_pos (by simp;omega),e];refine ⟨Int.tmod x n,c',?_,Int.tmod_nonneg _ hx,Int.tmod_lt_of_pos _ h0,hc⟩;show chk _ _=_
 rw [Zj _ yE]
theorem ZNf {c:ZwG}(h:ZMv c) {n:Int}(h0:0<n) (h1:n<=256):∃b c',ZMP c n=some (b,c')/\ZMv c':=by
 obtain ⟨x,c',e,_,_,hc⟩:=ZMx h h0 h1;exact ⟨x==0,c',by unfold ZMP;rw [e];rfl,hc⟩
theorem ZM2 {c:ZwG}(h:ZMv c) {l:List Int}(h0:0<l.length) (h1:l.length<=256):∃x c',ZMN c l=some (x,c')/\x∈l/\ZMv c':=by
 obtain ⟨x,c',e,hx,hx2,hc⟩:=ZMx h (n:=(l.length:Int)) yE yE;have hn:x.toNat<l.length:=by omega
 refine ⟨l[x.toNat],c',?_,AM _,hc⟩;unfold ZMN;rw [e];show (atI l x).bind _=_
 rw [show atI l x=some l[x.toNat] by unfold atI;rw [if_pos hx,A4 hn]];rfl
def ZMD (p s:ByteArray):Prop:=∃a b,a<=b/\b<=s.size/\p=s.extract a b
theorem ZMD.size {p s:ByteArray}(h:ZMD p s):p.size<=s.size:=by
 obtain ⟨a,b,h1,h2,rfl⟩:=h;rw [AT];omega
theorem ZOy (s:ByteArray) (a b:Nat):toL (s.extract a b)=((toL s).drop a).take (b-a):=by
 unfold toL;rw [ByteArray.data_extract,Array.toList_extract,List.extract_eq_take_drop]
theorem ZMD.infix {p s:ByteArray}(h:ZMD p s):toL p <:+: toL s:=by
 obtain ⟨a,b,h1,h2,rfl⟩:=h;rw [ZOy];refine ⟨(toL s).take a,((toL s).drop a).drop (b-a),?_⟩;rw [B4,BH,BH]
theorem ZO0 {σ ρ:Type}{s sep:ByteArray}(hsep:0<sep.size) (st:List ByteArray->Nat->Nat->σ) (g:List ByteArray->ρ) {body:σ->Option (σ ⊕ ρ)}
  (h1:∀row a i,a<=i->i+sep.size<=s.size->row.length<=i->body (st row a i)=some (.inl (if sEq (s.extract i (i+sep.size)) sep=true then st (row++[s.extract a i]) (i+sep.size) (i+sep.size) else st row a (i+1))))
  (h2:∀row a i,a<=i->i<=s.size->¬i+sep.size<=s.size->row.length<=i->body (st row a i)=some (.inr (g (row++[s.extract a s.size])))):
  ∃l,iter body (st [] 0 0)=some (g l)/\l.length<=s.size+1/\∀p∈l,ZMD p s:=by
 have key:∀m row a i,s.size-i<=m->a<=i->i<=s.size->row.length<=i->(∀p∈row,ZMD p s)->∃l,iter body (st row a i)=some (g l)/\l.length<=s.size+1/\∀p∈l,ZMD p s:=by
  intro m;induction m with
  |zero=>
   intro row a i hm hf hi hr hp;have hn:¬i+sep.size<=s.size:=by omega
   refine ⟨_,YI (h2 row a i hf hi hn hr),by simp;omega,fun p mp=>?_⟩;rcases AF.1 mp with mp|mp
   .exact hp p mp
   .simp at mp;subst mp;exact ⟨a,s.size,yE,A9 _,rfl⟩
  |succ m ih=>
   intro row a i hm hf hi hr hp;by_cases hn:i+sep.size<=s.size
   .rw [YV (h1 row a i hf hn hr)];split
    .refine ih _ _ _ yE (A9 _) hn (by simp;omega) fun p mp=>?_;rcases AF.1 mp with mp|mp
     .exact hp p mp
     .simp at mp;subst mp;exact ⟨a,i,hf,hi,rfl⟩
    .exact ih _ _ _ yE yE yE yE hp
   .refine ⟨_,YI (h2 row a i hf hi hn hr),by simp;omega,fun p mp=>?_⟩;rcases AF.1 mp with mp|mp
    .exact hp p mp
    .simp at mp;subst mp;exact ⟨a,s.size,yE,A9 _,rfl⟩
 exact key s.size [] 0 0 yE (A9 _) (AN _) (A9 _) yG
theorem ZMD.ext (s:ByteArray) {a b:Nat}(h:a<=b) (hb:b<=s.size):ZMD (s.extract a b) s:=⟨a,b,h,hb,rfl⟩
theorem ZMD.trans {p q s:ByteArray}(h:ZMD p q) (k:ZMD q s):ZMD p s:=by
 obtain ⟨a,b,h1,h2,rfl⟩:=h;obtain ⟨c,d,h3,h4,rfl⟩:=k;rw [AT]at h2;refine ⟨c+a,c+b,yE,yE,?_⟩;rw [ByteArray.extract_extract];congr 1
 omega
theorem ZME {s sep:ByteArray}(hs:s.size<=1000) (h0:0<sep.size) (h1:sep.size<=10):∃l,ZMF s sep=some l/\l.length<=s.size+1/\∀p∈l,ZMD p s:=by
 unfold ZMF;rw [if_neg (by rw [ZQ];intro e;rw [e]at h0;exact absurd h0 yF)];refine ZO0 h0 (fun row f i=>(row,(f:Int),(i:Int))) (fun l=>l) ?_ ?_
 .intro row f i hf hi hr;have e:i64.wrap ((i:Int)+(sep.size:Int))=((i+sep.size:Nat):Int):=by rw [ZeT yE yE];omega
  have e1:i64.wrap ((i:Int)+1)=((i+1:Nat):Int):=by rw [ZeT yE yE];omega
  simp only[e,e1,A8];rw [if_pos (by simp;omega),Zj _ yE];split
  .rw [Zj _ yE,Zj _ yE]
  .rfl
 .intro row f i hf hi hn hr;have e:i64.wrap ((i:Int)+(sep.size:Int))=((i+sep.size:Nat):Int):=by rw [ZeT yE yE];omega
  simp only[e,A8];rw [if_neg (by simp;omega),Zj _ yE,Zj _ yE]
theorem ZO9 {α:Type}{l:List α}(h:¬((l.length:Int) != 2)=true):∃x y,l=[x,y]:=by
 have hl:l.length=2:=by simp at h;omega
 match l,hl with
 | [x,y],_=>exact ⟨x,y,rfl⟩
theorem ZOU {s:ByteArray}(hs:s.size<=1000):∃r a ok,ZMX s=some (r,a,ok)/\a.length<=s.size+1:=by
 unfold ZMX;obtain ⟨l,e,hl,hp⟩:=ZME (sep:=⟨#[40]⟩) hs yF yF;rw [e,A0];split
 .exact ⟨_,_,_,rfl,yG⟩
 rename_i h2;obtain ⟨x,y,rfl⟩:=ZO9 h2;have c:(([x,y]:List ByteArray).length:Int)=2:=rfl;rw [Zj _ (by rw [c];decide)];simp only[show A7 1=1 from rfl,show A7 0=0 from rfl,AU,AW,A0];have hy:=(hp y yG).size;split
 .exact ⟨_,_,_,rfl,yG⟩
 rename_i h3;have hy0:y.size≠0:=fun e=>h3 (by rw [e];rfl);have e1:i64.wrap ((y.size:Int)-1)=((y.size-1:Nat):Int):=by rw [ZeT yE yE];omega
 simp only[e1];have hb:∃b,sAt y ((y.size-1:Nat):Int)=some b:=by
  unfold sAt;rw [if_pos yE,A8];exact ⟨y[y.size-1]'yE,by rw [getElem?_pos]⟩
 obtain ⟨b,hb⟩:=hb;rw [hb,A0];split
 .exact ⟨_,_,_,rfl,yG⟩
 rw [Zj _ yE,A8];split
 .rw [Zj _ yG];exact ⟨_,_,_,rfl,yG⟩
 .rw [Zj _ yG];have hq:(y.extract 0 (y.size-1)).size<=y.size:=by rw [AT];omega
  obtain ⟨k,e2,hk,_⟩:=ZME (s:=y.extract 0 (y.size-1)) (sep:=⟨#[44]⟩) yE yF yF;rw [e2,A0];exact ⟨_,_,_,rfl,yE⟩
theorem ZNh {s:ByteArray}(hs:s.size<=1000):∃p ok,ZMy s=some (p,ok)/\p.args.length<=s.size+1:=by
 unfold ZMy;obtain ⟨r,a,ok,e,ha⟩:=ZOU hs;rw [e,A0];cases ok with
 |false=>exact ⟨_,_,rfl,yG⟩
 |true=>
  rw [if_pos rfl,ZbD,A0];split
  .exact ⟨_,_,rfl,ha⟩
  .exact ⟨_,_,rfl,yG⟩
def ZNC:ByteArray:=⟨#[110,111,116,32]⟩
theorem ZOt {s:ByteArray}(hs:s.size<=1000):∃x ok,ZMI s=some (x,ok)/\x.pattern.args.length<=s.size+1/\(x.kind=2->ZMD ZNC s):=by
 unfold ZMI;have sg:∀k:Int,∃g,ZHq k=some g/\0<g.size/\g.size<=10:=fun k=>by
  unfold ZHq;split
  .exact ⟨_,rfl,yF,yF⟩
  .split
   .exact ⟨_,rfl,yF,yF⟩
   .exact ⟨_,rfl,yF,yF⟩
 have key:∀(body:Int->Option (Int ⊕ Zl×Bool)) (Q:Zl×Bool->Prop),(∀k:Nat,3<=k->k<=5->(∃r,body (k:Int)=some (.inr r)/\Q r)\/body (k:Int)=some (.inl ((k+1:Nat):Int)))->(∃r,body 6=some (.inr r)/\Q r)->∃r,iter body 3=some r/\Q r:=by
  intro body Q h1 h2;have b:∀k:Nat,3<=k->k<=6->∃r,iter body (k:Int)=some r/\Q r:=by
   have go:∀m k:Nat,k+m=6->3<=k->∃r,iter body (k:Int)=some r/\Q r:=by
    intro m;induction m with
    |zero=>
     intro k hk _;obtain rfl:k=6:=by omega
     obtain ⟨r,e,q⟩:=h2;exact ⟨r,YI e,q⟩
    |succ m ih=>
     intro k hk h3;rcases h1 k h3 yE with ⟨r,e,q⟩|e
     .exact ⟨r,YI e,q⟩
     .rw [YV e];exact ih (k+1) yE yE
   exact fun k h3 h6=>go (6-k) k yE h3
  exact b 3 yE yE
 have fin:∀body:Int->Option (Int ⊕ Zl×Bool),(∃r,iter body 3=some r/\(r.1.pattern.args.length<=s.size+1/\(r.1.kind=2->ZMD ZNC s)))->∃x ok,iter body 3=some (x,ok)/\x.pattern.args.length<=s.size+1/\(x.kind=2->ZMD ZNC s):=fun _ ⟨r,e,q⟩=>⟨r.1,r.2,e,q⟩
 refine fin _ (key _ (fun r=>r.1.pattern.args.length<=s.size+1/\(r.1.kind=2->ZMD ZNC s)) ?_ ?_)
 .intro k h3 h5;rw [if_pos (by simp;omega)];obtain ⟨g,eg,g0,g1⟩:=sg (k:Int);obtain ⟨l,el,hl,hp⟩:=ZME hs g0 g1;have e1:i64.wrap ((k:Int)+1)=((k+1:Nat):Int):=by rw [ZeT yE yE];omega
  rw [eg,A0,el,A0,e1];split
  .rename_i h2;obtain ⟨x,y,rfl⟩:=ZO9 (l:=l) (by simp at h2 ⊢;omega);rw [Zj _ yG];simp only[show A7 1=1 from rfl,show A7 0=0 from rfl,AU,AW,A0];rw [Zj _ yG,ZeH,A0];split
   .exact .inl ⟨_,rfl,yG,fun h=>by simp only at h;omega⟩
   .exact .inr rfl
  .exact .inr rfl
 .rw [if_neg yF];have a:∀(t:ByteArray),t.size<=s.size->∀kd:Int,(kd=2->ZMD ZNC s)->∃r,((ZMy t).bind fun v=>if v.2=true then some (Sum.inr (({kind:=kd,pattern:=v.1,left:=⟨#[]⟩,right:=⟨#[]⟩}:Zl),true)) else some (.inr (({kind:=0,pattern:=({rel:=⟨#[]⟩,args:=[]}:Zx),left:=⟨#[]⟩,right:=⟨#[]⟩}:Zl),false)))=some (Sum.inr r:Int ⊕ Zl×Bool)/\(r.1.pattern.args.length<=s.size+1/\(r.1.kind=2->ZMD ZNC s)):=fun t ht kd hk=>by
   obtain ⟨p,ok,e,ha⟩:=ZNh (s:=t) yE;rw [e,A0];cases ok with
   |true=>exact ⟨_,rfl,by show p.args.length<=_;omega,hk⟩
   |false=>exact ⟨_,rfl,yG,fun h=>by simp at h⟩
  split
  .rename_i h4;have h4':4<s.size:=by simp at h4;omega
   rw [Zj _ yE];split
   .rename_i hn;have c:=ZQ.1 hn;exact a _ (by rw [AT];omega) 2 fun _=>by
     unfold ZNC;rw [<-c];exact ZMD.ext s yF (by show A7 4<=_;have:A7 4=4:=rfl;omega)
   .exact a s (A9 _) 1 fun h=>by omega
  .exact a s (A9 _) 1 fun h=>by omega
theorem ZOA {s:ByteArray}(hs:s.size<=1000):∃a ok,ZMK s=some (a,ok)/\a.pattern.args.length<=s.size+1:=by
 unfold ZMK;split
 .exact ⟨_,_,rfl,yG⟩
 obtain ⟨l,e,hl,hp⟩:=ZME (sep:=⟨#[32]⟩) hs yF yF;rw [e,A0];split
 .exact ⟨_,_,rfl,yG⟩
 rename_i h2;obtain ⟨x,y,rfl⟩:=ZO9 h2;have hy:=(hp y yG).size;obtain ⟨p,ok,ep,ha⟩:=ZNh (s:=y) yE;rw [Zj _ yG];simp only[show A7 1=1 from rfl,show A7 0=0 from rfl,AU,AW,A0,ep];split
 .rw [Zj _ yG];exact ⟨_,_,rfl,by show p.args.length<=_;omega⟩
 .split
  .rw [Zj _ yG];exact ⟨_,_,rfl,by show p.args.length<=_;omega⟩
  .exact ⟨_,_,rfl,yG⟩
structure ZNo (s:ByteArray) (r:Zg):Prop where
 cl:r.cond.length<=s.size+1
 tl:r.thn.length<=s.size+1
 ca:∀x∈r.cond,x.pattern.args.length<=s.size+1/\(x.kind=2->ZMD ZNC s)
 ta:∀a∈r.thn,a.pattern.args.length<=s.size+1
theorem ZOg {α ρ:Type}{s:ByteArray}{P:α->Prop}{g:ByteArray->Option (α×Bool)}{fin:List α->Option ρ}{z:List α->ρ}{Q:ρ->Prop}{l:List ByteArray}(hl:l.length<=2000) (hp:∀p∈l,ZMD p s) (hg:∀p,ZMD p s->∃x ok,g p=some (x,ok)/\P x) (hz:∀a:List α,a.length<=l.length->(∀x∈a,P x)->Q (z a)) (c:∀a:List α,a.length<=l.length->(∀x∈a,P x)->∃r,fin a=some r/\Q r):
  ∃r,forL (σ:=List α) (fun (i:Nat) (x:ByteArray) row=>(g x).bind fun v=>if v.2=true then chk (row.length+1<=1073741824) (some (.inl (row++[v.1]))) else some (.inr (z row))) fin l 0 []=some r/\Q r:=by
 have key:∀(m:List ByteArray) (i:Nat) (a:List α),(∀p∈m,p∈l)->a.length+m.length<=l.length->(∀x∈a,P x)->∃r,forL (σ:=List α) (fun (i:Nat) (x:ByteArray) row=>(g x).bind fun v=>if v.2=true then chk (row.length+1<=1073741824) (some (.inl (row++[v.1]))) else some (.inr (z row))) fin m i a=some r/\Q r:=by
  intro m;induction m with
  |nil=>intro i a _ b ha;exact c a (by simp at b;omega) ha
  |cons x m ih=>
   intro i a hm b ha;obtain ⟨y,ok,e,hy⟩:=hg x (hp x (hm x yG));rw [AR]at b;cases ok with
   |true=>
    rw [Z4 (s':=a++[y]) (by rw [e];exact Zj _ yE)];exact ih _ _ (fun p mp=>hm p (by simp [mp])) (by simp;omega) fun q mq=>by
     rcases AF.1 mq with mq|mq
     .exact ha q mq
     .simp at mq;subst mq;exact hy
   |false=>exact ⟨_,YF (by rw [e];rfl),hz a yE ha⟩
 exact key l 0 [] (fun _ h=>h) yG yG
theorem ZO3 {s a b:ByteArray}(hs:s.size<=1000) (ha:ZMD a s) (hb:ZMD b s) (r0:Zg):∃r ok,ZMW r0 a b=some (r,ok)/\ZNo s r:=by
 unfold ZMW;have ha':=ha.size;have hb':=hb.size;obtain ⟨l,e,hl,hp⟩:=ZME (s:=a) (sep:=⟨#[32,38,32]⟩) yE yF yF;obtain ⟨k,e2,hk,hq⟩:=ZME (s:=b) (sep:=⟨#[32,38,32]⟩) yE yF yF;rw [e,A0];obtain ⟨r,h1,h2⟩:=ZOg (s:=s) (P:=fun x:Zl=>x.pattern.args.length<=s.size+1/\(x.kind=2->ZMD ZNC s)) (g:=ZMI) (fin:=fun d=>(ZMF b (⟨#[32,38,32]⟩)).bind fun j=>
   forL (σ:=(List Zu))
    (fun (i37:Nat) (m:ByteArray) c=>
     (ZMK m).bind fun i=>
     if i.2=true then
      chk (c.length+1<=1073741824) <|
      some (.inl (c++[i.1]))
     else
      some (.inr (({name:=r0.name,priority:=r0.priority,cond:=d,thn:=c}:Zg),false)))
    (fun c=>
     (ZcZ ({name:=r0.name,priority:=r0.priority,cond:=d,thn:=c}:Zg)).bind fun o=>
     some (({name:=r0.name,priority:=r0.priority,cond:=d,thn:=c}:Zg),o))
    j 0 []) (z:=fun d=>(({name:=r0.name,priority:=r0.priority,cond:=d,thn:=[]}:Zg),false)) (Q:=fun r=>ZNo s r.1) (l:=l) yE (fun p mp=>(hp p mp).trans ha) (fun p hp=>by
    obtain ⟨x,ok,e,h1,h2⟩:=ZOt (s:=p) (by have:=hp.size;omega);exact ⟨x,ok,e,by have:=hp.size;omega,fun h=>(h2 h).trans hp⟩) (fun f h1 h2=>⟨by show f.length<=_;omega,yG,h2,yG⟩) (fun f h1 h2=>by
    rw [e2,A0];exact ZOg (s:=s) (P:=fun x:Zu=>x.pattern.args.length<=s.size+1) (g:=ZMK) (z:=fun c=>(({name:=r0.name,priority:=r0.priority,cond:=f,thn:=c}:Zg),false)) (Q:=fun r=>ZNo s r.1) (l:=k) yE (fun p mp=>(hq p mp).trans hb) (fun p hp=>by
     obtain ⟨x,ok,e,h1⟩:=ZOA (s:=p) (by have:=hp.size;omega);exact ⟨x,ok,e,by have:=hp.size;omega⟩) (fun row h3 h4=>⟨by show f.length<=_;omega,by show row.length<=_;omega,h2,h4⟩) (fun row h3 h4=>by
     rw [ZeJ _ ⟨by show f.length<=_;omega,by show row.length<=_;omega,fun x mx=>by have:=(h2 x mx).1;omega,fun x mx=>by have:=h4 x mx;omega⟩,A0];exact ⟨_,rfl,by show f.length<=_;omega,by show row.length<=_;omega,h2,h4⟩))
 exact ⟨r.1,r.2,h1,h2⟩
theorem ZNe (s:ByteArray):ZNo s {name:=⟨#[]⟩,priority:=0,cond:=[],thn:=[]}:=⟨yG,yG,yG,yG⟩
theorem ZNA {s:ByteArray}(hs:s.size<=1000):∃r ok,ZMB s=some (r,ok)/\ZNo s r:=by
 unfold ZMB;obtain ⟨l,e,hl,hp⟩:=ZME (sep:=⟨#[58,32]⟩) hs yF yF;rw [e,A0];split
 .exact ⟨_,_,rfl,ZNe s⟩
 rename_i h2;obtain ⟨x,y,rfl⟩:=ZO9 h2;have hx:=hp x yG;have hy:=hp y yG;have hx':=hx.size;have hy':=hy.size;obtain ⟨m,em,hm,hpm⟩:=ZME (s:=x) (sep:=⟨#[32]⟩) yE yF yF;obtain ⟨k,ek,hk,a⟩:=ZME (s:=y) (sep:=⟨#[32,45,62,32]⟩) yE yF yF;rw [Zj _ yG];simp only[show A7 1=1 from rfl,show A7 0=0 from rfl,AU,AW,A0,em];rw [Zj _ yG,ek,A0];split
 .exact ⟨_,_,rfl,ZNe s⟩
 rename_i h3;obtain ⟨m0,m1,rfl⟩:=ZO9 h3;split
 .exact ⟨_,_,rfl,ZNe s⟩
 rename_i h4;obtain ⟨k0,k1,rfl⟩:=ZO9 h4;rw [Zj _ yG];simp only[AU,AW,A0,ZcH];split
 .rw [Zj _ yG,Zj _ yG,Zj _ yG];obtain ⟨r,ok,er,hr⟩:=ZO3 hs ((a k0 yG).trans hy) ((a k1 yG).trans hy) ({name:=m0,priority:=(ZeB m1).1,cond:=[],thn:=[]}:Zg);rw [er,A0];cases ok with
  |true=>exact ⟨_,_,rfl,hr⟩
  |false=>exact ⟨_,_,rfl,ZNe s⟩
 .exact ⟨_,_,rfl,ZNe s⟩
theorem ZM1 {c:ZwG}(h:ZMv c) {l:List ByteArray}(h0:0<l.length) (h1:l.length<=256):∃x c',ZML c l=some (x,c')/\x∈l/\ZMv c':=by
 obtain ⟨x,c',e,hx,hx2,hc⟩:=ZMx h (n:=(l.length:Int)) yE yE;have hn:x.toNat<l.length:=by omega
 refine ⟨l[x.toNat],c',?_,AM _,hc⟩;unfold ZML;rw [e];show (atI l x).bind _=_
 rw [show atI l x=some l[x.toNat] by unfold atI;rw [if_pos hx,A4 hn]];rfl
def RK (nots:Bool) (r:Zg):Prop:=∃s:ByteArray,s.size<=100/\(nots=false->¬ZMD ZNC s)/\ZNo s r
theorem ZNW (L:List ByteArray) (n:Int) (N:Nat) (hN:N=L.length) (h0:0<n) (hn:n<=N) (hs:∀s∈L,s.size<=100) (hL:N<=256) {c:ZwG}(hc:ZMv c):∃s r c',((ZMw c n).bind fun v1=>chk (0<=v1.1/\v1.1<(N:Int)) ((L[(A7 v1.1)]?).bind fun x2=>(ZMB x2).bind fun v3=>some (v3.1,v1.2)))=some (r,c')/\s∈L.take n.toNat/\s.size<=100/\ZNo s r/\ZMv c':=by
 obtain ⟨x,c',e,hx,hx2,a⟩:=ZMx hc h0 yE;have hl:x.toNat<L.length:=by omega
 obtain ⟨r,ok,er,hr⟩:=ZNA (s:=L[x.toNat]) (by have:=hs _ (AM hl);omega);refine ⟨L[x.toNat],r,c',?_,?_,hs _ (AM hl),hr,a⟩
 .rw [e,A0,Zj _ yE,A4 hl,A0,er];rfl
 .rw [List.mem_take_iff_getElem];exact ⟨x.toNat,yE,rfl⟩
theorem ZPM {s:ByteArray}(h:¬toL ZNC <:+: toL s):¬ZMD ZNC s:=fun k=>h k.infix
theorem ZOw {c:ZwG}(h:ZMv c) (a:Bool):∃r c',ZMZ c a=some (r,c')/\RK a r/\ZMv c':=by
 unfold ZMZ;have fin:∀{L:List ByteArray} {n:Int} {o:Option (Zg×ZwG)},(a=false->∀s∈L.take n.toNat,¬toL ZNC <:+: toL s)->(∃s r c',o=some (r,c')/\s∈L.take n.toNat/\s.size<=100/\ZNo s r/\ZMv c')->∃r c',o=some (r,c')/\RK a r/\ZMv c':=fun hn ⟨s,r,c',e,h1,h2,h3,h4⟩=>⟨r,c',e,⟨s,h2,fun hf=>ZPM (hn hf s h1),h3⟩,h4⟩
 cases a with
 |true=>
  rw [if_pos rfl];exact fin (fun h=>by cases h) (ZNW _ 11 11 rfl yE yE yF yE h)
 |false=>
  rw [if_neg yG];exact fin (fun _=>by decide) (ZNW _ 7 11 rfl yE yE yF yE h)
theorem RK.name {a:Bool}{r:Zg}(h:RK a r) (n:ByteArray) (p:Int):RK a {name:=n,priority:=p,cond:=r.cond,thn:=r.thn}:=by
 obtain ⟨s,h1,h2,h3⟩:=h;exact ⟨s,h1,h2,h3.cl,h3.tl,h3.ca,h3.ta⟩
theorem ZOx {c:ZwG}(h:ZMv c) (a:Bool):∃R c',ZM7 c a=some (R,c')/\R.length<=3/\(∀r∈R,RK a r)/\ZMv c':=by
 unfold ZM7;obtain ⟨n,c1,e,n0,n1,hc⟩:=ZMx h (n:=4) yE yE;rw [e,A0];have key:∀(k:Nat) (cc:ZwG) (row:List Zg),ZMv cc->row.length+k<=3->(∀r∈row,RK a r)->∃R c',iter (σ:=(List Int)×Int×Int×(List Zg)×Int)
  (fun s=>
   match s with
   |(f_4,f_5,f_6,row_7,n_8)=>
   if (decide (0<n_8))=true then
    (ZMZ ({b:=f_4,i:=f_5,h:=f_6}:ZwG) a).bind fun v9=>
    (Zbl n_8).bind fun f=>
    chk ((⟨#[114]⟩:ByteArray).size+f.size<=9223372036854775807) <|
    chk (row_7.length+1<=1073741824) <|
    some (.inl (v9.2.b,v9.2.i,v9.2.h,(row_7++[({name:=((⟨#[114]⟩:ByteArray)++f),priority:=v9.1.priority,cond:=v9.1.cond,thn:=v9.1.thn}:Zg)]),(i64.wrap (n_8-1))))
   else
    some (.inr (row_7,({b:=f_4,i:=f_5,h:=f_6}:ZwG))))
  (cc.b,cc.i,cc.h,row,(k:Int))=some (R,c')/\R.length<=3/\(∀r∈R,RK a r)/\ZMv c':=by
  intro k;induction k with
  |zero=>
   intro cc row d hl hr;exact ⟨row,cc,YI rfl,yE,hr,d⟩
  |succ k ih=>
   intro cc row d hl hr;obtain ⟨r,c2,e2,j,l⟩:=ZOw d a;have g:decide (0<(((k+1:Nat)):Int))=true:=decide_eq_true yE;have hw:i64.wrap ((((k+1:Nat)):Int)-1)=(k:Int):=by rw [ZeT yE yE];omega
   have hsz:(ofL (Lib.itoa ((k+1:Nat):Int))).size<=21:=ZJe ⟨yE,yE⟩;refine (YV (s':=(c2.b,c2.i,c2.h,row++[({name:=((⟨#[114]⟩:ByteArray)++ofL (Lib.itoa ((k+1:Nat):Int))),priority:=r.priority,cond:=r.cond,thn:=r.thn}:Zg)],(k:Int))) ?_) ▸ ih c2 _ l (by simp;omega) fun q mq=>?_
   .simp only[g,if_true];rw [show ({b:=cc.b,i:=cc.i,h:=cc.h}:ZwG)=cc from rfl,e2,A0,ZmZ ⟨yE,yE⟩,A0,Zj _ (by have:(⟨#[114]⟩:ByteArray).size=1:=rfl;omega),Zj _ yE,hw]
   .rcases AF.1 mq with mq|mq
    .exact hr q mq
    .simp at mq;subst mq;exact j.name _ _
 have e5:n=(n.toNat:Int):=by omega
 have:=key n.toNat c1 [] hc (by simp;omega) (fun y hy=>by simp at hy);rw [<-e5]at this;exact this
theorem ZOI {c:ZwG}(h:ZMv c) {m:Int}(h0:0<=m) (h7:m<=7):∃l c',ZNc c m=some (l,c')/\l.length<=7/\(∀f∈l,f.args.length<=2)/\ZMv c':=by
 unfold ZNc;have hw:i64.wrap (m+1)=m+1:=ZeT yE yE;rw [hw];obtain ⟨n,c1,e,n0,n1,hc⟩:=ZMx h (n:=m+1) yE yE;rw [e,A0];have t:∀(row:List Zc) (f:Zc),row.length<=7->(∀f∈row,f.args.length<=2)->f.args.length<=2->∃g,ZcF row f=some g/\g.length<=row.length+1/\∀f∈g,f.args.length<=2:=fun row f hl ha hf=>⟨_,Zt4 row f yE (fun x mx=>by have:=ha x mx;omega) yE,Zsd f row,fun x mx=>by
  rcases ZaT.1 mx with rfl|mx
  .exact hf
  .exact ha x mx⟩
 have key:∀(k:Nat) (cc:ZwG) (row:List Zc),ZMv cc->row.length+k<=7->(∀f∈row,f.args.length<=2)->∃l c',iter (σ:=(List Int)×Int×Int×(List Zc)×Int)
   (fun s=>
   match s with
   |(f_9,f_10,f_11,row_12,n_13)=>
   if (decide (0<n_13))=true then
    (ZML ({b:=f_9,i:=f_10,h:=f_11}:ZwG) ([(⟨#[97]⟩),(⟨#[98]⟩),(⟨#[49]⟩),(⟨#[50]⟩)])).bind fun o=>
    (ZML o.2 ([(⟨#[97]⟩),(⟨#[98]⟩),(⟨#[49]⟩)])).bind fun p=>
    (ZMw p.2 5).bind fun d=>
    if (d.1==0)=true then
     (ZcF row_12 ({rel:=(⟨#[112]⟩),args:=[o.1]}:Zc)).bind fun u=>
     some (.inl (d.2.b,d.2.i,d.2.h,u,(i64.wrap (n_13-1))))
    else
     if (d.1==1)=true then
      (ZcF row_12 ({rel:=(⟨#[97,116]⟩),args:=[o.1,p.1]}:Zc)).bind fun w=>
      some (.inl (d.2.b,d.2.i,d.2.h,w,(i64.wrap (n_13-1))))
     else
      if (d.1==2)=true then
       (ZcF row_12 ({rel:=(⟨#[113]⟩),args:=[o.1]}:Zc)).bind fun z=>
       some (.inl (d.2.b,d.2.i,d.2.h,z,(i64.wrap (n_13-1))))
      else
       (ZcF row_12 ({rel:=(⟨#[111,110]⟩),args:=[o.1,p.1]}:Zc)).bind fun A=>
       some (.inl (d.2.b,d.2.i,d.2.h,A,(i64.wrap (n_13-1))))
   else
    some (.inr (row_12,({b:=f_9,i:=f_10,h:=f_11}:ZwG))))
   (cc.b,cc.i,cc.h,row,(k:Int))=some (l,c')/\l.length<=7/\(∀f∈l,f.args.length<=2)/\ZMv c':=by
  intro k;induction k with
  |zero=>
   intro cc row q hl hr;exact ⟨row,cc,YI rfl,yE,hr,q⟩
  |succ k ih=>
   intro cc row q hl hr;obtain ⟨a,c2,e2,_,B⟩:=ZM1 q (l:=[(⟨#[97]⟩),(⟨#[98]⟩),(⟨#[49]⟩),(⟨#[50]⟩)]) yG yG;obtain ⟨b,c3,e3,_,C⟩:=ZM1 B (l:=[(⟨#[97]⟩),(⟨#[98]⟩),(⟨#[49]⟩)]) yG yG;obtain ⟨x,c4,e4,_,_,D⟩:=ZMx C (n:=5) yE yE;have j:decide (0<(((k+1:Nat)):Int))=true:=decide_eq_true yE;have hw:i64.wrap ((((k+1:Nat)):Int)-1)=(k:Int):=by rw [ZeT yE yE];omega
   have go:∀f:Zc,f.args.length<=2->∀{body:(List Int)×Int×Int×(List Zc)×Int->Option (((List Int)×Int×Int×(List Zc)×Int) ⊕ (List Zc×ZwG))},(body (cc.b,cc.i,cc.h,row,((k+1:Nat):Int))=(ZcF row f).bind fun v=>some (.inl (c4.b,c4.i,c4.h,v,(k:Int))))->(∀(row:List Zc),row.length+k<=7->(∀f∈row,f.args.length<=2)->∃l c',iter body (c4.b,c4.i,c4.h,row,(k:Int))=some (l,c')/\l.length<=7/\(∀f∈l,f.args.length<=2)/\ZMv c')->∃l c',iter body (cc.b,cc.i,cc.h,row,((k+1:Nat):Int))=some (l,c')/\l.length<=7/\(∀f∈l,f.args.length<=2)/\ZMv c':=fun f hf body hb hi=>by
    obtain ⟨g,ep,hl',E⟩:=t row f yE hr hf;rw [YV (hb.trans (by rw [ep];rfl))];exact hi g yE E
   have hi:=fun row=>ih c4 row D;by_cases x0:x=0
   .refine go {rel:=(⟨#[112]⟩),args:=[a]} yG ?_ hi;simp only[j,if_true];rw [show ({b:=cc.b,i:=cc.i,h:=cc.h}:ZwG)=cc from rfl,e2,A0,e3,A0,e4,A0,hw,if_pos (by simp [x0])]
   .by_cases x1:x=1
    .refine go {rel:=(⟨#[97,116]⟩),args:=[a,b]} yG ?_ hi;simp only[j,if_true];rw [show ({b:=cc.b,i:=cc.i,h:=cc.h}:ZwG)=cc from rfl,e2,A0,e3,A0,e4,A0,hw,if_neg (by simp [x0]),if_pos (by simp [x1])]
    .by_cases x2:x=2
     .refine go {rel:=(⟨#[113]⟩),args:=[a]} yG ?_ hi;simp only[j,if_true];rw [show ({b:=cc.b,i:=cc.i,h:=cc.h}:ZwG)=cc from rfl,e2,A0,e3,A0,e4,A0,hw,if_neg (by simp [x0]),if_neg (by simp [x1]),if_pos (by simp [x2])]
     .refine go {rel:=(⟨#[111,110]⟩),args:=[a,b]} yG ?_ hi;simp only[j,if_true];rw [show ({b:=cc.b,i:=cc.i,h:=cc.h}:ZwG)=cc from rfl,e2,A0,e3,A0,e4,A0,hw,if_neg (by simp [x0]),if_neg (by simp [x1]),if_neg (by simp [x2])]
 have e5:n=(n.toNat:Int):=by omega
 have:=key n.toNat c1 [] hc (by simp;omega) (fun y hy=>by simp at hy);rw [<-e5]at this;exact this
section
open Classical
theorem ZOZ (l:List Zc) (f:Zc):ZNv l f=some (decide (f∈l)):=by
 unfold ZNv;rw [Zfk,A0];exact congrArg some (decide_eq_decide.2 ZHo)
theorem ZPh {a:List Int}(h:¬decide (4096<(a.length:Int))=true):a.length<=4096:=by
 simp at h;omega
theorem ZPw (a:List Int):ZO4 a=some (decide (4096<(a.length:Int))):=rfl
theorem ZLI {R:List Zg}(hR:Zaz R) {base F:List Zc}(h:Yo R base F):YA R base=some (F,true)/\YB R base=some (F,true):=by
 obtain ⟨G,p1,p2,hG,a⟩:=ZLx hR (fun _ h=>h) h.logical h (List.Sublist.refl base);have e:G=F:=Zms hG.good.asc h.good.asc fun f=>⟨a f,h.good.low G ⟨hG.good.asc,hG.good.inc,hG.closed⟩ f⟩
 rw [<-e];exact ⟨p1,p2⟩
end
section
open Classical
section
variable {R:List Zg} {base F:List Zc}
theorem ZLT (hR:Zaz R) (hG:Yo R base F) (a:(Xg R F base).length<=60):ZJz R base=some (F,{nodes:=(F.length:Int),reasons:=Xg R F base},(Za5 Zqs F noI R base).2,true)/\ZI6 R base=some (F,{nodes:=(F.length:Int),reasons:=Xg R F base},(Za5 Zri F noS R base).2,true):=by
 obtain ⟨q1,q2⟩:=ZKr R base;obtain ⟨p1,p2⟩:=ZLI hR hG;obtain ⟨e1,_⟩:=Zlx Zqs F noI R base;obtain ⟨e2,_⟩:=Zlx Zri F noS R base;refine ⟨?_,?_⟩
 .rw [q1,Zrb hG p2,ZLW (by rw [e1];exact a),e1]
 .rw [q2,ZsF hG p1,ZLW (by rw [e2];exact a),e2]
theorem ZL0 (hG:Yo R base F) (h60:(Xg R F base).length≤60) {f:Zc} {l:List Int} (hl:ZJ3 {nodes:=(F.length:Int),reasons:=Xg R F base} (YD F f) l):0<l.length↔f∈ZaI F (rdB {nodes:=(F.length:Int),reasons:=Xg R F base}):=by
 have hB:=Zdx.of hG h60;have hnd:=Znr hG.good.asc;have hrd:(rdB {nodes:=(F.length:Int),reasons:=Xg R F base}).length=F.length:=by rw [hB.rd];simp
 rw [ZMg hnd hrd];constructor
 ·intro h
  have h0:0≤ZI2 {nodes:=(F.length:Int),reasons:=Xg R F base} (YD F f):=by
   refine Int.not_lt.1 fun hn=>?_;rw [hl.none hn] at h;simp at h
  obtain ⟨y0,_,y2,_⟩:=ZJA h0;exact ⟨ZHo.1 y0,y2⟩
 ·rintro ⟨mF,hr⟩
  obtain ⟨t,e⟩:=hl.last (ZMp hB (ZHo.2 mF) hr);rw [e];simp
end
end
section
open Classical
def ZJQ (x:Zwt):ByteArray:=(((x.rule++(⟨#[32]⟩:ByteArray))++ofL (Lib.itoa x.done))++(⟨#[32]⟩:ByteArray))++x.cond
theorem ZJ2 {x:Zwt}(hd:Zlp x.done) (h1:x.rule.size<=8) (h2:x.cond.size<=44):(ZJQ x).size<=75:=by
 have h3:=ZJe hd;have hs:(⟨#[32]⟩:ByteArray).size=1:=rfl;unfold ZJQ;simp only[ZyE];omega
theorem ZJW {x:Zwt}(hd:Zlp x.done) (h1:x.rule.size<=8) (h2:x.cond.size<=44):ZI9 x=some (ZJQ x):=by
 have h3:=ZJe hd;have hs:(⟨#[32]⟩:ByteArray).size=1:=rfl;unfold ZI9 ZJQ;rw [Zd5 hd];simp only[A0];rw [Zj _ yE,Zj _ (by rw [ZyE];omega),Zj _ (by simp only[ZyE];omega),Zj _ (by simp only[ZyE];omega)]
theorem ZKQ {x:Zwt}(hd:Zlp x.done) (h1:x.rule.size<=8) (h2:x.cond.size<=44):ZJb x=some (ZJQ x):=by
 rw [<-ZJW hd h1 h2];unfold ZJb ZI9;rw [ZmZ hd,Zd5 hd]
theorem ZMa (f:Zc):(ZJH f).size<=40:=by
 unfold ZJH;split
 .rename_i h;unfold Y3 at h;simp only[A3,decide_eq_true_iff]at h;have h1:=h.1.1;unfold XG at h1;rw [A3]at h1;have h2:=(ZbW h1.1).2;have h3:=ZIs (l:=f.args) (by
   rw [AG]at h ⊢;intro x mx;unfold YJ;rw [h.2 x mx];rfl) ⟨#[44]⟩ yF
  have h4:=ZHf ⟨#[44]⟩ f.args;have e1:(⟨#[40]⟩:ByteArray).size=1:=rfl;have e2:(⟨#[41]⟩:ByteArray).size=1:=rfl;have h5:=h.1.2;rw [ZyE,ZyE,ZyE];omega
 .exact AN _
structure ZKT (s:ZzC):Prop where
 c:ZJB s<=80
 u:s.uses.length<=4
 w:∀x∈s.uses,Zlp x
 n:s.rule.size<=8
theorem ZKT.wf {s:ZzC}(h:ZKT s):ZLN s:=⟨⟨trivial,fun _ _=>trivial⟩,trivial,h.w⟩
theorem ZKm {s:ZzC}(h:ZKT s):(ZKL s).size<=150:=by
 have h1:=ZMa s.fact;have h2:=ZJl s.uses.length s.uses rfl h.w;have h3:=h.u;have h4:=h.n;have e1:(⟨#[32,103,105,118,101,110]⟩:ByteArray).size=6:=rfl;have e2:(⟨#[32,98,121,32]⟩:ByteArray).size=4:=rfl;have e3:(⟨#[32,102,114,111,109]⟩:ByteArray).size=5:=rfl;unfold ZKL;split
 .split
  .rw [ZyE];omega
  .simp only[ZyE];omega
 .exact AN _
def ZJP (i:Nat) (s:ZzC):ByteArray:=(ofL (Lib.itoa (i:Int))++(⟨#[58,32]⟩:ByteArray))++ZKL s
theorem ZK5 (p:List ZzC) (x:ZzC):(p++[x]).mapIdx ZJP=p.mapIdx ZJP++[ZJP p.length x]:=List.mapIdx_concat
theorem ZMd (a:List ZzC) (hl:a.length<=1000) (x:Zc):Zlp (ZJv a x):=by
 unfold ZJv;rcases ZJL (p:=fun s:ZzC=>decide (s.fact=x)) (l:=a) (i:=0) with h|h
 .rw [h];exact ⟨yE,yE⟩
 .obtain ⟨j,y,h1,h2,_⟩:=ZJS h;have:=(AA.1 h2).1;rw [h1];exact ⟨yE,yE⟩
theorem ZMe {R:List Zg}{base F:List Zc}(hG:Yo R base F) (a:(Xg R F base).length<=60) {x:Int}{l:List Int}(hl:ZJ3 {nodes:=(F.length:Int),reasons:=Xg R F base} x l):∀s∈Q0 F (Xg R F base) (Za5 Zqs F noI R base).2 l,ZKT s:=fun s ms=>by
 obtain ⟨c1,c2⟩:=ZKN hG a hl;obtain ⟨i,hi⟩:=At.1 ms;obtain ⟨p,k,q,e1,_,rfl,_⟩:=ZK7 hi;obtain ⟨c,o,k0,k1,hc,ho,hm,c0,c2'⟩:=ZJ9 hG a hl (k:=k) (by rw [e1];simp);obtain ⟨h8,h4⟩:=ZJJ hG hm;obtain ⟨d1,d2⟩:=c2 _ ms;have hp:(Q0 F (Xg R F base) (Za5 Zqs F noI R base).2 p).length<=60:=by
  rw [ZJj]at c1 ⊢;rw [e1]at c1;simp at c1;omega
 refine ⟨d1,d2,?_,?_⟩
 .rw [ZKy hc ho];intro u mu;obtain ⟨y,_,rfl⟩:=AQ.1 mu;exact ZMd _ yE y
 .rw [ZKy hc ho];exact h8
theorem ZLe {R:List Zg} (hR:Zaz R) {base M:List Zc} {ok:Bool} (hB:ZtB R base M ok) (hb20:base.length≤1048576) (hi:Zbi R base=some (M,ok)) (f:Zc):∃s k,ZJd R base f=some (s,k)∧ZJf R base f=some (s,k)∧s.length≤60∧(∀x∈s,ZKT x)∧(k=true↔0<s.length)∧(k=true↔ok=true∧f∈M):=by
 rcases hB with ⟨rfl,rfl⟩ | ⟨rfl,F,hG,h60,hMF⟩
 ·obtain ⟨q1,q2⟩:=ZKr R base
  rcases Zrw hR base hb20 with ⟨h1,h2⟩ | ⟨F,hG,h1,h2⟩
  ·refine ⟨[],false,?_,?_,by simp,by simp,by simp,by simp⟩
   ·unfold ZJd
    rw [q1,h1];rfl
   ·unfold ZJf
    rw [q2,h2];rfl
  ·obtain ⟨e1,_⟩:=Zlx Zqs F noI R base
   obtain ⟨e2,_⟩:=Zlx Zri F noS R base;by_cases h60:(Xg R F base).length≤60
   ·exfalso
    obtain ⟨M',ok',m1,m2,hB'⟩:=Zkp hR base hb20;rw [hi] at m2;obtain ⟨F2,b,o2,g1,g2,g3⟩:=Zi4 hR base hb20;unfold Zbi at hi;rw [g1,A0] at hi;rcases g3 with ⟨rfl,rfl,rfl⟩ | ⟨rfl,hG2,rfl,h602⟩
    ·unfold QV at g1
     rw [h1] at g1;unfold ZtA at g1;rw [e1,if_neg (by omega)] at g1;simp at g1
    ·rw [if_pos rfl,Zrx (Zdx.of hG2 h602) hG2.args rfl] at hi
     simp at hi
   ·unfold ZtA at h1 h2
    rw [e1,if_pos (by omega)] at h1;rw [e2,if_pos (by omega)] at h2;refine ⟨[],false,?_,?_,by simp,by simp,by simp,by simp⟩
    ·unfold ZJd
     rw [q1,h1];rfl
    ·unfold ZJf
     rw [q2,h2];rfl
 ·obtain ⟨hgi,hgs⟩:=ZLT hR hG h60
  obtain ⟨l,f3,q1,q2⟩:=ZLS hG h60 hgi hgs f;have hiff:=ZL0 hG h60 f3;rw [←hMF] at hiff;have hsl:=ZJj F (Xg R F base) (Za5 Zqs F noI R base).2 l;obtain ⟨c1,_⟩:=ZKN hG h60 f3;refine ⟨_,_,q1,q2,c1,ZMe hG h60 f3,?_,?_⟩
  ·rw [hsl,decide_eq_true_iff]
  ·rw [decide_eq_true_iff,hiff];simp
def noT (l:List Zwt):List ByteArray:=if l.length=0 then [(⟨#[110,111,32,114,117,108,101]⟩:ByteArray)] else l.map fun x=>(⟨#[110,111,58,32]⟩:ByteArray)++ZJQ x
theorem ZLJ {ρ:Type}{l:List ZzC}(hl:l.length<=60) (hf:∀x∈l,ZKT x) {fin:List ByteArray->Option ρ}{body:Nat->ZzC->List ByteArray->Option (List ByteArray ⊕ ρ)}
  (hb:∀i x row,body i x row=(Zbu (i:Int)).bind fun a=>chk (a.size+(⟨#[58,32]⟩:ByteArray).size<=9223372036854775807) <| (ZJi x).bind fun b=>chk ((a++(⟨#[58,32]⟩:ByteArray)).size+b.size<=9223372036854775807) <| chk (row.length+1<=1073741824) <| some (.inl (row++[((a++(⟨#[58,32]⟩:ByteArray))++b)]))):forL body fin l 0 []=fin (l.mapIdx ZJP):=by
 have h0:([]:List ZzC).mapIdx ZJP=[]:=rfl;rw [<-h0,ZaC (fun p=>p.mapIdx ZJP) l];intro p x q e;have hx:=hf x (by rw [e];simp);have hp:p.length<=60:=by rw [e]at hl;simp at hl;omega
 have h1:=ZJe (n:=(p.length:Int)) ⟨yE,yE⟩;have h2:=ZKm hx;have e1:(⟨#[58,32]⟩:ByteArray).size=2:=rfl;rw [hb,Zd5 ⟨yE,yE⟩,A0,Zj _ yE,ZKR (by have:=hx.c;omega) hx.wf,A0,Zj _ (by rw [ZyE];omega),Zj _ (by simp;omega),ZK5];rfl
theorem ZLh {ρ:Type}{l:List ZzC}(hl:l.length<=60) (hf:∀x∈l,ZKT x) {fin:List ByteArray×Bool->Option ρ}{body:Nat->ZzC->List ByteArray×Bool->Option ((List ByteArray×Bool) ⊕ ρ)}
  (hb:∀i x row,body i x (row,true)=(Zbl (i:Int)).bind fun a=>chk (a.size+(⟨#[58,32]⟩:ByteArray).size<=9223372036854775807) <| (ZJp x).bind fun b=>chk ((a++(⟨#[58,32]⟩:ByteArray)).size+b.size<=9223372036854775807) <| chk (row.length+1<=1073741824) <| some (.inl ((row++[((a++(⟨#[58,32]⟩:ByteArray))++b)]),true))):forL body fin l 0 ([],true)=fin (l.mapIdx ZJP,true):=by
 have h0:(([]:List ByteArray),true)=(([]:List ZzC).mapIdx ZJP,true):=rfl;rw [h0,ZaC (fun p=>(p.mapIdx ZJP,true)) l];intro p x q e;have hx:=hf x (by rw [e];simp);have hp:p.length<=60:=by rw [e]at hl;simp at hl;omega
 have h1:=ZJe (n:=(p.length:Int)) ⟨yE,yE⟩;have h2:=ZKm hx;have e1:(⟨#[58,32]⟩:ByteArray).size=2:=rfl;rw [hb,ZmZ ⟨yE,yE⟩,A0,Zj _ yE,ZKP (by have:=hx.c;omega) hx.wf,A0,Zj _ (by rw [ZyE];omega),Zj _ (by simp;omega),ZK5];rfl
theorem ZKd {x:Zwt}(h:x.rule.size<=8/\x.cond.size<=44/\0<=x.done/\x.done<=4):Zlp x.done:=⟨yE,yE⟩
theorem ZMm {ρ:Type}{l:List Zwt}(hl:l.length<=12) (hm:∀x∈l,x.rule.size<=8/\x.cond.size<=44/\0<=x.done/\x.done<=4) {fin:List ByteArray->Option ρ}{body:Nat->Zwt->List ByteArray->Option (List ByteArray ⊕ ρ)}
  (hb:∀i x row,body i x row=(ZI9 x).bind fun a=>chk ((⟨#[110,111,58,32]⟩:ByteArray).size+a.size<=9223372036854775807) <| chk (row.length+1<=1073741824) <| some (.inl (row++[((⟨#[110,111,58,32]⟩:ByteArray)++a)]))):forL body fin l 0 []=fin (l.map fun x=>(⟨#[110,111,58,32]⟩:ByteArray)++ZJQ x):=by
 rw [ZhK (g:=fun x=>(⟨#[110,111,58,32]⟩:ByteArray)++ZJQ x)]
 .rfl
 .intro j x s mx hs;have hx:=hm x mx;have h1:=ZJ2 (ZKd hx) hx.1 hx.2.1;have e1:(⟨#[110,111,58,32]⟩:ByteArray).size=4:=rfl;simp at hs;rw [hb,ZJW (ZKd hx) hx.1 hx.2.1,A0,Zj _ yE,Zj _ yE]
theorem ZMb {ρ:Type}{l:List Zwt}(hl:l.length<=12) (hm:∀x∈l,x.rule.size<=8/\x.cond.size<=44/\0<=x.done/\x.done<=4) {fin:List ByteArray×Bool->Option ρ}{body:Nat->Zwt->List ByteArray×Bool->Option ((List ByteArray×Bool) ⊕ ρ)}
  (hb:∀i x row,body i x (row,true)=(ZJb x).bind fun a=>chk ((⟨#[110,111,58,32]⟩:ByteArray).size+a.size<=9223372036854775807) <| chk (row.length+1<=1073741824) <| some (.inl ((row++[((⟨#[110,111,58,32]⟩:ByteArray)++a)]),true))):forL body fin l 0 ([],true)=fin ((l.map fun x=>(⟨#[110,111,58,32]⟩:ByteArray)++ZJQ x),true):=by
 have h0:(([]:List ByteArray),true)=(([]:List Zwt).map (fun x=>(⟨#[110,111,58,32]⟩:ByteArray)++ZJQ x),true):=rfl;rw [h0,ZaC (fun p=>(p.map (fun x=>(⟨#[110,111,58,32]⟩:ByteArray)++ZJQ x),true)) l];intro p x q e;have hx:=hm x (by rw [e];simp);have hp:p.length<=12:=by rw [e]at hl;simp at hl;omega
 have h1:=ZJ2 (ZKd hx) hx.1 hx.2.1;have e1:(⟨#[110,111,58,32]⟩:ByteArray).size=4:=rfl;rw [hb,ZKQ (ZKd hx) hx.1 hx.2.1,A0,Zj _ yE,Zj _ (by simp;omega),BC];rfl
def ZJV (R:List Zg) (M:List Zc) (ok:Bool) (f:Zc) (s:List ZzC) (k:Bool):List ByteArray:=if k=true then s.mapIdx ZJP else if (ZHt R M ok f).2=true then noT (ZHt R M ok f).1 else []
theorem ZMo {R:List Zg}{M:List Zc}{ok:Bool}{f:Zc}(h:ok=true/\f∈M):ZHt R M ok f=([],false):=by
 unfold ZHt;rw [if_neg (fun hn=>hn.2.2 h.2)]
theorem ZMr {R:List Zg}{M:List Zc}{ok:Bool}{f:Zc}(h:¬(ZHt R M ok f).2=true):(ZHt R M ok f).1=[]:=by
 unfold ZHt at h ⊢;split
 .rename_i hh;rw [if_pos hh]at h;simp at h
 .rfl
theorem ZKl {R:List Zg}(hR:Zaz R) {base M:List Zc}{ok:Bool}(hs:ZfH R base=some (M,ok)) (hi:Zbi R base=some (M,ok)) (hB:ZtB R base M ok) (a:base.length<=1048576) (f:Zc):
  ∃s k,ZI0 R base f=some (ZJV R M ok f s k)/\ZIZ R base f=some (ZJV R M ok f s k)/\s.length<=60/\(∀x∈s,ZKT x)/\(k=true↔0<s.length)/\(k=true↔ok=true/\f∈M):=by
 obtain ⟨s,k,p1,p2,p3,p4,p5,p6⟩:=ZLe hR hB a hi f;obtain ⟨w1,w2⟩:=ZIv hR hs hi hB f;obtain ⟨s1,s2⟩:=ZIL hB f;refine ⟨s,k,?_,?_,p3,p4,p5,p6⟩
 .unfold ZI0 ZJV;rw [p1,A0,w1];cases k with
  |true=>
   rw [if_pos rfl,if_pos rfl];exact ZLJ p3 p4 fun i x row=>rfl
  |false=>
   rw [if_neg yG,if_neg yG,A0];by_cases h2:(ZHt R M ok f).2=true
   .rw [if_pos h2,if_pos h2];unfold noT;by_cases h0:(ZHt R M ok f).1.length=0
    .rw [if_pos (by simpa using h0),if_pos h0]
    .rw [if_neg (by simpa using h0),if_neg h0];exact ZMm s1 s2 fun i x row=>rfl
   .rw [if_neg h2,if_neg h2]
 .unfold ZIZ ZJV;rw [p2,A0];cases k with
  |true=>
   rw [if_pos rfl];refine (ZLh p3 p4 fun i x row=>rfl).trans ?_;dsimp only;rw [w2,A0,ZMo (p6.1 rfl)];rfl
  |false=>
   have h0:s=[]:=AH (by
    have:=p5.2;refine Classical.byContradiction fun hn=>?_;simpa using this yE)
   subst h0;rw [if_neg yG,ZnV];dsimp only;rw [w2,A0];by_cases h2:(ZHt R M ok f).2=true
   .rw [if_pos h2,h2];refine (ZMb s1 s2 fun i x row=>rfl).trans ?_;dsimp only;rw [if_pos rfl];unfold noT;by_cases h0:(ZHt R M ok f).1.length=0
    .rw [if_pos (by simpa using h0),if_pos h0,AH h0,Zj _ yG];rfl
    .rw [if_neg (by simpa using h0),if_neg h0]
   .rw [if_neg h2,ZMr h2,Ak]at *;rw [h2,ZnV];rfl
end
section
open Classical
theorem ZNn {c:ZwG}(h:ZMv c):∃x c',ZMR c=some (x,c')/\ZMv c':=by
 unfold ZMR;obtain ⟨x,c',e,_,hc⟩:=ZM1 h (l:=[(⟨#[97]⟩),(⟨#[98]⟩),(⟨#[99]⟩),(⟨#[49]⟩),(⟨#[50]⟩)]) yG yG;exact ⟨x,c',by rw [e];rfl,hc⟩
theorem ZM4 {c:ZwG}(h:ZMv c):∃x c',ZMQ c=some (x,c')/\ZMv c':=by
 unfold ZMQ;have key:∀L:List ByteArray,0<L.length->L.length<=256->∃x c',((ZML c L).bind fun v1=>some (v1.1,v1.2))=some (x,c')/\ZMv c':=fun L h0 h1=>by
  obtain ⟨x,c',e,_,hc⟩:=ZM1 h (l:=L) h0 h1;exact ⟨x,c',by rw [e];rfl,hc⟩
 exact key _ yG yG
theorem ZOz {c:ZwG}(h:ZMv c):∃r n c',ZNk c=some (r,n,c')/\0<=n/\n<=2/\r≠⟨#[110]⟩/\ZMv c':=by
 unfold ZNk;obtain ⟨x,c',e,x0,x1,hc⟩:=ZMx h (n:=6) yE yE;have key:∀(A:List ByteArray) (B:List Int),A.length=6->B.length=6->(∀b∈B,0<=b/\b<=2)->(∀a∈A,a≠⟨#[110]⟩)->∃r n c',((ZMw c 6).bind fun v1=>chk (0<=v1.1/\v1.1<((6:Nat):Int)) <| (A[(A7 v1.1)]?).bind fun x2=>(B[(A7 v1.1)]?).bind fun x3=>some (x2,x3,v1.2))=some (r,n,c')/\0<=n/\n<=2/\r≠⟨#[110]⟩/\ZMv c':=fun A B hA hB hb ha=>by
  have q1:x.toNat<A.length:=by omega
  have q2:x.toNat<B.length:=by omega
  have q3:=hb _ (AM q2);refine ⟨A[x.toNat],B[x.toNat],c',?_,q3.1,q3.2,ha _ (AM q1),hc⟩;rw [e,A0,Zj _ yE,A4 q1,A0,A4 q2,A0]
 exact key _ _ rfl rfl yF yF
theorem ZOa {ρ:Type}{tm:ZwG->Option (ByteArray×ZwG)}(ht:∀c,ZMv c->∃x c',tm c=some (x,c')/\ZMv c') (g:List ByteArray->ZwG->ρ) {n:Int}(n0:0<=n) (n1:n<=100) {c:ZwG}(hc:ZMv c):∃row c',iter (σ:=(List Int)×Int×Int×(List ByteArray)×Int)
  (fun s=>
   match s with
   |(f_4,f_5,f_6,row_7,i_8)=>
   if (decide (i_8<n))=true then
    (tm ({b:=f_4,i:=f_5,h:=f_6}:ZwG)).bind fun v9=>
    chk (row_7.length+1<=1073741824) <|
    some (.inl (v9.2.b,v9.2.i,v9.2.h,(row_7++[v9.1]),(i64.wrap (i_8+1))))
   else
    some (.inr (g row_7 ({b:=f_4,i:=f_5,h:=f_6}:ZwG))))
  (c.b,c.i,c.h,[],0)=some (g row c')/\row.length<=n.toNat/\ZMv c':=by
 have key:∀(m k:Nat) (cc:ZwG) (row:List ByteArray),((k+m:Nat):Int)=n->row.length=k->ZMv cc->∃d c',iter (σ:=(List Int)×Int×Int×(List ByteArray)×Int)
  (fun s=>
   match s with
   |(f_4,f_5,f_6,row_7,i_8)=>
   if (decide (i_8<n))=true then
    (tm ({b:=f_4,i:=f_5,h:=f_6}:ZwG)).bind fun v9=>
    chk (row_7.length+1<=1073741824) <|
    some (.inl (v9.2.b,v9.2.i,v9.2.h,(row_7++[v9.1]),(i64.wrap (i_8+1))))
   else
    some (.inr (g row_7 ({b:=f_4,i:=f_5,h:=f_6}:ZwG))))
  (cc.b,cc.i,cc.h,row,(k:Int))=some (g d c')/\d.length<=n.toNat/\ZMv c':=by
  intro m;induction m with
  |zero=>
   intro k cc row hk hr e;refine ⟨row,cc,YI ?_,yE,e⟩;simp only;rw [if_neg (by simp;omega)]
  |succ m ih=>
   intro k cc row hk hr e;obtain ⟨a,c2,e2,f⟩:=ht cc e;have hw:i64.wrap ((k:Int)+1)=((k+1:Nat):Int):=by rw [ZeT yE yE];omega
   refine (YV (s':=(c2.b,c2.i,c2.h,row++[a],((k+1:Nat):Int))) ?_) ▸ ih (k+1) c2 (row++[a]) yE (by simp [hr]) f;simp only;rw [if_pos (by simp;omega),show ({b:=cc.b,i:=cc.i,h:=cc.h}:ZwG)=cc from rfl,e2,A0,Zj _ yE,hw]
 exact key n.toNat 0 c [] yE rfl hc
theorem ZOf {c:ZwG}(h:ZMv c):∃f c',ZNa c=some (f,c')/\f.args.length<=2/\f.rel≠⟨#[110]⟩/\ZMv c':=by
 unfold ZNa;obtain ⟨r,n,c1,e,n0,n1,a,hc⟩:=ZOz h;rw [e,A0];obtain ⟨row,c2,e2,h1,h2⟩:=ZOa (tm:=ZMR) (fun c hc=>ZNn hc) (fun row c=>(({rel:=r,args:=row}:Zc),c)) n0 yE hc;exact ⟨{rel:=r,args:=row},c2,e2,by show row.length<=2;omega,a,h2⟩
theorem ZNU {c:ZwG}(h:ZMv c):∃f c',ZNg c=some (f,c')/\f.args.length<=4/\ZMv c':=by
 unfold ZNg;obtain ⟨f,c1,e1,a1,_,h1⟩:=ZOf h;obtain ⟨k,c2,e2,k0,k1,h2⟩:=ZMx h1 (n:=10) yE yE;rw [e1,A0,e2,A0];split
 .obtain ⟨w,c3,e3,h3⟩:=ZM4 h2;exact ⟨{rel:=w,args:=f.args},c3,by rw [e3];rfl,by show f.args.length<=4;omega,h3⟩
 .split
  .obtain ⟨w,c3,e3,h3⟩:=ZM4 h2;exact ⟨{rel:=f.rel,args:=f.args++[w]},c3,by rw [e3,A0,Zj _ (by show f.args.length+1<=_;omega)],by simp;omega,h3⟩
  .split
   .obtain ⟨w,c3,e3,w0,w1,h3⟩:=ZMx h2 (n:=5) yE yE;refine ⟨_,c3,by rw [e3,A0,Zj _ yE],?_,h3⟩;simp;omega
   .exact ⟨f,c2,rfl,yE,h2⟩
theorem ZPG {R:List Zg}{base:List Zc}{x:List Zc×Bool}(h:x=([],false)\/(YW R&&R.all (Xo R))=true/\Yj base=true/\Res R base x):x.1.length<=24:=by
 rcases h with rfl|⟨_,_,hr⟩
 .simp
 .rcases hr with ⟨_,_,hl,_⟩|⟨_,e,_⟩
  .exact hl
  .rw [e];simp
end
end
end Go.Proofs.YtlpkbfjcdaanmaaGreatDoor
