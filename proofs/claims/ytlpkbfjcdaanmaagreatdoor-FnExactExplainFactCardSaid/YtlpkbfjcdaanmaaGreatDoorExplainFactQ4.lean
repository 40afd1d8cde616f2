/- Texts of this proof, joined: G1, S23, S25, S26, N1, N2, N5, S24, N15, N6, N9, N19, E16, S28, S27, D5, D9, S29, BInv, BRun, BOps1, BOps2, BOps3, BOps4, BOps5, BOps6, BOps7, BOps8, BFrz. What each holds is said at its theorems. -/
import Derived.Test.YtlpkbfjcdaanmaaGreatDoorExplainFactQ2
import Derived.Test.YtlpkbfjcdaanmaaGreatDoorExplainFactQ3
import Derived.Test.YtlpkbfjcdaanmaaGreatDoorExplainFactQ1
import Derived.Laws.CopyRow
import Derived.Laws.OwnMore
import Derived.Laws.StructEq
import Derived.Laws.Tables
import Derived.Great.BuildSlice
open Array renaming getElem?_eq_some_iff→Ag
open Bool renaming and_eq_true→A5,or_eq_true→BJ,false_eq_true→BL,not_eq_true→BS
open ByteArray renaming size_extract→BR,size→BZ
open Go.ByteArray renaming toList_eq→Bb
open Int renaming toNat_natCast→AK,toNat_of_nonneg→AZ
open List renaming mem_append→A3,mem_flatMap→AA,getElem?_eq_getElem→AC,mem_of_getElem?→AD,getElem?_eq_some_iff→AE,replicate→AG,eq_nil_of_length_eq_zero→AJ,mem_cons→AL,length_append→AN,range'→AP,nodup_append→AQ,nil_sublist→AR,length_cons→AS,singleton_append→AT,foldl_cons→AU,map_cons→AX,all_eq_true→AY,getElem?_append_left→Aa,getElem?_append_right→Ab,mem_map→Ac,flatMap_cons→Ad,length_map→Ae,drop_append→Ah,drop_of_length_le→Aj,nodup_cons→Al,mem_range'_1→Am,getElem?_eq_none→Ar,getElem?_map→As,take_append_of_le_length→At,all_cons→Au,map_append→Aw,mem_of_mem_drop→Az,mem_of_mem_take→BB,nil_append→BE,append_nil→BF,getElem_mem→BG,getElem?_set→BH,getElem?_replicate→BI,length_singleton→BK,range_eq_range'→BM,pairwise_iff_getElem→BO,dropLast_concat_getLast→BP,foldl_append→BQ,drop_zero→BT,map_flatMap→BV,map_map→BX,mem_iff_getElem?→BY,getElem?_take→Bc,getElem?_drop→Bd,take_length_add_append→Be,drop_take→Bf,flatMap_append→Bg,take_left'→Bh,replicate_succ→Bi,flatten_cons→Bj,sublist_append_right→Bl,take_succ_cons→Bm,cons_append→Bn,drop_succ_cons→Bo,drop_append_of_le_length→Bp
open List.Sublist renaming refl→AH,append→AM
open Nat renaming le_refl→A9,add_mul→AB,zero_le→AF,add_assoc→AI,le_trans→AO,zero_add→AW,mul_le_mul_right→Af,add_sub_cancel_left→Ak,le_add_right→BC,lt_trichotomy→BN,lt_of_lt_of_le→Ba,mul_le_mul→Bk
open Option renaming bind_some→A0,map_eq_some_iff→A6,bind_eq_some_iff→A8,map_some→Ax,isSome_some→BU
open Option.some renaming injEq→A4,inj→Aq
open Prod.mk renaming injEq→A7
open UInt8 renaming ofNat→Ay
set_option linter.unusedSimpArgs false
set_option linter.unusedVariables false
set_option maxRecDepth 1000000
set_option maxHeartbeats 4000000
namespace Go.Proofs.YtlpkbfjcdaanmaaGreatDoor
noncomputable section
section
open Go.RowKit
structure SqM (n:Nat) (d:List (List Bool)):Prop where
 len:d.length=n
 row:∀r∈d,r.length=n
theorem SqM.new (n:Nat):SqM n (AG n (AG n false)):=⟨yG,fun r mr=>by rw [(List.mem_replicate.1 mr).2];simp⟩
theorem SqM.get {n:Nat}{d:List (List Bool)}(h:SqM n d) {i j:Nat}(hi:i<n) (hj:j<n):∃(h1:i<d.length) (h2:j<d[i].length),ZJw d i j=d[i][j]/\∀v,ZKt d i j v=d.set i (d[i].set j v):=by
 have h1:i<d.length:=by rw [h.len];exact hi
 have h2:j<d[i].length:=by rw [h.row _ (BG h1)];exact hj
 refine ⟨h1,h2,?_,fun v=>?_⟩
 .unfold ZJw;rw [AC h1];simp only;rw [AC h2]
 .unfold ZKt;rw [AC h1]
theorem SqM.set {n:Nat}{d:List (List Bool)}(h:SqM n d) (i j:Nat) (v:Bool):SqM n (ZKt d i j v):=by
 unfold ZKt;cases hd:d[i]? with
 |none=>exact h
 |some r=>
  refine ⟨by simp [h.len],fun q mq=>?_⟩
  rcases List.mem_or_eq_of_mem_set mq with mq|rfl
  .exact h.row q mq
  .rw [List.length_set];exact h.row r (AD hd)
theorem ZLk {n:Nat}{d:List (List Bool)}(h:SqM n d) {i j:Nat}{v:Bool}(hi:i<n) (hj:j<n) (a b:Nat):ZJw (ZKt d i j v) a b=if a=i/\b=j then v else ZJw d a b:=by
 obtain ⟨h1,h2,_,h4⟩:=h.get hi hj;rw [h4];unfold ZJw;rw [BH];by_cases e:i=a
 .subst e;rw [if_pos rfl,if_pos h1];simp only;rw [BH,AC h1];by_cases e2:j=b
  .subst e2;rw [if_pos rfl,if_pos h2];simp
  .rw [if_neg e2,if_neg (fun hh=>e2 hh.2.symm)]
 .rw [if_neg e,if_neg (fun hh=>e hh.1.symm)]
theorem ZJk {α β:Type}{P:β->Prop}{f:β->α->β}:∀{l:List α}{b:β},P b->(∀b x,x∈l->P b->P (f b x))->P (l.foldl f b)
 | [],_,h,_=>h
 |x::l,b,h,hs=>ZJk (l:=l) (hs b x yG h) fun b y my=>hs b y (by simp [my])
theorem ZMk {n:Nat}{R:List Zf}{D:Nat->Nat->Prop}(hR:∀r∈R,r.for_.toNat<n/\(∀y∈r.inn,y.toNat<n)/\∀y∈r.outs,y.toNat<n) (h1:∀r∈R,∀y,y∈r.inn\/y∈r.outs->D r.for_.toNat y.toNat) (h2:∀i k j,D i k->D k j->D i j):SqM n (ZJR n R)/\∀i j,ZJw (ZJR n R) i j=true->D i j:=by
 have f:∀{d:List (List Bool)} {i j:Nat} {v:Bool},i<n->j<n->(v=true->D i j)->(SqM n d/\∀i j,ZJw d i j=true->D i j)->SqM n (ZKt d i j v)/\∀a b,ZJw (ZKt d i j v) a b=true->D a b:=fun {d i j v} hi hj hv ⟨s,g⟩=>by
  refine ⟨s.set _ _ _,fun a b c=>?_⟩
  rw [ZLk s hi hj]at c;split at c
  .rename_i e;obtain ⟨rfl,rfl⟩:=e;exact hv c
  .exact g a b c
 unfold ZJR;refine ZJk (P:=fun d=>SqM n d/\∀i j,ZJw d i j=true->D i j) ?_ fun d k mk h=>?_
 .refine ZJk (P:=fun d=>SqM n d/\∀i j,ZJw d i j=true->D i j) ⟨SqM.new n,fun i j h=>?_⟩ fun d r mr h=>?_
  .exfalso;unfold ZJw at h;rw [BI]at h;split at h
   .rename_i r e;split at e
    .simp at e;subst e;rw [BI]at h;split at h
     .rename_i e;split at e
      .simp at e;subst e;simp at h
      .simp at e
     .simp at h
    .simp at e
   .simp at h
  .obtain ⟨q1,q2,q3⟩:=hR r mr;unfold ZJ6;refine ZJk (P:=fun d=>SqM n d/\∀i j,ZJw d i j=true->D i j) (ZJk (P:=fun d=>SqM n d/\∀i j,ZJw d i j=true->D i j) h fun d y my h=>f q1 (q2 y my) (fun _=>h1 r mr y (.inl my)) h) fun d y my h=>f q1 (q3 y my) (fun _=>h1 r mr y (.inr my)) h
 .have hk:k<n:=by rw [Am]at mk;omega
  unfold ZKX;refine ZJk (P:=fun d=>SqM n d/\∀i j,ZJw d i j=true->D i j) h fun d i mi h=>?_
  have hi:i<n:=by rw [Am]at mi;omega
  unfold ZLd;refine ZJk (P:=fun d=>SqM n d/\∀i j,ZJw d i j=true->D i j) h fun d j mj h=>?_
  have hj:j<n:=by rw [Am]at mj;omega
  refine f hi hj (fun hv=>?_) h
  rw [BJ,A5]at hv;rcases hv with hv|⟨l,m⟩
  .exact h.2 i j hv
  .exact h2 i k j (h.2 i k l) (h.2 k j m)
end
section
open Classical
theorem Zld {ρ:Type}{l:List Int}(hl:l.length<=1000) {fin:List Bool->Option ρ}{body:Nat->Int->List Bool->Option (List Bool ⊕ ρ)}(hb:∀i x s,body i x s=chk (s.length+1<=1073741824) (some (.inl (s++[decide (0<=x)])))):Zp body fin l 0 []=fin (l.map fun x=>decide (0<=x)):=by
 rw [ZhK (g:=fun x=>decide (0<=x))]
 .rfl
 .intro j x s _ hs;simp at hs;rw [hb,Zj _ yE]
theorem Zve {b:Zt}(h:Zdx b):Zhs b=some ((rdB b).map fun x=>decide (0<=x)):=by
 unfold Zhs;have:=h.n1;rw [ZvP h,A0,Zld (by rw [h.rd];omega) fun i x s=>rfl]
theorem Zq3 {b:Zt}(h:Zdx b):Zeu b=some ((rdB b).map fun x=>decide (0<=x)):=by
 unfold Zeu;have:=h.n1;rw [ZsV h,A0,Zld (by rw [h.rd];omega) fun i x s=>rfl]
theorem Znb {ρ:Type}{fin:List Zc->Option ρ}{body:Nat->Bool->List Zc->Option (List Zc ⊕ ρ)}{F:List Zc}(hF:∀f∈F,f.args.length<=1048576) (hl:F.length<=1000)
  (hb:∀i x s,body i x s=if x=true then (atI F (i:Int)).bind fun f=>(YE f).bind fun g=>chk (s.length+1<=1073741824) (some (.inl (s++[g]))) else some (.inl s)):
  ∀(a:List Zc) (l:List Int) (b c:List Zc),F=b++a->l.length=a.length->c.length<=b.length->Zp body fin (l.map fun x=>decide (0<=x)) b.length c=fin (c++ZaI a l)
 | [],[],b,c,_,_,_=>by simp [Zp,ZaI]
 | [],_::_,_,_,_,e,_=>by simp at e
 |_::_,[],_,_,_,e,_=>by simp at e
 |f::a,v::l,b,c,e,el,ha=>by
  have hf:F[b.length]?=some f:=by rw [e];simp
  have hlt:=(AE.1 hf).1;have ih:=fun d h'=>Znb (fin:=fin) hF hl hb a l (b++[f]) d (by rw [e];simp) (by simpa using el) h'
  simp only[AN,BK]at ih;rw [AX];unfold ZaI;by_cases hv:0<=v
  .rw [Z4 (s':=c++[f]) (by
    rw [hb,if_pos (decide_eq_true hv),Za1,hf,A0,YN _ (hF f (AD hf)),A0,Zj _ yE]),ih _ (by simp;omega),if_pos hv]
   simp
  .rw [Z4 (s':=c) (by rw [hb,if_neg (by simpa using hv)]),ih _ yE,if_neg hv]
theorem ZnF {ρ:Type}{fin:List Zc->Option ρ}{body:Nat->Zc->List Zc->Option (List Zc ⊕ ρ)}{L:List Bool}{N:Nat}(hN:N<=1000) {z:List Zc->ρ}
  (hb:∀i x s,body i x s=if decide ((i:Int)<(L.length:Int))=true then chk (0<=(i:Int)/\(i:Int)<(L.length:Int)) ((L[i]?).bind fun v=>if v=true then (XE x).bind fun g=>chk (s.length+1<=1073741824) (some (.inl (s++[g]))) else some (.inl s)) else some (.inr (z s))):
  ∀(a:List Zc) (l:List Int) (b:List Bool) (c:List Zc),(∀f∈a,f.args.length<=1048576)->L=b++(l.map fun x=>decide (0<=x))->l.length=a.length->c.length<=b.length->b.length+a.length<=N->Zp body fin a b.length c=fin (c++ZaI a l)
 | [],[],b,c,_,_,_,_,_=>by simp [Zp,ZaI]
 | [],_::_,_,_,_,_,e,_,_=>by simp at e
 |_::_,[],_,_,_,_,e,_,_=>by simp at e
 |f::a,v::l,b,c,hF,e,el,ha,hn=>by
  have hf:L[b.length]?=some (decide (0<=v)):=by rw [e];simp
  have hlt:=(AE.1 hf).1;have ih:=fun d h'=>ZnF (fin:=fin) hN hb a l (b++[decide (0<=v)]) d (fun g mg=>hF g (by simp [mg])) (by rw [e];simp) (by simpa using el) h' (by simp at hn ⊢;omega)
  simp only[AN,BK]at ih;simp only[AS]at hn;have hx:∀s,body b.length f s=if 0<=v then chk (s.length+1<=1073741824) (some (.inl (s++[f]))) else some (.inl s):=fun s=>by
   rw [hb,if_pos (decide_eq_true yE),Zj _ ⟨yE,yE⟩,hf,A0];by_cases hv:0<=v
   .rw [if_pos (decide_eq_true hv),if_pos hv,Xs _ (hF f yG),A0]
   .rw [if_neg (by simpa using hv),if_neg hv]
  unfold ZaI;by_cases hv:0<=v
  .rw [Z4 (s':=c++[f]) (by rw [hx,if_pos hv,Zj _ yE]),ih _ (by simp;omega),if_pos hv]
   simp
  .rw [Z4 (s':=c) (by rw [hx,if_neg hv]),ih _ yE,if_neg hv]
theorem Zrx {b:Zt}(h:Zdx b) {F:List Zc}(hF:∀f∈F,f.args.length<=1048576) (hn:b.nodes=(F.length:Int)):Zec F b=some (ZaI F (rdB b)):=by
 have h1:=h.n1;have hr:=h.rd;unfold Zec;rw [Zve h,A0];exact Znb hF yE (fun i x s=>rfl) F (rdB b) [] [] rfl yE (A9 _)
theorem Zw7 {b:Zt}(h:Zdx b) {F:List Zc}(hF:∀f∈F,f.args.length<=1048576) (hn:b.nodes=(F.length:Int)):ZjI F b=some (ZaI F (rdB b)):=by
 have h1:=h.n1;have hr:=h.rd;unfold ZjI;rw [Zq3 h,A0];exact ZnF (N:=F.length) yE (fun i x s=>rfl) F (rdB b) [] [] hF rfl yE (A9 _) yG
theorem Yo.args {R:List Zg}{base F:List Zc}(h:Yo R base F):∀f∈F,f.args.length<=1048576:=fun f mf=>by
 have:=Y8 (h.good.ok f mf);omega
structure Zyg (M:List Zc):Prop where
 len:M.length<=24
 ok:∀f∈M,Y3 f=true
theorem Yo.few {R:List Zg}{base F:List Zc}(h:Yo R base F) (l:List Int):Zyg (ZaI F l):=by
 have h1:=h.len;obtain ⟨k1,k2⟩:=Zo5 (F:=F) (l:=l);exact ⟨yE,fun f mf=>h.good.ok f (k2 f mf)⟩
theorem ZMl (l:List Int) (x:Int):ZJy l x=some (Zx9 l x):=Zrc l x
end
section
open Classical
theorem ZLR {b:Zt}(h:Zdx b) (x:Int):ZI1 b (rdB b) x=some (ZI2 b x):=by
 unfold ZI1 ZI2;have h0:=h.n0;have a:=h.rd;by_cases c1:x<0
 .rw [if_pos (decide_eq_true c1),if_neg yE]
 .rw [if_neg (by simpa using c1)]
  by_cases c2:b.nodes<=x
  .rw [if_pos (decide_eq_true c2),if_neg yE]
  .rw [if_neg (by simpa using c2),ZLs a yE yE,A0]
   by_cases c3:rdN (rdB b) x<0
   .rw [if_pos (decide_eq_true c3),if_neg yE]
   .rw [if_neg (by simpa using c3),if_pos ⟨yE,yE,yE⟩]
    refine ZJq (s:=()) (fin:=fun _=>some (-1)) (p:=ZKH b x) rfl fun i r mr=>?_
    unfold ZKH;by_cases c4:r.for_=x
    .rw [if_pos (by simpa using c4),ZKF h mr yE,A0]
     by_cases c5:Zkb (rdB b) (rdN (rdB b) x).toNat r
     .rw [if_pos (decide_eq_true c5),decide_eq_true (show r.for_=x/\_ from ⟨c4,c5⟩)];rfl
     .rw [if_neg (by simpa using c5),decide_eq_false (fun hh:r.for_=x/\_=>c5 hh.2)];rfl
    .rw [if_neg (by simpa using c4),decide_eq_false (fun hh:r.for_=x/\_=>c4 hh.1)];rfl
theorem ZLp {b:Zt}(h:Zdx b) (x:Int):ZIT b x=some (ZI2 b x):=by
 unfold ZIT ZI2;have h0:=h.n0;have h1:=h.n1;have a:=h.rd;rw [ZsV h,A0,Zun yE yE,Zh0,A0];by_cases c1:0<=x/\x<b.nodes
 .rw [if_pos (by simp;omega),Zj _ ⟨yE,yE⟩]
  have hg:=ZLs a c1.1 yE;unfold atI at hg;rw [if_pos c1.1]at hg;rw [hg,A0];by_cases c3:rdN (rdB b) x<0
  .rw [if_pos (decide_eq_true c3),if_neg yE]
  .rw [if_neg (by simpa using c3),if_pos ⟨c1.1,c1.2,yE⟩]
   refine ZJq (s:=()) (fin:=fun _=>some (-1)) (p:=ZKH b x) rfl fun i r mr=>?_
   unfold ZKH;by_cases c4:r.for_=x
   .rw [if_pos (by simpa using c4),ZLw h mr yE,A0]
    by_cases c6:r.inn.all (Zqy (rdB b) (rdN (rdB b) x).toNat)=true
    .rw [if_pos c6,ZL6 h mr,A0];by_cases c7:r.outs.all (Zqv (rdB b))=true
     .rw [if_pos c7,decide_eq_true (show r.for_=x/\_ from ⟨c4,ZfW.1 ⟨c6,c7⟩⟩)];rfl
     .rw [if_neg c7,decide_eq_false (fun hh:r.for_=x/\_=>c7 (ZfW.2 hh.2).2)];rfl
    .rw [if_neg c6,decide_eq_false (fun hh:r.for_=x/\_=>c6 (ZfW.2 hh.2).1)];rfl
   .rw [if_neg (by simpa using c4),decide_eq_false (fun hh:r.for_=x/\_=>c4 hh.1)];rfl
 .rw [if_neg (by simp;omega),if_neg yE]
theorem ZbB.join {R:List Zf}{x y z:Int}(h:ZbB R x y) (k:ZbB R y z):ZbB R x z:=by
 induction k with
 |one h1=>exact .step h h1
 |step _ h1 ih=>exact .step ih h1
theorem Zdx.depOk {b:Zt}(h:Zdx b):ZK3 b=true:=by
 have h0:=h.n0;unfold ZK3;rw [A5,decide_eq_true_iff];refine ⟨⟨h.n0,h.n1,h.len⟩,AY.2 fun r mr=>?_⟩
 obtain ⟨⟨f0,f1⟩,f2,f3⟩:=h.ok r mr;rw [A5,A5,decide_eq_true_iff];refine ⟨⟨⟨f0,yE⟩,AY.2 fun y my=>?_⟩,AY.2 fun y my=>?_⟩
 .have:=f2 y my;rw [decide_eq_true_iff];omega
 .have:=f3 y my;rw [decide_eq_true_iff];omega
theorem ZKs {b:Zt}(h:Zdx b):ZIW b=some true:=by
 unfold ZIW;have h0:=h.n0;have h60:=h.len;rw [ZKG h.small yE,h.valid,A0,if_pos rfl];unfold ZJh;rw [if_pos h.depOk,A0];obtain ⟨hS,hD⟩:=ZMk (n:=b.nodes.toNat) (R:=b.reasons) (D:=fun i j=>ZbB b.reasons (i:Int) (j:Int)) (fun r mr=>by
   obtain ⟨⟨f0,f1⟩,f2,f3⟩:=h.ok r mr;exact ⟨f1,fun y my=>(f2 y my).2,fun y my=>(f3 y my).2⟩) (fun r mr y my=>by
   obtain ⟨⟨f0,f1⟩,f2,f3⟩:=h.ok r mr;have hy:0<=y:=by
    rcases my with my|my
    .exact (f2 y my).1
    .exact (f3 y my).1
   exact .one ⟨r,mr,yE,by rw [AZ hy];exact my⟩) (fun i k j h1 h2=>h1.join h2)
 rw [Z0 (p:=fun _=>true) (r:=true)]
 .simp
 .intro i r mr;rw [Z0 (p:=fun _=>true) (r:=.inl ())]
  .simp
  .intro j y my;obtain ⟨k1,k2⟩:=h.strat r mr y my;obtain ⟨⟨f0,f1⟩,_,f3⟩:=h.ok r mr;obtain ⟨y0,y1⟩:=f3 y my;have ey:(y==r.for_)=false:=by simpa using k1
   obtain ⟨q1,q2,q3,_⟩:=hS.get y1 f1;have hv:(ZJR b.nodes.toNat b.reasons)[y.toNat][r.for_.toNat]=false:=by
    cases hb:(ZJR b.nodes.toNat b.reasons)[y.toNat][r.for_.toNat]with
    |false=>rfl
    |true=>
     have:=hD y.toNat r.for_.toNat (by rw [q3,hb])
     rw [AZ y0,AZ f0]at this;exact absurd this k2
   rw [ey];simp only[BL,if_false];have a1:atI (ZJR b.nodes.toNat b.reasons) y=some (ZJR b.nodes.toNat b.reasons)[y.toNat]:=by
    unfold atI;rw [if_pos y0,AC q1]
   have a2:atI (ZJR b.nodes.toNat b.reasons)[y.toNat] r.for_=some false:=by
    unfold atI;rw [if_pos f0,AC q2,hv]
   rw [a1,A0,a2,A0];rfl
end
section
open Classical
structure ZKc (b:Zt) (l:List Int):Prop where
 nodup:l.Nodup
 sup:∀s∈l,∃y,s=ZI2 b y/\0<=ZI2 b y
theorem ZL3 (b:Zt):ZKc b []:=⟨List.nodup_nil,yG⟩
theorem ZKc.len {b:Zt}(h:Zdx b) {l:List Int}(g:ZKc b l):l.length<=60:=AO (ZL5 g.nodup g.sup) h.len
theorem ZLa {b:Zt}(h:Zdx b) {sup:Int->Option Int}{d:List Int->Int->Option Bool}(hs:∀x,sup x=some (ZI2 b x)) (hh:∀l s,d l s=some (Zx9 l s)):
  ∀(n:Nat) (x:Int) (l:List Int),(rdN (rdB b) x).toNat<n->ZKc b l->∃r,ZJa sup d b n x l=some r/\ZKj b n x l=some r/\ZKc b r
 |0,_,_,hx,_=>by omega
 |n+1,x,l,hx,hg=>by
  obtain ⟨r,e1,e2,e3,e4⟩:=ZJ7 b (n+1) x l hx;have hr:ZKc b r:=⟨e2.nodup hg.nodup,fun s ms=>(e2.new s ms).elim (hg.sup s) (fun ⟨y,a,c,_⟩=>⟨y,a,c⟩)⟩
  refine ⟨r,?_,e1,hr⟩;rw [ZJa,hs,A0];unfold ZKj at e1;rw [ZJI]at e1;by_cases h1:ZI2 b x<0
  .rw [if_pos (decide_eq_true h1)];rw [if_pos (.inl h1)]at e1;exact e1
  .rw [if_neg (by simpa using h1),hh,A0]
   by_cases h2:ZI2 b x∈l
   .rw [if_pos (ZrF.2 h2)];rw [if_pos (.inr h2)]at e1;exact e1
   .rw [if_neg (by rw [ZrF];exact h2)]
    rw [if_neg (fun a=>a.elim h1 h2)]at e1
    have h0:0<=ZI2 b x:=by omega
    obtain ⟨_,_,_,q,hq,_,_⟩:=ZJA h0;have hi:ZLv b (ZI2 b x)=q.inn:=by unfold ZLv;rw [hq];rfl
    have e:∀(ys l:List Int),(∀y∈ys,(rdN (rdB b) y).toNat<n)->ZKc b l->∃t,goO (ZJa sup d b n) ys l=some t/\goP (ZJI (ZI2 b) (ZLv b) n) ys l=some t/\ZKc b t:=by
     intro ys;induction ys with
     |nil=>intro l _ g;exact ⟨l,rfl,rfl,g⟩
     |cons y ys ih=>
      intro l hy g;obtain ⟨u,u1,u2,u3⟩:=ZLa h hs hh n y l (hy y yG) g;obtain ⟨t,t1,t2,t3⟩:=ih u (fun z hz=>hy z (by simp [hz])) u3
      unfold ZKj at u2;exact ⟨t,by rw [goO,u1,A0,t1],by rw [goP,u2,A0,t2],t3⟩
    rw [hq,A0];rw [hi]at e1;obtain ⟨t,t1,t2,t3⟩:=e q.inn l (fun y my=>by have:=ZLz h0 y (by rw [hi];exact my);omega) hg
    rw [t2]at e1;rw [t1,A0,if_pos (by have:=t3.len h;omega)]
    exact e1
structure ZJ3 (b:Zt) (x:Int) (l:List Int):Prop where
 good:ZKc b l
 ord:ZLq (ZI2 b) (ZLv b) l
 none:ZI2 b x<0->l=[]
 last:0<=ZI2 b x->∃t,l=t++[ZI2 b x]
theorem ZK8 {b:Zt}(h:Zdx b) {sup:Int->Option Int}{a:List Int->Int->Option Bool}(hs:∀x,sup x=some (ZI2 b x)) (hh:∀l s,a l s=some (Zx9 l s)) (x:Int):
  ∃r,ZJa sup a b ((((rdB b)[x.toNat]?).getD 0).toNat+1) x []=some r/\ZKj b ((((rdB b)[x.toNat]?).getD 0).toNat+1) x []=some r/\ZJ3 b x r:=by
 have hx:(rdN (rdB b) x).toNat<(((rdB b)[x.toNat]?).getD 0).toNat+1:=by
  unfold rdN;cases (rdB b)[x.toNat]? with
  |none=>simp
  |some v=>simp
 obtain ⟨r,r1,r2,r3⟩:=ZLa h hs hh _ x [] hx (ZL3 b);obtain ⟨r',e1,e2,e3,e4⟩:=ZJ7 b _ x [] hx;obtain rfl:r=r':=by rw [r2]at e1;exact Aq e1
 refine ⟨r,r1,r2,r3,e2.ord (ZLq.nil _ _),fun hn=>?_,fun h0=>e4 h0 yG⟩
 unfold ZKj at r2;rw [ZJI,if_pos (.inl hn)]at r2;exact (Aq r2).symm
theorem ZJ5 {b:Zt}(h:Zdx b) (x:Int):∃l,ZIX b x=some l/\ZIV b x=some l/\ZJ3 b x l:=by
 obtain ⟨r,r1,r2,r3⟩:=ZK8 h (ZLR h) Zrc x;obtain ⟨r',q1,q2,_⟩:=ZK8 h (ZLp h) ZMl x;obtain rfl:r=r':=by rw [r2]at q2;exact Aq q2
 refine ⟨r,?_,?_,r3⟩
 .unfold ZIX;rw [ZKs h,A0,if_pos rfl,ZvP h,A0];exact r1
 .unfold ZIV;rw [ZsV h,A0];exact q1
end
section
open Classical
structure ZLP (n:Nat) (R:List Zf) (L:List Int) (s:Int) (row:List Int) (k:Nat):Prop where
 rin:RIn n row k
 low:∀x:Nat,0<=rdN row (x:Int)->lvN L x<s
 supp:∀x:Nat,0<=rdN row (x:Int)->∃r∈R,r.for_.toNat=x/\(∀y∈r.inn,0<=rdN row y/\rdN row y<rdN row (x:Int))/\∀y∈r.outs,rdN row y<0
 clos:∀r∈R,lvN L r.for_.toNat<s->(∀y∈r.inn,0<=rdN row y)->(∀y∈r.outs,rdN row y<0)->0<=rdN row r.for_
theorem ZK2 (row:List Int) (y:Int):rdN row y=rdN row (y.toNat:Int):=by unfold rdN;rw [AK]
theorem ZMj {row l:List Int}{k:Nat}{y:Int}(hl:y.toNat<row.length):rdN (ZgH row l (k:Int)) y=if ∃x∈l,x.toNat=y.toNat then (k:Int) else rdN row y:=by
 unfold rdN;rw [Zl1];by_cases hc:∃x∈l,x.toNat=y.toNat
 .rw [if_pos ⟨hc,hl⟩,if_pos hc];rfl
 .rw [if_neg fun h=>hc h.1,if_neg hc]
theorem ZLZ {row:List Int}{y:Int}(hl:¬y.toNat<row.length):rdN row y=-1:=by
 unfold rdN;rw [Ar yE];rfl
structure ZMc (n:Nat) (R:List Zf) (L:List Int) (s:Int) (row:List Int) (k:Nat):Prop where
 rin:RIn n row k
 low:∀x:Nat,0<=rdN row (x:Int)->lvN L x<=s
 supp:∀x:Nat,0<=rdN row (x:Int)->∃r∈R,r.for_.toNat=x/\(∀y∈r.inn,0<=rdN row y/\rdN row y<rdN row (x:Int))/\∀y∈r.outs,rdN row y<0
 clos:∀r∈R,lvN L r.for_.toNat<s->(∀y∈r.inn,0<=rdN row y)->(∀y∈r.outs,rdN row y<0)->0<=rdN row r.for_
theorem RIn.lt {n:Nat}{row:List Int}{k:Nat}(h:RIn n row k) (y:Int) (h0:0<=rdN row y):y.toNat<n/\rdN row y<(k:Int):=by
 by_cases hl:y.toNat<n
 .obtain ⟨v,hv,hv2⟩:=h.val y.toNat hl;have e:rdN row y=v:=by unfold rdN;rw [hv];rfl
  rw [e]at h0 ⊢;exact ⟨hl,yE⟩
 .rw [ZLZ (by rw [h.len];exact hl)]at h0
  omega
theorem ZMc.next {n:Nat}{R:List Zf}{L:List Int}{s:Int}{row:List Int}{k:Nat}(hR:∀r∈R,OkN n r) (hL:ZlR R (lvN L)) (h:ZMc n R L s row k) (hc:Qa R L s row k≠[]):ZMc n R L s (ZgH row (Qa R L s row k) (k:Int)) (k+1):=by
 have d:=(h.rin.next hR hc).1
 have hlen:=h.rin.len;have a:∀y:Int,y.toNat<n->rdN (ZgH row (Qa R L s row k) (k:Int)) y=if ∃x∈Qa R L s row k,x.toNat=y.toNat then (k:Int) else rdN row y:=fun y hy=>ZMj yE
 have f:∀y:Int,(∃x∈Qa R L s row k,x.toNat=y.toNat)->lvN L y.toNat=s/\rdN row y<0:=fun y ⟨x,mx,e⟩=>by
  obtain ⟨r,mr,e2,h1,h2,_⟩:=Zh6.1 mx;rw [<-e];refine ⟨h1,?_⟩;rw [ZK2 row y,<-e,<-ZK2];exact h2
 have up:∀y:Int,0<=rdN row y->rdN (ZgH row (Qa R L s row k) (k:Int)) y=rdN row y:=fun y hy=>by
  have hl:=(h.rin.lt y hy).1;rw [a y hl,if_neg fun hx=>by have:=(f y hx).2;omega]
 have dn:∀y:Int,y.toNat<n->lvN L y.toNat<s->rdN (ZgH row (Qa R L s row k) (k:Int)) y=rdN row y:=fun y hl hy=>by
  rw [a y hl,if_neg fun hx=>by have:=(f y hx).1;omega]
 refine ⟨d,fun x hx=>?_,fun x hx=>?_,fun r mr hs hi ho=>?_⟩
 .have hl:=(d.lt _ hx).1;rw [AK]at hl;rw [a _ (by simpa using hl)]at hx
  split at hx
  .rename_i c;have:=(f (x:Int) c).1;rw [AK]at this;omega
  .exact h.low x hx
 .have hl:=(d.lt _ hx).1;rw [AK]at hl;by_cases c:∃y∈Qa R L s row k,y.toNat=x
  .obtain ⟨y,my,e⟩:=c;obtain ⟨r,mr,rfl,h1,h2,h3,h4⟩:=Zh6.1 my;have hk:rdN (ZgH row (Qa R L s row k) (k:Int)) (x:Int)=(k:Int):=by
    rw [a _ (by simpa using hl),if_pos ⟨r.for_,my,by simpa using e⟩]
   refine ⟨r,mr,e,fun y b=>?_,fun y b=>?_⟩
   .obtain ⟨k1,k2⟩:=h3 y b;rw [up y k1,hk];exact ⟨k1,k2⟩
   .have hy:=(hR r mr).2.2 y b;have:=hL.outs r mr y b;rw [dn y hy.2 yE];exact h4 y b
  .have e:rdN (ZgH row (Qa R L s row k) (k:Int)) (x:Int)=rdN row (x:Int):=by
    rw [a _ (by simpa using hl),if_neg (by simpa using c)]
   rw [e]at hx ⊢;obtain ⟨r,mr,e2,h3,h4⟩:=h.supp x hx;refine ⟨r,mr,e2,fun y my=>?_,fun y my=>?_⟩
   .obtain ⟨k1,k2⟩:=h3 y my;rw [up y k1];exact ⟨k1,k2⟩
   .have hy:=(hR r mr).2.2 y my;have h5:=hL.outs r mr y my;have h6:=h.low x hx;rw [e2]at h5;rw [dn y hy.2 yE];exact h4 y my
 .have g:∀y∈r.inn,0<=rdN row y:=fun y my=>by
   have hy:=(hR r mr).2.1 y my;have h5:=hL.inn r mr y my;have:=hi y my
   rwa [dn y hy.2 yE]at this
  have i:∀y∈r.outs,rdN row y<0:=fun y my=>by
   have hy:=(hR r mr).2.2 y my;have h5:=hL.outs r mr y my;have:=ho y my
   rwa [dn y hy.2 yE]at this
  have:=h.clos r mr hs g i;rw [up _ this];exact this
theorem ZKY {n:Nat}{R:List Zf}{L:List Int}{s:Int}(hR:∀r∈R,OkN n r) (hL:ZlR R (lvN L)):∀(f:Nat) (row:List Int) (k:Nat),ZMc n R L s row k->Zgt row<=f->ZMc n R L s (QY R L s f row k).1 (QY R L s f row k).2
 |0,row,k,h,hf=>h
 |f+1,row,k,h,hf=>by
  unfold QY;by_cases hc:Qa R L s row k=[]
  .rw [if_pos hc];exact h
  .rw [if_neg hc];exact ZKY hR hL f _ _ (h.next hR hL hc) (by have:=(h.rin.next hR hc).2;omega)
theorem ZLP.level {n:Nat}{R:List Zf}{L:List Int}{s:Int}{row:List Int}{k:Nat}(hR:∀r∈R,OkN n r) (hL:ZlR R (lvN L)) (h:ZLP n R L s row k):ZLP n R L (s+1) (QY R L s n row k).1 (QY R L s n row k).2:=by
 have hu:Zgt row<=n:=by have:=h.rin.few;omega
 have hm:ZMc n R L s row k:=⟨h.rin,fun x hx=>by have:=h.low x hx;omega,h.supp,h.clos⟩
 have h1:=ZKY hR hL n row k hm hu;have h2:=(Zgj (L:=L) (s:=s) hR n row k h.rin hu).2;refine ⟨h1.rin,fun x hx=>by have:=h1.low x hx;omega,h1.supp,fun r mr hs hi ho=>?_⟩
 by_cases e:lvN L r.for_.toNat=s
 .refine Classical.byContradiction fun hn=>?_
  have:r.for_∈Qa R L s (QY R L s n row k).1 (QY R L s n row k).2:=Zh6.2 ⟨r,mr,rfl,e,yE,fun y my=>⟨hi y my,(h1.rin.lt y (hi y my)).2⟩,ho⟩
  rw [h2]at this;simp at this
 .exact h1.clos r mr yE hi ho
theorem ZKD {n:Nat}{R:List Zf}{L:List Int}(hR:∀r∈R,OkN n r) (hL:ZlR R (lvN L)):∀(d s:Nat) (st:List Int×Nat),ZLP n R L (s:Int) st.1 st.2->ZLP n R L ((s+d:Nat):Int) (QN R L n (AP s d) st).1 (QN R L n (AP s d) st).2
 |0,_,_,h=>h
 |d+1,s,st,h=>by
  have h1:ZLP n R L ((s+1:Nat):Int) (QY R L (s:Int) n st.1 st.2).1 (QY R L (s:Int) n st.1 st.2).2:=by
   have:=h.level hR hL
   rwa [show (s:Int)+1=((s+1:Nat):Int) by omega]at this
  have:=ZKD hR hL d (s+1) _ h1
  rwa [show s+1+d=s+(d+1) by omega]at this
theorem Zdx.end {b:Zt}(h:Zdx b):(∀x:Nat,0<=rdN (rdB b) (x:Int)->∃r∈b.reasons,r.for_.toNat=x/\(∀y∈r.inn,0<=rdN (rdB b) y/\rdN (rdB b) y<rdN (rdB b) (x:Int))/\∀y∈r.outs,rdN (rdB b) y<0)/\∀r∈b.reasons,(∀y∈r.inn,0<=rdN (rdB b) y)->(∀y∈r.outs,rdN (rdB b) y<0)->0<=rdN (rdB b) r.for_:=by
 obtain ⟨hL,hv⟩:=h.lv;have none:∀y:Int,rdN (AG b.nodes.toNat (-1)) y=-1:=fun y=>by
  unfold rdN;by_cases hy:y.toNat<b.nodes.toNat
  .simp [hy]
  .rw [Ar (by simp;omega)];rfl
 have a:ZLP b.nodes.toNat b.reasons (lvB b) ((0:Nat):Int) (AG b.nodes.toNat (-1),0).1 (AG b.nodes.toNat (-1),0).2:=⟨ZkE _,fun x hx=>by rw [none]at hx;omega,fun x hx=>by rw [none]at hx;omega,fun r mr hs=>by have:=(hv r.for_.toNat).1;omega⟩
 have hE:=ZKD h.ok hL.sol b.nodes.toNat 0 _ a;have e:rdB b=(QN b.reasons (lvB b) b.nodes.toNat (AP 0 b.nodes.toNat) (AG b.nodes.toNat (-1),0)).1:=by unfold rdB;rw [BM]
 rw [<-e]at hE;refine ⟨hE.supp,fun r mr=>hE.clos r mr ?_⟩
 have:=hv r.for_.toNat;have:=(h.ok r mr).1.2;omega
end
section
open Classical
theorem ZK6 {f:Zc}:∀{F:List Zc}{l:List Int},l.length=F.length->(f∈ZaI F l↔∃i,F[i]?=some f/\0<=rdN l ((i:Nat):Int))
 | [],l,_=>by simp [ZaI]
 |g::F,[],h=>by simp at h
 |g::F,v::l,h=>by
  have ih:=ZK6 (f:=f) (F:=F) (l:=l) (by simpa using h)
  have sh:∀i:Nat,rdN (v::l) ((i+1:Nat):Int)=rdN l ((i:Nat):Int):=fun i=>by unfold rdN;rw [AK,AK];simp
  have s0:rdN (v::l) ((0:Nat):Int)=v:=by unfold rdN;rfl
  have key:(∃i,(g::F)[i]?=some f/\0<=rdN (v::l) ((i:Nat):Int))↔(g=f/\0<=v)\/∃i,F[i]?=some f/\0<=rdN l ((i:Nat):Int):=by
   constructor
   .rintro ⟨i,h1,h2⟩
    cases i with
    |zero=>rw [s0]at h2;exact .inl ⟨by simpa using h1,h2⟩
    |succ i=>rw [sh]at h2;exact .inr ⟨i,by simpa using h1,h2⟩
   .rintro (⟨h1,h2⟩|⟨i,h1,h2⟩)
    .exact ⟨0,by simp [h1],by rw [s0];exact h2⟩
    .exact ⟨i+1,by simpa using h1,by rw [sh];exact h2⟩
  rw [key]
  unfold ZaI
  by_cases hv:0<=v
  .rw [if_pos hv,AL,ih]
   constructor
   .rintro (h|h)
    .exact .inl ⟨h.symm,hv⟩
    .exact .inr h
   .rintro (⟨h,_⟩|h)
    .exact .inl h.symm
    .exact .inr h
  .rw [if_neg hv,ih]
   constructor
   .exact .inr
   .rintro (⟨_,h⟩|h)
    .exact absurd h hv
    .exact h
theorem ZL9 {F:List Zc}(hF:F.Nodup) {j:Nat}{f:Zc}(h:F[j]?=some f):YD F f=(j:Int):=by
 obtain ⟨k,h1,h2⟩:=ZpL (AD h);obtain ⟨hj,ej⟩:=AE.1 h;obtain ⟨hk,ek⟩:=AE.1 h2;have:k=j:=by
  rcases BN k j with hl|hl|hl
  .exact absurd (ek.trans ej.symm) (BO.1 hF k j hk hj hl)
  .exact hl
  .exact absurd (ej.trans ek.symm) (BO.1 hF j k hj hk hl)
 rw [h1,this]
theorem ZMg {F:List Zc}(hF:F.Nodup) {l:List Int}(hl:l.length=F.length) {f:Zc}:f∈ZaI F l↔f∈F/\0<=rdN l (YD F f):=by
 rw [ZK6 hl]
 constructor
 .rintro ⟨i,h1,h2⟩
  exact ⟨AD h1,by rw [ZL9 hF h1];exact h2⟩
 .rintro ⟨h1,h2⟩
  obtain ⟨j,h3,h4⟩:=ZpL h1
  exact ⟨j,h4,by rw [<-h3];exact h2⟩
/- one model alone -/
end
section
open Classical
theorem Zsz {l:List Zc}(hl:l.length<=24) (ha:Zg7 l) (c:∀f∈l,Y3 f=true):Yj l=true:=by
 unfold Yj;rw [A5,decide_eq_true_iff];refine ⟨hl,?_⟩;have key:∀(b a:List Zc),l=a++b->Q5 (ZdT l) b a.length=true:=by
  intro b;induction b with
  |nil=>intro a _;rfl
  |cons x b ih=>
   intro a e;simp only[Q5,A5];refine ⟨?_,by have:=ih (a++[x]) (by rw [e];simp);simpa using this⟩
   unfold ZdT;rw [A5];refine ⟨c x (by rw [e];simp),?_⟩
   by_cases h0:a.length=0
   .rw [if_pos h0]
   .rw [if_neg h0];obtain ⟨q,y,rfl⟩:∃q y,a=q++[y]:=⟨a.dropLast,a.getLast (by intro e2;simp [e2]at h0),(BP _).symm⟩
    have hy:l[(q++[y]).length - 1]?=some y:=by rw [e];simp
    rw [hy,decide_eq_true_iff];unfold Zg7 at ha;rw [e,List.append_assoc,List.pairwise_append]at ha;have h2:=ha.2.1;rw [AT,List.pairwise_cons]at h2;exact h2.1 x yG
 exact key l [] rfl
theorem Zyr {a b:List Zc}(h:a.Sublist b) (hb:Zg7 b):Zg7 a:=List.Pairwise.sublist h hb
theorem Zkt:∀{F:List Zc}{l:List Int},(ZaI F l).Sublist F
 | [],l=>by simp [ZaI]
 |f::F,[]=>by simp [ZaI]
 |f::F,v::l=>by
  unfold ZaI;split
  .exact Zkt.cons_cons f
  .exact Zkt.cons f
theorem ZLx {R L:List Zg}(hS:Zaz L) (hL:∀r∈L,r∈R) (b:(YW L&&L.all (Xo L))=true) {base F:List Zc}(h:Yo R base F) {a:List Zc}(hs:a.Sublist base):∃G,YA L a=some (G,true)/\YB L a=some (G,true)/\Yo L a G/\∀f∈G,f∈F:=by
 obtain ⟨c,d⟩:=Zc7 h.facts;have hg:Yj a=true:=Zsz (AO hs.length_le c) (Zyr hs (Zj0 h.facts)) fun f mf=>d f (hs.subset mf)
 have e:Cl L a F:=⟨h.good.asc,fun f mf=>h.good.inc f (hs.subset mf),fun r mr=>h.closed r (hL r mr)⟩
 have g:a.length<=1048576:=by have:=hs.length_le;omega
 obtain ⟨s1,s2⟩:=Zic hS a g;obtain ⟨i1,i2⟩:=Zid hS a;obtain ⟨x,e1,r1⟩:=s2 b hg;obtain ⟨y,e2,r2⟩:=i2 b hg;rw [<-r1.uniq r2]at e2;obtain ⟨G,ok⟩:=x;rcases r1 with ⟨h1,h2,h3,h4⟩|⟨h1,h2,h3⟩
 .simp only at h1 h2 h3 h4;subst h1;exact ⟨G,e1,e2,⟨b,hg,h2,h3,h4⟩,fun f mf=>h2.low F e f mf⟩
 .have:=h3 F e;have:=h.len;omega
/- reasons, of the smaller set -/
def ZLX (F:List Zc) (y:Int):Zc:=match F[y.toNat]? with|some f=>f|none=>{ rel:=⟨#[]⟩,args:=[] }
end
section
open Classical
def givesB (t:Zq) (f:Zc) (a:Zu):Bool:=(Zdk (Zb8 a.pattern t.binding)).2&&decide ((Zdk (Zb8 a.pattern t.binding)).1=f)
end
section
open Classical
theorem ZLA {β:Type}{P:Zf->β->Prop}:∀(c:List (Zf×β)) (s:List Zf×List β),(∀x∈c,P x.1 x.2)->s.2.length=s.1.length->(∀(k:Nat) (q:Zf) (o:β),s.1[k]?=some q->s.2[k]?=some o->P q o)->∀(k:Nat) (q:Zf) (o:β),(c.foldl Q4 s).1[k]?=some q->(c.foldl Q4 s).2[k]?=some o->P q o
 | [],s,_,_,h=>h
 |x::c,s,hc,hl,h=>by
  rw [AU];refine ZLA c (Q4 s x) (fun y my=>hc y (by simp [my])) ?_ ?_
  .unfold Q4;split
   .exact hl
   .simp [hl]
  .intro k q o hq ho;unfold Q4 at hq ho;split at hq
   .rename_i hm;rw [if_pos hm]at ho;exact h k q o hq ho
   .rename_i hm;rw [if_neg hm]at ho;rcases BN k s.1.length with hk|hk|hk
    .rw [Aa hk]at hq;rw [Aa yE]at ho;exact h k q o hq ho
    .subst hk;rw [Ab (A9 _)]at hq;rw [<-hl,Ab (A9 _)]at ho;simp at hq ho;subst hq ho;exact hc x yG
    .rw [Ar (by simp;omega)]at hq
     simp at hq
def ZMs {β:Type}(oF:Zg->Zq->β) (z:β) (R:List Zg) (base F:List Zc) (q:Zf) (o:β):Prop:=
 (∃f∈base,q={ for_:=YD F f,inn:=[],outs:=[] }/\o=z)\/∃r∈R,∃t∈Zz (ZaR r) F,∃a∈r.thn,q=Yk F r t a/\o=oF r t
theorem ZLB {β:Type}(oF:Zg->Zq->β) (z:β) (R:List Zg) (base F:List Zc) (k:Nat) (q:Zf) (o:β) (hq:(Za5 oF F z R base).1[k]?=some q) (ho:(Za5 oF F z R base).2[k]?=some o):ZMs oF z R base F q o:=by
 refine ZLA (P:=ZMs oF z R base F) (R.flatMap (Zmg oF F)) (ZdU F base,base.map fun _=>z) ?_ (by simp [ZdU]) ?_ k q o hq ho
 .intro x mx;obtain ⟨r,mr,mx⟩:=AA.1 mx;obtain ⟨t,mt,mx⟩:=AA.1 mx;obtain ⟨a,ma,rfl⟩:=Ac.1 mx;exact .inr ⟨r,mr,t,mt,a,ma,rfl,rfl⟩
 .intro k q o hq ho;simp only[ZdU,As,A6]at hq ho;obtain ⟨f,hf,rfl⟩:=hq;obtain ⟨_,_,rfl⟩:=ho;exact .inl ⟨f,AD hf,rfl,rfl⟩
def ZJv (out:List ZzC) (x:Zc):Int:=ZI4 (fun s:ZzC=>decide (s.fact=x)) out 0
theorem ZKq {α:Type}{p:α->Bool}:∀{l:List α}{i:Nat},ZI4 p l i<0->∀x∈l,p x=false
 | [],_,_,x,mx=>by simp at mx
 |y::l,i,h,x,mx=>by
  rw [ZI4]at h;by_cases hp:p y=true
  .rw [if_pos hp]at h;omega
  .rw [if_neg hp]at h;rcases AL.1 mx with rfl|mx
   .simpa using hp
   .exact ZKq h x mx
def mkS (F:List Zc) (Q:List Zf) (O:List Za4) (out:List ZzC) (k:Int):ZzC:=
 { fact:=ZLX F (((Q[k.toNat]?).map (·.for_)).getD 0),rule:=((O[k.toNat]?).map (·.rule)).getD ⟨#[]⟩,uses:=(((O[k.toNat]?).map (·.facts)).getD []).map (ZJv out) }
def Q0 (F:List Zc) (Q:List Zf) (O:List Za4) (l:List Int):List ZzC:=l.foldl (fun out k=>out++[mkS F Q O out k]) []
theorem ZJT (F:List Zc) (Q:List Zf) (O:List Za4) (l:List Int) (k:Int):Q0 F Q O (l++[k])=Q0 F Q O l++[mkS F Q O (Q0 F Q O l) k]:=by
 unfold Q0;rw [BQ];rfl
theorem ZLH {α:Type}{P:List α->Prop}(h0:P []) (h:∀p x,P p->P (p++[x])) (l:List α):P l:=by
 have:∀n (l:List α),l.length=n->P l:=by
  intro n;induction n with
  |zero=>intro l hl;rw [AJ hl];exact h0
  |succ n ih=>
   intro l hl;obtain ⟨p,x,rfl⟩:∃p x,l=p++[x]:=⟨l.dropLast,l.getLast (by intro e;simp [e]at hl),(BP _).symm⟩
   exact h p x (ih p (by simpa using hl))
 exact this _ l rfl
theorem ZJj (F:List Zc) (Q:List Zf) (O:List Za4) (l:List Int):(Q0 F Q O l).length=l.length:=
 ZLH (P:=fun l=>(Q0 F Q O l).length=l.length) rfl (fun p x ih=>by rw [ZJT,AN,AN,ih];rfl) l
theorem ZK7 {F:List Zc}{Q:List Zf}{O:List Za4}:∀{l:List Int}{i:Nat}{s:ZzC},(Q0 F Q O l)[i]?=some s->∃p k q,l=p++k::q/\p.length=i/\s=mkS F Q O (Q0 F Q O p) k/\(Q0 F Q O l).take i=Q0 F Q O p:=by
 intro l;refine ZLH (P:=fun l=>∀{i:Nat} {s:ZzC},(Q0 F Q O l)[i]?=some s->∃p k q,l=p++k::q/\p.length=i/\s=mkS F Q O (Q0 F Q O p) k/\(Q0 F Q O l).take i=Q0 F Q O p) ?_ ?_ l
 .intro i s h;simp [Q0]at h
 .intro p x ih i s h;have hl:=ZJj F Q O p;rw [ZJT]at h ⊢;by_cases hi:i<p.length
  .rw [Aa yE]at h;obtain ⟨p',k,q,e1,e2,e3,e4⟩:=ih h;refine ⟨p',k,q++[x],by rw [e1];simp,e2,e3,?_⟩
   rw [At yE,e4]
  .have a:i<(Q0 F Q O p++[mkS F Q O (Q0 F Q O p) x]).length:=(AE.1 h).1;have b:i=p.length:=by simp at a;omega
   subst b;rw [<-hl,Ab (A9 _)]at h;simp at h;exact ⟨p,x,[],rfl,rfl,h.symm,by rw [<-hl,At (A9 _),List.take_length]⟩
theorem ZMp {b:Zt}(h:Zdx b) {x:Int}(h0:0<=x) (hx:0<=rdN (rdB b) x):0<=ZI2 b x:=by
 have hxl:x.toNat<b.nodes.toNat:=by
  refine Classical.byContradiction fun hn=>?_
  rw [ZLZ (by rw [h.rd];exact hn)]at hx
  omega
 have h1:=h.n0;have e0:(x.toNat:Int)=x:=AZ h0;obtain ⟨r,mr,hf,hi,ho⟩:=h.end.1 x.toNat (by rw [e0];exact hx)
 rw [e0]at hi;have a:r.for_=x:=by have:=(h.ok r mr).1.1;omega
 unfold ZI2;rw [if_pos ⟨h0,yE,hx⟩];rcases ZJL (p:=ZKH b x) (l:=b.reasons) (i:=0) with e|e
 .exfalso;have:=ZKq (by rw [e];omega) r mr
  unfold ZKH at this;rw [decide_eq_false_iff_not]at this;exact this ⟨a,fun y my=>by have:=hi y my;omega,ho⟩
 .exact e
section
variable {R:List Zg} {base F:List Zc}
end
end
section
open Classical
theorem Yo.factsM {R:List Zg}{base F:List Zc}(h:Yo R base F) (l:List Int):Yj (ZaI F l)=true:=
 Zsz (h.few l).len (Zyr Zkt h.good.asc) (h.few l).ok
end
section
open Classical
def ZtB (R:List Zg) (base M:List Zc) (ok:Bool):Prop:=(ok=false/\M=[])\/(ok=true/\∃F,Yo R base F/\(Xg R F base).length<=60/\M=ZaI F (rdB { nodes:=(F.length:Int),reasons:=Xg R F base }))
theorem Zkp {R:List Zg}(hR:Zaz R) (base:List Zc) (a:base.length<=1048576):∃M ok,ZfH R base=some (M,ok)/\Zbi R base=some (M,ok)/\ZtB R base M ok:=by
 obtain ⟨F,b,ok,h1,h2,h3⟩:=Zi4 hR base a;unfold ZfH Zbi;rw [h1,h2];rcases h3 with ⟨rfl,rfl,rfl⟩|⟨rfl,hG,rfl,c⟩
 .exact ⟨_,_,rfl,rfl,.inl ⟨rfl,rfl⟩⟩
 .have hB:=Zdx.of hG c;refine ⟨_,true,?_,?_,.inr ⟨rfl,F,hG,c,rfl⟩⟩
  .rw [A0,if_pos rfl,Zw7 hB hG.args rfl];rfl
  .rw [A0,if_pos rfl,Zrx hB hG.args rfl];rfl
theorem ZIJ {l:List Zc}{f:Zc}:YD l f<0↔f∉l:=by
 rcases ZnU l f with ⟨h1,h2⟩|⟨j,h1,h2⟩
 .exact ⟨fun _=>h1,fun _=>by omega⟩
 .exact ⟨fun h=>by omega,fun h=>absurd (AD h2) h⟩
theorem ZHo {l:List Zc}{f:Zc}:0<=YD l f↔f∈l:=by
 have:=ZIJ (l:=l) (f:=f);by_cases h:f∈l
 .exact ⟨fun _=>h,fun _=>Int.not_lt.1 fun hn=>this.1 hn h⟩
 .exact ⟨fun hn=>absurd hn (Int.not_le.2 (this.2 h)),fun hh=>absurd hh h⟩
end
def ZHC (p:Nat->Bool):Nat->Nat
 |0=>0
 |n+1=>if p n=true then n else ZHC p n
theorem ZIt (p:Nat->Bool):∀n,ZHC p n<=n
 |0=>A9 _
 |n+1=>by
  have:=ZIt p n;rw [ZHC];split<;>omega
theorem ZIQ (p:Nat->Bool) (n:Nat):ZHC p (n+1)<=n:=by
 have:=ZIt p n;rw [ZHC];split<;>omega
def ZG9 (b aim:List Zi):Bool:=b.all fun x=>match Q6 aim x.var with|some v=>decide (v=x.value)|none=>true
def ZHS (l:List Zl) (M:List Zc) (aim:List Zi):Nat:=ZHC (fun n=>(Zz (l.take n) M).any fun t=>ZG9 t.binding aim) (l.length+1)
theorem ZIG {s:ByteArray}(h:Yr s=true):s.size<=9:=by
 unfold Yr at h;simp only[A5,decide_eq_true_eq]at h;have h1:=(ZbW h.2).2;unfold ZuN at h1;rw [BR]at h1;omega
theorem ZHI {s:ByteArray}(h:YJ s=true):s.size<=9:=by
 unfold YJ at h;rw [BJ]at h;rcases h with h|h
 .have:=ZbW h;omega
 .exact ZIG h
theorem ZIs {l:List ByteArray}(h:l.all YJ=true) (sep:ByteArray) (hs:sep.size<=1):ZHh l sep<=10*l.length:=by
 induction l with
 |nil=>simp [ZHh]
 |cons x l ih=>
  simp only[Au,A5]at h;have h1:=ZHI h.1;have h2:=ih h.2;rw [ZHA,AS];omega
def ZH1 (p:Zx):ByteArray:=if Z9 p=true then ((p.rel++(⟨#[40]⟩:ByteArray))++ZHg p.args ⟨#[44]⟩)++(⟨#[41]⟩:ByteArray) else ⟨#[]⟩
theorem ZHH {p:Zx}(h:Z9 p=true):p.rel.size<=8/\ZHh p.args ⟨#[44]⟩<=30/\p.args.length<=3:=by
 unfold Z9 at h;simp only[A5,decide_eq_true_iff]at h;have h1:=h.1.1;unfold XG at h1;rw [A5]at h1;have h2:=(ZbW h1.1).2;have h3:=ZIs h.2 ⟨#[44]⟩ yF;exact ⟨h2,yE,h.1.2⟩
theorem ZG4 (p:Zx):(ZH1 p).size<=40:=by
 unfold ZH1;split
 .rename_i h;obtain ⟨h1,h2,_⟩:=ZHH h;have h3:=ZHf ⟨#[44]⟩ p.args;have e1:(⟨#[40]⟩:ByteArray).size=1:=rfl;have e2:(⟨#[41]⟩:ByteArray).size=1:=rfl;rw [ZyE,ZyE,ZyE];omega
 .exact AF _
theorem ZHz (p:Zx):ZG1 p=some (ZH1 p):=by
 have e1:(⟨#[40]⟩:ByteArray).size=1:=rfl;have e2:(⟨#[41]⟩:ByteArray).size=1:=rfl;unfold ZG1 ZH1;rw [ZbD,A0];split
 .rename_i h;obtain ⟨h1,h2,_⟩:=ZHH h;have h3:=ZHf ⟨#[44]⟩ p.args;rw [Zj _ yE,ZIO _ _ yE,A0,Zj _ (by rw [ZyE];omega),Zj _ (by rw [ZyE,ZyE];omega)]
 .rfl
theorem ZHe (p:Zx):ZGZ p=some (ZH1 p):=by
 have e1:(⟨#[40]⟩:ByteArray).size=1:=rfl;have e2:(⟨#[41]⟩:ByteArray).size=1:=rfl;unfold ZGZ ZH1;rw [ZbE,A0];split
 .rename_i h;obtain ⟨h1,h2,h4⟩:=ZHH h;have h3:=ZHf ⟨#[44]⟩ p.args;rw [Zj _ yE,ZIM _ _ yE yE,A0,Zj _ (by rw [ZyE];omega),Zj _ (by rw [ZyE,ZyE];omega)]
 .rfl
section
open Classical
theorem ZIr (k:Int):ZHq k=some (ZHL k):=by
 unfold ZHq ZHL;by_cases h3:k=3
 .rw [if_pos (by simp [h3]),if_pos h3]
 .rw [if_neg (by simpa using h3),if_neg h3]
  by_cases h4:k=4
  .rw [if_pos (by simp [h4]),if_pos h4]
  .rw [if_neg (by simpa using h4),if_neg h4]
theorem ZHU (k:Int):(ZHL k).size<=4:=by
 unfold ZHL;split
 .decide
 .split<;>decide
def ZHT (x:Zl):ByteArray:=if Y1 x=true then (if x.kind=1 then ZH1 x.pattern else if x.kind=2 then (⟨#[110,111,116,32]⟩:ByteArray)++ZH1 x.pattern else (x.left++ZHL x.kind)++x.right) else ⟨#[]⟩
theorem ZHy {x:Zl}(h:Y1 x=true) (h1:¬x.kind=1) (h2:¬x.kind=2):(3<=x.kind/\x.kind<=5)/\x.left.size<=9/\x.right.size<=9:=by
 have hk:=Zqk h;unfold Y1 at h;rw [if_neg yE,if_pos yE]at h;simp only[A5]at h;exact ⟨yE,ZHI h.1.2,ZHI h.2⟩
theorem ZIz (x:Zl):(ZHT x).size<=44:=by
 unfold ZHT;split
 .rename_i h;split
  .exact AO (ZG4 _) yE
  .rename_i h1;split
   .rw [ZyE];have e0:(⟨#[110,111,116,32]⟩:ByteArray).size=4:=rfl;have:=ZG4 x.pattern;omega
   .rename_i h2;obtain ⟨_,a,b⟩:=ZHy h h1 h2;rw [ZyE,ZyE];have:=ZHU x.kind;omega
 .exact AF _
theorem ZHP (x:Zl):ZG7 x=some (ZHT x):=by
 have e0:(⟨#[110,111,116,32]⟩:ByteArray).size=4:=rfl;have hp:=ZG4 x.pattern;unfold ZG7 ZHT;rw [ZeH,A0,ZHz];by_cases h:Y1 x=true
 .rw [if_pos h,if_pos h];by_cases h1:x.kind=1
  .rw [if_pos (by simp [h1]),if_pos h1];rfl
  .rw [if_neg (by simpa using h1),if_neg h1]
   by_cases h2:x.kind=2
   .rw [if_pos (by simp [h2]),if_pos h2,A0,Zj _ yE]
   .obtain ⟨_,a,b⟩:=ZHy h h1 h2;have hs:=ZHU x.kind;rw [if_neg (by simpa using h2),if_neg h2,ZIr,A0,Zj _ yE,Zj _ (by rw [ZyE];omega)]
 .rw [if_neg h,if_neg h]
theorem ZHN (x:Zl):ZG3 x=some (ZHT x):=by
 have hp:=ZG4 x.pattern;unfold ZG3 ZHT;rw [Zhy,A0,ZHe];by_cases h:Y1 x=true
 .rw [if_pos h,if_pos h];by_cases h1:x.kind=1
  .rw [if_pos h1,if_pos h1]
  .rw [if_neg h1,if_neg h1];by_cases h2:x.kind=2
   .rw [if_pos h2,if_pos h2,A0,if_pos yE]
   .obtain ⟨k,a,b⟩:=ZHy h h1 h2;rw [if_neg h2,if_neg h2,if_pos ⟨k.1,k.2,yE,yE⟩]
 .rw [if_neg h,if_neg h]
theorem ZIy {b:List Zi}(hb:ZY b=true):∀x∈b,Yr x.var=true:=fun x mx=>by
 unfold ZY at hb;rw [A5]at hb;have:=(Zpm hb.2 x mx).1;unfold Zfp at this;rw [A5]at this;exact this.1
theorem ZHJ {b a:List Zi}(hb:ZY b=true):ZHj b a=some (ZG9 b a):=by
 have hv:=ZIy hb;have e:ZG9 b a=b.all (fun x=>match Q6 a x.var with|some v=>decide (v=x.value)|none=>true):=rfl
 rw [e];unfold ZHj;rw [Z0 (p:=fun x=>match Q6 a x.var with|some v=>decide (v=x.value)|none=>true) (r:=false)]
 .split
  .rename_i h;rw [h]
  .rename_i h;rw [BS]at h;rw [h]
 .intro i x mx;rw [Zdq,A0];unfold Zzp;rw [Zi0 (hv x mx)];cases Q6 a x.var with
  |none=>rfl
  |some v=>
   by_cases e:v=x.value
   .simp [e,sEq]
   .simp [e,sEq]
theorem ZH7 {b a:List Zi}(hb:ZY b=true):ZHm b a=some (ZG9 b a):=by
 rw [<-ZHJ hb];unfold ZHm ZHj;simp only[Zdm,Zdq]
theorem ZH5 (p:Nat->Bool):∀n,(AP 0 n).foldl (fun (s:Int) k=>if p k=true then (k:Int) else s) 0=((ZHC p n:Nat):Int)
 |0=>rfl
 |n+1=>by
  rw [List.range'_1_concat,BQ,ZH5 p n,ZHC];simp only[AU,List.foldl_nil,AW];split<;>rfl
theorem ZH3 {ρ:Type}{body:Int×Int->Option ((Int×Int) ⊕ Int)}(p:Nat->Bool) (n:Nat)
  (h1:∀(k:Nat) (s:Int),k<=n->body (s,(k:Int))=some (.inl (if p k=true then (k:Int) else s,((k+1:Nat):Int))))
  (h2:∀s:Int,body (s,((n+1:Nat):Int))=some (.inr s)):XI body ((0:Int),(0:Int))=some ((ZHC p (n+1):Nat):Int):=by
 have:=ZHW (body:=body) (f:=fun (s:Int) k=>if p k=true then (k:Int) else s) (fin:=fun s=>some s) (fun _ _=>True) (n+1) (fun k s hk _=>⟨h1 k s yE,trivial⟩) (fun s _=>h2 s) (n+1) 0 0 yE trivial
 rw [<-ZH5 p (n+1)];exact this
theorem ZId {r:Zg}{M:List Zc}(hr:ZaL r) (h1:YP r=true) (h2:Yj M=true) {k:Nat}(hk:k<=r.cond.length):Zck r (k:Int) M=some (Zz (r.cond.take k) M):=by
 obtain ⟨a,b⟩:=Zc7 h2;have hc:=(Zbk h1).1;unfold Zck;rw [ZeJ r hr,A0,h1,if_pos rfl,Zfm M yE,A0,h2,if_pos rfl,Ztb,A0,if_pos (by simp;omega),Zj _ ⟨yE,yE⟩,AK,BT,Zfl _ _ (by simp;omega) a (fun f mf=>Y8 (b f mf))]
 rfl
theorem ZH6 {α ρ:Type}{q:α->Bool}{z:Int}{fin:Int->Option ρ}{body:Nat->α->Int->Option (Int ⊕ ρ)}:∀{l:List α}{i:Nat}{s:Int},(∀j t s,t∈l->body j t s=some (.inl (if q t=true then z else s)))->Zp body fin l i s=fin (if l.any q=true then z else s)
 | [],i,s,_=>by simp [Zp]
 |t::l,i,s,h=>by
  rw [Z4 (h i t s yG),ZH6 fun j t s m=>h j t s (by simp [m]),List.any_cons]
  cases q t<;>simp
section
variable {r:Zg} {M:List Zc}
theorem ZHZ (h4:r.cond.length<=4) (hM:Yj M=true) (a:List Zi):ZHb r M a=some ((ZHS r.cond M a:Nat):Int):=by
 obtain ⟨b,c⟩:=Zc7 hM;unfold ZHb ZHS;refine ZH3 (ρ:=Unit) _ r.cond.length (fun k s hk=>?_) (fun s=>?_)
 .have ht:(r.cond.take k).length<=4:=by simp;omega
  show (if _ then _ else _)=_
  rw [if_pos (decide_eq_true yE),Zj _ ⟨yE,yE⟩,AK,BT,Zfr _ _ ht b (fun f mf=>Y8 (c f mf)),A0,Zk (n:=k+1) yE yE]
  rw [ZcX (p:=fun t:Zq=>ZG9 t.binding a) (r:=Sum.inl ((k:Int),((k+1:Nat):Int)))]
  .split<;>rfl
  .intro i t mt;rw [ZHJ (Zbw M _ t mt).bind,A0];cases ZG9 t.binding a<;>rfl
 .show (if _ then _ else _)=_
  rw [if_neg (by simp;omega)]
theorem ZIl (hr:ZaL r) (hv:YP r=true) (hM:Yj M=true) (a:List Zi):ZHs r M a=some ((ZHS r.cond M a:Nat):Int):=by
 have h4:=(Zbk hv).1;unfold ZHs ZHS;refine ZH3 (ρ:=Unit) _ r.cond.length (fun k s hk=>?_) (fun s=>?_)
 .show (if _ then _ else _)=_
  rw [if_pos (decide_eq_true yE),ZId hr hv hM hk,A0,Zk (n:=k+1) yE yE];rw [ZH6 (q:=fun t:Zq=>ZG9 t.binding a) (z:=(k:Int))]
  intro j t s mt;rw [ZH7 (Zbw M _ t mt).bind,A0];cases ZG9 t.binding a<;>rfl
 .show (if _ then _ else _)=_
  rw [if_neg (by simp;omega)]
def ZHD (M:List Zc) (f:Zc) (r:Zg) (a:Zu):Option Zwt:=(XL a.pattern f []).map fun aim=>{ rule:=r.name,done:=((ZHS r.cond M aim:Nat):Int),cond:=if ZHS r.cond M aim<r.cond.length then (match r.cond[ZHS r.cond M aim]? with|some x=>ZHT x|none=>⟨#[]⟩) else ⟨#[]⟩ }
def ZG5 (M:List Zc) (f:Zc) (R:List Zg):List Zwt:=R.flatMap fun r=>r.thn.filterMap (ZHD M f r)
theorem ZHB (M:List Zc) (f:Zc):∀R:List Zg,(∀r∈R,r.thn.length<=2)->(ZG5 M f R).length<=2*R.length
 | [],_=>by simp [ZG5]
 |r::R,h=>by
  have:=ZHB M f R fun u mu=>h u (by simp [mu])
  have h2:=h r yG;have h3:=List.length_filterMap_le (ZHD M f r) r.thn;unfold ZG5 at this ⊢;rw [Ad,AN,AS];omega
theorem ZIu (M:List Zc) (f:Zc) (p:List Zg) (r:Zg):ZG5 M f (p++[r])=ZG5 M f p++r.thn.filterMap (ZHD M f r):=by
 unfold ZG5;simp
end
theorem ZIi {R:List Zg}(hl:R.length<=6) (h2:∀r∈R,r.thn.length<=2) {M:List Zc}{f:Zc}{body:Nat->Zg->List Zwt->Option (List Zwt ⊕ (List Zwt×Bool))}{b:Zg->Nat->Zu->List Zwt->Option (List Zwt ⊕ (List Zwt ⊕ (List Zwt×Bool)))}
  (hb:∀i r row,body i r row=Zp (b r) (fun row=>some (.inl row)) r.thn 0 row)
  (hi:∀r∈R,∀j a row,a∈r.thn->row.length<=100->b r j a row=some (.inl (row++(ZHD M f r a).toList))):Zp body (fun row=>some (row,true)) R 0 []=some (ZG5 M f R,true):=by
 have h0:ZG5 M f []=[]:=rfl;rw [<-h0,ZaC (fun p=>ZG5 M f p) R]
 intro p r q e;have mr:r∈R:=by rw [e];simp
 have hp:p.length<=6:=by rw [e]at hl;simp at hl;omega
 have hlen:=ZHB M f p fun u mu=>h2 u (by rw [e];simp [mu])
 have hr:=h2 r mr;rw [hb,ZIu,YT (g:=ZHD M f r)];intro j a s ma hs;exact hi r mr j a s ma yE
def ZHt (R:List Zg) (M:List Zc) (ok:Bool) (f:Zc):List Zwt×Bool:=if ok=true/\Y3 f=true/\f∉M then (ZG5 M f R,true) else ([],false)
theorem ZtB.rules {R:List Zg}{base M:List Zc}(h:ZtB R base M true):YW R=true/\(∀r∈R,Z2 r=true/\r.cond.length<=4/\r.thn.length<=2)/\Yj M=true:=by
 rcases h with ⟨h,_⟩|⟨_,F,hG,_,rfl⟩
 .cases h
 .have h1:=hG.logical;rw [A5]at h1;exact ⟨h1.1,fun r mr=>hG.rule mr,hG.factsM _⟩
theorem ZHG {r:Zg}(h:Z2 r=true):YP r=true:=by
 unfold Z2 at h;simp only[A5]at h;exact h.1.1
theorem ZHF {R:List Zg}(h:YW R=true):R.length<=6:=by
 unfold YW at h;rw [A5,decide_eq_true_iff]at h;exact h.1
theorem ZIv {R:List Zg}(hR:Zaz R) {base M:List Zc}{ok:Bool}(hs:ZfH R base=some (M,ok)) (hi:Zbi R base=some (M,ok)) (hB:ZtB R base M ok) (f:Zc):ZHk R base f=some (ZHt R M ok f)/\ZHi R base f=some (ZHt R M ok f):=by
 unfold ZHk ZHi;rw [hs,hi,A0,A0,Zlu,Zli,Zcx,Zfk];cases ok with
 |false=>
  have hw:ZHt R M false f=([],false):=by unfold ZHt;rw [if_neg (fun h=>by cases h.1)]
  rw [hw];exact ⟨rfl,rfl⟩
 |true=>
  obtain ⟨hA,hL,hM⟩:=hB.rules;have h6:=ZHF hA;have h2:∀r∈R,r.thn.length<=2:=fun r mr=>(hL r mr).2.2
  rw [if_pos rfl,if_pos rfl,A0,A0,A0,A0];by_cases hf:Y3 f=true
  .rw [if_pos hf,if_pos hf];by_cases hm:f∈M
   .have hw:ZHt R M true f=([],false):=by unfold ZHt;rw [if_neg (fun h=>h.2.2 hm)]
    rw [hw,if_pos (decide_eq_true (ZHo.2 hm)),if_pos (decide_eq_true (ZHo.2 hm))];exact ⟨rfl,rfl⟩
   .have hw:ZHt R M true f=(ZG5 M f R,true):=by unfold ZHt;rw [if_pos ⟨rfl,hf,hm⟩]
    have hn:¬decide (0<=YD M f)=true:=by simpa [ZHo]using hm
    rw [hw,if_neg hn,if_neg hn];refine ⟨ZIi h6 h2 (fun i r row=>rfl) fun r mr j a row ma d=>?_,ZIi h6 h2 (fun i r row=>rfl) fun r mr j a row ma d=>?_⟩
    .rw [ZbF,A0,Zgu];unfold ZHD;cases hm:XL a.pattern f []with
     |none=>simp
     |some c=>
      simp only[BU,if_true,Zlw];rw [ZHZ (hL r mr).2.1 hM,A0];by_cases b:ZHS r.cond M c<r.cond.length
      .rw [if_pos (decide_eq_true yE),Za1,AC b,A0,ZHN,A0,Zj _ yE];simp [b]
      .rw [if_neg (by simpa using b),Zj _ yE]
       simp [b]
    .rw [ZgV _ _ _ yG,A0,Zgu];unfold ZHD;cases hm:XL a.pattern f []with
     |none=>simp
     |some c=>
      simp only[BU,if_true,Zlw];rw [ZIl (hR.s r mr) (ZHG (hL r mr).1) hM,A0];by_cases b:ZHS r.cond M c<r.cond.length
      .rw [if_pos (decide_eq_true yE),Za1,AC b,A0,ZHP,A0,Zj _ yE];simp [b]
      .rw [if_neg (by simpa using b),Zj _ yE]
       simp [b]
  .have hw:ZHt R M true f=([],false):=by unfold ZHt;rw [if_neg (fun h=>hf h.2.1)]
   rw [hw,if_neg hf,if_neg hf];exact ⟨rfl,rfl⟩
theorem ZIx {M:List Zc}{f:Zc}{r:Zg}(h:YP r=true) {a:Zu}{x:Zwt}(hx:ZHD M f r a=some x):x.rule.size<=8/\x.cond.size<=44/\0<=x.done/\x.done<=4:=by
 unfold ZHD at hx;obtain ⟨b,_,rfl⟩:=A6.1 hx;have h8:r.name.size<=8:=by
  simp only[YP,A5]at h;have h1:=h.1.1.1.1.1.1.1.1.1;unfold XG at h1;rw [A5]at h1;exact (ZbW h1.1).2
 have h4:=(Zbk h).1;have hm:=ZIQ (fun n=>(Zz (r.cond.take n) M).any fun t=>ZG9 t.binding b) r.cond.length
 refine ⟨h8,?_,yG,?_⟩
 .dsimp only;split
  .split
   .exact ZIz _
   .exact AF _
  .exact AF _
 .show ((ZHS r.cond M b:Nat):Int)<=4
  unfold ZHS;omega
theorem ZIL {R:List Zg}{base M:List Zc}{ok:Bool}(hB:ZtB R base M ok) (f:Zc):(ZHt R M ok f).1.length<=12/\∀x∈(ZHt R M ok f).1,x.rule.size<=8/\x.cond.size<=44/\0<=x.done/\x.done<=4:=by
 unfold ZHt;split
 .rename_i h;obtain ⟨rfl,_,_⟩:=h;obtain ⟨hA,hL,hM⟩:=hB.rules;have h6:=ZHF hA;refine ⟨AO (ZHB M f R fun r mr=>(hL r mr).2.2) yE,fun x mx=>?_⟩
  obtain ⟨r,mr,mx⟩:=AA.1 mx;obtain ⟨a,_,hx⟩:=List.mem_filterMap.1 mx;exact ZIx (ZHG (hL r mr).1) hx
 .simp
end
section
open Classical
theorem ZKA (a:List ZzC) (x:Zc):ZJs a x=some (ZJv a x):=by
 unfold ZJs ZJv;refine ZJq (s:=()) (fin:=fun _=>some (-1)) (p:=fun s:ZzC=>decide (s.fact=x)) rfl fun i s _=>?_
 rw [Zcv,A0];cases decide (s.fact=x)<;>rfl
theorem ZKS (a:List ZzC) (x:Zc):ZJC a x=some (ZJv a x):=by
 unfold ZJC ZJv;refine ZJq (s:=()) (fin:=fun _=>some (-1)) (p:=fun s:ZzC=>decide (s.fact=x)) rfl fun i s _=>?_
 rw [ZLC,A0];cases decide (s.fact=x)<;>rfl
def toI (c:XR):Za4:={ rule:=c.rule,facts:=c.token.facts }
theorem ZLE {β γ:Type}(g:β->γ):∀(c:List (Zf×β)) (s:List Zf×List β),((c.map fun p=>(p.1,g p.2)).foldl Q4 (s.1,s.2.map g))=((c.foldl Q4 s).1,(c.foldl Q4 s).2.map g)
 | [],_=>rfl
 |x::c,s=>by
  have e:Q4 (s.1,s.2.map g) (x.1,g x.2)=((Q4 s x).1,(Q4 s x).2.map g):=by
   unfold Q4;by_cases h:x.1∈s.1
   .simp only[h,if_true]
   .simp only[h,if_false,Aw,AX,List.map_nil]
  rw [AX,AU,AU,e];exact ZLE g c (Q4 s x)
theorem ZLu (R:List Zg) (base F:List Zc):(Za5 Zqs F noI R base).2=(Za5 Zri F noS R base).2.map toI:=by
 have h:=ZLE toI (R.flatMap (Zmg Zri F)) (ZdU F base,base.map fun _=>noS)
 have e1:(R.flatMap (Zmg Zri F)).map (fun p=>(p.1,toI p.2))=R.flatMap (Zmg Zqs F):=by
  rw [BV];congr 1
  funext r
  rw [Zmg,Zmg,BV];congr 1
  funext t
  simp [Zn6,toI,Zri,Zqs]
 have e2:(base.map fun _=>noS).map toI=base.map fun _=>noI:=by
  rw [BX];rfl
 rw [e1,e2]at h;unfold Za5;rw [h]
theorem ZKK {ρ:Type}{F:List Zc}{Q:List Zf}{O:List Za4}{l:List Int}{fin:List ZzC->Option ρ}{body:Nat->Int->List ZzC->Option (List ZzC ⊕ ρ)}(hl:l.length<=60) (hb:∀i k a,k∈l->a.length<=60->body i k a=some (.inl (a++[mkS F Q O a k]))):Zp body fin l 0 []=fin (Q0 F Q O l):=by
 have h0:([]:List ZzC)=Q0 F Q O []:=rfl;rw [h0,ZaC (fun p=>Q0 F Q O p) l]
 intro p k q e;have:p.length+(q.length+1)=l.length:=by rw [e,AN,AS]
 rw [hb _ _ _ (by rw [e];simp) (by rw [ZJj];omega),ZJT]
section
variable {R:List Zg} {base F:List Zc}
theorem ZJ9 (hG:Yo R base F) (a:(Xg R F base).length<=60) {x:Int}{l:List Int}(hl:ZJ3 { nodes:=(F.length:Int),reasons:=Xg R F base } x l) {k:Int}(mk:k∈l):
  ∃c o,0<=k/\k.toNat<(Xg R F base).length/\(Xg R F base)[k.toNat]?=some c/\(Za5 Zqs F noI R base).2[k.toNat]?=some o/\ZMs Zqs noI R base F c o/\0<=c.for_/\c.for_.toNat<F.length:=by
 have hB:=Zdx.of hG a;obtain ⟨y,e1,e2⟩:=hl.good.sup k mk;obtain ⟨y0,y1,y2,c,c1,c2,c3⟩:=ZJA e2;rw [<-e1]at c1 e2;simp only at c1 y1;obtain ⟨g1,g2⟩:=Zlx Zqs F noI R base;have b:k.toNat<(Xg R F base).length:=(AE.1 c1).1;have ho:(Za5 Zqs F noI R base).2[k.toNat]?=some _:=AC yE;exact ⟨c,_,e2,b,c1,ho,ZLB Zqs noI R base F k.toNat c _ (by rw [g1];exact c1) ho,yE,yE⟩
theorem ZJJ (hG:Yo R base F) {c:Zf}{o:Za4}(h:ZMs Zqs noI R base F c o):o.rule.size<=8/\o.facts.length<=4:=by
 rcases h with ⟨f,_,_,rfl⟩|⟨r,mr,t,mt,a,_,_,rfl⟩
 .exact ⟨yF,yF⟩
 .have h1:=(hG.tokS mr mt).len;refine ⟨?_,by show t.facts.length<=4;omega⟩
  have hl:=(hG.rule mr).1;unfold Z2 at hl;simp only[A5]at hl;have hv:=hl.1.1;unfold YP at hv;simp only[A5]at hv;have hn:=hv.1.1.1.1.1.1.1.1.1;unfold XG at hn;rw [A5]at hn;exact (ZbW hn.1).2
theorem ZKy {O:List Za4}{Q:List Zf}{a:List ZzC}{k:Int}{c:Zf}{o:Za4}(h1:Q[k.toNat]?=some c) (h2:O[k.toNat]?=some o):mkS F Q O a k={ fact:=ZLX F c.for_,rule:=o.rule,uses:=o.facts.map (ZJv a) }:=by unfold mkS;rw [h1,h2];rfl
theorem ZKk {y:Int}{f:Zc}(h:F[y.toNat]?=some f):ZLX F y=f:=by unfold ZLX;rw [h]
theorem ZLS (hG:Yo R base F) (d:(Xg R F base).length<=60) (hi:ZJz R base=some (F,{ nodes:=(F.length:Int),reasons:=Xg R F base },(Za5 Zqs F noI R base).2,true)) (hs:ZI6 R base=some (F,{ nodes:=(F.length:Int),reasons:=Xg R F base },(Za5 Zri F noS R base).2,true)) (f:Zc):
  ∃l,ZJ3 { nodes:=(F.length:Int),reasons:=Xg R F base } (YD F f) l/\ZJd R base f=some (Q0 F (Xg R F base) (Za5 Zqs F noI R base).2 l,decide (0<l.length))/\ZJf R base f=some (Q0 F (Xg R F base) (Za5 Zqs F noI R base).2 l,decide (0<l.length)):=by
 have hB:=Zdx.of hG d;obtain ⟨l,f1,f2,f3⟩:=ZJ5 hB (YD F f);have b:=f3.good.len hB;have a:=hG.args;refine ⟨l,f3,?_,?_⟩
 .unfold ZJd;rw [hi,A0,if_pos rfl,Zcx,A0,f1,A0];by_cases h0:l.length=0
  .rw [if_pos (by simpa using h0)]
   rw [AJ h0];rfl
  .rw [if_neg (by simpa using h0),ZKK (F:=F) (Q:=Xg R F base) (O:=(Za5 Zqs F noI R base).2) b]
   .rw [decide_eq_true (show 0<l.length by omega)]
   .intro i k e mk p;obtain ⟨c,o,k0,k1,hc,ho,hm,c0,c1⟩:=ZJ9 hG d f3 mk;obtain ⟨_,q⟩:=ZJJ hG hm;obtain ⟨g,hg⟩:∃g,F[c.for_.toNat]?=some g:=⟨_,AC c1⟩;have a1:atI F c.for_=some g:=by unfold atI;rw [if_pos c0,hg]
    have a2:atI (Za5 Zqs F noI R base).2 k=some o:=by unfold atI;rw [if_pos k0,ho]
    dsimp only;rw [Zj _ ⟨k0,yE⟩,hc,A0,a1,A0,YN _ (a g (AD hg)),A0,a2,A0,ZhK (g:=ZJv e)]
    .rw [Zj _ yE,ZKy hc ho,ZKk hg];rfl
    .intro j y s _ m;rw [ZKA,A0,Zj _ (by simp at m;omega)]
 .unfold ZJf;rw [hs,A0,if_pos rfl,Zfk,A0,f2,A0,ZKK (F:=F) (Q:=Xg R F base) (O:=(Za5 Zqs F noI R base).2) b]
  .rw [ZJj];congr 2
   exact decide_eq_decide.2 yE
  .intro i k e mk p;obtain ⟨c,o,k0,k1,hc,ho,hm,c0,c1⟩:=ZJ9 hG d f3 mk;obtain ⟨_,q⟩:=ZJJ hG hm;obtain ⟨g,hg⟩:∃g,F[c.for_.toNat]?=some g:=⟨_,AC c1⟩;obtain ⟨u,hu,t⟩:∃u,(Za5 Zri F noS R base).2[k.toNat]?=some u/\toI u=o:=by
    rw [ZLu,As]at ho;exact A6.1 ho
   subst t;have a2:atI (Za5 Zri F noS R base).2 k=some u:=by unfold atI;rw [if_pos k0,hu]
   have hof2:u.token.facts.length<=4:=q;dsimp only;rw [Zj _ ⟨k0,yE⟩,hc,A0,Zj _ ⟨c0,yE⟩,hg,A0,Xs _ (a g (AD hg)),A0,a2,A0,ZhK (g:=ZJv e)]
   .rw [Zj _ yE,ZKy hc ho,ZKk hg];rfl
   .intro j y s _ m;rw [ZKS,A0,Zj _ (by simp at m;omega)]
end
theorem ZKN {R:List Zg}{base F:List Zc}(hG:Yo R base F) (a:(Xg R F base).length<=60) {x:Int}{l:List Int}(hl:ZJ3 { nodes:=(F.length:Int),reasons:=Xg R F base } x l):(Q0 F (Xg R F base) (Za5 Zqs F noI R base).2 l).length<=60/\∀s∈Q0 F (Xg R F base) (Za5 Zqs F noI R base).2 l,ZJB s<=80/\s.uses.length<=4:=by
 have hB:=Zdx.of hG a;refine ⟨by rw [ZJj];exact hl.good.len hB,fun s ms=>?_⟩
 obtain ⟨i,hi⟩:=BY.1 ms;obtain ⟨p,k,q,e1,_,rfl,_⟩:=ZK7 hi;obtain ⟨c,o,k0,k1,hc,ho,hm,c0,c1⟩:=ZJ9 hG a hl (k:=k) (by rw [e1];simp)
 obtain ⟨h8,h4⟩:=ZJJ hG hm;obtain ⟨g,hg⟩:∃g,F[c.for_.toNat]?=some g:=⟨_,AC c1⟩;rw [ZKy hc ho,ZKk hg];have hgc:=ZL2 (hG.good.ok g (AD hg));have e:ZJB { fact:=g,rule:=o.rule,uses:=o.facts.map (ZJv (Q0 F (Xg R F base) (Za5 Zqs F noI R base).2 p)) }=Xx g+o.rule.size+(o.facts.map (ZJv (Q0 F (Xg R F base) (Za5 Zqs F noI R base).2 p))).length:=rfl;rw [Ae]at e;refine ⟨by rw [e];omega,?_⟩
 show (o.facts.map _).length<=4
 rw [Ae];exact h4
theorem ZKr (R:List Zg) (base:List Zc):ZJz R base=ZbJ R base/\ZI6 R base=XZ R base:=⟨rfl,rfl⟩
theorem ZLW {β:Type}{F:List Zc}{g:List Zf×List β}(h:g.1.length<=60):ZtA F g=(F,{ nodes:=(F.length:Int),reasons:=g.1 },g.2,true):=by
 unfold ZtA;rw [if_neg yE]
end
section
open Classical
theorem ZLI {R:List Zg}(hR:Zaz R) {base F:List Zc}(h:Yo R base F):YA R base=some (F,true)/\YB R base=some (F,true):=by
 obtain ⟨G,p1,p2,hG,a⟩:=ZLx hR (fun _ h=>h) h.logical h (AH base)
 have e:G=F:=Zms hG.good.asc h.good.asc fun f=>⟨a f,h.good.low G ⟨hG.good.asc,hG.good.inc,hG.closed⟩ f⟩
 rw [<-e];exact ⟨p1,p2⟩
end
section
open Classical
section
variable {R:List Zg} {base F:List Zc}
theorem ZLT (hR:Zaz R) (hG:Yo R base F) (a:(Xg R F base).length<=60):ZJz R base=some (F,{ nodes:=(F.length:Int),reasons:=Xg R F base },(Za5 Zqs F noI R base).2,true)/\ZI6 R base=some (F,{ nodes:=(F.length:Int),reasons:=Xg R F base },(Za5 Zri F noS R base).2,true):=by
 obtain ⟨q1,q2⟩:=ZKr R base;obtain ⟨p1,p2⟩:=ZLI hR hG;obtain ⟨e1,_⟩:=Zlx Zqs F noI R base;obtain ⟨e2,_⟩:=Zlx Zri F noS R base;refine ⟨?_,?_⟩
 .rw [q1,Zrb hG p2,ZLW (by rw [e1];exact a),e1]
 .rw [q2,ZsF hG p1,ZLW (by rw [e2];exact a),e2]
theorem ZL0 (hG:Yo R base F) (h60:(Xg R F base).length≤60) {f:Zc} {l:List Int} (hl:ZJ3 { nodes:=(F.length:Int),reasons:=Xg R F base } (YD F f) l):0<l.length↔f∈ZaI F (rdB { nodes:=(F.length:Int),reasons:=Xg R F base }):=by
 have hB:=Zdx.of hG h60;have hnd:=Znr hG.good.asc;have hrd:(rdB { nodes:=(F.length:Int),reasons:=Xg R F base }).length=F.length:=by rw [hB.rd];simp
 rw [ZMg hnd hrd];constructor
 ·intro h
  have h0:0≤ZI2 { nodes:=(F.length:Int),reasons:=Xg R F base } (YD F f):=by
   refine Int.not_lt.1 fun hn=>?_
   rw [hl.none hn] at h;simp at h
  obtain ⟨y0,_,y2,_⟩:=ZJA h0;exact ⟨ZHo.1 y0,y2⟩
 ·rintro ⟨mF,hr⟩
  obtain ⟨t,e⟩:=hl.last (ZMp hB (ZHo.2 mF) hr);rw [e];simp
end
end
section
open Classical
def ZJQ (x:Zwt):ByteArray:=(((x.rule++(⟨#[32]⟩:ByteArray))++ofL (Lib.itoa x.done))++(⟨#[32]⟩:ByteArray))++x.cond
theorem ZJ2 {x:Zwt}(hd:Zlp x.done) (h1:x.rule.size<=8) (h2:x.cond.size<=44):(ZJQ x).size<=75:=by
 have h3:=ZJe hd;have hs:(⟨#[32]⟩:ByteArray).size=1:=rfl;unfold ZJQ;simp only[ZyE];omega
theorem ZJW {x:Zwt}(hd:Zlp x.done) (h1:x.rule.size<=8) (h2:x.cond.size<=44):ZI9 x=some (ZJQ x):=by
 have h3:=ZJe hd;have hs:(⟨#[32]⟩:ByteArray).size=1:=rfl;unfold ZI9 ZJQ;rw [Zd5 hd];simp only[A0];rw [Zj _ yE,Zj _ (by rw [ZyE];omega),Zj _ (by simp only[ZyE];omega),Zj _ (by simp only[ZyE];omega)]
theorem ZKQ {x:Zwt}(hd:Zlp x.done) (h1:x.rule.size<=8) (h2:x.cond.size<=44):ZJb x=some (ZJQ x):=by
 rw [<-ZJW hd h1 h2];unfold ZJb ZI9;rw [ZmZ hd,Zd5 hd]
theorem ZMa (f:Zc):(ZJH f).size<=40:=by
 unfold ZJH;split
 .rename_i h;unfold Y3 at h;simp only[A5,decide_eq_true_iff]at h;have h1:=h.1.1;unfold XG at h1;rw [A5]at h1;have h2:=(ZbW h1.1).2;have h3:=ZIs (l:=f.args) (by
   rw [AY]at h ⊢;intro x mx;unfold YJ;rw [h.2 x mx];rfl) ⟨#[44]⟩ yF
  have h4:=ZHf ⟨#[44]⟩ f.args;have e1:(⟨#[40]⟩:ByteArray).size=1:=rfl;have e2:(⟨#[41]⟩:ByteArray).size=1:=rfl;have h5:=h.1.2;rw [ZyE,ZyE,ZyE];omega
 .exact AF _
structure ZKT (s:ZzC):Prop where
 c:ZJB s<=80
 u:s.uses.length<=4
 w:∀x∈s.uses,Zlp x
 n:s.rule.size<=8
theorem ZKT.wf {s:ZzC}(h:ZKT s):ZLN s:=⟨⟨trivial,fun _ _=>trivial⟩,trivial,h.w⟩
theorem ZKm {s:ZzC}(h:ZKT s):(ZKL s).size<=150:=by
 have h1:=ZMa s.fact;have h2:=ZJl s.uses.length s.uses rfl h.w;have h3:=h.u;have h4:=h.n;have e1:(⟨#[32,103,105,118,101,110]⟩:ByteArray).size=6:=rfl;have e2:(⟨#[32,98,121,32]⟩:ByteArray).size=4:=rfl;have e3:(⟨#[32,102,114,111,109]⟩:ByteArray).size=5:=rfl;unfold ZKL;split
 .split
  .rw [ZyE];omega
  .simp only[ZyE];omega
 .exact AF _
def ZJP (i:Nat) (s:ZzC):ByteArray:=(ofL (Lib.itoa (i:Int))++(⟨#[58,32]⟩:ByteArray))++ZKL s
theorem ZLQ {i:Nat}(hi:i<=1000) {s:ZzC}(h:ZKT s):(ZJP i s).size<=180:=by
 have h1:=ZJe (n:=(i:Int)) ⟨yE,yE⟩;have h2:=ZKm h;have e1:(⟨#[58,32]⟩:ByteArray).size=2:=rfl;unfold ZJP;simp only[ZyE];omega
theorem ZK5 (p:List ZzC) (x:ZzC):(p++[x]).mapIdx ZJP=p.mapIdx ZJP++[ZJP p.length x]:=List.mapIdx_concat
theorem ZMd (a:List ZzC) (hl:a.length<=1000) (x:Zc):Zlp (ZJv a x):=by
 unfold ZJv;rcases ZJL (p:=fun s:ZzC=>decide (s.fact=x)) (l:=a) (i:=0) with h|h
 .rw [h];exact ⟨yE,yE⟩
 .obtain ⟨j,y,h1,h2,_⟩:=ZJS h;have:=(AE.1 h2).1;rw [h1];exact ⟨yE,yE⟩
theorem ZMe {R:List Zg}{base F:List Zc}(hG:Yo R base F) (a:(Xg R F base).length<=60) {x:Int}{l:List Int}(hl:ZJ3 { nodes:=(F.length:Int),reasons:=Xg R F base } x l):∀s∈Q0 F (Xg R F base) (Za5 Zqs F noI R base).2 l,ZKT s:=fun s ms=>by
 obtain ⟨c1,c2⟩:=ZKN hG a hl;obtain ⟨i,hi⟩:=BY.1 ms;obtain ⟨p,k,q,e1,_,rfl,_⟩:=ZK7 hi;obtain ⟨c,o,k0,k1,hc,ho,hm,c0,c2'⟩:=ZJ9 hG a hl (k:=k) (by rw [e1];simp)
 obtain ⟨h8,h4⟩:=ZJJ hG hm;obtain ⟨d1,d2⟩:=c2 _ ms;have hp:(Q0 F (Xg R F base) (Za5 Zqs F noI R base).2 p).length<=60:=by
  rw [ZJj]at c1 ⊢;rw [e1]at c1;simp at c1;omega
 refine ⟨d1,d2,?_,?_⟩
 .rw [ZKy hc ho];intro u mu;obtain ⟨y,_,rfl⟩:=Ac.1 mu;exact ZMd _ yE y
 .rw [ZKy hc ho];exact h8
theorem ZLe {R:List Zg} (hR:Zaz R) {base M:List Zc} {ok:Bool} (hB:ZtB R base M ok) (hb20:base.length≤1048576) (hi:Zbi R base=some (M,ok)) (f:Zc):∃s k,ZJd R base f=some (s,k)∧ZJf R base f=some (s,k)∧s.length≤60∧(∀x∈s,ZKT x)∧(k=true↔0<s.length)∧(k=true↔ok=true∧f∈M):=by
 rcases hB with ⟨rfl,rfl⟩ | ⟨rfl,F,hG,h60,hMF⟩
 ·obtain ⟨q1,q2⟩:=ZKr R base
  rcases Zrw hR base hb20 with ⟨h1,h2⟩ | ⟨F,hG,h1,h2⟩
  ·refine ⟨[],false,?_,?_,by simp,by simp,by simp,by simp⟩
   ·unfold ZJd
    rw [q1,h1];rfl
   ·unfold ZJf
    rw [q2,h2];rfl
  ·obtain ⟨e1,_⟩:=Zlx Zqs F noI R base
   obtain ⟨e2,_⟩:=Zlx Zri F noS R base;by_cases h60:(Xg R F base).length≤60
   ·exfalso
    obtain ⟨M',ok',m1,m2,hB'⟩:=Zkp hR base hb20;rw [hi] at m2;obtain ⟨F2,b,o2,g1,g2,g3⟩:=Zi4 hR base hb20;unfold Zbi at hi;rw [g1,A0] at hi;rcases g3 with ⟨rfl,rfl,rfl⟩ | ⟨rfl,hG2,rfl,h602⟩
    ·unfold QV at g1
     rw [h1] at g1;unfold ZtA at g1;rw [e1,if_neg (by omega)] at g1
     simp at g1
    ·rw [if_pos rfl,Zrx (Zdx.of hG2 h602) hG2.args rfl] at hi
     simp at hi
   ·unfold ZtA at h1 h2
    rw [e1,if_pos (by omega)] at h1
    rw [e2,if_pos (by omega)] at h2
    refine ⟨[],false,?_,?_,by simp,by simp,by simp,by simp⟩
    ·unfold ZJd
     rw [q1,h1];rfl
    ·unfold ZJf
     rw [q2,h2];rfl
 ·obtain ⟨hgi,hgs⟩:=ZLT hR hG h60
  obtain ⟨l,f3,q1,q2⟩:=ZLS hG h60 hgi hgs f;have hiff:=ZL0 hG h60 f3;rw [←hMF] at hiff;have hsl:=ZJj F (Xg R F base) (Za5 Zqs F noI R base).2 l;obtain ⟨c1,_⟩:=ZKN hG h60 f3;refine ⟨_,_,q1,q2,c1,ZMe hG h60 f3,?_,?_⟩
  ·rw [hsl,decide_eq_true_iff]
  ·rw [decide_eq_true_iff,hiff];simp
def noT (l:List Zwt):List ByteArray:=if l.length=0 then [(⟨#[110,111,32,114,117,108,101]⟩:ByteArray)] else l.map fun x=>(⟨#[110,111,58,32]⟩:ByteArray)++ZJQ x
theorem ZLJ {ρ:Type}{l:List ZzC}(hl:l.length<=60) (hf:∀x∈l,ZKT x) {fin:List ByteArray->Option ρ}{body:Nat->ZzC->List ByteArray->Option (List ByteArray ⊕ ρ)}
  (hb:∀i x row,body i x row=(Zbu (i:Int)).bind fun a=>chk (a.size+(⟨#[58,32]⟩:ByteArray).size<=9223372036854775807) <| (ZJi x).bind fun b=>chk ((a++(⟨#[58,32]⟩:ByteArray)).size+b.size<=9223372036854775807) <| chk (row.length+1<=1073741824) <| some (.inl (row++[((a++(⟨#[58,32]⟩:ByteArray))++b)]))):Zp body fin l 0 []=fin (l.mapIdx ZJP):=by
 have h0:([]:List ZzC).mapIdx ZJP=[]:=rfl;rw [<-h0,ZaC (fun p=>p.mapIdx ZJP) l]
 intro p x q e;have hx:=hf x (by rw [e];simp)
 have hp:p.length<=60:=by rw [e]at hl;simp at hl;omega
 have h1:=ZJe (n:=(p.length:Int)) ⟨yE,yE⟩;have h2:=ZKm hx;have e1:(⟨#[58,32]⟩:ByteArray).size=2:=rfl;rw [hb,Zd5 ⟨yE,yE⟩,A0,Zj _ yE,ZKR (by have:=hx.c;omega) hx.wf,A0,Zj _ (by rw [ZyE];omega),Zj _ (by simp;omega),ZK5]
 rfl
theorem ZLh {ρ:Type}{l:List ZzC}(hl:l.length<=60) (hf:∀x∈l,ZKT x) {fin:List ByteArray×Bool->Option ρ}{body:Nat->ZzC->List ByteArray×Bool->Option ((List ByteArray×Bool) ⊕ ρ)}
  (hb:∀i x row,body i x (row,true)=(Zbl (i:Int)).bind fun a=>chk (a.size+(⟨#[58,32]⟩:ByteArray).size<=9223372036854775807) <| (ZJp x).bind fun b=>chk ((a++(⟨#[58,32]⟩:ByteArray)).size+b.size<=9223372036854775807) <| chk (row.length+1<=1073741824) <| some (.inl ((row++[((a++(⟨#[58,32]⟩:ByteArray))++b)]),true))):Zp body fin l 0 ([],true)=fin (l.mapIdx ZJP,true):=by
 have h0:(([]:List ByteArray),true)=(([]:List ZzC).mapIdx ZJP,true):=rfl;rw [h0,ZaC (fun p=>(p.mapIdx ZJP,true)) l]
 intro p x q e;have hx:=hf x (by rw [e];simp)
 have hp:p.length<=60:=by rw [e]at hl;simp at hl;omega
 have h1:=ZJe (n:=(p.length:Int)) ⟨yE,yE⟩;have h2:=ZKm hx;have e1:(⟨#[58,32]⟩:ByteArray).size=2:=rfl;rw [hb,ZmZ ⟨yE,yE⟩,A0,Zj _ yE,ZKP (by have:=hx.c;omega) hx.wf,A0,Zj _ (by rw [ZyE];omega),Zj _ (by simp;omega),ZK5]
 rfl
theorem ZKd {x:Zwt}(h:x.rule.size<=8/\x.cond.size<=44/\0<=x.done/\x.done<=4):Zlp x.done:=⟨yE,yE⟩
theorem ZMm {ρ:Type}{l:List Zwt}(hl:l.length<=12) (hm:∀x∈l,x.rule.size<=8/\x.cond.size<=44/\0<=x.done/\x.done<=4) {fin:List ByteArray->Option ρ}{body:Nat->Zwt->List ByteArray->Option (List ByteArray ⊕ ρ)}
  (hb:∀i x row,body i x row=(ZI9 x).bind fun a=>chk ((⟨#[110,111,58,32]⟩:ByteArray).size+a.size<=9223372036854775807) <| chk (row.length+1<=1073741824) <| some (.inl (row++[((⟨#[110,111,58,32]⟩:ByteArray)++a)]))):Zp body fin l 0 []=fin (l.map fun x=>(⟨#[110,111,58,32]⟩:ByteArray)++ZJQ x):=by
 rw [ZhK (g:=fun x=>(⟨#[110,111,58,32]⟩:ByteArray)++ZJQ x)]
 .rfl
 .intro j x s mx hs;have hx:=hm x mx;have h1:=ZJ2 (ZKd hx) hx.1 hx.2.1;have e1:(⟨#[110,111,58,32]⟩:ByteArray).size=4:=rfl;simp at hs;rw [hb,ZJW (ZKd hx) hx.1 hx.2.1,A0,Zj _ yE,Zj _ yE]
theorem ZMb {ρ:Type}{l:List Zwt}(hl:l.length<=12) (hm:∀x∈l,x.rule.size<=8/\x.cond.size<=44/\0<=x.done/\x.done<=4) {fin:List ByteArray×Bool->Option ρ}{body:Nat->Zwt->List ByteArray×Bool->Option ((List ByteArray×Bool) ⊕ ρ)}
  (hb:∀i x row,body i x (row,true)=(ZJb x).bind fun a=>chk ((⟨#[110,111,58,32]⟩:ByteArray).size+a.size<=9223372036854775807) <| chk (row.length+1<=1073741824) <| some (.inl ((row++[((⟨#[110,111,58,32]⟩:ByteArray)++a)]),true))):Zp body fin l 0 ([],true)=fin ((l.map fun x=>(⟨#[110,111,58,32]⟩:ByteArray)++ZJQ x),true):=by
 have h0:(([]:List ByteArray),true)=(([]:List Zwt).map (fun x=>(⟨#[110,111,58,32]⟩:ByteArray)++ZJQ x),true):=rfl
 rw [h0,ZaC (fun p=>(p.map (fun x=>(⟨#[110,111,58,32]⟩:ByteArray)++ZJQ x),true)) l]
 intro p x q e;have hx:=hm x (by rw [e];simp)
 have hp:p.length<=12:=by rw [e]at hl;simp at hl;omega
 have h1:=ZJ2 (ZKd hx) hx.1 hx.2.1;have e1:(⟨#[110,111,58,32]⟩:ByteArray).size=4:=rfl;rw [hb,ZKQ (ZKd hx) hx.1 hx.2.1,A0,Zj _ yE,Zj _ (by simp;omega),Aw]
 rfl
def ZJV (R:List Zg) (M:List Zc) (ok:Bool) (f:Zc) (s:List ZzC) (k:Bool):List ByteArray:=if k=true then s.mapIdx ZJP else if (ZHt R M ok f).2=true then noT (ZHt R M ok f).1 else []
theorem ZMo {R:List Zg}{M:List Zc}{ok:Bool}{f:Zc}(h:ok=true/\f∈M):ZHt R M ok f=([],false):=by
 unfold ZHt;rw [if_neg (fun hn=>hn.2.2 h.2)]
theorem ZMr {R:List Zg}{M:List Zc}{ok:Bool}{f:Zc}(h:¬(ZHt R M ok f).2=true):(ZHt R M ok f).1=[]:=by
 unfold ZHt at h ⊢;split
 .rename_i hh;rw [if_pos hh]at h;simp at h
 .rfl
theorem ZKl {R:List Zg}(hR:Zaz R) {base M:List Zc}{ok:Bool}(hs:ZfH R base=some (M,ok)) (hi:Zbi R base=some (M,ok)) (hB:ZtB R base M ok) (a:base.length<=1048576) (f:Zc):
  ∃s k,ZI0 R base f=some (ZJV R M ok f s k)/\ZIZ R base f=some (ZJV R M ok f s k)/\s.length<=60/\(∀x∈s,ZKT x)/\(k=true↔0<s.length)/\(k=true↔ok=true/\f∈M):=by
 obtain ⟨s,k,p1,p2,p3,p4,p5,p6⟩:=ZLe hR hB a hi f;obtain ⟨w1,w2⟩:=ZIv hR hs hi hB f;obtain ⟨s1,s2⟩:=ZIL hB f;refine ⟨s,k,?_,?_,p3,p4,p5,p6⟩
 .unfold ZI0 ZJV;rw [p1,A0,w1];cases k with
  |true=>
   rw [if_pos rfl,if_pos rfl];exact ZLJ p3 p4 fun i x row=>rfl
  |false=>
   rw [if_neg yG,if_neg yG,A0];by_cases h2:(ZHt R M ok f).2=true
   .rw [if_pos h2,if_pos h2];unfold noT;by_cases h0:(ZHt R M ok f).1.length=0
    .rw [if_pos (by simpa using h0),if_pos h0]
    .rw [if_neg (by simpa using h0),if_neg h0]
     exact ZMm s1 s2 fun i x row=>rfl
   .rw [if_neg h2,if_neg h2]
 .unfold ZIZ ZJV;rw [p2,A0];cases k with
  |true=>
   rw [if_pos rfl];refine (ZLh p3 p4 fun i x row=>rfl).trans ?_
   dsimp only;rw [w2,A0,ZMo (p6.1 rfl)];rfl
  |false=>
   have h0:s=[]:=AJ (by
    have:=p5.2;refine Classical.byContradiction fun hn=>?_
    simpa using this yE)
   subst h0;rw [if_neg yG,ZnV];dsimp only;rw [w2,A0];by_cases h2:(ZHt R M ok f).2=true
   .rw [if_pos h2,h2];refine (ZMb s1 s2 fun i x row=>rfl).trans ?_
    dsimp only;rw [if_pos rfl];unfold noT;by_cases h0:(ZHt R M ok f).1.length=0
    .rw [if_pos (by simpa using h0),if_pos h0,AJ h0,Zj _ yG]
     rfl
    .rw [if_neg (by simpa using h0),if_neg h0]
   .rw [if_neg h2,ZMr h2,BS]at *;rw [h2,ZnV];rfl
theorem ZL4 {α:Type}{l:List ByteArray}{n:Nat}(h:∀x∈l,x.size<=n):XD l<=l.length+l.length*n:=by
 have:=ZIE (f:=BZ) h;unfold XD;omega
theorem ZMf {R:List Zg}{base M:List Zc}{ok:Bool}(hB:ZtB R base M ok) (f:Zc) {s:List ZzC}{k:Bool}(h1:s.length<=60) (h2:∀x∈s,ZKT x):(ZJV R M ok f s k).length<=1048576/\XD (ZJV R M ok f s k)<=1048576:=by
 obtain ⟨s1,s2⟩:=ZIL hB f;have h:(ZJV R M ok f s k).length<=60/\∀x∈ZJV R M ok f s k,x.size<=180:=by
  unfold ZJV;split
  .refine ⟨by simpa using h1,fun x mx=>?_⟩
   obtain ⟨i,hi,rfl⟩:=List.mem_mapIdx.1 mx;exact ZLQ yE (h2 _ (BG hi))
  .split
   .unfold noT;split
    .refine ⟨yG,fun x mx=>?_⟩
     rw [List.mem_singleton]at mx;rw [mx];decide
    .refine ⟨by rw [Ae];omega,fun x mx=>?_⟩
     obtain ⟨y,my,rfl⟩:=Ac.1 mx;have hx:=s2 y my;have h3:=ZJ2 (ZKd hx) hx.1 hx.2.1;have e1:(⟨#[110,111,58,32]⟩:ByteArray).size=4:=rfl;rw [ZyE];omega
   .simp
 have:=ZL4 (α:=Unit) h.2;have h3:=h.1;have:(ZJV R M ok f s k).length*180<=60*180:=Af _ h3;omega
theorem ZKf (b:List Zg) (cz:Yg b<=1048576) (_:(fun ds=>∀d∈ds,ZtX d) b) (a:List Zc) (cf:Yu a<=1048576) (_:(fun ds=>∀d∈ds,Zua d) a) (aF:Zc) (_:Xx aF<=1048576) (_:Zua aF):∃r,ZIZ b a aF=some r/\ZI0 b a aF=some r/\(r.length<=1048576/\XD r<=1048576):=by
 have hF:a.length<=1048576:=by unfold Yu at cf;omega
 have hR:=Zla cz;obtain ⟨M,ok,h1,h2,h3⟩:=Zkp hR a hF;obtain ⟨s,k,e1,e2,e3,e4,_,_⟩:=ZKl hR h1 h2 h3 hF aF;exact ⟨_,e2,e1,ZMf h3 aF e3 e4⟩
end
section
open Go.RowKit
def ZM {α β:Type}(R:α->β->Prop):List α->List β->Prop
 | [],[]=>True
 |a::l,b::r=>R a b/\ZM R l r
 |_,_=>False
section
variable {α β:Type} {R R':α->β->Prop}
theorem ZM.len:∀{l:List α}{r:List β},ZM R l r->l.length=r.length
 | [],[],_=>rfl
 |_::_,_::_,h=>by simp [h.2.len]
 | [],_::_,h=>h.elim
 |_::_,[],h=>h.elim
theorem ZM.mono:∀{l:List α}{r:List β},ZM R l r->(∀a b,a∈l->R a b->R' a b)->ZM R' l r
 | [],[],_,_=>trivial
 |_::_,_::_,h,f=>⟨f _ _ yG h.1,h.2.mono fun a b m=>f a b (by simp [m])⟩
 | [],_::_,h,_=>h.elim
 |_::_,[],h,_=>h.elim
theorem ZM.at:∀{l:List α}{r:List β}{i:Nat}{a:α},ZM R l r->l[i]?=some a->∃b,r[i]?=some b/\R a b
 | [],[],_,_,_,h=>by simp at h
 |_::_,b::_,0,_,h,e=>by simp at e;subst e;exact ⟨b,yG,h.1⟩
 |_::_,_::_,i+1,a,h,e=>by
  obtain ⟨b,h1,h2⟩:=h.2.at (i:=i) (a:=a) (by simpa using e)
  exact ⟨b,by simpa using h1,h2⟩
 | [],_::_,_,_,h,_=>h.elim
 |_::_,[],_,_,h,_=>h.elim
theorem ZM.set:∀{l:List α}{r:List β}{i:Nat}{a:α}{b:β},ZM R l r->R a b->ZM R (l.set i a) (r.set i b)
 | [],[],_,_,_,_,_=>trivial
 |_::_,_::_,0,_,_,h,e=>⟨e,h.2⟩
 |_::_,_::_,_+1,_,_,h,e=>⟨h.1,h.2.set e⟩
 | [],_::_,_,_,_,h,_=>h.elim
 |_::_,[],_,_,_,h,_=>h.elim
theorem ZM.drop:∀{l:List α}{r:List β}(n:Nat),ZM R l r->ZM R (l.drop n) (r.drop n)
 |_,_,0,h=>by simpa using h
 | [],[],n+1,_=>by simp [ZM]
 |_::_,_::_,n+1,h=>by simpa using h.2.drop n
 | [],_::_,_+1,h=>h.elim
 |_::_,[],_+1,h=>h.elim
theorem ZM.take:∀{l:List α}{r:List β}(n:Nat),ZM R l r->ZM R (l.take n) (r.take n)
 |_,_,0,h=>by simp [ZM]
 | [],[],n+1,_=>by simp [ZM]
 |_::_,_::_,n+1,h=>by simpa using ⟨h.1,h.2.take n⟩
 | [],_::_,_+1,h=>h.elim
 |_::_,[],_+1,h=>h.elim
theorem ZM.append:∀{l l':List α}{r r':List β},ZM R l r->ZM R l' r'->ZM R (l++l') (r++r')
 | [],_,[],_,_,h=>h
 |_::_,_,_::_,_,h,h'=>⟨h.1,h.2.append h'⟩
 | [],_,_::_,_,h,_=>h.elim
 |_::_,_,[],_,h,_=>h.elim
end
class NW where
 B0:Nat
structure Gh where
 val:Nat->Value
 O:Nat->List Nat
 D:Nat->List Nat
 Z:Nat->Prop
def Gh.own (g:Gh) (b:Nat):Prop:=(∃k,b∈g.O k)\/g.Z b
def Gh.low (g:Gh) (b:Nat):Prop:=g.own b\/∃k,b∈g.D k
structure QU (g g':Gh) (n:Nat):Prop where
 own:∀b,g'.own b->g.own b\/n<=b
 low:∀b,g'.low b->g.low b\/n<=b
structure XJ (g' g:Gh):Prop where
 own:∀b,g'.own b->g.own b
 low:∀b,g'.low b->g.low b
theorem QU.refl (g:Gh) (n:Nat):QU g g n:=⟨fun _ h=>.inl h,fun _ h=>.inl h⟩
theorem XJ.refl (g:Gh):XJ g g:=⟨fun _ h=>h,fun _ h=>h⟩
theorem XJ.trans {a b c:Gh}(h:XJ a b) (k:XJ b c):XJ a c:=⟨fun x hx=>k.own x (h.own x hx),fun x hx=>k.low x (h.low x hx)⟩
theorem XJ.grow {g' g:Gh}(h:XJ g' g) (n:Nat):QU g g' n:=⟨fun x hx=>.inl (h.own x hx),fun x hx=>.inl (h.low x hx)⟩
theorem XJ.of {g' g:Gh}(h:∀b,g'.own b->g.own b) (k:∀j b,b∈g'.D j->∃i,b∈g.D i):XJ g' g:=⟨h,fun x hx=>hx.imp (h x) fun ⟨j,mj⟩=>k j x mj⟩
theorem QU.of {g g':Gh}{n:Nat}(h:∀b,g'.own b->g.own b\/n<=b) (k:∀j b,b∈g'.D j->g.low b\/n<=b):QU g g' n:=⟨h,fun x hx=>by
 rcases hx with hx|⟨j,mj⟩
 .exact (h x hx).imp (fun q=>.inl q) id
 .exact k j x mj⟩
structure ZaK extends World where
 z:Nat->Prop
 x:Nat->Prop
 hv:Option Value
structure Bel (W:ZaK) (w:World):Prop where
 os:w.os=W.os
 tape:w.tape=W.tape
 output:w.output=W.output
 size:W.heap.size<=w.heap.size
 block:∀k,k<W.heap.size->¬W.x k->w.heap[k]?=W.heap[k]?
theorem Bel.trans {W:ZaK}{w w':World}(h:Bel W w) (k:Below w.heap.size w w'):Bel W w':=
 ⟨k.os.trans h.os,k.tape.trans h.tape,k.output.trans h.output,AO h.size k.size,fun i hi hx=>(k.block i (Ba hi h.size)).trans (h.block i hi hx)⟩
def NR [NW] (g:Gh) (w:World) (x:CT) (v:Value):Prop:=
 ∃e m xs cs L,x=.sl e m xs/\0<m/\w.ownsV 0 e m v xs.length cs/\REs w m xs cs L/\(v.ownBlock.toList++L).Nodup/\∀b∈v.ownBlock.toList++L,¬g.low b/\NW.B0<=b/\∃cur t,w.heap[b]?=some (.cells cur t (0,0))
def AVR [NW] (g:Gh) (w:World):AV->Value->Prop
 |.c x,v=>∃L,RC w x v L/\∀b∈L,¬g.own b
 |.n x,v=>NR g w x v
 |.row k,v=>v=g.val k/\v.oneCell'=true
 |.nil _ _,v=>v=.slice none 0 0
 |.dead,v=>v.oneCell'=true
def PVR [NW] (g:Gh) (w:World):Bool->List AV->Value->Prop
 |true,cs,v=>∃vs:List Value,v=.agg vs.toArray/\ZM (AVR g w) cs vs
 |false,cs,v=>∃x,cs=[x]/\AVR g w x v
def SVR [NW] (g:Gh) (w:World):SV->Value->Prop
 |.any,_=>True
 |.und,v=>v=undef
 |.p a cs,v=>PVR g w a cs v
 |.tup xs,v=>∃vs:List Value,v=.tuple vs.toArray/\ZM (fun x u=>PVR g w x.1 x.2 u) xs vs
 |.bp k off,v=>∃b,g.val k=.pointer (some ⟨b,0,none⟩)/\v=.pointer (some ⟨b,off,none⟩)
 |.rp k m i off,v=>∃b o n c,g.val k=.slice (some ⟨b,o,none⟩) n c/\v=.pointer (some ⟨b,o+(i*m+off),none⟩)
 |.ep e off,v=>∃b lo cs L,v=.pointer (some ⟨b,lo+off,none⟩)/\Qh w b lo cs/\RCs w e cs L/\(∀x∈b::L,¬g.own x)/\b<w.heap.size
 |.fn f,v=>v=.func (.func f) #[] #[]
def ObR [NW] (g:Gh) (w:World) (k:Nat):Ob->Prop
 |.gone=>g.O k=[]/\g.D k=[]
 |.box t cs=>∃b vs,g.val k=.pointer (some ⟨b,0,none⟩)/\g.O k=[b]/\g.D k=[]/\w.heap[b]?=some (.cells vs.toArray t (0,0))/\ZM (AVR g w) cs vs
 |.row e m xs d=>0<m/\∃cs L,w.ownsV 0 e m (g.val k) xs.length cs/\REs w m xs cs L/\((d=2/\g.O k=(g.val k).ownBlock.toList/\g.D k=L)\/(d=1/\g.O k=(g.val k).ownBlock.toList/\g.D k=[]/\∀b∈L,¬g.own b)\/(d=0/\g.O k=[]/\g.D k=[]/\∀b∈(g.val k).ownBlock.toList++L,¬g.own b))
 |.map kk vk kv=>∃b es c,g.val k=.map (some b)/\g.O k=[b]/\g.D k=[]/\w.heap[b]?=some (.map es c)/\ZdP es=kv/\Zjp kk vk kv
def Qf (w:World) (o:Ob) (b:Nat):Prop:=
 match o with
 |.map _ _ _=>∃es c,w.heap[b]?=some (.map es c)
 |_=>∃cur e,w.heap[b]?=some (.cells cur e (0,0))
theorem Qf.lt {w:World}{o:Ob}{b:Nat}(h:Qf w o b):b<w.heap.size:=by
 unfold Qf at h;split at h
 .obtain ⟨_,_,h⟩:=h;exact (Ag.1 h).1
 .obtain ⟨_,_,h⟩:=h;exact (Ag.1 h).1
theorem Qf.keep {w w':World}{o:Ob}{b:Nat}(h:Qf w o b) (e:w'.heap[b]?=w.heap[b]?):Qf w' o b:=by
 unfold Qf at h ⊢;rw [e];exact h
def ZkR:Ob->Bool
 |.map _ _ _=>true
 |_=>false
theorem Qf.of {w:World}{o o':Ob}{b:Nat}(h:Qf w o b) (e:ZkR o'=ZkR o):Qf w o' b:=by
 cases o<;>cases o'<;>simp [ZkR]at e<;>exact h
structure HI [NW] (W:ZaK) (g:Gh) (ob:Nat->Ob) (w:World):Prop where
 below:Bel W w
 obs:∀k,ObR g w k (ob k)
 nodup:∀k,(g.O k++g.D k).Nodup
 apart:∀k j,k≠j->∀b∈g.O k++g.D k,b∉g.O j++g.D j
 plain:∀k,∀b∈g.O k++g.D k,(W.heap.size<=b\/W.x b)/\Qf w (ob k) b
 gz:g.Z=W.z
 zx:∀b,W.z b->b<W.heap.size/\¬W.x b
 nw:∀b,(W.heap.size<=b\/W.x b)->NW.B0<=b
def avU (U:Nat->Prop):AV->Prop
 |.row k=>U k
 |_=>True
def QW (U:Nat->Prop) (cs:List AV):Prop:=∀x∈cs,avU U x
def svU (U:Nat->Prop):SV->Prop
 |.p _ cs=>QW U cs
 |.tup xs=>∀x∈xs,QW U x.2
 |.bp k _=>U k
 |.rp k _ _ _=>U k
 |_=>True
def obU (U:Nat->Prop):Ob->Prop
 |.box _ cs=>QW U cs
 |_=>True
structure StU (U:Nat->Prop) (st:St):Prop where
 sl:∀t,svU U (st.sl t)
 ob:∀k,obU U (st.ob k)
 gone:∀k,¬U k->st.ob k=.gone
theorem HI.lt [NW] {W:ZaK}{g:Gh}{ob:Nat->Ob}{w:World}(h:HI W g ob w) (k:Nat):∀b∈g.O k++g.D k,b<w.heap.size:=by
 intro b m;exact (h.plain k b m).2.lt
theorem HI.nz [NW] {W:ZaK}{g:Gh}{ob:Nat->Ob}{w:World}(h:HI W g ob w) {k b:Nat}(m:b∈g.O k++g.D k):¬g.Z b:=fun hz=>by
 rw [h.gz]at hz;obtain ⟨h1,h2⟩:=h.zx b hz;rcases (h.plain k b m).1 with h3|h3
 .omega
 .exact h2 h3
section
variable {g g':Gh} {w w':World} {U:Nat->Prop}
theorem NR.move [NW] {x:CT}{v:Value}(h:NR g w x v)
  (hw:∀b,b<w.heap.size->¬g.own b->w'.heap[b]?=w.heap[b]?) (ho:QU g g' w.heap.size):NR g' w' x v:=by
 obtain ⟨e,m,xs,cs,L,h1,h2,h3,h4,h5,h6⟩:=h;have a:∀b∈v.ownBlock.toList++L,b<w.heap.size:=fun b mb=>by
  obtain ⟨_,_,_,_,q⟩:=h6 b mb;exact (Ag.1 q).1
 have hs:∀b∈v.ownBlock.toList++L,w'.heap[b]?=w.heap[b]?:=fun b mb=>hw b (a b mb) fun o=>(h6 b mb).1 (.inl o)
 refine ⟨e,m,xs,cs,L,h1,h2,Zcc h3 fun b mb=>hs b (by simp [mb]),h4.keep fun b mb=>hs b (by simp [mb]),h5,fun b mb=>⟨fun o=>?_,(h6 b mb).2.1,by rw [hs b mb];exact (h6 b mb).2.2⟩⟩
 rcases ho.low b o with o|o
 .exact (h6 b mb).1 o
 .have:=a b mb;omega
theorem AVR.move [NW] {x:AV}{v:Value}(h:AVR g w x v) (hx:avU U x) (hv:∀k,U k->g'.val k=g.val k)
  (hw:∀b,b<w.heap.size->¬g.own b->w'.heap[b]?=w.heap[b]?) (ho:QU g g' w.heap.size):AVR g' w' x v:=by
 cases x with
 |c x=>
  obtain ⟨L,h1,h2⟩:=h;have a:=h1.lt;refine ⟨L,h1.keep fun b m=>hw b (a b m) (h2 b m),fun b m o=>?_⟩
  rcases ho.own b o with o|o
  .exact h2 b m o
  .have:=a b m;omega
 |n x=>exact NR.move h hw ho
 |row k=>exact ⟨h.1.trans (hv k hx).symm,h.2⟩
 |nil e m=>exact h
 |dead=>exact h
theorem AVRs.move [NW] {cs:List AV}{vs:List Value}(h:ZM (AVR g w) cs vs) (hx:QW U cs) (hv:∀k,U k->g'.val k=g.val k)
  (hw:∀b,b<w.heap.size->¬g.own b->w'.heap[b]?=w.heap[b]?) (ho:QU g g' w.heap.size):ZM (AVR g' w') cs vs:=
 h.mono fun a _ m r=>r.move (hx a m) hv hw ho
theorem PVR.move [NW] {a:Bool}{cs:List AV}{v:Value}(h:PVR g w a cs v) (hx:QW U cs) (hv:∀k,U k->g'.val k=g.val k)
  (hw:∀b,b<w.heap.size->¬g.own b->w'.heap[b]?=w.heap[b]?) (ho:QU g g' w.heap.size):PVR g' w' a cs v:=by
 cases a with
 |true=>obtain ⟨vs,h1,h2⟩:=h;exact ⟨vs,h1,AVRs.move h2 hx hv hw ho⟩
 |false=>obtain ⟨x,h1,h2⟩:=h;exact ⟨x,h1,h2.move (hx x (by simp [h1])) hv hw ho⟩
theorem SVR.move [NW] {s:SV}{v:Value}(h:SVR g w s v) (hx:svU U s) (hv:∀k,U k->g'.val k=g.val k)
  (hw:∀b,b<w.heap.size->¬g.own b->w'.heap[b]?=w.heap[b]?) (ho:QU g g' w.heap.size) (hs:w.heap.size<=w'.heap.size):SVR g' w' s v:=by
 cases s with
 |any=>exact h
 |und=>exact h
 |p a cs=>exact PVR.move h hx hv hw ho
 |tup xs=>
  obtain ⟨vs,h1,h2⟩:=h;exact ⟨vs,h1,h2.mono fun x _ m r=>r.move (hx x m) hv hw ho⟩
 |bp k off=>obtain ⟨b,h1,h2⟩:=h;exact ⟨b,(hv k hx).trans h1,h2⟩
 |rp k m i off=>obtain ⟨b,o,n,c,h1,h2⟩:=h;exact ⟨b,o,n,c,(hv k hx).trans h1,h2⟩
 |ep e off=>
  obtain ⟨b,lo,cs,L,h1,h2,h3,h4,h5⟩:=h;have d:=h3.lt;refine ⟨b,lo,cs,L,h1,fun j u hu=>?_,h3.keep fun x m=>hw x (d x m) (h4 x (by simp [m])),fun x m o=>?_,yE⟩
  .rw [<-h2 j u hu];exact World.cell?_of_block (hw b h5 (h4 b yG))
  .rcases ho.own x o with o|o
   .exact h4 x m o
   .rcases AL.1 m with rfl|m
    .omega
    .have:=d x m;omega
 |fn f=>exact h
theorem HI.step [NW] {W:ZaK}{ob ob':Nat->Ob}(h:HI W g ob w) (T:Nat->Prop)
  (v:Bel W w') (hZ:g'.Z=g.Z)
  (hw:∀b,b<w.heap.size->(∀k,T k->b∉g.O k)->w'.heap[b]?=w.heap[b]?)
  (hk:∀k,¬T k->ob' k=ob k/\g'.val k=g.val k/\g'.O k=g.O k/\g'.D k=g.D k)
  (y:∀k,obU U (ob k)) (hv:∀k,U k->g'.val k=g.val k)
  (ho:QU g g' w.heap.size)
  (hT:∀k,T k->ObR g' w' k (ob' k)/\(g'.O k++g'.D k).Nodup/\(∀b∈g'.O k++g'.D k,(W.heap.size<=b\/W.x b)/\Qf w' (ob' k) b)/\∀j,k≠j->∀b∈g'.O k++g'.D k,b∉g'.O j++g'.D j):
  HI W g' ob' w':=by
 have p:∀b,b<w.heap.size->¬g.own b->w'.heap[b]?=w.heap[b]?:=fun b hb hn=>hw b hb fun k _ m=>hn (.inl ⟨k,m⟩)
 have i:∀k,¬T k->∀b∈g.O k++g.D k,w'.heap[b]?=w.heap[b]?:=fun k hk b m=>
  hw b (h.lt k b m) fun j hj mj=>h.apart j k (fun e=>hk (e ▸ hj)) b (by simp [mj]) m
 refine ⟨v,fun k=>?_,fun k=>?_,fun k j q b m=>?_,fun k b m=>?_,hZ.trans h.gz,h.zx,h.nw⟩
 .by_cases a:T k
  .exact (hT k a).1
  .obtain ⟨e1,e2,e3,e4⟩:=hk k a;have f:=h.obs k;have hF:=i k a;have hU:=y k;rw [e1];cases hok:ob k with
   |gone=>rw [hok]at f;exact ⟨e3.trans f.1,e4.trans f.2⟩
   |box t cs=>
    rw [hok]at f hU;obtain ⟨b,vs,h1,h2,h3,h4,h5⟩:=f;exact ⟨b,vs,e2.trans h1,e3.trans h2,e4.trans h3,by rw [hF b (by simp [h2])];exact h4,AVRs.move h5 hU hv p ho⟩
   |map kk vk kv=>
    rw [hok]at f;obtain ⟨b,es,c,h1,h2,h3,h4,h5⟩:=f;exact ⟨b,es,c,e2.trans h1,e3.trans h2,e4.trans h3,by rw [hF b (by simp [h2])];exact h4,h5⟩
   |row e m xs d=>
    rw [hok]at f;obtain ⟨hm,cs,L,h1,h2,h4⟩:=f;have l:=h2.lt;have hL:∀b∈L,w'.heap[b]?=w.heap[b]?:=fun b mb=>by
     rcases h4 with ⟨_,_,h4⟩|⟨_,_,_,h4⟩|⟨_,_,_,h4⟩
     .exact hF b (by simp [h4,mb])
     .exact p b (l b mb) (h4 b mb)
     .exact p b (l b mb) (h4 b (by simp [mb]))
    have A:∀b∈(g.val k).ownBlock.toList,w'.heap[b]?=w.heap[b]?:=fun b mb=>by
     rcases h4 with ⟨_,h3,_⟩|⟨_,h3,_⟩|⟨_,_,_,h4⟩
     .exact hF b (by simp [h3,mb])
     .exact hF b (by simp [h3,mb])
     .exact p b (Zi6 h1 b mb) (h4 b (by simp [mb]))
    refine ⟨hm,cs,L,by rw [e2];exact Zcc h1 A,h2.keep hL,?_⟩
    rw [e2,e3,e4];have u:∀b,b<w.heap.size->¬g.own b->¬g'.own b:=fun b hb hn o=>by
     rcases ho.own b o with o|o
     .exact hn o
     .omega
    rcases h4 with h4|⟨hd,h3,h4,h5⟩|⟨hd,h3,h4,h5⟩
    .exact .inl h4
    .exact .inr (.inl ⟨hd,h3,h4,fun b mb=>u b (l b mb) (h5 b mb)⟩)
    .refine .inr (.inr ⟨hd,h3,h4,fun b mb=>?_⟩)
     rcases A3.1 mb with m1|m1
     .exact u b (Zi6 h1 b m1) (h5 b mb)
     .exact u b (l b m1) (h5 b mb)
 .by_cases a:T k
  .exact (hT k a).2.1
  .obtain ⟨e1,e2,e3,e4⟩:=hk k a;rw [e3,e4];exact h.nodup k
 .by_cases a:T k
  .exact (hT k a).2.2.2 j q b m
  .by_cases z:T j
   .exact fun mj=>(hT j z).2.2.2 k (fun e=>q e.symm) b mj m
   .obtain ⟨_,_,e3,e4⟩:=hk k a;obtain ⟨_,_,f3,f4⟩:=hk j z;rw [e3,e4]at m;rw [f3,f4];exact h.apart k j q b m
 .by_cases a:T k
  .exact (hT k a).2.2.1 b m
  .obtain ⟨_,_,e3,e4⟩:=hk k a;rw [e3,e4]at m;obtain ⟨p1,p2⟩:=h.plain k b m;obtain ⟨e1,_⟩:=hk k a;exact ⟨p1,by rw [e1];exact p2.keep (i k a b m)⟩
end
structure Inv [NW] (W:ZaK) (U:Nat->Prop) (st:St) (a:Act) (w:World):Prop where
 ex:∃g,HI W g st.ob w/\∀t,SVR g w (st.sl t) (a.tmps.getD t undef)
 wf:StU U st
 defers:a.defers=[]
 hand:∀v,W.hv=some v->a.tmps.getD 0 undef=v
end
section
open Go.RowKit
def ZaM:AV->Value->Bool
 |.c (.int k n),.int k' n'=>k==k'&&n==n'
 |.c (.bool b),.bool b'=>b==b'
 |.c (.str s),.string s'=>s.data.toList==s'.data.toList&&ZbS s
 |.nil _ m,.slice none 0 0=>Nat.blt 0 m
 |_,_=>false
def Zif:TypeDesc->AV->Bool
 |.int k,.c (.int k' _)=>k==k'
 |.bool,.c (.bool _)=>true
 |.string,.c (.str _)=>true
 |_,_=>false
def ZsK:TypeDesc->Bool
 |.struct _=>true
 |.array _ _=>true
 |_=>false
def Zd8:PK->TypeDesc->Bool
 |.int k,.int k'=>k==k'
 |.str,.string=>true
 |.bool,.bool=>true
 |_,_=>false
def EqF (P:Program):List PK->List Field->Nat->Prop
 | [],[],_=>True
 | k :: ks, f :: fs, n => f.name ≠ "_" ∧ f.offset = n ∧ (∃ d, P.underlying f.type = some d ∧ Zd8 k d = true) ∧ EqF P ks fs (n + 1)
 |_,_,_=>False
def TOk (P:Program) (t:TypeId):TI->Prop
 |.atom z=>∃d zv i,P.underlying t=some d/\Zif d z=true/\P.info? t=some i/\i.zero=some zv/\i.size=1/\ZaM z zv=true
 |.strct fs n z=>∃(fields:Array Field) (i:TypeInfo) (zvs:Array Value),P.underlying t=some (.struct fields)/\P.info? t=some i/\i.size=n/\i.zero=some (.agg zvs)/\ZM (fun a v=>ZaM a v=true) z zvs.toList/\
   ZM (fun (fi:FI) (f:Field)=>f.offset=fi.off/\fi.size≠0/\∃j d,P.info? f.type=some j/\j.size=fi.size/\P.underlying f.type=some d/\ZsK d=fi.agg) fs fields.toList
 |.slice e m bytes z=>P.underlying t=some (.slice e)/\0<m/\bytes<=131072/\(∃(i:TypeInfo) (zv:Value),P.info? e=some i/\i.size=m/\i.bytes=bytes/\i.zero=some zv/\ZM (fun a v=>ZaM a v=true) z zv.cells.toList/\z.length=m)/\
   ∃j:TypeInfo,P.info? t=some j/\j.size=1/\j.zero=some (.slice none 0 0)
 |.ifc=>∃ms,P.underlying t=some (.interface ms)
 |.map kk vk=>∃kt et dk dv i zv,P.underlying t=some (.map kt et)/\P.underlying kt=some dk/\Zd8 kk dk=true/\P.underlying et=some dv/\Zd8 vk dv=true/\P.info? et=some i/\i.zero=some zv/\ZaM (Zfc vk) zv=true
 |.eqs ks=>∃u,t=u+4000/\P.underlying u=some (.struct (P.fieldsOf u))/\P.stoodInHeld u=false/\P.eqGuardType P.depth u=false/\EqF P ks (P.fieldsOf u).toList 0
section
variable {P:Program} {w:World} {t:TypeId}
theorem Zra {i:TypeInfo}(h:P.info? t=some i):(typeInfo t).run P w=.ok i w:=by simp [typeInfo,program,Sem.run,h]
theorem YC {d:TypeDesc}(h:P.underlying t=some d):(underlying t).run P w=.ok d w:=by simp [underlying,program,Sem.run,h]
theorem XX [NW] {i:TypeInfo}(h:P.info? t=some i):(sizeOf t).run P w=.ok i.size w:=by simp [sizeOf,Zra h]
theorem Zko [NW] {i:TypeInfo}{z:Value}(h:P.info? t=some i) (hz:i.zero=some z):(zeroValue t).run P w=.ok z w:=by simp [zeroValue,Zra h,hz]
theorem ZhY [NW] {d:TypeDesc}(h:P.underlying t=some d):(isAgg t).run P w=.ok (ZsK d) w:=by
 simp only[isAgg,Sem.run_bind,YC h,Result.andThen_ok];cases d<;>rfl
theorem Zwz {d:TypeDesc}{z:AV}(h:Zif d z=true):ZsK d=false:=by
 unfold Zif at h;split at h<;>first|rfl|simp at h
end
section
variable {g:Gh} {w:World}
theorem ZsO {s:ByteArray}(h:ZbS s=true):s.size<=9223372036854775807:=by
 unfold ZbS at h;have:=Nat.le_of_ble_eq_true h;rw [Array.length_toList]at this;exact this
theorem ZfU [NW] {x:AV}{v:Value}(h:ZaM x v=true):AVR g w x v:=by
 unfold ZaM at h;split at h
 .simp only[A5,beq_iff_eq]at h;exact ⟨[],⟨by rw [h.1,h.2],rfl⟩,yG⟩
 .simp only[beq_iff_eq]at h;exact ⟨[],⟨by rw [h],rfl⟩,yG⟩
 .rename_i s s';simp only[A5,beq_iff_eq]at h;have e:s=s':=by
   cases s;cases s';simpa using h.1
  exact ⟨[],⟨by rw [e],rfl,ZsO h.2⟩,yG⟩
 .rfl
 .simp at h
theorem AVR.one [NW] {x:AV}{v:Value}(h:AVR g w x v):v.oneCell'=true:=by
 cases x with
 |c x=>obtain ⟨L,h1,_⟩:=h;exact h1.one
 |n x=>
  obtain ⟨e,m,xs,cs,L,h1,h2,h3,_⟩:=h;obtain ⟨A,c,hv,_⟩:=QP h3;simp [hv,Value.oneCell']
 |row k=>exact h.2
 |nil e m=>simp [AVR]at h;simp [h,Value.oneCell']
 |dead=>exact h
theorem ZpZ {v:Value}(h:v.oneCell'=true):v.cells=#[v]:=by
 cases v<;>simp [Value.oneCell']at h<;>rfl
theorem PVR.cells [NW] {a:Bool}{cs:List AV}{v:Value}(h:PVR g w a cs v):∃vs:List Value,v.cells=vs.toArray/\ZM (AVR g w) cs vs:=by
 cases a with
 |true=>obtain ⟨vs,rfl,h2⟩:=h;exact ⟨vs,rfl,h2⟩
 |false=>obtain ⟨x,rfl,h2⟩:=h;exact ⟨[v],by rw [ZpZ h2.one],⟨h2,trivial⟩⟩
theorem AVRs.one [NW] {cs:List AV}{vs:List Value}(h:ZM (AVR g w) cs vs):∀u∈vs,u.oneCell'=true:=by
 induction vs generalizing cs with
 |nil=>simp
 |cons v r ih=>
  cases cs with
  |nil=>exact h.elim
  |cons c cs=>
   intro u m;rcases AL.1 m with rfl|m
   .exact h.1.one
   .exact ih h.2 u m
end
theorem Zuw (x y:ByteArray):(x.toList==y.toList)=decide (x=y):=by
 rw [Bool.eq_iff_iff];simp only[beq_iff_eq,decide_eq_true_eq];constructor
 .intro h;have h':x.data.toList=y.data.toList:=by rw [<-Bb,<-Bb];exact h
  cases x;cases y;simpa using h'
 .rintro rfl;rfl
end
section
open Go.RowKit
def Uk (U:Nat->Prop) (key:Nat):Nat->Prop:=fun k=>U k\/(key<=k/\k<key+16)
theorem avU.mono {U U':Nat->Prop}(h:∀k,U k->U' k) {x:AV}(hx:avU U x):avU U' x:=by cases x<;>first|exact h _ hx|trivial
theorem QW.mono [NW] {U U':Nat->Prop}(h:∀k,U k->U' k) {x:List AV}(hx:QW U x):QW U' x:=fun y m=>(hx y m).mono h
theorem svU.mono [NW] {U U':Nat->Prop}(h:∀k,U k->U' k) {x:SV}(hx:svU U x):svU U' x:=by
 cases x<;>first|exact QW.mono h hx|exact fun y m=>QW.mono h (hx y m)|exact h _ hx|trivial
theorem obU.mono [NW] {U U':Nat->Prop}(h:∀k,U k->U' k) {x:Ob}(hx:obU U x):obU U' x:=by
 cases x<;>first|exact QW.mono h hx|trivial
def Fin [NW] (P:Program) (W:ZaK) (U:Nat->Prop) (key:Nat) (st:St) (g:Gh) (w:World) (s:Sem Next) (r:SV×List (Nat×Ob)):Prop:=
 ∃g' cv w',(s.run P w=.ok (.value cv) w'\/(s.run P w=.ok .skip w'/\cv=undef))/\HI W g' (Zn st.ob r.2) w'/\SVR g' w' r.1 cv/\(∀x v,svU U x->SVR g w x v->SVR g' w' x v)/\
  svU (Uk U key) r.1/\(∀k,obU (Uk U key) (Zn st.ob r.2 k))/\∀k,¬Uk U key k->Zn st.ob r.2 k=.gone
section
variable {P:Program} {W:ZaK} {U:Nat->Prop} {key:Nat} {st:St} {g:Gh} {w:World} {a:Act} {tt:Nat->Option TI}
theorem ZaW [NW] {s:Sem Next}{v:SV}{cv:Value}(hI:HI W g st.ob w) (hU:StU U st) (a:s.run P w=.ok (.value cv) w) (hv:SVR g w v cv) (hu:svU U v):Fin P W U key st g w s (v,[]):=
 ⟨g,cv,w,.inl a,hI,hv,fun _ _ _ h=>h,hu.mono fun _=>.inl,fun k=>(hU.ob k).mono fun _=>.inl,fun k hk=>hU.gone k fun h=>hk (.inl h)⟩
theorem XK (x:CT):svU U (.p false [.c x]):=fun y m=>by simp at m;subst m;trivial
theorem Zb7 [NW] (k:IntKind) (n:Int):SVR g w (.p false [.c (.int k n)]) (.int k n):=⟨_,rfl,[],⟨rfl,rfl⟩,yG⟩
theorem ZaU [NW] (b:Bool):SVR g w (.p false [.c (.bool b)]) (.bool b):=⟨_,rfl,[],⟨rfl,rfl⟩,yG⟩
theorem ZlX [NW] {s:ByteArray}(h:s.size<=9223372036854775807):SVR g w (.p false [.c (.str s)]) (.string s):=⟨_,rfl,[],⟨rfl,rfl,h⟩,yG⟩
theorem ZbZ [NW] {k:IntKind}{n:Int}{v:Value}(h:SVR g w (.p false [.c (.int k n)]) v):v=.int k n:=by
 obtain ⟨x,hx,h⟩:=h;simp at hx;subst hx;obtain ⟨L,h1,_⟩:=h;exact h1.1
theorem Zgr [NW] {b:Bool}{v:Value}(h:SVR g w (.p false [.c (.bool b)]) v):v=.bool b:=by
 obtain ⟨x,hx,h⟩:=h;simp at hx;subst hx;obtain ⟨L,h1,_⟩:=h;exact h1.1
theorem Zjh [NW] {s:ByteArray}{v:Value}(h:SVR g w (.p false [.c (.str s)]) v):v=.string s/\s.size<=9223372036854775807:=by
 obtain ⟨x,hx,h⟩:=h;simp at hx;subst hx;obtain ⟨L,h1,_⟩:=h;exact ⟨h1.1,h1.2.2⟩
theorem ZE8 [NW] {t:Nat}(htt:∀t i,tt t=some i->TOk P t i) (v:Value):SVR g w (cvT (tt t) v) v/\svU U (cvT (tt t) v):=by
 unfold cvT;split
 .exact ⟨Zb7 _ _,XK _⟩
 .exact ⟨ZaU _,XK _⟩
 .split
  .rename_i h;exact ⟨ZlX (ZsO h),XK _⟩
  .exact ⟨trivial,trivial⟩
 .split
  .exact ⟨⟨_,rfl,rfl⟩,fun y m=>by simp at m;subst m;trivial⟩
  .exact ⟨trivial,trivial⟩
 .exact ⟨trivial,trivial⟩
theorem Zlm [NW] (htt:∀t i,tt t=some i->TOk P t i) (hS:∀t,SVR g w (st.sl t) (a.tmps.getD t undef)) (hU:StU U st) (t:Nat) (x:Operand):
  SVR g w (st.ev tt t x) (a.eval x)/\svU U (st.ev tt t x):=by
 cases x with
 |tmp s=>exact ⟨hS s,hU.sl s⟩
 |const v=>exact ZE8 htt v
 |global _=>exact ⟨trivial,trivial⟩
 |func f=>exact ⟨rfl,trivial⟩
theorem Zyo [NW] {op:BinOp}{t:Nat}{ox oy:Operand}{k k':IntKind}{n n':Int}{z:CT}(hk:k=k'\/op=.shl\/op=.shr) (hz:Zzz op k n n'=some z):
  ∃cv,(do eqGuard op t ox oy (.int k n) (.int k' n');binOp op t (.int k n) (.int k' n'):Sem Value).run P w=.ok cv w/\SVR g w (.p false [.c z]) cv:=by
 have hg:(eqGuard op t ox oy (.int k n) (.int k' n')).run P w=.ok () w:=by
  cases op<;>rfl
 simp only[Sem.run_bind,hg,Result.andThen_ok];cases op<;>simp only[Zzz,ZAz,ZFE,orI,ZEC,Zu7,ZET,ZER,Option.map_none,Ax,A4,reduceCtorEq]at hz<;>(try subst hz)<;>
  (try (split at hz<;>simp only[A4,reduceCtorEq]at hz;subst hz))<;>
  simp only[reduceCtorEq,or_false,or_true]at hk<;>(try subst hk)<;>
  first
   |(refine ⟨_,?_,Zb7 _ _⟩;simp [binOp,Op.intArith,Op.intDiv,Op.intBits,Op.shift, *];done)
   |(refine ⟨_,?_,ZaU _⟩;simp [binOp,Op.intCmp];done)
set_option maxHeartbeats 1000000 in
theorem Zzo [NW] {op : BinOp} {t : Nat} {ox oy : Operand} {s s' : ByteArray} {z : CT} (hz : Zyn op s s' = some z) :
    ∃ cv, (do eqGuard op t ox oy (.string s) (.string s'); binOp op t (.string s) (.string s') : Sem Value).run P w = .ok cv w ∧ SVR g w (.p false [.c z]) cv := by
  have hg : (eqGuard op t ox oy (.string s) (.string s')).run P w = .ok () w := by
    cases op <;> rfl
  simp only[Sem.run_bind, hg, Result.andThen_ok];cases op <;> simp only[Zyn, A4, reduceCtorEq] at hz <;> (try subst hz) <;>
    first
      | (refine ⟨_, ?_, ZaU _⟩; simp only[binOp, Op.stringOp, sLt, sEq, ← Zuw]; rfl)
      | (split at hz
         · rename_i hl
           simp only[A4] at hz;subst hz;refine ⟨_, ?_, ZlX (by rw [ByteArray.size_append]; exact hl)⟩
           have hl' : ¬ ((s.size + s'.size : Nat) : Int) > IntKind.i64.max := by
             have : IntKind.i64.max = 9223372036854775807 := by decide
             omega
           simp only[binOp, Op.stringOp, hl', if_false];rfl
         · simp at hz)
theorem Ztd [NW] {op:BinOp}{t:Nat}{ox oy:Operand}{b b':Bool}{r:Bool}(ht:P.underlying t=some .bool) (a:(op=.eql/\r=(b==b'))\/(op=.neq/\r=!(b==b'))):
  (do eqGuard op t ox oy (.bool b) (.bool b');binOp op t (.bool b) (.bool b'):Sem Value).run P w=.ok (.bool r) w:=by
 have hg:(eqGuard op t ox oy (.bool b) (.bool b')).run P w=.ok () w:=by
  cases op<;>rfl
 have he:(Op.equal t (.bool b) (.bool b')).run P w=.ok (b==b') w:=by
  have key:∀d:Nat,(Op.equalIn (d+1) t (.bool b) (.bool b')).run P w=.ok (b==b') w:=fun d=>by
   rw [Op.equalIn];simp only[Sem.run_bind,YC ht,Result.andThen_ok,Sem.run_pure]
  exact key 9999
 simp only[Sem.run_bind,hg,Result.andThen_ok];rcases a with ⟨rfl,rfl⟩|⟨rfl,rfl⟩
 .simp only[binOp,Sem.run_bind,he,Result.andThen_ok,Sem.run_pure]
 .simp only[binOp,Sem.run_bind,he,Result.andThen_ok,Sem.run_pure]
theorem ZCo [NW] (htt:∀t i,tt t=some i->TOk P t i) {op:BinOp}{t:Nat}{ox oy:Operand}{x y v:SV}{vx vy:Value}(h:Zyz (tt t) op x y=some v) (hx:SVR g w x vx) (hy:SVR g w y vy):
  ∃cv,(do eqGuard op t ox oy vx vy;binOp op t vx vy:Sem Value).run P w=.ok cv w/\SVR g w v cv/\svU U v:=by
 unfold Zyz at h;split at h
 .have ex:=ZbZ hx;have ey:=ZbZ hy;subst ex ey;split at h
  .rename_i hk;obtain ⟨z,hz,rfl⟩:=A6.1 h;obtain ⟨cv,h1,h2⟩:=Zyo (P:=P) (g:=g) (w:=w) (t:=t) (ox:=ox) (oy:=oy) hk hz;exact ⟨cv,h1,h2,XK _⟩
  .simp at h
 .obtain ⟨ex,lx⟩:=Zjh hx;obtain ⟨ey,ly⟩:=Zjh hy;subst ex ey;obtain ⟨z,hz,rfl⟩:=A6.1 h;obtain ⟨cv,h1,h2⟩:=Zzo (P:=P) (g:=g) (w:=w) (t:=t) (ox:=ox) (oy:=oy) hz;exact ⟨cv,h1,h2,XK _⟩
 .have ex:=Zgr hx;have ey:=Zgr hy;subst ex ey;split at h
  .rename_i a;simp only[A4]at h;subst h;obtain ⟨d,zv,i,h1,h2,_⟩:=htt t _ a;have hd:d=.bool:=by cases d<;>simp [Zif]at h2;rfl
   subst hd;exact ⟨_,Ztd h1 (.inl ⟨rfl,rfl⟩),ZaU _,XK _⟩
  .rename_i a;simp only[A4]at h;subst h;obtain ⟨d,zv,i,h1,h2,_⟩:=htt t _ a;have hd:d=.bool:=by cases d<;>simp [Zif]at h2;rfl
   subst hd;exact ⟨_,Ztd h1 (.inr ⟨rfl,rfl⟩),ZaU _,XK _⟩
  .simp at h
 .simp at h
theorem ZoS {k:PK}{d:TypeDesc}(h:Zd8 k d=true):ZsK d=false:=by
 unfold Zd8 at h;split at h<;>first|rfl|simp at h
theorem ZDc [NW] {k:PK}{x y:AV}{vx vy:Value}{b:Bool}{t:Nat}{d:TypeDesc}(h:eqC k x y=some b) (hd:P.underlying t=some d) (hk:Zd8 k d=true) (hx:AVR g w x vx) (hy:AVR g w y vy) (n:Nat):(Op.equalIn (n+1) t vx vy).run P w=.ok b w:=by
 unfold eqC at h;split at h
 .split at h<;>simp only[A4,reduceCtorEq]at h
  rename_i kk;subst kk h;obtain ⟨_,h1,_⟩:=hx;obtain ⟨_,h2,_⟩:=hy;have e1:=h1.1;have e2:=h2.1;subst e1 e2;cases d<;>simp [Zd8]at hk
  exact run_equalIn_int w n t _ _ _ _ hd
 .simp only[A4]at h;subst h;obtain ⟨_,h1,_⟩:=hx;obtain ⟨_,h2,_⟩:=hy;have e1:=h1.1;have e2:=h2.1;subst e1 e2;cases d<;>simp [Zd8]at hk
  rw [run_equalIn_string w n t _ _ hd,sEq,Zuw]
 .simp only[A4]at h;subst h;obtain ⟨_,h1,_⟩:=hx;obtain ⟨_,h2,_⟩:=hy;have e1:=h1.1;have e2:=h2.1;subst e1 e2;cases d<;>simp [Zd8]at hk
  exact run_equalIn_bool' w n t _ _ hd
 .simp at h
theorem Zuq [NW] (n:Nat) {X Y:Array Value}:∀{ks:List PK}{fs:List Field}{o:Nat}{xs ys:List AV}{vx vy:List Value}{b:Bool},ZnZ ks xs ys=some b->EqF P ks fs o->ZM (AVR g w) xs vx->ZM (AVR g w) ys vy->(∀j v,vx[j]?=some v->X[o+j]?=some v)->(∀j v,vy[j]?=some v->Y[o+j]?=some v)->(Op.eqFields (n+1) X Y fs).run P w=.ok b w
 | [],[],_,[],[],_,_,b,h,_,_,_,_,_=>by simp [ZnZ]at h;subst h;simp [Op.eqFields]
 |k::ks,f::fs,o,x::xs,y::ys,[],_,_,_,_,hx,_,_,_=>hx.elim
 |k::ks,f::fs,o,x::xs,y::ys,_::_,[],_,_,_,_,hy,_,_=>hy.elim
 |k::ks,f::fs,o,x::xs,y::ys,u::vx,v::vy,b,h,hf,hx,hy,hX,hY=>by
  simp only[ZnZ]at h;obtain ⟨b1,h1,h⟩:=A8.1 h;obtain ⟨b2,h2,rfl⟩:=A6.1 h;obtain ⟨f1,f2,⟨d,f3,f4⟩,f5⟩:=hf;have e1:=ZDc h1 f3 f4 hx.1 hy.1 n;have e2:=Zuq n h2 f5 hx.2 hy.2 (fun j v hj=>by have:=hX (j+1) v (by simpa using hj);rwa [show o+(j+1)=o+1+j by omega]at this) (fun j v hj=>by have:=hY (j+1) v (by simpa using hj);rwa [show o+(j+1)=o+1+j by omega]at this)
  have p1:(part f.type X f.offset).run P w=.ok u w:=by
   have:=hX 0 u yG;simp only[part,Sem.run_bind,ZhY f3,ZoS f4,Result.andThen_ok];rw [f2];simp at this;simp [this]
  have p2:(part f.type Y f.offset).run P w=.ok v w:=by
   have:=hY 0 v yG;simp only[part,Sem.run_bind,ZhY f3,ZoS f4,Result.andThen_ok];rw [f2];simp at this;simp [this]
  simp only[Op.eqFields,f1,ne_eq,not_false_eq_true,if_true,Sem.run_bind,p1,p2,e1,Result.andThen_ok];cases b1
  .simp
  .simpa using e2
 | [],_::_,_,_,_,_,_,_,_,hf,_,_,_,_=>hf.elim
 |_::_,[],_,_,_,_,_,_,_,hf,_,_,_,_=>hf.elim
 | [],[],_,_::_,_,_,_,_,h,_,_,_,_,_=>by simp [ZnZ]at h
 | [],[],_,[],_::_,_,_,_,h,_,_,_,_,_=>by simp [ZnZ]at h
 |_::_,_::_,_,[],_,_,_,_,h,_,_,_,_,_=>by simp [ZnZ]at h
 |_::_,_::_,_,_::_,[],_,_,_,h,_,_,_,_,_=>by simp [ZnZ]at h
theorem Zsx {op:BinOp}{b:Bool}{v:SV}(h:ZsH op b=some v):(op=.eql/\v=.p false [.c (.bool b)])\/(op=.neq/\v=.p false [.c (.bool (!b))]):=by
 unfold ZsH at h;split at h<;>simp only[A4,reduceCtorEq]at h<;>subst h
 .exact .inl ⟨rfl,rfl⟩
 .exact .inr ⟨rfl,rfl⟩
theorem ZA6 [NW] (htt:∀t i,tt t=some i->TOk P t i) {op:BinOp}{t:Nat}{ox oy:Operand}{x y v:SV}{vx vy:Value}(h:Zzm (tt (t+4000)) op x y=some v) (hx:SVR g w x vx) (hy:SVR g w y vy):
  ∃cv,(do eqGuard op t ox oy vx vy;binOp op t vx vy:Sem Value).run P w=.ok cv w/\SVR g w v cv/\svU U v:=by
 unfold Zzm at h;split at h
 .obtain ⟨ks,a,h'⟩:=A8.1 h;obtain ⟨b,hb,d⟩:=A8.1 h';have c:tt (t+4000)=some (.eqs ks):=by
   unfold Zx0 at a;split at a<;>simp only[A4,reduceCtorEq]at a
   rename_i c;rw [c,a]
  obtain ⟨u,e,h1,h2,h3,h4⟩:=htt _ _ c;have e:t=u:=Nat.add_right_cancel e;subst e;obtain ⟨us,rfl,f⟩:=hx;obtain ⟨vs,rfl,k⟩:=hy;have hq:=Zuq (X:=us.toArray) (Y:=vs.toArray) 9998 hb h4 f k (fun j v hj=>by simpa using hj) (fun j v hj=>by simpa using hj)
  have hg:=run_eqGuard_agg (P:=P) w op t ox oy us.toArray vs.toArray h3;rcases Zsx d with ⟨rfl,rfl⟩|⟨rfl,rfl⟩
  .refine ⟨_,?_,ZaU b,XK _⟩;simp only[Sem.run_bind,hg,Result.andThen_ok,run_eql_struct,run_equalIn_struct w 9999 t _ _ h1 h2,hq]
  .refine ⟨_,?_,ZaU (!b),XK _⟩;simp only[Sem.run_bind,hg,Result.andThen_ok,run_neq_struct,run_equalIn_struct w 9999 t _ _ h1 h2,hq]
 .simp at h
theorem ZEi [NW] {b:Bool}{v:Value}(h:SVR g w (.p false [.c (.ifc b)]) v):(b=true/\v=.nilIface)\/(b=false/\∃t x,v=.iface t x):=by
 obtain ⟨x,hx,h⟩:=h;simp at hx;subst hx;obtain ⟨L,h1,_⟩:=h;have h2:=h1.2.2;cases b with
 |true=>exact .inl ⟨rfl,h2⟩
 |false=>exact .inr ⟨rfl,h2⟩
theorem ZyV [NW] (htt:∀t i,tt t=some i->TOk P t i) {op:BinOp}{t:Nat}{ox oy:Operand}{x y v:SV}{vx:Value}(h:Zx6 tt t (ZkC oy) op x y=some v) (hx:SVR g w x vx) (hy:SVR g w y (a.eval oy)):
  ∃cv,(do eqGuard op t ox oy vx (a.eval oy);binOp op t vx (a.eval oy):Sem Value).run P w=.ok cv w/\SVR g w v cv/\svU U v:=by
 unfold Zx6 at h;split at h
 .rename_i hn;have ho:oy=.const .nilIface:=by
   cases oy with
   |const c=>cases c<;>first|rfl|(simp [ZkC,Zub]at hn;done)
   |_=>simp [ZkC]at hn
  subst ho;split at h
  rotate_left
  .simp at h
  rename_i d;have j:tt t=some .ifc:=by
   unfold ZxJ at d;split at d
   .assumption
   .simp at d
  obtain ⟨ms,e⟩:=htt _ _ j;unfold ZCl at h;split at h
  .rename_i b;have hb:=ZEi hx;have k:a.eval (.const .nilIface)=.nilIface:=rfl;rw [k];have hg:∀v:Value,(v=.nilIface\/∃t x,v=.iface t x)->(eqGuard op t ox (.const .nilIface) v .nilIface).run P w=.ok () w:=fun v hv=>by
    rcases hv with rfl|⟨t',x',rfl⟩
    .simp only[eqGuard];cases ox<;>cases op<;>rfl
    .simp only[eqGuard];cases op<;>rfl
   have he:(Op.equal t vx .nilIface).run P w=.ok b w:=by
    show (Op.equalIn (9999+1) t _ _).run P w=_
    rw [Op.equalIn];rcases hb with ⟨rfl,rfl⟩|⟨rfl,t',x',rfl⟩
    .simp only[Sem.run_bind,YC e,Result.andThen_ok,Sem.run_pure]
    .simp only[Sem.run_bind,YC e,Result.andThen_ok,Sem.run_pure]
   have f:=hg vx (hb.imp (fun h=>h.2) (fun h=>h.2))
   rcases Zsx h with ⟨rfl,rfl⟩|⟨rfl,rfl⟩
   .refine ⟨_,?_,ZaU b,XK _⟩;simp only[Sem.run_bind,f,Result.andThen_ok];rcases hb with ⟨rfl,rfl⟩|⟨rfl,t',x',rfl⟩<;>simp only[binOp,Sem.run_bind,he,Result.andThen_ok,Sem.run_pure]
   .refine ⟨_,?_,ZaU (!b),XK _⟩;simp only[Sem.run_bind,f,Result.andThen_ok];rcases hb with ⟨rfl,rfl⟩|⟨rfl,t',x',rfl⟩<;>simp only[binOp,Sem.run_bind,he,Result.andThen_ok,Sem.run_pure]
  .simp at h
 .split at h
  .exact ZA6 htt h hx hy
  .exact ZCo htt h hx hy
theorem ZE3 [NW] {op:UnOp}{x v:SV}{vx:Value}(h:unV op x=some v) (hx:SVR g w x vx):∃cv,(Op.unary op vx).run P w=.ok cv w/\SVR g w v cv/\svU U v:=by
 unfold unV at h;split at h
 .have ex:=Zgr hx;subst ex;split at h<;>simp at h
  subst h;exact ⟨_,by simp [Op.unary],ZaU _,XK _⟩
 .have ex:=ZbZ hx;subst ex;split at h<;>simp at h
  subst h;exact ⟨_,by simp [Op.unary,Op.intArith],Zb7 _ _,XK _⟩
 .simp at h
end
end
section
open Go.RowKit
section
variable {P:Program} {W:ZaK} {U:Nat->Prop} {key:Nat} {st:St} {g:Gh} {w:World} {a:Act} {tt:Nat->Option TI}
theorem ZB2 {t:Nat}{z:AV}(htt:∀t i,tt t=some i->TOk P t i) (h:tt t=some (.atom z)):∃d,P.underlying t=some d:=by
 obtain ⟨d,_,_,h,_⟩:=htt t _ h;exact ⟨d,h⟩
theorem ZrJ {t:Nat}(htt:∀t i,tt t=some i->TOk P t i) (h:Zb4 (tt t)=true):∃e,P.underlying t=some (.slice e):=by
 unfold Zb4 at h;split at h
 .rename_i h1;exact ⟨_,(htt t _ h1).1⟩
 .simp at h
theorem ZhT {t:Nat}(htt:∀t i,tt t=some i->TOk P t i) (h:ZcV (tt t)=true):P.underlying t=some .string:=by
 unfold ZcV at h;split at h
 .rename_i h1;obtain ⟨d,zv,i,h2,h3,_⟩:=htt t _ h1;have hd:d=.string:=by cases d<;>simp [Zif]at h3;rfl
  rw [hd]at h2;exact h2
 .simp at h
theorem Zzv [NW] (htt:∀t i,tt t=some i->TOk P t i) {s t:Nat}{x v:SV}{vx:Value}(h:ZrI (tt s) (tt t) x=some v) (hx:SVR g w x vx):∃cv,(convert s t vx).run P w=.ok cv w/\SVR g w v cv/\svU U v:=by
 unfold ZrI at h;split at h
 .have ex:=ZbZ hx;subst ex;split at h
  .rename_i h1 h2;simp only[A4]at h;subst h;obtain ⟨d,zv,i,h3,h4,_⟩:=htt t _ h2;have hd:∃k,d=.int k:=by cases d<;>simp [Zif]at h4;exact ⟨_,rfl⟩
   obtain ⟨k,rfl⟩:=hd;simp only[Zif,beq_iff_eq]at h4;subst h4;obtain ⟨ds,hs⟩:=ZB2 htt h1;refine ⟨_,?_,Zb7 _ _,XK _⟩;simp [convert,YC hs,YC h3,Conv.intToInt]
  .simp at h
 .simp at h
theorem Zhv [NW] {e m:Nat}{xs:List (List CT)}{v:Value}(h:SVR g w (.p false [.c (.sl e m xs)]) v):∃A cap cs L0 L1,v=.slice A xs.length cap/\xs.length<=cap/\cap<=maxLen/\0<m/\Sl w m A xs.length cs L0/\REs w m xs cs L1/\(∀b∈L0++L1,¬g.own b):=by
 obtain ⟨x,hx,h⟩:=h;simp at hx;subst hx;obtain ⟨L,⟨A,cap,cs,L0,L1,h1,h2,h3,h4,h5,h6,h7⟩,ho⟩:=h;exact ⟨A,cap,cs,L0,L1,h1,h2,h3,h5,h6,h7,fun b m=>ho b (h4 ▸ m)⟩
theorem Zgn [NW] {k:Nat}{v:Value}(h:SVR g w (.p false [.row k]) v):v=g.val k:=by
 obtain ⟨x,hx,h⟩:=h;simp at hx;subst hx;exact h.1
theorem ZtI [NW] {e m:Nat}{v:Value}(h:SVR g w (.p false [.nil e m]) v):v=.slice none 0 0:=by
 obtain ⟨x,hx,h⟩:=h;simp at hx;subst hx;exact h
theorem Zdl {B e m n:Nat}{v:Value}{cs:List Value}(h:w.ownsV B e m v n cs):∃A cap,v=.slice A n cap:=by
 obtain ⟨A,c,hv,_⟩:=QP h;exact ⟨A,c,hv⟩
theorem ZFF [NW] {x:CT}{v:Value}(h:SVR g w (.p false [.n x]) v):NR g w x v:=by
 obtain ⟨y,hy,h⟩:=h;simp at hy;subst hy;exact h
theorem ZC0 [NW] (htt:∀t i,tt t=some i->TOk P t i) (hI:HI W g st.ob w) {t:Nat}{ts:Array TypeId}{ty:TypeId}(a:ts[0]?=some t) {x v:SV}{vx:Value}(h:Zn4 st (tt t) x=some v) (hx:SVR g w x vx):
  ∃cv,(Builtin.len_ ts ty #[vx]).run P w=.ok cv w/\SVR g w v cv/\svU U v:=by
 have fin:∀(A:Option Addr) (n c:Nat),Zb4 (tt t)=true->(Builtin.len_ ts ty #[.slice A n c]).run P w=.ok (.int .i64 n) w:=fun A n c hs=>by
  obtain ⟨e,he⟩:=ZrJ htt hs;simp [Builtin.len_,a,YC he,goInt]
 unfold Zn4 at h;split at h
 .split at h<;>simp at h
  rename_i hs;subst h;obtain ⟨A,cap,_,_,_,rfl,_⟩:=Zhv hx;exact ⟨_,fin _ _ _ hs,Zb7 _ _,XK _⟩
 .split at h<;>simp at h
  rename_i hs;subst h;obtain ⟨_,_,_,_,_,h1,_,h3,_⟩:=ZFF hx;simp only[CT.sl.injEq]at h1;obtain ⟨_,_,rfl⟩:=h1;obtain ⟨A,cap,rfl⟩:=Zdl h3;exact ⟨_,fin _ _ _ hs,Zb7 _ _,XK _⟩
 .split at h<;>simp at h
  rename_i hs;subst h;obtain ⟨rfl,_⟩:=Zjh hx;refine ⟨_,?_,Zb7 _ _,XK _⟩;simp [Builtin.len_,a,YC (ZhT htt hs),goInt]
 .split at h<;>simp at h
  rename_i hs;subst h;have:=ZtI hx;subst this;exact ⟨_,fin _ _ _ hs,Zb7 _ _,XK _⟩
 .split at h
  .rename_i k _ e m xs d hk;split at h<;>simp at h
   rename_i hs;subst h;have hv:=Zgn hx;subst hv;have ho:=hI.obs k;rw [hk]at ho;obtain ⟨_,cs,L,h1,_⟩:=ho;obtain ⟨A,cap,hv⟩:=Zdl h1;rw [hv];exact ⟨_,fin _ _ _ hs,Zb7 _ _,XK _⟩
  .simp at h
 .simp at h
theorem Zmq {f:Value->ByteArray->Sem (ForInStep ByteArray)}(hf:∀n s,f (.int .u8 n) s=pure (ForInStep.yield (s.push (Ay n.toNat)))):∀(l:List Int) (s:ByteArray),(forIn (l.map fun n=>Value.int .u8 n) s f).run P w=.ok ⟨s.data++(l.map fun n=>Ay n.toNat).toArray⟩ w
 | [],s=>by simp
 |n::l,s=>by
  have ih:=Zmq hf l (s.push (Ay n.toNat));simp only[AX,List.forIn_cons,hf,Sem.run_bind,Sem.run_pure,Result.andThen_ok,ih];congr 2
  apply Array.ext';simp [ByteArray.push]
theorem Zvx [NW] {b o cap:Nat}(l:List Int) (hc:∀j u,(l.map fun n=>Value.int .u8 n)[j]?=some u->w.cell? ⟨b,o+j,none⟩=some u):(Conv.bytesToString (.slice (some ⟨b,o,none⟩) l.length cap)).run P w=.ok (.string (Xn l)) w:=by
 have h1:=run_loadCells_list (P:=P) w ⟨b,o,none⟩ (l.map fun n=>Value.int .u8 n) (fun j u hj=>by rw [ZbY];exact hc j u hj)
 rw [Ae]at h1;unfold Conv.bytesToString;simp only[Sem.run_bind,h1,Result.andThen_ok,<-Array.forIn_toList];rw [Zmq (fun _ _=>rfl)]
 simp [Xn,ByteArray.empty,ByteArray.emptyWithCapacity];rfl
theorem ZmP {m:Nat}:∀{xs:List (List CT)}{l:List Int}{cs:List Value}{L:List Nat},Ze6 xs=some l->REs w m xs cs L->cs=l.map (fun n=>Value.int .u8 n)/\xs.length=l.length
 | [],_,_,_,h,⟨h1,_⟩=>by simp [Ze6]at h;subst h h1;simp
 |x::r,l,_,_,h,⟨c1,c2,L1,L2,rfl,rfl,h3,h4⟩=>by
  unfold Ze6 at h;split at h
  .rename_i he;simp at he
  .rename_i n r' he;simp only[List.cons.injEq]at he;obtain ⟨rfl,rfl⟩:=he;obtain ⟨l',hl,rfl⟩:=A6.1 h;obtain ⟨i1,i2⟩:=ZmP hl h4;obtain ⟨v,cs',_,_,rfl,rfl,a1,a2⟩:=h3.1;obtain ⟨rfl,_⟩:=a2;rw [a1.1,i1];exact ⟨rfl,by simp [i2]⟩
  .simp at h
theorem Zro (l:List Int):(Xn l).size=l.length:=by simp [Xn,BZ]
theorem Zxn [NW] (htt:∀t i,tt t=some i->TOk P t i) (hI:HI W g st.ob w) {s t:Nat}{x v:SV}{vx:Value}(y:ZcV (tt t)=true) (f:Zni (Zqi tt (tt s))=true) (h:ZiG st x=some v) (hx:SVR g w x vx):∃cv,(convert s t vx).run P w=.ok cv w/\SVR g w v cv/\svU U v:=by
 have ht:=ZhT htt y;have hs:∃e,P.underlying s=some (.slice e)/\P.underlying e=some (.int .u8):=by
  unfold Zqi at f;split at f
  .rename_i e m b z B;have h1:=(htt _ _ B).1;unfold Zni at f;split at f
   .rename_i C;obtain ⟨d,zv,i,h2,h3,_⟩:=htt _ _ C;cases d<;>simp [Zif]at h3
    subst h3;exact ⟨e,h1,h2⟩
   .simp at f
  .simp [Zni]at f
 obtain ⟨e,hs,he⟩:=hs;have go:∀A n c,(convert s t (.slice A n c)).run P w=(Conv.bytesToString (.slice A n c)).run P w:=fun A n c=>by
  unfold convert;simp only[Sem.run_bind,YC hs,YC ht,YC he,Result.andThen_ok]
 have fin:∀(A:Option Addr) (n cap:Nat) (cs:List Value) (L:List Nat) (xs:List (List CT)) (l:List Int) (m:Nat),n=xs.length->0<m->Ze6 xs=some l->REs w m xs cs L->n<=9223372036854775807->(n=0\/∃b o,A=some ⟨b,o,none⟩/\Qh w b o cs)->∃cv,(convert s t (.slice A n cap)).run P w=.ok cv w/\SVR g w (.p false [.c (.str (Xn l))]) cv/\svU U (.p false [.c (.str (Xn l))]):=by
  intro A n cap cs L xs l m hn hm hl hR hsz hA;obtain ⟨i1,i2⟩:=ZmP hl hR;have q:(Xn l).size<=9223372036854775807:=by rw [Zro];omega
  refine ⟨.string (Xn l),?_,ZlX q,XK _⟩;rw [go];rcases hA with h0|⟨b,o,rfl,hc⟩
  .have:l=[]:=AJ yE;subst this;cases A with
   |none=>rfl
   |some a=>
    have h1:=run_loadCells_list (P:=P) w a [] yG;rw [h0];unfold Conv.bytesToString;simp only[List.length_nil]at h1;simp only[Sem.run_bind,h1,Result.andThen_ok];rfl
  .rw [hn,i2];exact Zvx l fun j u hj=>hc j u (by rw [i1];exact hj)
 unfold ZiG at h;split at h
 .split at h
  .rename_i k _ e' m xs d hk;obtain ⟨l,hl,rfl⟩:=A6.1 h;have hv:=Zgn hx;have ho:=hI.obs k;rw [hk]at ho;obtain ⟨hm,cs,L,h1,h2,_⟩:=ho;rw [hv];rcases h1.2 with ⟨h3,h4⟩|⟨b,o,cap,cur,h3,h4,h5,h6,h7,h8,h9⟩
   .rw [h3];exact fin _ _ _ cs L xs l m yE hm hl h2 yE (.inl rfl)
   .rw [h3];refine fin _ _ _ cs L xs l m rfl hm hl h2 (by unfold maxLen at h7;omega) (.inr ⟨b,o,rfl,fun j u hj=>?_⟩)
    exact ZjA h1 h3 j u hj
  .simp at h
 .obtain ⟨l,hl,rfl⟩:=A6.1 h;obtain ⟨A,cap,cs,L0,L1,rfl,h2,h3,h5,h6,h7,_⟩:=Zhv hx;rename_i e' m' xs _;refine fin _ _ _ cs L1 xs l _ rfl h5 hl h7 (by unfold maxLen at h3;omega) ?_
  rcases Nat.eq_zero_or_pos xs.length with h0|h0
  .exact .inl h0
  .obtain ⟨b,off,h8,h9,hc⟩:=h6.at_ h0;exact .inr ⟨b,off,h8,hc⟩
 .simp at h
theorem Zwr [NW] (htt:∀t i,tt t=some i->TOk P t i) (hI:HI W g st.ob w) {s t:Nat}{x v:SV}{vx:Value}(h:ZgN tt st s t x=some v) (hx:SVR g w x vx):∃cv,(convert s t vx).run P w=.ok cv w/\SVR g w v cv/\svU U v:=by
 unfold ZgN at h;split at h
 .rename_i hc;simp only[A5]at hc;exact Zxn htt hI hc.1 hc.2 h hx
 .exact Zzv htt h hx
theorem RCs.avr [NW] {e:List CT}{cs:List Value}{L:List Nat}:RCs w e cs L->(∀b∈L,¬g.own b)->ZM (AVR g w) (e.map .c) cs:=by
 induction e generalizing cs L with
 |nil=>intro h _;obtain ⟨rfl,rfl⟩:=h;trivial
 |cons x r ih=>
  rintro ⟨v,cs',L1,L2,rfl,rfl,h1,h2⟩ ho;exact ⟨⟨L1,h1,fun b m=>ho b (by simp [m])⟩,ih h2 fun b m=>ho b (by simp [m])⟩
theorem Zuf (a:Bool) (e:List CT):QW U (e.map AV.c):=fun y m=>by
 obtain ⟨x,_,rfl⟩:=Ac.1 m;trivial
theorem Zqb [NW] (htt:∀t i,tt t=some i->TOk P t i) {t b lo off:Nat}{cs:List AV}{vs:List Value}{v:SV}(h:cut (tt t) cs off=some v) (hc:Qh w b lo vs) (hr:ZM (AVR g w) cs vs) (hu:QW U cs):
  ∃cv,(Instr.loadAt t (.pointer (some ⟨b,lo+off,none⟩))).run P w=.ok cv w/\SVR g w v cv/\svU U v:=by
 have hlen:=hr.len;have one:∀d,P.underlying t=some d->ZsK d=false->∀x,cs[off]?=some x->∃cv,(Instr.loadAt t (.pointer (some ⟨b,lo+off,none⟩))).run P w=.ok cv w/\SVR g w (.p false [x]) cv/\svU U (.p false [x]):=fun d hd ha x hx=>by
  obtain ⟨u,h1,h2⟩:=hr.at hx;refine ⟨u,?_,⟨x,rfl,h2⟩,fun y m=>by simp at m;subst m;exact hu y (AD hx)⟩
  simp [Instr.loadAt,Instr.sureAddr,loadVar,ZhY hd,ha,load,Sem.run,hc off u h1]
 unfold cut at h;split at h
 .rename_i fs n z f;split at h<;>simp at h
  rename_i hn;subst h;obtain ⟨fields,i,zvs,h1,h2,h3,_⟩:=htt t _ f;refine ⟨.agg ((vs.drop off).take n).toArray,?_,⟨_,rfl,(hr.drop off).take n⟩,fun y m=>hu y (Az (BB m))⟩
  have hl:((vs.drop off).take n).length=i.size:=by simp;omega
  have a:=run_loadCells_list (P:=P) w ⟨b,lo+off,none⟩ ((vs.drop off).take n) (fun j u hj=>by
   rw [ZbY,AI];refine hc _ u ?_;have k:j<n:=by
    have:=(AE.1 hj).1;simp at this;omega
   rw [Bc,if_pos k,Bd]at hj;exact hj)
  rw [hl]at a;simp [Instr.loadAt,Instr.sureAddr,loadVar,ZhY h1,ZsK,XX h2,a]
 .simp at h
 .rename_i i f l c;obtain ⟨x,hx,rfl⟩:=A6.1 h;cases i with
  |atom z=>obtain ⟨d,zv,i,h1,h2,_⟩:=htt t _ c;exact one d h1 (Zwz h2) x hx
  |strct fs n z=>exact absurd rfl (f _ _ _)
  |slice e m b z=>exact one _ (htt t _ c).1 rfl x hx
  |map kk vk=>
   obtain ⟨kt,et,_,_,_,_,h1,_⟩:=htt t _ c;exact one _ h1 rfl x hx
  |ifc=>obtain ⟨ms,h1⟩:=htt t _ c;exact one _ h1 rfl x hx
  |eqs ks=>exact absurd rfl (l _)
 .simp at h
end
end
section
open Go.RowKit
section
variable {P:Program} {W:ZaK} {U:Nat->Prop} {key:Nat} {st:St} {g:Gh} {w:World} {a:Act} {tt:Nat->Option TI}
theorem HI.deep [NW] {ob:Nat->Ob}{k e m:Nat}{xs:List (List CT)}{d:Nat}(hI:HI W g ob w) (hk:ob k=.row e m xs d):0<m/\∃cs L,w.ownsV 0 e m (g.val k) xs.length cs/\REs w m xs cs L/\(∀b∈L,¬g.own b)/\((d=2/\g.O k=(g.val k).ownBlock.toList/\g.D k=L)\/(d=1/\g.O k=(g.val k).ownBlock.toList/\g.D k=[])\/(d=0/\g.O k=[]/\g.D k=[]/\∀b∈(g.val k).ownBlock.toList,¬g.own b)):=by
 have ho:=hI.obs k;rw [hk]at ho;obtain ⟨hm,cs,L,h1,h2,h4⟩:=ho;refine ⟨hm,cs,L,h1,h2,?_,?_⟩
 .rcases h4 with ⟨_,_,h4⟩|⟨_,_,_,h4⟩|⟨_,_,_,h4⟩
  .rintro b mb (⟨j,mj⟩|hz)
   .by_cases a:j=k
    .subst a;have:=hI.nodup j;rw [AQ]at this;exact this.2.2 b mj b (h4 ▸ mb) rfl
    .exact hI.apart j k a b (by simp [mj]) (by simp [h4,mb])
   .exact hI.nz (k:=k) (by simp [h4,mb]) hz
  .exact h4
  .exact fun b mb=>h4 b (by simp [mb])
 .rcases h4 with h4|⟨q1,q2,q3,_⟩|⟨q1,q2,q3,q4⟩
  .exact .inl h4
  .exact .inr (.inl ⟨q1,q2,q3⟩)
  .exact .inr (.inr ⟨q1,q2,q3,fun b mb=>q4 b (by simp [mb])⟩)
theorem HI.deepO [NW] {ob:Nat->Ob}{k e m:Nat}{xs:List (List CT)}{d:Nat}(hI:HI W g ob w) (hk:ob k=.row e m xs d) (hd:¬d=0):0<m/\∃cs L,w.ownsV 0 e m (g.val k) xs.length cs/\REs w m xs cs L/\(∀b∈L,¬g.own b)/\g.O k=(g.val k).ownBlock.toList/\((d=2/\g.D k=L)\/(d=1/\g.D k=[])):=by
 obtain ⟨hm,cs,L,h1,h2,h3,h4⟩:=hI.deep hk;refine ⟨hm,cs,L,h1,h2,h3,?_⟩;rcases h4 with ⟨q1,q2,q3⟩|⟨q1,q2,q3⟩|⟨q1,_⟩
 .exact ⟨q2,.inl ⟨q1,q3⟩⟩
 .exact ⟨q2,.inr ⟨q1,q3⟩⟩
 .exact absurd q1 hd
theorem REs.at {m:Nat}:∀{xs:List (List CT)}{cs:List Value}{L:List Nat}{i:Nat}{e:List CT},REs w m xs cs L->xs[i]?=some e->
  ∃c L',RCs w e c L'/\c.length=m/\(∀b∈L',b∈L)/\∀j u,c[j]?=some u->cs[i*m+j]?=some u
 | [],_,_,_,_,_,h=>by simp at h
 |x::r,_,_,0,e,⟨c1,c2,L1,L2,rfl,rfl,h3,h4⟩,h=>by
  simp at h;subst h;exact ⟨c1,L1,h3.1,h3.2,fun b mb=>by simp [mb],fun j u hu=>by
   rw [Nat.zero_mul,AW,Aa (AE.1 hu).1];exact hu⟩
 |x::r,_,_,i+1,e,⟨c1,c2,L1,L2,rfl,rfl,h3,h4⟩,h=>by
  obtain ⟨c,L',a1,a2,a3,a4⟩:=REs.at h4 (i:=i) (e:=e) (by simpa using h)
  refine ⟨c,L',a1,a2,fun b mb=>by simp [a3 b mb],fun j u hu=>?_⟩
  have hl:=h3.2;rw [Ab (by rw [AB];omega)]
  rw [<-a4 j u hu];congr 1
  rw [hl,AB];omega
theorem REs.len {m:Nat}:∀{xs:List (List CT)}{cs:List Value}{L:List Nat},REs w m xs cs L->cs.length=xs.length*m
 | [],_,_,h=>by simp [h.1]
 |x::r,_,_,⟨c1,c2,L1,L2,rfl,rfl,h3,h4⟩=>by simp [h3.2,REs.len h4,AB];omega
theorem ZC1 [NW] (htt:∀t i,tt t=some i->TOk P t i) (hI:HI W g st.ob w) (hU:StU U st) {t e m a:Nat}{z:List AV}(p:tt t=some (.slice e m a z)) {x i v:SV}{vx vi:Value}(h:ZbC st m x i=some v) (hx:SVR g w x vx) (B:svU U x) (hi:SVR g w i vi):
  ∃cv,(Instr.indexAt t vx vi).run P w=.ok cv w/\SVR g w v cv/\svU U v:=by
 obtain ⟨hu,hm,_,⟨ie,zv,C,D,_⟩,_⟩:=htt t _ p;have f:∀(b o n c:Nat) (k:IntKind) (q:Int),0<=q->q<n->(Instr.indexAt t (.slice (some ⟨b,o,none⟩) n c) (.int k q)).run P w=.ok (.pointer (some ⟨b,o+q.toNat*m,none⟩)) w:=fun b o n c k q h0 h1=>by
  simp [Instr.indexAt,asIntOf,YC hu,h0,h1,XX C,D,ZbY]
 unfold ZbC at h;split at h
 .have ei:=ZbZ hi;subst ei;split at h
  .rename_i hq;obtain ⟨x,l,rfl⟩:=A6.1 h;obtain ⟨A,cap,cs,L0,L1,rfl,h2,h3,h5,h6,h7,ho⟩:=Zhv hx;obtain ⟨h0,rfl⟩:=hq;have hlt:=(AE.1 l).1;obtain ⟨b,off,rfl,rfl,hc⟩:=h6.at_ yE;obtain ⟨c,L',a1,a2,a3,a4⟩:=h7.at l;refine ⟨_,f b off _ _ _ _ h0 yE,⟨b,off+_,c,L',by rw [Nat.add_zero],fun j u hj=>?_,a1,fun y my=>?_,?_⟩,trivial⟩
   .rw [AI];exact hc _ u (a4 j u hj)
   .rcases AL.1 my with rfl|my
    .exact ho _ yG
    .exact ho _ (by simp [a3 y my])
   .exact h6.lt h5 b yG
  .simp at h
 .rename_i k _ _;have ei:=ZbZ hi;subst ei;split at h
  .rename_i e' m' xs d hk;split at h
   .rename_i hq;obtain ⟨h0,h1,rfl⟩:=hq;simp only[A4]at h;subst h;have hv:=Zgn hx;subst hv;obtain ⟨_,cs,L,o1,_⟩:=hI.deep hk;rcases o1.2 with ⟨_,hn⟩|⟨b,o,cap,cur,hv,_⟩
    .omega
    .refine ⟨_,by rw [hv];exact f b o _ _ _ _ h0 h1,⟨b,o,_,_,hv,yG⟩,by have:=B (.row k) yG;exact this⟩
   .simp at h
  .simp at h
 .simp at h
theorem Zzt [NW] (htt:∀t i,tt t=some i->TOk P t i) {t:Nat}{x i v:SV}{vx vi:Value}(h:ZmC (tt t) x i=some v) (hx:SVR g w x vx) (hi:SVR g w i vi):
  ∃cv,(Instr.index t vx vi).run P w=.ok cv w/\SVR g w v cv/\svU U v:=by
 unfold ZmC at h;split at h
 .have ei:=ZbZ hi;subst ei;obtain ⟨rfl,_⟩:=Zjh hx;split at h
  .rename_i hq;obtain ⟨b,hb,rfl⟩:=A6.1 h;refine ⟨_,?_,Zb7 _ _,XK _⟩;simp [Instr.index,asIntOf,YC (ZhT htt hq.2),hq.1,hb]
  .simp at h
 .simp at h
theorem Zu3 [NW] {e:List CT}{v:Value}(h:SVR g w (.p false [.c (.pt e)]) v):∃b cs L,v=.pointer (some ⟨b,0,none⟩)/\b<w.heap.size/\Qh w b 0 cs/\RCs w e cs L/\∀x∈b::L,¬g.own x:=by
 obtain ⟨x,hx,h⟩:=h;simp at hx;subst hx;obtain ⟨_,⟨b,cs,L,h1,h2,rfl,h4,h5⟩,ho⟩:=h;exact ⟨b,cs,L,h1,h2,h4,h5,ho⟩
theorem Zu6 [NW] (htt:∀t i,tt t=some i->TOk P t i) (hI:HI W g st.ob w) (hU:StU U st) {t:Nat}{x v:SV}{vx:Value}(h:QZ st (tt t) x=some v) (hx:SVR g w x vx):
  ∃cv,(Instr.loadAt t vx).run P w=.ok cv w/\SVR g w v cv/\svU U v:=by
 unfold QZ at h;split at h
 .rename_i k off;split at h
  .rename_i tb cs hk;obtain ⟨b,h1,rfl⟩:=hx;have ho:=hI.obs k;rw [hk]at ho;obtain ⟨b',vs,o1,o2,o3,o4,o5⟩:=ho;have hb:b=b':=by rw [o1]at h1;simpa using h1.symm
   subst hb;have hu:=hU.ob k;rw [hk]at hu;have hc:Qh w b 0 vs:=fun j u hj=>by
    rw [AW,cell_of_row w b j vs.toArray tb (0,0) o4];simpa using hj
   have:=Zqb (P:=P) htt h hc o5 hu;simpa using this
  .simp at h
 .rename_i k m i off;split at h
  .rename_i e m' xs d hk;obtain ⟨x,a,h'⟩:=A8.1 h;obtain ⟨b,o,n,c,h1,rfl⟩:=hx;obtain ⟨hm,cs,L,o1,o2,o3,_⟩:=hI.deep hk;split at h'
   .rename_i f;subst f;obtain ⟨c',L',a1,a2,a3,a4⟩:=o2.at a;have hc:Qh w b (o+i*m) c':=fun j u hj=>by
     rw [AI];exact ZjA o1 h1 (i*m+j) u (a4 j u hj)
    rw [<-AI];exact Zqb htt h' hc (a1.avr fun y my=>o3 y (a3 y my)) (Zuf true _)
   .simp at h'
  .simp at h
 .obtain ⟨b,lo,cs,L,rfl,h2,h3,h4,h5⟩:=hx;exact Zqb htt h h2 (h3.avr fun y my=>h4 y (by simp [my])) (Zuf true _)
 .obtain ⟨b,cs,L,rfl,h2,h3,h4,h5⟩:=Zu3 hx;have:=Zqb (P:=P) (U:=U) htt h h3 (h4.avr fun y my=>h5 y (by simp [my])) (Zuf true _)
  simpa using this
 .simp at h
theorem ZBr [NW] {d:Nat}{x v:SV}{vx:Value}(h:ZkQ d x=some v) (hx:SVR g w x vx) (hu:svU U x):∃b o,vx=.pointer (some ⟨b,o,none⟩)/\SVR g w v (.pointer (some ⟨b,o+d,none⟩))/\svU U v:=by
 unfold ZkQ at h;split at h<;>simp at h<;>subst h
 .obtain ⟨b,h1,rfl⟩:=hx;exact ⟨b,_,rfl,⟨b,h1,rfl⟩,hu⟩
 .obtain ⟨b,o,n,c,h1,rfl⟩:=hx;exact ⟨b,_,rfl,⟨b,o,n,c,h1,by simp only[AI]⟩,hu⟩
 .obtain ⟨b,lo,cs,L,rfl,h⟩:=hx;exact ⟨b,_,rfl,⟨b,lo,cs,L,by rw [AI],h⟩,trivial⟩
 .obtain ⟨b,cs,L,rfl,h2,h3,h4,h5⟩:=Zu3 hx;exact ⟨b,0,rfl,⟨b,0,cs,L,rfl,h3,h4,h5,h2⟩,trivial⟩
theorem ZCv [NW] (htt:∀t i,tt t=some i->TOk P t i) {t f n:Nat}{fs:List FI}{z:List AV}(c:tt t=some (.strct fs n z)) {fi:FI}(hf:fs[f]?=some fi) {x v:SV}{vx:Value}(h:ZkQ fi.off x=some v) (hx:SVR g w x vx) (hu:svU U x):
  ∃cv,(Instr.fieldAt t vx f).run P w=.ok cv w/\SVR g w v cv/\svU U v:=by
 obtain ⟨b,o,rfl,h1,h2⟩:=ZBr h hx hu;obtain ⟨a,i,zvs,u1,_,_,_,_,u2⟩:=htt t _ c;obtain ⟨fl,e1,e2,e3,j,d,e4,e5,_⟩:=u2.at hf;have e:a[f]?=some fl:=by simpa using e1
 refine ⟨_,?_,h1,h2⟩;simp [Instr.fieldAt,YC u1,e,Instr.sureAddr,fieldPlace,XX e4,e5,e3,ZbY,e2]
theorem ZzX [NW] (htt:∀t i,tt t=some i->TOk P t i) {t f n:Nat}{fs:List FI}{z:List AV}(c:tt t=some (.strct fs n z)) {x v:SV}{vx:Value}(h:ZmF fs f x=some v) (hx:SVR g w x vx) (hu:svU U x):
  ∃cv,(Instr.field t vx f).run P w=.ok cv w/\SVR g w v cv/\svU U v:=by
 unfold ZmF at h;split at h
 .rename_i cs;obtain ⟨fi,hf,h⟩:=A8.1 h;obtain ⟨vs,rfl,hr⟩:=hx;obtain ⟨a,i,zvs,u1,_,_,_,_,u2⟩:=htt t _ c;obtain ⟨fl,e1,e2,e3,j,d,e4,e5,e6,e7⟩:=u2.at hf;have b:a[f]?=some fl:=by simpa using e1
  have hlen:=hr.len;split at h
  .rename_i ha;split at h<;>simp at h
   rename_i hn;subst h;refine ⟨.agg ((vs.drop fi.off).take fi.size).toArray,?_,⟨_,rfl,(hr.drop _).take _⟩,fun y m=>hu y (Az (BB m))⟩
   simp [Instr.field,YC u1,b,asAgg,part,ZhY e6,e7,ha,XX e4,e5,e2]
  .rename_i ha;obtain ⟨y,hy,rfl⟩:=A6.1 h;obtain ⟨u,b1,b2⟩:=hr.at hy;refine ⟨u,?_,⟨y,rfl,b2⟩,fun z mz=>by simp at mz;subst mz;exact hu z (AD hy)⟩
   simp [Instr.field,YC u1,b,asAgg,part,ZhY e6,e7,ha,e2,b1]
 .simp at h
theorem Zze [NW] {c:Bool}{x y:SV}{vc vx vy:Value}(hc:SVR g w (.p false [.c (.bool c)]) vc) (hx:SVR g w x vx/\svU U x) (hy:SVR g w y vy/\svU U y):
  ∃cv,(do pure (Next.value (if <-asBool vc then vx else vy)):Sem Next).run P w=.ok (.value cv) w/\SVR g w (if c=true then x else y) cv/\svU U (if c=true then x else y):=by
 have:=Zgr hc;subst this;cases c
 .exact ⟨vy,by simp [asBool],by simpa using hy.1,by simpa using hy.2⟩
 .exact ⟨vx,by simp [asBool],by simpa using hx.1,by simpa using hx.2⟩
theorem ZBc [NW] {i:Nat}{x v:SV}{vx:Value}(h:Zw4 i x=some v) (hx:SVR g w x vx) (hu:svU U x):∃cv,(Instr.extract vx i).run P w=.ok cv w/\SVR g w v cv/\svU U v:=by
 unfold Zw4 at h;split at h
 .obtain ⟨y,hy,rfl⟩:=A6.1 h;obtain ⟨vs,rfl,hr⟩:=hx;obtain ⟨u,b1,b2⟩:=hr.at hy;exact ⟨u,by simp [Instr.extract,b1],b2,hu y (AD hy)⟩
 .simp at h
theorem ZxK [NW] {lo:Bool}{x y v:SV}{vx vy:Value}{ts:Array TypeId}{ty:TypeId}(h:Zwn lo x y=some v) (hx:SVR g w x vx) (hy:SVR g w y vy):
  ∃cv,((if lo then Builtin.min_ ts ty #[vx,vy] else Builtin.max_ ts ty #[vx,vy]):Sem Value).run P w=.ok cv w/\SVR g w v cv/\svU U v:=by
 unfold Zwn at h;split at h
 .have ex:=ZbZ hx;have ey:=ZbZ hy;subst ex ey;simp only[A4]at h;subst h;refine ⟨_,?_,Zb7 _ _,XK _⟩;cases lo
  .simp [Builtin.max_,Builtin.max2]
  .simp [Builtin.min_,Builtin.min2]
 .simp at h
end
end
section
open Go.RowKit
theorem Zgc {α:Type}(l:List α) (off:Nat) (vs:List α) (h:off+vs.length<=l.length):(splice l off vs).length=l.length:=by
 simp [splice];omega
theorem Zsq {α:Type}(l:List α) (n:Nat) (v:α) (r:List α) (h:n+(r.length+1)<=l.length):splice (l.set n v) (n+1) r=splice l n (v::r):=by
 unfold splice;have e1:(l.set n v).take (n+1)=l.take n++[v]:=by
  rw [List.take_succ_eq_append_getElem (by simp;omega)]
  simp [List.take_set_of_le]
 have e2:(l.set n v).drop (n+1+r.length)=l.drop (n+(v::r).length):=by
  rw [List.drop_set_of_lt yE];congr 1
  simp;omega
 rw [e1,e2];simp
theorem Zpw [NW] (off:Nat):∀(vs:List Value) (k:Nat) (cells:Array Value),off+k+vs.length<=cells.size->
  (vs.zipIdx k).foldl (fun (cs:Array Value) (p:Value×Nat)=>cs.setIfInBounds (off+p.2) p.1) cells=(splice cells.toList (off+k) vs).toArray
 | [],k,cells,h=>by simp [splice]
 |v::r,k,cells,h=>by
  rw [List.zipIdx_cons,AU,Zpw off r (k+1) _ (by simp at h ⊢;omega)]
  have:=Zsq cells.toList (off+k) v r (by simpa using h)
  rw [<-this];simp [AI]
theorem Zm6 [NW] (off:Nat) (v:Value) (vs:List Value) (hv:v.cells=vs.toArray) (cells:Array Value) (h:off+vs.length<=cells.size):
  v.cells.zipIdx.foldl (fun cs (c,j)=>cs.setIfInBounds (off+j) c) cells=(splice cells.toList off vs).toArray:=by
 have:=Zpw off vs 0 cells (by simpa using h)
 rw [hv,<-Array.foldl_toList];simpa using this
section
variable {P:Program} {W:ZaK} {U:Nat->Prop} {key:Nat} {st:St} {g:Gh} {w:World} {a:Act} {tt:Nat->Option TI}
theorem ZM.splice {α β:Type}{R:α->β->Prop}{l vs:List α}{r us:List β}(h:ZM R l r) (h':ZM R vs us) (off:Nat):ZM R (splice l off vs) (splice r off us):=by
 unfold Go.Proofs.YtlpkbfjcdaanmaaGreatDoor.splice;rw [h'.len];exact (h.take _).append (h'.append (h.drop _))
theorem Zlz {l vs:List AV}(h:QW U l) (h':QW U vs) (off:Nat):QW U (splice l off vs):=by
 intro y m;unfold splice at m;rcases A3.1 m with m|m
 .exact h y (BB m)
 .rcases A3.1 m with m|m
  .exact h' y m
  .exact h y (Az m)
theorem ZuW [NW] {a:Nat->Option (Nat×Nat)}{fs:List FI}(hp:∀i fi,fs[i]?=some fi->a i=some (fi.off,fi.size)):
  ∀{b:List (Nat×SV)} {ps:List (Nat×Value)} {cs c:List AV} {vs:List Value},Zj2 fs cs b=some c->ZM (fun p q=>p.1=q.1/\SVR g w p.2 q.2/\svU U p.2) b ps->ZM (AVR g w) cs vs->QW U cs->
   ∃d:List Value,Instr.fill a vs.toArray ps=some d.toArray/\ZM (AVR g w) c d/\QW U c
 | [],[],cs,c,vs,h,_,hr,hu=>by simp [Zj2]at h;subst h;exact ⟨vs,rfl,hr,hu⟩
 | [],_::_,_,_,_,_,h,_,_=>h.elim
 |_::_,[],_,_,_,_,h,_,_=>h.elim
 |(i,s)::r,(j,v)::ps,cs,c,vs,h,⟨⟨e,hs,hsu⟩,hps⟩,hr,hu=>by
  simp only at e hs hsu;subst e;cases s with
  |p ag us=>
   simp only[Zj2]at h;obtain ⟨f,hf,h⟩:=A8.1 h;split at h
   .rename_i hl;obtain ⟨k,c1,c2⟩:=PVR.cells hs;have hlen:=c2.len;have hlen2:=hr.len;obtain ⟨d,d1,d2,d3⟩:=ZuW hp h hps (hr.splice c2 f.off) (Zlz hu hsu f.off);refine ⟨d,?_,d2,d3⟩;have l:v.cells.size=k.length:=by simp [c1]
    rw [Instr.fill,hp i f hf];simp only;rw [if_neg (by simp [l];omega),Zm6 f.off v k c1 _ (by simp;omega)]
    simpa using d1
   .simp at h
  |_=>simp [Zj2]at h
theorem ZM.of_map {α β γ:Type}{R:β->γ->Prop}(f:α->β) (h:α->γ):∀{l:List α},(∀x∈l,R (f x) (h x))->ZM R (l.map f) (l.map h)
 | [],_=>trivial
 |x::l,hh=>⟨hh x yG,ZM.of_map f h fun y m=>hh y (by simp [m])⟩
theorem Zi5 [NW]:∀{z:List AV}{zvs:List Value},ZM (fun a v=>ZaM a v=true) z zvs->ZM (AVR g w) z zvs/\QW U z
 | [],[],_=>⟨trivial,fun _ m=>by simp at m⟩
 |x::z,v::zvs,h=>by
  obtain ⟨h1,h2⟩:=Zi5 (z:=z) (zvs:=zvs) h.2;refine ⟨⟨ZfU h.1,h1⟩,fun y m=>?_⟩
  rcases AL.1 m with rfl|m
  .have:=h.1;cases y<;>first|trivial|simp [ZaM]at this
  .exact h2 y m
 | [],_::_,h=>h.elim
 |_::_,[],h=>h.elim
theorem Zpe:∀{fs:List FI}{a:List Field},ZM (fun (fi:FI) (f:Field)=>f.offset=fi.off/\fi.size≠0/\∃j d,P.info? f.type=some j/\j.size=fi.size/\P.underlying f.type=some d/\ZsK d=fi.agg) fs a->
  a.mapM (fun f=>(P.info? f.type).map fun i=>(f.offset,i.size))=some (fs.map fun fi=>(fi.off,fi.size))
 | [],[],_=>rfl
 |fi::fs,f::a,⟨⟨h1,_,j,d,h2,h3,_⟩,h⟩=>by
  simp [List.mapM_cons,h2,h3,h1,Zpe h]
 | [],_::_,h=>h.elim
 |_::_,[],h=>h.elim
theorem ZxN [NW] (htt:∀t i,tt t=some i->TOk P t i) (hS:∀t,SVR g w (st.sl t) (a.tmps.getD t undef)) (hU:StU U st) {t n:Nat}{fs:List FI}{z:List AV}(f:tt t=some (.strct fs n z)) {b:Array (Nat×Operand)}{cs:List AV}(h:Zj2 fs z (b.toList.map (ZgA tt st fs z))=some cs):
  ∃cv,(Instr.build t (b.map fun (i,x)=>(i,a.eval x))).run P w=.ok cv w/\SVR g w (.p true cs) cv/\svU U (.p true cs):=by
 obtain ⟨fields,i,zvs,u1,u2,u3,u4,u5,u6⟩:=htt t _ f;obtain ⟨hz,j⟩:=Zi5 (g:=g) (w:=w) (U:=U) u5;have c:ZM (fun (p:Nat×SV) (q:Nat×Value)=>p.1=q.1/\SVR g w p.2 q.2/\svU U p.2) (b.toList.map (ZgA tt st fs z)) (b.toList.map fun p=>(p.1,a.eval p.2)):=by
  refine ZM.of_map _ _ fun p _=>?_
  unfold ZgA;split
  .rename_i hc;rw [hc];refine ⟨rfl,?_⟩;dsimp only;split
   .exact ⟨⟨_,rfl,rfl⟩,fun y m=>by simp at m;subst m;trivial⟩
   .exact ⟨trivial,trivial⟩
  .have:=Zlm htt hS hU 0 p.2;exact ⟨rfl,this⟩
 have k:∀(i:Nat) (fi:FI),fs[i]?=some fi->((fs.map fun (fi:FI)=>(fi.off,fi.size)).toArray[i]?)=some (fi.off,fi.size):=fun i fi hf=>by simp [hf]
 obtain ⟨d,d1,d2,d3⟩:=ZuW k h c hz j;refine ⟨.agg d.toArray,run_build w t _ _ ?_,⟨d,rfl,d2⟩,d3⟩;unfold Program.built;simp only[u1,u2,u4,Zpe u6];have e:(b.map fun (x:Nat×Operand)=>(x.1,a.eval x.2)).toList=b.toList.map fun p=>(p.1,a.eval p.2):=by simp
 have e2:(b.map fun x=>match x with|(i,x)=>(i,a.eval x))=b.map fun (x:Nat×Operand)=>(x.1,a.eval x.2):=rfl
 rw [e2,e];exact d1
theorem Sl.sub {m n:Nat}{A:Option Addr}{cs:List Value}{L:List Nat}(h:Sl w m A n cs L) (l q cap:Nat) (hm:0<m) (hq:l+q<=n) (hcap:n<=cap):
  ∃A' L',A'=(if cap=l then A else A.map (·.add (l*m)))/\Sl w m A' q ((cs.drop (l*m)).take (q*m)) L'/\∀b∈L',b∈L:=by
 have hlen:=h.1;have hlm:l*m+q*m<=n*m:=by rw [<-AB];exact Af m hq
 refine ⟨_,if q=0 then [] else L,rfl,⟨by simp;omega,?_⟩,fun b mb=>?_⟩
 .by_cases a:q=0
  .exact .inl ⟨a,by simp [a]⟩
  .rcases h.2 with ⟨h0,_⟩|⟨_,b,off,rfl,rfl,hc⟩
   .omega
   .refine .inr ⟨yE,b,off+l*m,by rw [if_neg yE];simp [ZbY],by simp [a],fun j u hj=>?_⟩
    rw [AI];refine hc _ u ?_;have c:j<q*m:=by
     have:=(AE.1 hj).1;simp at this;omega
    rw [Bc,if_pos c,Bd]at hj;exact hj
 .split at mb
  .simp at mb
  .exact mb
theorem REs.drop {m:Nat}:∀{xs:List (List CT)}{cs:List Value}{L:List Nat}(l:Nat),REs w m xs cs L->∃L',REs w m (xs.drop l) (cs.drop (l*m)) L'/\∀b∈L',b∈L
 |xs,cs,L,0,h=>⟨L,by simpa using h,fun _ mb=>mb⟩
 | [],cs,L,l+1,h=>⟨[],by obtain ⟨rfl,rfl⟩:=h;simp [REs],yG⟩
 |x::r,_,_,l+1,⟨c1,c2,L1,L2,rfl,rfl,h3,h4⟩=>by
  obtain ⟨L',h5,h6⟩:=REs.drop l h4;refine ⟨L',?_,fun b mb=>by simp [h6 b mb]⟩
  have e:(l+1)*m=c1.length+l*m:=by rw [h3.2,AB];omega
  have e2:(c1++c2).drop (c1.length+l*m)=c2.drop (l*m):=by
   rw [Ah,Aj (BC _ _),BE,Ak]
  rw [e,e2];simpa using h5
theorem REs.take {m:Nat}:∀{xs:List (List CT)}{cs:List Value}{L:List Nat}(l:Nat),REs w m xs cs L->∃L',REs w m (xs.take l) (cs.take (l*m)) L'/\∀b∈L',b∈L
 |xs,cs,L,0,h=>⟨[],by simp [REs],yG⟩
 | [],cs,L,l+1,h=>⟨[],by obtain ⟨rfl,rfl⟩:=h;simp [REs],yG⟩
 |x::r,_,_,l+1,⟨c1,c2,L1,L2,rfl,rfl,h3,h4⟩=>by
  obtain ⟨L',h5,h6⟩:=REs.take l h4;refine ⟨L1++L',?_,fun b mb=>by
   rcases A3.1 mb with mb|mb
   .simp [mb]
   .simp [h6 b mb]⟩
  have e:(l+1)*m=c1.length+l*m:=by rw [h3.2,AB];omega
  rw [e,Be];exact ⟨c1,_,L1,L',rfl,rfl,h3,h5⟩
theorem Zpf {k:IntKind}{i:Int}{y:Nat}{a:BoundsCode}(h0:0<=i) (h1:i<=y):(Instr.sliceBound (.int k i) y a).run P w=.ok i.toNat w:=by
 simp [Instr.sliceBound,asIntOf,h0,h1]
def Zne [NW] (g:Gh) (w:World):Option SV->Option Value->Prop
 |none,none=>True
 |some s,some u=>SVR g w s u
 |_,_=>False
theorem ZiY [NW] {lo hi:Option SV}{vlo vhi:Option Value}{len cap l h:Nat}{b:Bool}(hh:hiB len hi=some h) (hl:loB h lo=some l) (hlo:Zne g w lo vlo) (hhi:Zne g w hi vhi) (hc:len<=cap):
  (Instr.sliceBounds b len cap vlo vhi none).run P w=.ok (l,h,cap) w/\l<=h/\h<=len:=by
 have e1 : ((match vhi, (none : Option Value) with | some v, some _ => Instr.sliceBound v cap .slice3B | some v, none => Instr.sliceBound v cap (if b then .sliceAcap else .sliceAlen) | none, none => pure len | none, some _ => stuck "Slice: max without high") : Sem Nat).run P w = .ok h w ∧ h ≤ len := by
  unfold hiB at hh
  split at hh
  .simp only[A4]at hh
   subst hh
   cases vhi with
   |none=>exact ⟨rfl,A9 _⟩
   |some v=>exact hhi.elim
  .split at hh<;>simp only[A4,reduceCtorEq]at hh
   rename_i hq
   subst hh
   cases vhi with
   |none=>exact hhi.elim
   |some v=>
    have e:=ZbZ hhi
    subst e
    exact ⟨Zpf hq.1 yE,yE⟩
  .simp at hh
 have e2:((match vlo with|some v=>Instr.sliceBound v h .sliceB|none=>pure 0):Sem Nat).run P w=.ok l w/\l<=h:=by
  unfold loB at hl
  split at hl
  .simp only[A4]at hl
   subst hl
   cases vlo with
   |none=>exact ⟨rfl,AF _⟩
   |some v=>exact hlo.elim
  .split at hl<;>simp only[A4,reduceCtorEq]at hl
   rename_i hq
   subst hl
   cases vlo with
   |none=>exact hlo.elim
   |some v=>
    have e:=ZbZ hlo
    subst e
    exact ⟨Zpf hq.1 hq.2,yE⟩
  .simp at hl
 refine ⟨?_,e2.2,e1.2⟩
 unfold Instr.sliceBounds
 simp only[Sem.run_bind,Sem.run_pure,Result.andThen_ok,Option.isSome_none,BL,if_false]
 have e1':=e1.1
 have e2':=e2.1
 cases vhi<;>cases vlo<;>simp_all
theorem ZsS [NW] (htt:∀t i,tt t=some i->TOk P t i) {t:Nat}{x v:SV}{lo hi:Option SV}{vx:Value}{vlo vhi:Option Value}(h:Zl8 (tt t) lo hi x=some v) (hx:SVR g w x vx)
  (f:Zne g w lo vlo) (j:Zne g w hi vhi):∃cv,(Instr.sliceAt t vx vlo vhi none).run P w=.ok cv w/\SVR g w v cv/\svU U v:=by
 unfold Zl8 at h;split at h
 .rename_i s;split at h
  .rename_i k;have hu:=ZhT htt k;obtain ⟨q,hq,h⟩:=A8.1 h;obtain ⟨l,hl,rfl⟩:=A6.1 h;obtain ⟨rfl,hs⟩:=Zjh hx;obtain ⟨b1,b2,b3⟩:=ZiY (P:=P) (b:=false) hq hl f j (A9 _);refine ⟨_,?_,ZlX (by rw [BR];omega),XK _⟩
   simp [Instr.sliceAt,YC hu,Instr.slice,b1]
  .simp at h
 .rename_i e m xs;split at h
  .rename_i d;obtain ⟨q,hq,h⟩:=A8.1 h;obtain ⟨l,hl,rfl⟩:=A6.1 h;obtain ⟨A,cap,cs,L0,L1,rfl,h2,h3,h5,h6,h7,ho⟩:=Zhv hx;obtain ⟨b1,b2,b3⟩:=ZiY (P:=P) (b:=true) hq hl f j h2;obtain ⟨e',b',z',o⟩:∃e' b' z',tt t=some (.slice e' m b' z'):=by
    unfold Zky at d;split at d
    .rename_i h1;subst d;exact ⟨_,_,_,h1⟩
    .omega
   obtain ⟨hu,_,_,⟨ie,zv,u,y,_⟩,_⟩:=htt t _ o;have fin:SVR g w (.p false [.c (.sl e m ((xs.take q).drop l))]) (.slice (if cap=l then A else A.map (·.add (l*m))) (q - l) (cap - l)):=by
    obtain ⟨A',L',rfl,s1,s2⟩:=h6.sub l (q - l) cap h5 yE h2;obtain ⟨M1,r1,r2⟩:=h7.take q;obtain ⟨M2,r3,r4⟩:=r1.drop l;have a:((xs.take q).drop l).length=q - l:=by simp;omega
    have e1:(cs.drop (l*m)).take ((q - l)*m)=(cs.take (q*m)).drop (l*m):=by
     rw [Bf,Nat.sub_mul]
    rw [e1]at s1;refine ⟨_,rfl,L'++M2,⟨_,_,_,L',M2,by rw [a],by rw [a];omega,yE,rfl,h5,by rw [a];exact s1,r3⟩,fun b mb=>?_⟩
    rcases A3.1 mb with mb|mb
    .exact ho b (by simp [s2 b mb])
    .exact ho b (by simp [r2 b (r4 b mb)])
   refine ⟨_,?_,fin,XK _⟩;simp [Instr.sliceAt,YC hu,Instr.slice,b1,XX u,y]
  .simp at h
 .simp at h
end
end
section
open Go.RowKit
theorem ZF {α:Type}(f:Nat->α) (k:Nat) (v:α):upd f k v k=v:=by simp [upd]
theorem ZP {α:Type}(f:Nat->α) {k j:Nat}(v:α) (h:j≠k):upd f k v j=f j:=by simp [upd,h]
theorem Xa (ob:Nat->Ob) (u v:List (Nat×Ob)):Zn ob (u++v)=Zn (Zn ob u) v:=by
 induction u generalizing ob with
 |nil=>rfl
 |cons p r ih=>exact ih _
theorem Zk7:∀(ks:List Nat) (ob:Nat->Ob) (k:Nat),Zn ob (Za8 ks) k=if k∈ks then .gone else ob k
 | [],ob,k=>by simp [Za8,Zn]
 |x::ks,ob,k=>by
  have:Za8 (x::ks)=(x,Ob.gone)::Za8 ks:=rfl;rw [this,Zn,Zk7 ks];by_cases h1:k∈ks
  .simp [h1]
  .by_cases h2:k=x
   .subst h2;simp [upd]
   .simp [h1,h2,upd]
theorem Zby [NW] (ks:List Nat) (ob:Nat->Ob) (key:Nat) (o:Ob) (k:Nat):Zn ob (Za8 ks++[(key,o)]) k=if k=key then o else if k∈ks then .gone else ob k:=by
 rw [Xa];simp only[Zn,upd,Zk7]
def Gh.turn (g:Gh) (ks:List Nat) (key:Nat) (v:Value) (O D:List Nat):Gh:=
 ⟨upd g.val key v,fun k=>if k=key then O else if k∈ks then [] else g.O k,fun k=>if k=key then D else if k∈ks then [] else g.D k,g.Z⟩
section
variable {P:Program} {W:ZaK} {U:Nat->Prop} {key:Nat} {st:St} {g:Gh} {w w':World} {a:Act} {tt:Nat->Option TI}
theorem ZfA {ks:List Nat}{v:Value}{O D:List Nat}{b:Nat}(h:(g.turn ks key v O D).own b):b∈O\/(∃k,k∉ks/\k≠key/\b∈g.O k)\/g.Z b:=by
 rcases h with ⟨k,hk⟩|h
 .simp only[Gh.turn]at hk;split at hk
  .exact .inl hk
  .rename_i h1;split at hk
   .simp at hk
   .rename_i h2;exact .inr (.inl ⟨k,h2,h1,hk⟩)
 .exact .inr (.inr h)
theorem ZpN {n:Nat}{ks:List Nat}{v:Value}{O D:List Nat}(hO:∀b∈O,(∃k∈ks,b∈g.O k)\/n<=b) (hD:∀b∈D,(∃k∈ks,b∈g.O k++g.D k)\/n<=b):QU g (g.turn ks key v O D) n:=by
 refine .of (fun b hb=>?_) fun j b mb=>?_
 .rcases ZfA hb with m|⟨k,_,_,m⟩|m
  .rcases hO b m with ⟨k,_,m⟩|m
   .exact .inl (.inl ⟨k,m⟩)
   .exact .inr m
  .exact .inl (.inl ⟨k,m⟩)
  .exact .inl (.inr m)
 .simp only[Gh.turn]at mb;split at mb
  .refine (hD b mb).imp (fun ⟨k,_,mk⟩=>?_) id
   rcases A3.1 mk with m1|m1
   .exact .inl (.inl ⟨k,m1⟩)
   .exact .inr ⟨k,m1⟩
  .split at mb
   .simp at mb
   .exact .inl (.inr ⟨j,mb⟩)
theorem HI.turn [NW] {ob:Nat->Ob}(h:HI W g ob w) (i:∀k,obU U (ob k)) (c:¬U key) (ks:List Nat) (y:∀k∈ks,U k)
  (l:Bel W w') (z:w.heap.size<=w'.heap.size) (hw:∀b,b<w.heap.size->(∀k∈ks,b∉g.O k)->w'.heap[b]?=w.heap[b]?)
  {v:Value} {O D:List Nat} {o:Ob} (hO:∀b∈O,(∃k∈ks,b∈g.O k)\/w.heap.size<=b) (hD:∀b∈D,(∃k∈ks,b∈g.O k++g.D k)\/w.heap.size<=b)
  (A:(O++D).Nodup) (B:∀b∈O++D,(W.heap.size<=b\/W.x b)/\Qf w' o b)
  (C:QU g (g.turn ks key v O D) w.heap.size->ObR (g.turn ks key v O D) w' key o):
  HI W (g.turn ks key v O D) (Zn ob (Za8 ks++[(key,o)])) w'/\∀x u,svU U x->SVR g w x u->SVR (g.turn ks key v O D) w' x u:=by
 have hkk:key∉ks:=fun m=>c (y key m)
 have d:∀k,U k->(g.turn ks key v O D).val k=g.val k:=fun k hk=>ZP _ _ fun e=>c (e ▸ hk)
 have a:QU g (g.turn ks key v O D) w.heap.size:=ZpN hO hD;have f:∀b∈O++D,(∃k∈ks,b∈g.O k++g.D k)\/w.heap.size<=b:=fun b m=>by
  rcases A3.1 m with m|m
  .exact (hO b m).imp (fun ⟨k,h1,h2⟩=>⟨k,h1,by simp [h2]⟩) id
  .exact hD b m
 refine ⟨h.step (fun k=>k=key\/k∈ks) l rfl (fun b hb hn=>hw b hb fun k hk=>hn k (.inr hk)) (fun k hk=>?_) i d a (fun k hk=>?_),fun x u hx hu=>hu.move hx d (fun b hb hn=>hw b hb fun k _ m=>hn (.inl ⟨k,m⟩)) a z⟩
 .have h1:k≠key:=fun e=>hk (.inl e)
  have h2:k∉ks:=fun e=>hk (.inr e)
  rw [Zby];simp [Gh.turn,h1,h2,upd]
 .rw [Zby];by_cases h1:k=key
  .subst h1;have eO:(g.turn ks k v O D).O k=O:=by simp [Gh.turn]
   have eD:(g.turn ks k v O D).D k=D:=by simp [Gh.turn]
   rw [if_pos rfl,eO,eD];refine ⟨C a,A,B,fun j hj b m mj=>?_⟩
   have p:¬j=k:=fun e=>hj e.symm
   by_cases h2:j∈ks
   .simp [Gh.turn,p,h2]at mj
   .have t:b∈g.O j++g.D j:=by simpa [Gh.turn,p,h2]using mj
    rcases f b m with ⟨q,q1,q2⟩|q
    .exact h.apart q j (fun e=>h2 (e ▸ q1)) b q2 t
    .have:=h.lt j b t;omega
  .have h2:k∈ks:=hk.resolve_left h1;have eO:(g.turn ks key v O D).O k=[]:=by simp [Gh.turn,h1,h2]
   have eD:(g.turn ks key v O D).D k=[]:=by simp [Gh.turn,h1,h2]
   rw [if_neg h1,if_pos h2,eO,eD];exact ⟨⟨eO,eD⟩,yG,yG,yG⟩
theorem Zjx [NW] (hU:StU U st) (ks:List Nat) {o:Ob}(ho:obU (Uk U key) o):(∀k,obU (Uk U key) (Zn st.ob (Za8 ks++[(key,o)]) k))/\∀k,¬Uk U key k->Zn st.ob (Za8 ks++[(key,o)]) k=.gone:=by
 constructor
 .intro k;rw [Zby];split
  .exact ho
  .split
   .trivial
   .exact (hU.ob k).mono fun _=>.inl
 .intro k hk;rw [Zby,if_neg (fun e=>hk (.inr yE))]
  split
  .rfl
  .exact hU.gone k fun h=>hk (.inl h)
theorem ZkS:Uk U key key:=.inr yE
theorem Zxt [NW] (hI:HI W g st.ob w) (hU:StU U st) (a:¬U key) {t:TypeId}{cs:List AV}{vs:List Value}(hr:ZM (AVR g w) cs vs) (hu:QW U cs) {s:Sem Next}
  (d:s.run P w=.ok (.value (.pointer (some ⟨w.heap.size,0,none⟩))) (w.alloc (.cells vs.toArray t))):Fin P W U key st g w s (.bp key 0,[(key,.box t cs)]):=by
 have hb:Below w.heap.size w (w.alloc (.cells vs.toArray t)):=(Below.refl _ _).alloc (A9 _) _;obtain ⟨h1,h2⟩:=hI.turn (key:=key) (U:=U) (w':=w.alloc (.cells vs.toArray t)) (v:=.pointer (some ⟨w.heap.size,0,none⟩)) (O:=[w.heap.size]) (D:=[]) (o:=.box t cs) hU.ob a [] yG
  (hI.below.trans hb) hb.size (fun b c _=>hb.block b c) yG yG yG (fun b m=>by
   simp at m;subst m;exact ⟨.inl hI.below.size,_,_,heap_alloc_new w _⟩) (fun f=>⟨w.heap.size,vs,by simp [Gh.turn,upd],by simp [Gh.turn],by simp [Gh.turn],heap_alloc_new w _,
    AVRs.move hr hu (fun k hk=>ZP _ _ fun e=>a (e ▸ hk)) (fun b c _=>hb.block b c) f⟩)
 have i:=Zjx (key:=key) (o:=.box t cs) hU [] (QW.mono (fun _=>.inl) hu)
 exact ⟨_,_,_,.inl d,h1,⟨w.heap.size,by simp [Gh.turn,upd],rfl⟩,h2,ZkS,i.1,i.2⟩
theorem ZpF (b:Nat) (cs a:Array Value) (t:TypeId) (hb:w.heap[b]?=some (.cells cs t (0,0))):(w.setRow b a).heap[b]?=some (.cells a t (0,0))/\(∀k,k≠b->(w.setRow b a).heap[k]?=w.heap[k]?)/\(w.setRow b a).heap.size=w.heap.size/\(w.setRow b a).os=w.os/\(w.setRow b a).tape=w.tape/\(w.setRow b a).output=w.output:=by
 refine ⟨setRow_heap w b cs a t _ hb,fun k hk=>?_,?_,rfl,rfl,rfl⟩
 .have c:¬b=k:=fun e=>hk e.symm
  simp [World.setRow,Array.getElem?_modify,c]
 .simp [World.setRow]
theorem Zwv [NW] (htt:∀t i,tt t=some i->TOk P t i) (hI:HI W g st.ob w) (hU:StU U st) {t k off tb:Nat}{cs vs:List AV}{va vv:Value}{ag:Bool}(hk:st.ob k=.box tb cs) (hl:vs.length=ZiO (tt t)) (ho:off+vs.length<=cs.length)
  (ha:SVR g w (.bp k off) va) (hv:SVR g w (.p ag vs) vv) (o:QW U vs) (a:0<vs.length) {s:Sem Next} (hs:s=(do Instr.storeAt t va vv;pure .skip)):Fin P W U key st g w s (.und,[(k,.box tb (splice cs off vs))]):=by
 obtain ⟨b,h1,rfl⟩:=ha;have v:=hI.obs k;rw [hk]at v;obtain ⟨b',us,o1,o2,o3,o4,o5⟩:=v;have hb:b=b':=by rw [o1]at h1;simpa using h1.symm
 subst hb;have hlen:=o5.len;obtain ⟨xs,c1,c2⟩:=PVR.cells hv;have C:=c2.len;have c:=hU.ob k;rw [hk]at c;obtain ⟨r1,r2,r3,r4,r5,r6⟩:=ZpF b us.toArray (splice us off xs).toArray tb o4;have f:(sizeOf t).run P w=.ok xs.length w:=by
  rw [<-C,hl];unfold ZiO at hl ⊢;cases hti:tt t with
  |none=>rw [hti]at hl;simp at hl;simp [hl]at a
  |some i=>
   cases i with
   |atom z=>obtain ⟨d,zv,i,_,_,h3,_,h4,_⟩:=htt t _ hti;rw [XX h3,h4]
   |strct fs n z=>obtain ⟨_,i,_,_,h3,h4,_⟩:=htt t _ hti;rw [XX h3,h4]
   |slice e m b z=>obtain ⟨_,_,_,_,j,h3,h4,_⟩:=htt t _ hti;rw [XX h3,h4]
   |_=>rw [hti]at hl;simp at hl;simp [hl]at a
 have y:=run_storeCells_at (P:=P) b off tb xs 0 us.toArray w o4 (by simp;omega) (AVRs.one c2)
 have A:s.run P w=.ok .skip (w.setRow b (splice us off xs).toArray):=by
  subst hs;have e:(us.toArray.toList.take (off+0)++xs++us.toArray.toList.drop (off+0+xs.length)).toArray=(splice us off xs).toArray:=by simp [splice]
  rw [e]at y;simp [Instr.storeAt,Instr.sureAddr,storeVar,c1,f,y]
 have l:∀b',b'<w.heap.size->¬g.own b'->(w.setRow b (splice us off xs).toArray).heap[b']?=w.heap[b']?:=fun b' _ hn=>r2 b' fun e=>hn (.inl ⟨k,by simp [o2,e]⟩)
 have B:W.heap.size<=b\/W.x b:=(hI.plain k b (by simp [o2])).1
 refine ⟨g,undef,_,.inr ⟨A,rfl⟩,?_,rfl,fun x u hx hu=>hu.move hx (fun _ _=>rfl) l (QU.refl _ _) yE,trivial,fun q=>?_,fun q hq=>?_⟩
 .refine hI.step (U:=U) (fun q=>q=k) ?_ rfl (fun b' _ hn=>r2 b' fun e=>hn k rfl (by simp [o2,e])) (fun q hq=>⟨ZP _ _ hq,rfl,rfl,rfl⟩) hU.ob (fun _ _=>rfl) (QU.refl _ _) (fun q hq=>?_)
  .exact ⟨r4.trans hI.below.os,r5.trans hI.below.tape,r6.trans hI.below.output,by have:=hI.below.size;omega,fun q hq hx=>by rw [r2 q (fun e=>by subst e;rcases B with h|h;omega;exact hx h)];exact hI.below.block q hq hx⟩
  .subst hq;refine ⟨?_,hI.nodup q,fun b' m=>?_,hI.apart q⟩
   .simp only[Zn,ZF];exact ⟨b,_,o1,o2,o3,r1,(AVRs.move o5 c (fun _ _=>rfl) l (QU.refl _ _)).splice (AVRs.move c2 o (fun _ _=>rfl) l (QU.refl _ _)) off⟩
   .simp [o2,o3]at m;subst m;refine ⟨B,?_⟩;simp only[Zn,ZF];exact ⟨_,_,r1⟩
 .simp only[Zn,upd];split
  .exact QW.mono (fun _=>.inl) (Zlz c o off)
  .exact (hU.ob q).mono fun _=>.inl
 .simp only[Zn,upd];split
  .rename_i e;subst e;exact absurd (hU.gone q fun h=>hq (.inl h)) (by simp [hk])
  .exact hU.gone q fun h=>hq (.inl h)
end
end
section
open Go.RowKit
section
variable {P:Program} {W:ZaK} {U:Nat->Prop} {key:Nat} {st:St} {g:Gh} {w w':World} {a:Act} {tt:Nat->Option TI}
def Gh.F (g:Gh) (ks:List Nat):List Nat:=ks.flatMap fun k=>g.O k++g.D k
def FP (g:Gh) (ks:List Nat) (d:Nat) (L:List Nat):Prop:=(d=2->L.Sublist (g.F ks))/\d<=2/\0<d/\∀b∈L,¬g.own b\/∃k∈ks,b∈g.O k
theorem FP.nil:FP g [] 2 []:=⟨fun _=>by simp [Gh.F],yG⟩
theorem FP.append {ks a:List Nat}{d d':Nat}{L L':List Nat}(h:FP g ks d L) (h':FP g a d' L'):FP g (ks++a) (Zge d d') (L++L'):=by
 have q1:=h.2.1;have q2:=h'.2.1;have q3:=h.2.2.1;have q4:=h'.2.2.1;refine ⟨fun hd=>?_,by unfold Zge;split<;>omega,by unfold Zge;split<;>omega,fun b m=>?_⟩
 .have c:d=2/\d'=2:=by unfold Zge at hd;split at hd<;>omega
  simp only[Gh.F,Bg];exact AM (h.1 c.1) (h'.1 c.2)
 .rcases A3.1 m with m|m
  .exact (h.2.2.2 b m).imp id fun ⟨k,h1,h2⟩=>⟨k,by simp [h1],h2⟩
  .exact (h'.2.2.2 b m).imp id fun ⟨k,h1,h2⟩=>⟨k,by simp [h1],h2⟩
theorem HI.nodupF [NW] {ob:Nat->Ob}(hI:HI W g ob w):∀{ks:List Nat},ks.Nodup->(g.F ks).Nodup
 | [],_=>by simp [Gh.F]
 |k::ks,h=>by
  simp only[Gh.F,Ad,AQ];rw [Al]at h;refine ⟨AQ.1 (hI.nodup k),hI.nodupF h.2,fun x hx y hy e=>?_⟩
  subst e;obtain ⟨j,hj,hy⟩:=AA.1 hy;exact hI.apart k j (fun e=>h.1 (e ▸ hj)) x hx hy
theorem ZkZ {ks:List Nat}{b:Nat}(h:b∈g.F ks):∃k∈ks,b∈g.O k++g.D k:=by simpa [Gh.F]using h
theorem Sl.row {B e m n:Nat}{v:Value}{cs:List Value}(h:w.ownsV B e m v n cs):∃A cap L0,v=.slice A n cap/\n<=cap/\cap<=maxLen/\Sl w m A n cs L0/\L0.Sublist v.ownBlock.toList:=by
 obtain ⟨A,cap,rfl,h1,h2⟩:=QP h;obtain ⟨L0,h3,_,h4⟩:=Sl.of_ownV h;refine ⟨A,cap,L0,rfl,h1,h2,h3,?_⟩;rcases h3.2 with ⟨_,rfl⟩|⟨_,b,off,rfl,rfl,_⟩
 .exact AR _
 .simp [Value.ownBlock]
theorem NR.toC [NW] {x:CT}{v:Value}(h:NR g w x v):∃L,RC w x v L/\∀b∈L,¬g.own b:=by
 obtain ⟨e,m,xs,cs,L,rfl,h2,h3,h4,h5,h6⟩:=h;obtain ⟨A,cap,L0,s1,s2,s3,s4,s5⟩:=Sl.row h3;refine ⟨L0++L,⟨A,cap,cs,L0,L,s1,s2,s3,rfl,h2,s4,h4⟩,fun b mb o=>(h6 b ?_).1 (.inl o)⟩
 rcases A3.1 mb with m1|m1
 .simp [s5.subset m1]
 .simp [m1]
theorem ZAD [NW] (hI:HI W g st.ob w) {x:AV}{ct:CT}{ks:List Nat}{d:Nat}{v:Value}(h:avT st x=some (ct,ks,d)) (hx:AVR g w x v) (hu:avU U x):∃L,RC w ct v L/\FP g ks d L/\∀k∈ks,U k:=by
 cases x with
 |c y=>
  obtain ⟨L,h1,h2⟩:=hx;cases y<;>simp only[avT,A4,A7]at h<;>obtain ⟨rfl,rfl,rfl⟩:=h
  .exact ⟨L,h1,⟨fun _=>by rw [h1.2];simp [Gh.F],yG,yG,fun b m=>.inl (h2 b m)⟩,yG⟩
  .exact ⟨L,h1,⟨fun _=>by rw [h1.2];simp [Gh.F],yG,yG,fun b m=>.inl (h2 b m)⟩,yG⟩
  .exact ⟨L,h1,⟨fun _=>by rw [h1.2.1];simp [Gh.F],yG,yG,fun b m=>.inl (h2 b m)⟩,yG⟩
  all_goals exact ⟨L,h1,⟨fun e=>by simp at e,yG,yG,fun b m=>.inl (h2 b m)⟩,yG⟩
 |row k=>
  simp only[avT]at h;split at h
  .rename_i e m xs d' hk;obtain ⟨hm,cs,L1,o1,o2,o3,o5⟩:=hI.deep hk;obtain ⟨A,cap,L0,s1,s2,s3,s4,s5⟩:=Sl.row o1;have a:RC w (.sl e m xs) v (L0++L1):=⟨A,cap,cs,L0,L1,by rw [hx.1,s1],s2,s3,rfl,hm,s4,o2⟩
   split at h
   .rename_i f;simp only[A4,A7]at h;obtain ⟨rfl,rfl,rfl⟩:=h;refine ⟨L0++L1,a,⟨fun e=>by simp at e,yG,yG,fun b m=>.inl ?_⟩,yG⟩
    rcases o5 with ⟨q,_⟩|⟨q,_⟩|⟨_,_,_,q⟩
    .omega
    .omega
    .rcases A3.1 m with m|m
     .exact q b (s5.subset m)
     .exact o3 b m
   .rename_i f;simp only[A4,A7]at h;obtain ⟨rfl,rfl,rfl⟩:=h;have hO:g.O k=(g.val k).ownBlock.toList:=by
     rcases o5 with ⟨_,q,_⟩|⟨_,q,_⟩|⟨q,_⟩
     .exact q
     .exact q
     .exact absurd q f
    refine ⟨L0++L1,a,⟨fun hd=>?_,?_,yE,fun b m=>?_⟩,fun q mq=>by simp at mq;subst mq;exact hu⟩
    .rcases o5 with ⟨_,_,o5⟩|⟨o5,_⟩|⟨o5,_⟩
     .simp only[Gh.F,Ad,List.flatMap_nil,BF,hO,o5];exact AM s5 (AH _)
     .omega
     .omega
    .rcases o5 with ⟨o5,_⟩|⟨o5,_⟩|⟨o5,_⟩<;>omega
    .rcases A3.1 m with m|m
     .exact .inr ⟨k,yG,by rw [hO];exact s5.subset m⟩
     .exact .inl (o3 b m)
  .simp at h
 |nil e m=>
  simp only[avT]at h;split at h
  .rename_i hm;simp only[A4,A7]at h;obtain ⟨rfl,rfl,rfl⟩:=h;refine ⟨[],⟨none,0,[],[],[],hx,yG,AF _,rfl,hm,Sl.zero,rfl,rfl⟩,FP.nil,yG⟩
  .simp at h
 |n x=>simp [avT]at h
 |dead=>simp [avT]at h
theorem ZuQ [NW] (hI:HI W g st.ob w):∀{xs:List AV}{cts:List CT}{ks:List Nat}{d:Nat}{vs:List Value},ZgE st xs=some (cts,ks,d)->ZM (AVR g w) xs vs->QW U xs->∃L,RCs w cts vs L/\FP g ks d L/\∀k∈ks,U k
 | [],_,_,_,[],h,_,_=>by
  simp only[ZgE,A4,A7]at h;obtain ⟨rfl,rfl,rfl⟩:=h;exact ⟨[],⟨rfl,rfl⟩,FP.nil,yG⟩
 | [],_,_,_,_::_,_,h,_=>h.elim
 |_::_,_,_,_,[],_,h,_=>h.elim
 |x::r,cts,ks,d,v::vs,h,hr,hu=>by
  simp only[ZgE]at h;obtain ⟨⟨c1,k1,d1⟩,h1,h⟩:=A8.1 h;obtain ⟨⟨c2,k2,d2⟩,h2,h⟩:=A6.1 h;simp only[A7]at h;obtain ⟨rfl,rfl,rfl⟩:=h;obtain ⟨L1,a1,a2,a3⟩:=ZAD hI h1 hr.1 (hu x yG);obtain ⟨L2,b1,b2,b3⟩:=ZuQ hI h2 hr.2 (fun y m=>hu y (by simp [m]))
  exact ⟨L1++L2,⟨v,vs,L1,L2,rfl,rfl,a1,b1⟩,a2.append b2,fun k m=>(A3.1 m).elim (a3 k) (b3 k)⟩
theorem ZrK [NW] (hI:HI W g st.ob w) {m:Nat}:∀{xs:List SV}{es:List (List CT)}{ks:List Nat}{d:Nat}{vs:List Value},Xi st m xs=some (es,ks,d)->ZM (fun s v=>SVR g w s v/\svU U s) xs vs->
  ∃(cs:List (List Value)) (L:List Nat),ZM (fun (c:List Value) (v:Value)=>v.cells=c.toArray/\c.length=m/\∀u∈c,u.oneCell'=true) cs vs/\REs w m es cs.flatten L/\FP g ks d L/\∀k∈ks,U k
 | [],_,_,_,[],h,_=>by
  simp only[Xi,A4,A7]at h;obtain ⟨rfl,rfl,rfl⟩:=h;exact ⟨[],[],trivial,⟨rfl,rfl⟩,FP.nil,yG⟩
 | [],_,_,_,_::_,_,h=>h.elim
 |_::_,_,_,_,[],_,h=>h.elim
 |s::r,es,ks,d,v::vs,h,⟨⟨hs,hsu⟩,hr⟩=>by
  cases s with
  |p ag us=>
   simp only[Xi]at h;split at h
   .rename_i hl;obtain ⟨⟨c1,k1,d1⟩,h1,h⟩:=A8.1 h;obtain ⟨⟨c2,k2,d2⟩,h2,h⟩:=A6.1 h;simp only[A7]at h;obtain ⟨rfl,rfl,rfl⟩:=h;obtain ⟨a,p1,p2⟩:=PVR.cells hs;obtain ⟨L1,a1,a2,a3⟩:=ZuQ hI h1 p2 hsu;obtain ⟨cs,L2,b1,b2,b3,b4⟩:=ZrK hI h2 hr;have b:a.length=m:=by rw [<-p2.len];exact hl
    exact ⟨a::cs,L1++L2,⟨⟨p1,b,AVRs.one p2⟩,b1⟩,⟨a,cs.flatten,L1,L2,yG,rfl,⟨a1,b⟩,b2⟩,a2.append b3,fun k mk=>(A3.1 mk).elim (a3 k) (b4 k)⟩
   .simp at h
  |_=>simp [Xi]at h
theorem Zq6 [NW] {m:Nat}:∀(cs:List (List Value)) (vs:List Value) (i:Nat) (a base:List Value),ZM (fun (c:List Value) (v:Value)=>v.cells=c.toArray/\c.length=m/\∀u∈c,u.oneCell'=true) cs vs->a.length=i*m->base.length=vs.length*m->
  Instr.fill (fun i=>some (i*m,m)) (a++base).toArray ((AP i vs.length).zip vs)=some (a++cs.flatten).toArray
 | [],[],i,a,base,_,_,hb=>by
  have:base=[]:=AJ (by simpa using hb)
  subst this;simp [Instr.fill]
 | [],_::_,_,_,_,h,_,_=>h.elim
 |_::_,[],_,_,_,h,_,_=>h.elim
 |c::cs,v::vs,i,a,base,⟨⟨h1,h2,_⟩,h⟩,hp,hb=>by
  have hb':base.length=m+vs.length*m:=by rw [hb];simp [AB];omega
  have b:v.cells.size=m:=by simp [h1,h2]
  simp only[AS,List.range'_succ,List.zip_cons_cons,Instr.fill];rw [if_neg (by simp [b];omega),Zm6 (i*m) v c h1 _ (by simp;omega)]
  have e:splice (a++base).toArray.toList (i*m) c=(a++c)++base.drop m:=by
   unfold splice;simp only[<-hp];rw [Bh,Ah,Aj yE]
   .simp [h2]
   .rfl
  rw [e,Zq6 cs vs (i+1) (a++c) (base.drop m) h (by simp [hp,h2,AB]) (by simp;omega)]
  simp
theorem Zwf [NW] (hI:HI W g st.ob w) (hU:StU U st) (i:¬U key) {e m:Nat}(hm:0<m) {xs:List (List CT)}{ks:List Nat}{d:Nat}{L:List Nat}{cs:List Value}{v:Value}(f:w'.ownsV 0 e m v xs.length cs) (hv:v.ownBlock=some w.heap.size)
  (hb:Below w.heap.size w w') (x:∃z e,w'.heap[w.heap.size]?=some (.cells z e (0,0))) (hr:REs w m xs cs L) (hf:FP g ks d L) (B:∀k∈ks,U k) (j:∀k∈ks,∃e m xs d,st.ob k=.row e m xs d) (C:ks.Nodup) {s:Sem Next} (l:s.run P w=.ok (.value v) w'):
  Fin P W U key st g w s (.p false [.row key],Za8 ks++[(key,.row e m xs d)]):=by
 have c:=hr.lt;have hF:=hI.nodupF C;have a:∀b∈(if d=2 then L else []),b∈L/\d=2:=fun b mb=>by
  split at mb
  .rename_i hd;exact ⟨mb,hd⟩
  .simp at mb
 obtain ⟨h1,h2⟩:=hI.turn (key:=key) (U:=U) (w':=w') (v:=v) (O:=[w.heap.size]) (D:=if d=2 then L else []) (o:=.row e m xs d) hU.ob i ks B
  (hI.below.trans hb) hb.size (fun b t _=>hb.block b t) yG (fun b mb=>by
   obtain ⟨m1,m2⟩:=a b mb;exact .inl (ZkZ ((hf.1 m2).subset m1)))
  (by
   simp only[AT,Al];refine ⟨fun mb=>?_,?_⟩
   .have:=c _ (a _ mb).1;omega
   .split
    .rename_i hd;exact hF.sublist (hf.1 hd)
    .simp)
  (fun b mb=>by
   simp only[AT,AL]at mb;rcases mb with rfl|mb
   .exact ⟨.inl hI.below.size,x⟩
   .obtain ⟨m1,m2⟩:=a b mb;obtain ⟨k,k1,mk⟩:=ZkZ ((hf.1 m2).subset m1);obtain ⟨p1,p2⟩:=hI.plain k b mk;obtain ⟨_,_,_,_,E⟩:=j k k1;rw [E]at p2;exact ⟨p1,p2.keep (hb.block b (c b m1))⟩)
  (fun _=>⟨hm,cs,L,by simpa [Gh.turn,upd]using f,hr.keep fun b mb=>hb.block b (c b mb),by
   have q1:=hf.2.1;have q2:=hf.2.2.1;by_cases hd:d=2
   .exact .inl ⟨hd,by simp [Gh.turn,upd,hv],by simp [Gh.turn,hd]⟩
   .refine .inr (.inl ⟨yE,by simp [Gh.turn,upd,hv],by simp [Gh.turn,hd],fun b mb ho=>?_⟩)
    have t:=c b mb;rcases ZfA ho with mo|⟨k,k1,_,mk⟩|hz
    .simp at mo;omega
    .rcases hf.2.2.2 b mb with hn|⟨q,q1,q2⟩
     .exact hn (.inl ⟨k,mk⟩)
     .exact hI.apart k q (fun e=>k1 (e ▸ q1)) b (by simp [mk]) (by simp [q2])
    .rcases hf.2.2.2 b mb with hn|⟨q,q1,q2⟩
     .exact hn (.inr hz)
     .exact hI.nz (k:=q) (by simp [q2]) hz⟩)
 have u:=Zjx (key:=key) (o:=.row e m xs d) hU ks trivial;refine ⟨_,_,_,.inl l,h1,⟨_,rfl,⟨by simp [Gh.turn,upd],?_⟩⟩,h2,fun y my=>by simp at my;subst my;exact ZkS,u.1,u.2⟩
 obtain ⟨A,cap,F⟩:=Zdl f;simp [F,Value.oneCell']
theorem ZmN (st:St):∀(ks:List Nat) (ob:Nat->Ob) (k:Nat),Zn ob (ZU st ks) k=if k∈ks then Yc (st.ob k) else ob k
 | [],ob,k=>by simp [ZU,Zn]
 |j::r,ob,k=>by
  show Zn (upd ob j (Yc (st.ob j))) (ZU st r) k=_
  rw [ZmN st r];by_cases h:k∈r
  .simp [h]
  .by_cases hj:k=j
   .subst hj;simp [h,upd]
   .simp [h,hj,upd]
theorem Zdo [NW] (st:St) (ks:List Nat) (ob:Nat->Ob) (key:Nat) (o:Ob) (k:Nat):Zn ob (ZU st ks++[(key,o)]) k=if k=key then o else if k∈ks then Yc (st.ob k) else ob k:=by
 rw [Xa];show upd (Zn ob (ZU st ks)) key o k=_
 by_cases h:k=key
 .simp [upd,h]
 .simp only[upd,h,if_false];exact ZmN st ks ob k
theorem ZwN {x:AV}{ct:CT}{ks:List Nat}{d:Nat}(h:avT st x=some (ct,ks,d)):∀k∈ks,∃e m xs d,st.ob k=.row e m xs d:=by
 intro k mk;cases x with
 |c y=>cases y<;>simp only[avT,A4,A7]at h<;>(rw [<-h.2.1]at mk;simp at mk)
 |nil e m=>
  simp only[avT]at h;split at h<;>simp only[A4,A7,reduceCtorEq]at h
  rw [<-h.2.1]at mk;simp at mk
 |row j=>
  simp only[avT]at h;split at h
  .rename_i e m xs d' hj;split at h<;>simp only[A4,A7]at h
   .rw [<-h.2.1]at mk;simp at mk
   .rw [<-h.2.1]at mk;simp at mk;subst mk;exact ⟨_,_,_,_,hj⟩
  .simp at h
 |n x=>simp [avT]at h
 |dead=>simp [avT]at h
theorem ZpR [NW]:∀{xs:List AV}{cts:List CT}{ks:List Nat}{d:Nat},ZgE st xs=some (cts,ks,d)->∀k∈ks,∃e m xs d,st.ob k=.row e m xs d
 | [],_,_,_,h,k,mk=>by simp only[ZgE,A4,A7]at h;rw [<-h.2.1]at mk;simp at mk
 |x::r,_,_,_,h,k,mk=>by
  simp only[ZgE]at h;obtain ⟨⟨c1,k1,d1⟩,h1,h⟩:=A8.1 h;obtain ⟨⟨c2,k2,d2⟩,h2,h⟩:=A6.1 h;simp only[A7]at h;rw [<-h.2.1]at mk;rcases A3.1 mk with mk|mk
  .exact ZwN h1 k mk
  .exact ZpR h2 k mk
theorem Zk0 [NW] {m:Nat}:∀{xs:List SV}{es:List (List CT)}{ks:List Nat}{d:Nat},Xi st m xs=some (es,ks,d)->∀k∈ks,∃e m xs d,st.ob k=.row e m xs d
 | [],_,_,_,h,k,mk=>by simp only[Xi,A4,A7]at h;rw [<-h.2.1]at mk;simp at mk
 |x::r,_,_,_,h,k,mk=>by
  cases x with
  |p a cs=>
   simp only[Xi]at h;split at h
   .obtain ⟨⟨c1,k1,d1⟩,h1,h⟩:=A8.1 h;obtain ⟨⟨c2,k2,d2⟩,h2,h⟩:=A6.1 h;simp only[A7]at h;rw [<-h.2.1]at mk;rcases A3.1 mk with mk|mk
    .exact ZpR h1 k mk
    .exact Zk0 h2 k mk
   .simp at h
  |_=>simp [Xi]at h
theorem ZtY [NW] (hI:HI W g st.ob w) (hU:StU U st) (t:¬U key) {e m:Nat}(hm:0<m) {xs:List (List CT)}{ks:List Nat}{d:Nat}{L:List Nat}{cs:List Value}{v:Value}(u:w'.ownsV 0 e m v xs.length cs) (hv:v.ownBlock=some w.heap.size)
  (hb:Below w.heap.size w w') (H:∃I e,w'.heap[w.heap.size]?=some (.cells I e (0,0))) (hr:REs w m xs cs L) (hf:FP g ks d L) (z:∀k∈ks,U k) (i:∀k∈ks,∃e m xs d,st.ob k=.row e m xs d) (J:ks.Nodup) {s:Sem Next} (B:s.run P w=.ok (.value v) w'):
  Fin P W U key st g w s (.p false [.row key],ZU st ks++[(key,.row e m xs d)]):=by
 have l:=hr.lt;have hF:=hI.nodupF J;have c:∀b∈(if d=2 then L else []),b∈L/\d=2:=fun b mb=>by
  split at mb
  .rename_i hd;exact ⟨mb,hd⟩
  .simp at mb
 obtain ⟨h1,h2⟩:=hI.turn (key:=key) (U:=U) (w':=w') (v:=v) (O:=[w.heap.size]) (D:=if d=2 then L else []) (o:=.row e m xs d) hU.ob t ks z
  (hI.below.trans hb) hb.size (fun b C _=>hb.block b C) yG (fun b mb=>by
   obtain ⟨m1,m2⟩:=c b mb;exact .inl (ZkZ ((hf.1 m2).subset m1)))
  (by
   simp only[AT,Al];refine ⟨fun mb=>?_,?_⟩
   .have:=l _ (c _ mb).1;omega
   .split
    .rename_i hd;exact hF.sublist (hf.1 hd)
    .simp)
  (fun b mb=>by
   simp only[AT,AL]at mb;rcases mb with rfl|mb
   .exact ⟨.inl hI.below.size,H⟩
   .obtain ⟨m1,m2⟩:=c b mb;obtain ⟨k,k1,mk⟩:=ZkZ ((hf.1 m2).subset m1);obtain ⟨p1,p2⟩:=hI.plain k b mk;obtain ⟨_,_,_,_,f⟩:=i k k1;rw [f]at p2;exact ⟨p1,p2.keep (hb.block b (l b m1))⟩)
  (fun _=>⟨hm,cs,L,by simpa [Gh.turn,upd]using u,hr.keep fun b mb=>hb.block b (l b mb),by
   have q1:=hf.2.1;have q2:=hf.2.2.1;by_cases hd:d=2
   .exact .inl ⟨hd,by simp [Gh.turn,upd,hv],by simp [Gh.turn,hd]⟩
   .refine .inr (.inl ⟨yE,by simp [Gh.turn,upd,hv],by simp [Gh.turn,hd],fun b mb ho=>?_⟩)
    have C:=l b mb;rcases ZfA ho with mo|⟨k,k1,_,mk⟩|hz
    .simp at mo;omega
    .rcases hf.2.2.2 b mb with hn|⟨q,q1,q2⟩
     .exact hn (.inl ⟨k,mk⟩)
     .exact hI.apart k q (fun e=>k1 (e ▸ q1)) b (by simp [mk]) (by simp [q2])
    .rcases hf.2.2.2 b mb with hn|⟨q,q1,q2⟩
     .exact hn (.inr hz)
     .exact hI.nz (k:=q) (by simp [q2]) hz⟩)
 have hkk:∀k∈ks,k≠key:=fun k mk e=>t (e ▸ z k mk)
 have K:HI W (g.turn ks key v [w.heap.size] (if d=2 then L else [])) (Zn st.ob (ZU st ks++[(key,.row e m xs d)])) w':=by
  refine ⟨h1.below,fun k=>?_,h1.nodup,h1.apart,fun k b mb=>?_,h1.gz,h1.zx,h1.nw⟩
  rotate_left
  .have hp:=h1.plain k b mb;rw [Zby]at hp;rw [Zdo];by_cases hk:k=key
   .rw [if_pos hk]at hp ⊢;exact hp
   .rw [if_neg hk]at hp ⊢;by_cases a:k∈ks
    .rw [if_pos a]at hp ⊢;obtain ⟨e2,m2,M,d2,f⟩:=i k a;rw [f];exact hp
    .rw [if_neg a]at hp ⊢;exact hp
  have ho:=h1.obs k;rw [Zby]at ho;rw [Zdo];by_cases hk:k=key
  .rw [if_pos hk]at ho ⊢;exact ho
  .rw [if_neg hk]at ho ⊢;by_cases a:k∈ks
   .rw [if_pos a]at ho ⊢;obtain ⟨e2,m2,M,d2,f⟩:=i k a;obtain ⟨p1,N,L2,p2,p3,p4,p5⟩:=hI.deep f;rw [f];have x:(g.turn ks key v [w.heap.size] (if d=2 then L else [])).val k=g.val k:=by simp [Gh.turn,upd,hk]
    have E:=p3.lt;have F:=Zi6 p2;refine ⟨p1,N,L2,by rw [x];exact Zcc p2 fun b mb=>hb.block b (F b mb),p3.keep fun b mb=>hb.block b (E b mb),.inr (.inr ⟨rfl,ho.1,ho.2,fun b mb G=>?_⟩)⟩
    rw [x]at mb;have hbl:b<w.heap.size:=by
     rcases A3.1 mb with m1|m1
     .exact F b m1
     .exact E b m1
    rcases ZfA G with mo|⟨j,j1,_,mj⟩|hz
    .simp at mo;omega
    .rcases A3.1 mb with m1|m1
     .rcases p5 with ⟨_,q1,_⟩|⟨_,q1,_⟩|⟨_,_,_,q⟩
      .exact hI.apart j k (fun e=>j1 (e ▸ a)) b (by simp [mj]) (by simp [q1,m1])
      .exact hI.apart j k (fun e=>j1 (e ▸ a)) b (by simp [mj]) (by simp [q1,m1])
      .exact q b m1 (.inl ⟨j,mj⟩)
     .exact p4 b m1 (.inl ⟨j,mj⟩)
    .rcases A3.1 mb with m1|m1
     .rcases p5 with ⟨_,q1,_⟩|⟨_,q1,_⟩|⟨_,_,_,q⟩
      .exact hI.nz (k:=k) (by simp [q1,m1]) hz
      .exact hI.nz (k:=k) (by simp [q1,m1]) hz
      .exact q b m1 (.inr hz)
     .exact p4 b m1 (.inr hz)
   .rw [if_neg a]at ho ⊢;exact ho
 have Q:∀k,obU U (Yc (st.ob k)):=fun k=>by
  have:=hU.ob k;cases hk:st.ob k<;>simp only[Yc]<;>first|trivial|(rw [hk]at this;exact this)
 refine ⟨_,_,_,.inl B,K,⟨_,rfl,⟨by simp [Gh.turn,upd],?_⟩⟩,h2,fun y my=>by simp at my;subst my;exact ZkS,fun k=>?_,fun k hk=>?_⟩
 .obtain ⟨A,cap,R⟩:=Zdl u;simp [R,Value.oneCell']
 .rw [Zdo];split
  .trivial
  .split
   .exact (Q k).mono fun _=>.inl
   .exact (hU.ob k).mono fun _=>.inl
 .rw [Zdo,if_neg (fun e=>hk (.inr yE))]
  have e:=hU.gone k fun h=>hk (.inl h)
  split
  .rw [e];rfl
  .exact e
end
end
section
open Go.RowKit
section
variable {P:Program} {W:ZaK} {U:Nat->Prop} {key:Nat} {st:St} {g:Gh} {w w':World} {a:Act} {tt:Nat->Option TI}
theorem ZAc [NW] (htt:∀t i,tt t=some i->TOk P t i) (hI:HI W g st.ob w) (hS:∀t,SVR g w (st.sl t) (a.tmps.getD t undef)) (hU:StU U st) (q:¬U key) {t len e m l:Nat}{z:List AV}(H:tt t=some (.slice e m l z)) {b:Array (Nat×Operand)}{xs:List (List CT)}{ks:List Nat}{d:Nat}
  (h:Xi st m (b.toList.map fun p=>st.ev tt e p.2)=some (xs,ks,d)) (hr:b.toList.map (·.1)=List.range len) (hl:len*m<=16777216) (I:ks.Nodup) {s:Sem Next} (hs:s=(do pure (.value (<-Instr.buildSlice t len (b.map fun (i,x)=>(i,a.eval x)))))):
  Fin P W U key st g w s (.p false [.row key],ZU st ks++[(key,.row e m xs d)]):=by
 obtain ⟨hu,hm,_,⟨ie,zv,y,o,hby,hz,hzc,hzl⟩,_⟩:=htt t _ H;have A:ZM (fun s v=>SVR g w s v/\svU U s) (b.toList.map fun p=>st.ev tt e p.2) (b.toList.map fun p=>a.eval p.2):=ZM.of_map _ _ fun p _=>Zlm htt hS hU e p.2
 obtain ⟨cs,L,c1,c2,c3,c4⟩:=ZrK hI h A;have f:b.toList.length=len:=by have:=congrArg List.length hr;simpa using this
 have B:cs.length=len:=by rw [c1.len];simpa using f
 have C:xs.length=len:=by
  have h1:=c2.len;have h2:cs.flatten.length=len*m:=by
   have:∀(cs:List (List Value)) (vs:List Value),ZM (fun (c:List Value) (v:Value)=>v.cells=c.toArray/\c.length=m/\∀u∈c,u.oneCell'=true) cs vs->cs.flatten.length=cs.length*m:=by
    intro cs;induction cs with
    |nil=>intro _ _;simp
    |cons c cs ih=>
     intro vs hh;cases vs with
     |nil=>exact hh.elim
     |cons v vs=>simp [ih vs hh.2,hh.1.2.1,AB];omega
   rw [this cs _ c1,B]
  rw [h2]at h1;exact (Nat.eq_of_mul_eq_mul_right hm h1).symm
 have j:(b.map fun x=>match x with|(i,x)=>(i,a.eval x)).toList=(AP 0 (b.toList.map fun p=>a.eval p.2).length).zip (b.toList.map fun p=>a.eval p.2):=by
  have e1:(b.map fun x=>match x with|(i,x)=>(i,a.eval x)).toList=(b.toList.map (·.1)).zip (b.toList.map fun p=>a.eval p.2):=by
   rw [List.zip_map'];simp
  rw [e1,hr,BM];simp [f]
 have D:(Instr.buildSlice t len (b.map fun (i,x)=>(i,a.eval x))).run P w=.ok (.slice (some ⟨w.heap.size,0,none⟩) len len) (w.alloc (.cells cs.flatten.toArray e)):=by
  have k:∀base:List Value,base.length=len*m->Instr.fill (fun i=>some (i*m,m)) base.toArray (b.map fun x=>match x with|(i,x)=>(i,a.eval x)).toList=some cs.flatten.toArray:=fun base hb=>by
   rw [j];have:=Zq6 cs (b.toList.map fun p=>a.eval p.2) 0 [] base c1 yG (by simpa [f]using hb)
   simpa using this
  by_cases h0:len=0
  .subst h0;have E:cs=[]:=AJ B;subst E;have J:b=#[]:=by
    have:b.toList=[]:=AJ f;simpa using this
   subst J;simp [Instr.buildSlice,YC hu,XX y,Instr.fill,newRow,Array.range_zero']
  .have F:¬len*ie.size=0:=by
    rw [o];intro e;rcases Nat.mul_eq_zero.1 e with e|e<;>omega
   refine run_buildSlice w t e len _ _ ie zv hu y hz (by rw [o];omega) F ?_
   rw [o];have hb:=k ((Array.range (len*m)).map (zv.cells[· % zv.cells.size]!)).toList yG;rw [Array.toArray_toList]at hb;exact hb
 have G:=ZdZ <| World.ownsRow_lit (base:=0) (e:=e) (size:=m) w cs.flatten.toArray len (AF _) (by unfold maxLen;have:=Nat.le_mul_of_pos_right len hm;omega) (by
  have h1:=c2.len;rw [C]at h1;simpa using h1)
 refine ZtY hI hU q hm (v:=.slice (some ⟨w.heap.size,0,none⟩) len len) (cs:=cs.flatten) (w':=w.alloc (.cells cs.flatten.toArray e)) (by rw [C];simpa using G) rfl ((Below.refl _ _).alloc (A9 _) _) ⟨_,_,heap_alloc_new w _⟩ c2 c3 c4 (Zk0 h) I ?_
 subst hs;simp only[Sem.run_bind,D,Result.andThen_ok,Sem.run_pure]
theorem Ziu {m:Nat}{ze:List CT}{zc:List Value}(h:RCs w ze zc []) (hl:zc.length=m):∀n:Nat,REs w m (AG n ze) (AG n zc).flatten []
 |0=>by simp [REs]
 |n+1=>by
  rw [Bi,Bi,Bj];exact ⟨zc,_,[],[],rfl,rfl,⟨h,hl⟩,Ziu h hl n⟩
theorem Zp4 [NW]:∀{z:List AV}{zs:List Value}{ze:List CT},ZlO z=some ze->ZM (fun a v=>ZaM a v=true) z zs->RCs w ze zs []
 | [],[],ze,h,_=>by simp [ZlO]at h;subst h;exact ⟨rfl,rfl⟩
 | [],_::_,_,_,h=>h.elim
 |_::_,[],_,_,h=>h.elim
 |.c x::z,v::zs,ze,h,hr=>by
  simp only[ZlO]at h;obtain ⟨b,h1,rfl⟩:=A6.1 h;have hx:=ZfU (g:=⟨fun _=>undef,fun _=>[],fun _=>[],fun _=>False⟩) (w:=w) hr.1
  obtain ⟨L,hL,_⟩:=hx;have d:L=[]:=by
   have:=hr.1;cases x with
   |int k n=>exact hL.2
   |bool b=>exact hL.2
   |str s=>exact hL.2.1
   |_=>simp [ZaM]at this
  subst d;exact ⟨v,zs,[],[],rfl,rfl,hL,Zp4 h1 hr.2⟩
 |.nil e m::z,v::zs,ze,h,hr=>by
  simp only[ZlO]at h;split at h
  .rename_i hm;obtain ⟨b,h1,rfl⟩:=A6.1 h;have hv:v=.slice none 0 0:=ZfU (g:=⟨fun _=>undef,fun _=>[],fun _=>[],fun _=>False⟩) (w:=w) hr.1
   subst hv;exact ⟨_,zs,[],[],rfl,rfl,⟨none,0,[],[],[],rfl,yG,AF _,rfl,hm,Sl.zero,rfl,rfl⟩,Zp4 h1 hr.2⟩
  .simp at h
 |.row k::z,v::zs,ze,h,_=>by simp [ZlO]at h
 |.n x::z,v::zs,ze,h,_=>by simp [ZlO]at h
 |.dead::z,v::zs,ze,h,_=>by simp [ZlO]at h
theorem ZpS (z:Array Value) (m:Nat) (hz:z.size=m) (hm:0<m):∀n:Nat,(madeCells z (n*m)).toList=(AG n z.toList).flatten
 |0=>by simp [madeCells]
 |n+1=>by
  have ih:=ZpS z m hz hm n;rw [List.replicate_succ',List.flatten_append,<-ih];simp only[madeCells,Array.toList_map,Array.toList_range,AB,Nat.one_mul,List.range_add,Aw,BX,Bj,List.flatten_nil,BF];congr 1
  apply List.ext_getElem?;intro j;by_cases hj:j<m
  .simp only[As,List.getElem?_range hj,Ax,Function.comp];have e:(n*m+j) % z.size=j:=by
    rw [hz,Nat.add_comm,Nat.add_mul_mod_self_right,Nat.mod_eq_of_lt hj]
   have a:j<z.size:=by omega
   simp [e,a]
  .have h1:z.size<=j:=by omega
   simp [hj,h1]
theorem ZyG [NW] (htt:∀t i,tt t=some i->TOk P t i) (hI:HI W g st.ob w) (hU:StU U st) (c:¬U key) {t e m a:Nat}{z:List AV}(k:tt t=some (.slice e m a z)) {n:Nat}{ze:List CT}(hz:ZlO z=some ze) (hn:n<=1073741824) {s:Sem Next}
  (hs:s=(do pure (.value (<-Instr.makeSlice t (.int .i64 n) (.int .i64 n))))):Fin P W U key st g w s (.p false [.row key],[(key,.row e m (AG n ze) 2)]):=by
 obtain ⟨hu,hm,hby0,⟨ie,zv,l,o,hby,q,f,u⟩,_⟩:=htt t _ k;have v:ie.bytes*n<=281474976710656:=by
  have:=Bk (show ie.bytes<=131072 by omega) hn
  omega
 obtain ⟨w',r1,r2,r3⟩:=run_make_full (P:=P) w 0 t e ie zv m hu l q o .i64 .i64 n v (by unfold maxLen;omega) (AF _)
 have j:zv.cells.size=m:=by rw [<-u,f.len];simp
 rw [ZpS zv.cells m j hm n]at r2;have x:=Ziu (Zp4 (w:=w) hz f) (by simpa using j) n
 have hb:Below w.heap.size w w':=(Below.refl _ _).grown r3 (A9 _) yG;have y:∃b e,w'.heap[w.heap.size]?=some (.cells b e (0,0)):=by
  rcases r2.2 with ⟨h',_⟩|⟨g',cap',b,h',_,hg,_⟩
  .simp at h'
  .simp at h';rw [<-h'.1]at hg;exact ⟨b,e,hg⟩
 have:=Zwf (ks:=[]) (d:=2) hI hU c hm (xs:=AG n ze) (by simpa using ZdZ r2) rfl hb y x FP.nil yG yG yG (s:=s) (P:=P) (by subst hs;simp only[Sem.run_bind,r1,Result.andThen_ok,Sem.run_pure])
 simpa [Za8]using this
theorem Zsa [NW] {t e:TypeId}{ty:TypeId}{ie:TypeInfo}(hu:P.underlying t=some (.slice e)) (a:P.info? e=some ie) (A B:Option Addr) (n c c':Nat) (b:n<=c):
  (Builtin.append_ #[t,t] ty #[.slice A n c,.slice B 0 c']).run P w=.ok (.slice A n c) w:=by
 cases A<;>cases B<;>simp [Builtin.append_,YC hu,XX a,Builtin.lenOf,Builtin.firstCells,loadCells,loadCellsFrom,storeCells,b]
theorem Zs7:∀{e:List CT}{cs:List Value}{L:List Nat},RCs w e cs L->e.all CT.flat=true->L=[]
 | [],_,_,h,_=>h.2
 |x::r,_,_,⟨v,cs',L1,L2,rfl,rfl,h1,h2⟩,hf=>by
  simp only[Au,A5]at hf;have e1:L1=[]:=by
   cases x with
   |int k n=>exact h1.2
   |bool b=>exact h1.2
   |str s=>exact h1.2.1
   |_=>simp [CT.flat]at hf
  rw [e1,Zs7 h2 hf.2];rfl
theorem Zkj [NW] {m:Nat}:∀{xs:List (List CT)}{cs:List Value}{L:List Nat},REs w m xs cs L->ZaN xs=true->L=[]
 | [],_,_,h,_=>h.2
 |x::r,_,_,⟨c1,c2,L1,L2,rfl,rfl,h1,h2⟩,hf=>by
  simp only[ZaN,Au,A5]at hf;rw [Zs7 h1.1 hf.1,Zkj h2 hf.2];rfl
theorem REs.append {m:Nat}:∀{xs ys:List (List CT)}{us vs:List Value}{L M:List Nat},REs w m xs us L->REs w m ys vs M->REs w m (xs++ys) (us++vs) (L++M)
 | [],_,_,_,_,_,h,h'=>by obtain ⟨rfl,rfl⟩:=h;simpa using h'
 |_::_,_,_,_,_,_,⟨c1,c2,L1,L2,rfl,rfl,h3,h4⟩,h'=>⟨c1,c2++_,L1,L2++_,yG,yG,h3,h4.append h'⟩
theorem REs.one {m:Nat}:∀{xs:List (List CT)}{cs:List Value}{L:List Nat},REs w m xs cs L->∀u∈cs,u.oneCell'=true
 | [],_,_,h=>by simp [h.1]
 |_::_,_,_,⟨c1,c2,L1,L2,rfl,rfl,h3,h4⟩=>fun u mu=>by
  rcases A3.1 mu with mu|mu
  .exact h3.1.one u mu
  .exact h4.one u mu
theorem ZwP {a b:Nat}(h:Zge a b=2) (ha:a<=2) (hb:b<=2):a=2/\b=2:=by unfold Zge at h;split at h<;>omega
theorem ZpP {fl:Bool}{xs:List (List CT)}(h:Zj5 fl xs=2):ZaN xs=true:=by unfold Zj5 at h;split at h<;>simp_all
theorem ZsI (fl:Bool) (xs:List (List CT)):Zj5 fl xs<=2:=by unfold Zj5;split<;>omega
theorem Zo1 (fl:Bool) (xs:List (List CT)):0<Zj5 fl xs:=by unfold Zj5;split<;>omega
theorem HI.plainD [NW] {ob:Nat->Ob}(h:HI W g ob w) {k b:Nat}(m:b∈g.D k):(W.heap.size<=b\/W.x b)/\∃a e,w.heap[b]?=some (.cells a e (0,0)):=by
 have h1:=h.plain k b (by simp [m])
 have h2:=h.obs k;cases hk:ob k with
 |map kk vk kv=>
  rw [hk]at h2;obtain ⟨_,_,_,_,_,h3,_⟩:=h2;rw [h3]at m;simp at m
 |_=>rw [hk]at h1;exact h1
theorem ZBi [NW] (hI:HI W g st.ob w) {x:SV}{v:Value}{e m:Nat}{xs:List (List CT)}{ks:List Nat}{d:Nat}(h:Zgk st x=some (xs,ks,d)) (a:Zmi st e m x=true) (hx:SVR g w x v) (hu:svU U x):
  ∃cs L,w.ownsV 0 e m v xs.length cs/\REs w m xs cs L/\(∀b∈L,¬g.own b)/\(d=2->L=ks.flatMap g.D)/\v.ownBlock.toList=ks.flatMap g.O/\(∀k∈ks,U k)/\d<=2/\0<d:=by
 unfold Zgk at h;split at h
 .simp only[A4,A7]at h;obtain ⟨rfl,rfl,rfl⟩:=h;have:=ZtI hx;subst this;exact ⟨[],[],ZfF _ _ _ _,⟨rfl,rfl⟩,yG,yG,by simp [Value.ownBlock],yG,yG,yG⟩
 .rename_i k;split at h
  .rename_i e' m' xs' d' hk;split at h
   .simp at h
   rename_i c;simp only[A4,A7]at h;obtain ⟨rfl,rfl,rfl⟩:=h;simp only[Zmi,hk,A5,beq_iff_eq]at a;obtain ⟨rfl,rfl⟩:=a;have:=Zgn hx;subst this;obtain ⟨hm,cs,L,o1,o2,o3,o4,o5⟩:=hI.deepO hk c;refine ⟨cs,L,o1,o2,o3,fun hd=>?_,by simp [o4],fun q mq=>by simp at mq;subst mq;exact hu (.row q) yG,?_,yE⟩
   .rcases o5 with ⟨_,o5⟩|⟨o5,_⟩
    .simp [o5]
    .omega
   .rcases o5 with ⟨o5,_⟩|⟨o5,_⟩<;>omega
  .simp at h
 .simp at h
theorem ZAw [NW] (hI:HI W g st.ob w) {x:SV}{v:Value}{m:Nat}{xs:List (List CT)}{ks:List Nat}{d:Nat}{fl:Bool}(h:Zgh st fl x=some (xs,ks,d)) (a:Zk2 st m x=true) (hx:SVR g w x v) (hu:svU U x):
  ∃A c cs L,v=.slice A xs.length c/\REs w m xs cs L/\(0<xs.length->∃b off,A=some ⟨b,off,none⟩/\Qh w b off cs)/\(∀b∈L,¬g.own b)/\(d=2->L.Sublist (ks.flatMap g.D))/\(∀k∈ks,U k)/\d<=2/\0<d:=by
 unfold Zgh at h;split at h
 .simp only[A4,A7]at h;obtain ⟨rfl,rfl,rfl⟩:=h;simp only[Zk2,beq_iff_eq]at a;subst a;obtain ⟨A,cap,cs,L0,L1,rfl,h2,h3,h5,h6,h7,ho⟩:=Zhv hx;refine ⟨A,cap,cs,L1,rfl,h7,fun hp=>?_,fun b mb=>ho b (by simp [mb]),fun hd=>by rw [Zkj h7 (ZpP hd)];simp,yG,ZsI _ _,Zo1 _ _⟩
  obtain ⟨b,off,h8,_,h9⟩:=h6.at_ hp;exact ⟨b,off,h8,h9⟩
 .simp only[A4,A7]at h;obtain ⟨rfl,rfl,rfl⟩:=h;have:=ZtI hx;subst this;exact ⟨none,0,[],[],rfl,⟨rfl,rfl⟩,yG,yG,yG,yG,yG,yG⟩
 .rename_i k;split at h
  .rename_i e' m' f d' hk;simp only[Zk2,hk,beq_iff_eq]at a;subst a;have:=Zgn hx;subst this;obtain ⟨hm,cs,L,o1,o2,o3,o5⟩:=hI.deep hk;obtain ⟨A,cap,L0,s1,s2,s3,s4,s5⟩:=Sl.row o1;have e:0<f.length->∃b off,A=some ⟨b,off,none⟩/\Qh w b off cs:=fun hp=>by
    obtain ⟨b,off,h8,_,h9⟩:=s4.at_ hp;exact ⟨b,off,h8,h9⟩
   split at h
   .simp only[A4,A7]at h;obtain ⟨rfl,rfl,rfl⟩:=h;exact ⟨A,cap,cs,L,s1,o2,e,o3,fun hd=>by rw [Zkj o2 (ZpP hd)];simp,yG,ZsI _ _,Zo1 _ _⟩
   .rename_i hd0;simp only[A4,A7]at h;obtain ⟨rfl,rfl,rfl⟩:=h;refine ⟨A,cap,cs,L,s1,o2,e,o3,fun hd=>?_,fun q mq=>by simp at mq;subst mq;exact hu (.row q) yG,?_,yE⟩
    .rcases o5 with ⟨_,_,o5⟩|⟨o5,_⟩|⟨o5,_⟩
     .simp [o5]
     .omega
     .omega
    .rcases o5 with ⟨o5,_⟩|⟨o5,_⟩|⟨o5,_⟩<;>omega
  .simp at h
 .simp at h
theorem HI.nodupD [NW] {ob:Nat->Ob}(hI:HI W g ob w):∀{ks:List Nat},ks.Nodup->(ks.flatMap g.D).Nodup
 | [],_=>by simp
 |k::ks,h=>by
  simp only[Ad,AQ];rw [Al]at h;refine ⟨(AQ.1 (hI.nodup k)).2.1,hI.nodupD h.2,fun x hx y hy e=>?_⟩
  subst e;obtain ⟨j,hj,hy⟩:=AA.1 hy;exact hI.apart k j (fun e=>h.1 (e ▸ hj)) x (by simp [hx]) (by simp [hy])
theorem ZzT [NW] (htt:∀t i,tt t=some i->TOk P t i) (hI:HI W g st.ob w) (hU:StU U st) (I:¬U key) {t:Nat}{s x:SV}{vs vx:Value}{r:SV×List (Nat×Ob)}(h:Zor st key (tt t) s x=some r) (hs:SVR g w s vs/\svU U s) (hx:SVR g w x vx/\svU U x) {ty:TypeId}{q:Sem Next}
  (hq:q=(do pure (.value (<-Builtin.append_ #[t,t] ty #[vs,vx])))):Fin P W U key st g w q r:=by
 unfold Zor at h;split at h
 .rename_i e m p z V;obtain ⟨⟨xs,k1,d1⟩,h1,h⟩:=A8.1 h;obtain ⟨⟨ys,k2,d2⟩,h2,h⟩:=A8.1 h;split at h
  .rename_i hc;simp only[A4]at h;subst h;obtain ⟨X,Y,J,K⟩:=hc;simp only at J K;obtain ⟨hu,hm,L,⟨ie,zv,M,Z,aa,ab,ac,ad⟩,_⟩:=htt t _ V;obtain ⟨cs,Lx,a1,a2,a3,a4,a5,a6,a7,a8⟩:=ZBi hI h1 X hs.1 hs.2;obtain ⟨A,c,a,Ly,b0,b1,b2,b3,b4,b5,b7,b8⟩:=ZAw hI h2 Y hx.1 hx.2;subst b0;obtain ⟨A1,cap1,ae,af,hv3⟩:=QP a1;have N:a.length=ys.length*m:=b1.len;obtain ⟨v',w',r1,r2,r3,r4⟩:∃v' w',(Builtin.append_ #[t,t] ty #[vs,.slice A ys.length c]).run P w=.ok v' w'/\w'.ownsV 0 e m v' (xs.length+ys.length) (cs++a)/\w.grownBy w' vs.ownBlock/\(v'.ownBlock=vs.ownBlock\/v'.ownBlock=some w.heap.size):=by
    by_cases hy:ys.length=0
    .have ag:a=[]:=AJ (by rw [N,hy];simp)
     refine ⟨vs,w,?_,by rw [ag,hy,BF];exact a1,World.grownBy.refl _ _,.inl rfl⟩
     rw [ae,hy];exact Zsa hu M A1 A _ _ _ af
    .obtain ⟨b,off,rfl,E⟩:=b2 yE;have B:(xs.length+ys.length)*p<=140737488355328:=by
      have:=Bk K L;omega
     obtain ⟨v',w',q1,q2,q3,q5⟩:=ZgB (P:=P) w 0 t ty e ie zv m p hu M ab Z aa (by rw [<-ad,ac.len];simp) hm vs xs.length cs a1 ⟨b,off,none⟩ ys.length c a N
      (fun j u hj=>by rw [ZbY];exact E j u hj) b1.one (by unfold maxLen;omega) B (AF _)
     exact ⟨v',w',q1,q2,q3,q5⟩
   have C:∀b,¬g.own b->some b≠vs.ownBlock:=fun b hn e=>hn (by
    have:b∈vs.ownBlock.toList:=by simp [<-e]
    rw [a5]at this;obtain ⟨k,_,mk⟩:=AA.1 this;exact .inl ⟨k,mk⟩)
   have d:∀b∈Lx++Ly,w'.heap[b]?=w.heap[b]?:=fun b mb=>by
    rcases A3.1 mb with mb|mb
    .exact r3.block b (a2.lt b mb) (C b (a3 b mb))
    .exact r3.block b (b1.lt b mb) (C b (b3 b mb))
   have Q:REs w' m (xs++ys) (cs++a) (Lx++Ly):=(a2.keep fun b mb=>d b (by simp [mb])).append (b1.keep fun b mb=>d b (by simp [mb]))
   have l:∀b∈v'.ownBlock.toList,b∈k1.flatMap g.O\/b=w.heap.size:=fun b mb=>by
    rcases r4 with r4|r4
    .rw [r4,a5]at mb;exact .inl mb
    .rw [r4]at mb;simp at mb;exact .inr mb
   have f:(Zge d1 d2)=2->(Lx++Ly).Sublist ((k1++k2).flatMap g.D):=fun hd=>by
    have hd:=ZwP hd a7 b7;rw [Bg];exact AM (by rw [a4 hd.1];exact AH _) (b4 hd.2)
   have F:∀b∈(if (Zge d1 d2)=2 then Lx++Ly else []),b∈Lx++Ly/\(Zge d1 d2)=2:=fun b mb=>by
    split at mb
    .rename_i hd;exact ⟨mb,hd⟩
    .simp at mb
   have R:Bel W w':=by
    refine ⟨r3.os.trans hI.below.os,r3.tape.trans hI.below.tape,r3.output.trans hI.below.output,AO hI.below.size r3.size,fun b hb S=>?_⟩
    rw [r3.block b (Ba hb hI.below.size) fun e=>?_]
    .exact hI.below.block b hb S
    .have:b∈vs.ownBlock.toList:=by simp [<-e]
     rw [a5]at this;obtain ⟨k,_,mk⟩:=AA.1 this;rcases (hI.plain k b (by simp [mk])).1 with h|h
     .omega
     .exact S h
   obtain ⟨t1,t2⟩:=hI.turn (key:=key) (U:=U) (w':=w') (v:=v') (O:=v'.ownBlock.toList) (D:=if (Zge d1 d2)=2 then Lx++Ly else []) (o:=.row e m (xs++ys) (Zge d1 d2)) hU.ob I (k1++k2)
    (fun k mk=>(A3.1 mk).elim (a6 k) (b5 k)) R r3.size (fun b hb hn=>r3.block b hb fun e=>by
     have:b∈vs.ownBlock.toList:=by simp [<-e]
     rw [a5]at this;obtain ⟨k,hk,mk⟩:=AA.1 this;exact hn k (by simp [hk]) mk)
    (fun b mb=>by
     rcases l b mb with mb|rfl
     .obtain ⟨k,hk,mk⟩:=AA.1 mb;exact .inl ⟨k,by simp [hk],mk⟩
     .exact .inr (A9 _))
    (fun b mb=>by
     obtain ⟨m1,m2⟩:=F b mb;obtain ⟨k,hk,mk⟩:=AA.1 ((f m2).subset m1);exact .inl ⟨k,hk,by simp [mk]⟩)
    (by
     rw [AQ];refine ⟨by cases v'.ownBlock<;>simp,?_,fun b mb b' ah e=>?_⟩
     .split
      .rename_i hd;exact (hI.nodupD J).sublist (f hd)
      .simp
     .subst e;obtain ⟨m1,m2⟩:=F b ah;rcases l b mb with mb|rfl
      .obtain ⟨k,_,mk⟩:=AA.1 mb;rcases A3.1 m1 with m1|m1
       .exact a3 b m1 (.inl ⟨k,mk⟩)
       .exact b3 b m1 (.inl ⟨k,mk⟩)
      .rcases A3.1 m1 with m1|m1
       .have:=a2.lt _ m1;omega
       .have:=b1.lt _ m1;omega)
    (fun b mb=>by
     rcases A3.1 mb with mb|mb
     .have ai:W.heap.size<=b\/W.x b:=by
       rcases l b mb with mb|rfl
       .obtain ⟨k,_,mk⟩:=AA.1 mb;exact (hI.plain k b (by simp [mk])).1
       .exact .inl hI.below.size
      rcases r2.2 with ⟨h',_⟩|⟨g',o',cap',G,h',hg0,hg,_⟩
      .simp [h',Value.ownBlock]at mb
      .simp [h',Value.ownBlock]at mb;subst mb;exact ⟨ai,G,e,hg⟩
     .obtain ⟨m1,m2⟩:=F b mb;obtain ⟨k,hk,mk⟩:=AA.1 ((f m2).subset m1);obtain ⟨p1,G,e',p2⟩:=hI.plainD mk;exact ⟨p1,G,e',by rw [d b m1];exact p2⟩)
    (fun hown=>⟨hm,cs++a,Lx++Ly,by simpa [Gh.turn,upd]using r2,Q,by
     by_cases hd:Zge d1 d2=2
     .exact .inl ⟨hd,by simp [Gh.turn,upd],by simp [Gh.turn,hd]⟩
     .have aj:Zge d1 d2=1:=by unfold Zge at hd ⊢;split<;>simp_all<;>omega
      refine .inr (.inl ⟨aj,by simp [Gh.turn,upd],by simp [Gh.turn,hd],fun b mb ho=>?_⟩)
      have H:¬g.own b:=by
       rcases A3.1 mb with m1|m1
       .exact a3 b m1
       .exact b3 b m1
      rcases ZfA ho with mo|⟨k,_,_,mk⟩|hz
      .rcases l b mo with mo|rfl
       .obtain ⟨k,_,mk⟩:=AA.1 mo;exact H (.inl ⟨k,mk⟩)
       .rcases A3.1 mb with m1|m1
        .have:=a2.lt _ m1;omega
        .have:=b1.lt _ m1;omega
      .exact H (.inl ⟨k,mk⟩)
      .exact H (.inr hz)⟩)
   have T:=Zjx (key:=key) (o:=.row e m (xs++ys) (Zge d1 d2)) hU (k1++k2) trivial;refine ⟨_,v',w',.inl (by subst hq;simp only[Sem.run_bind,r1,Result.andThen_ok,Sem.run_pure]),t1,⟨_,rfl,⟨by simp [Gh.turn,upd],?_⟩⟩,t2,fun y my=>by simp at my;subst my;exact ZkS,T.1,T.2⟩
   obtain ⟨A2,cap2,ak⟩:=Zdl r2;simp [ak,Value.oneCell']
  .simp at h
 .simp at h
end
end
section
open Go.RowKit
section
variable {P:Program} {W:ZaK} {U:Nat->Prop} {key:Nat} {st:St} {g:Gh} {w w':World} {a:Act} {tt:Nat->Option TI}
theorem RCs.dropS:∀{x:List CT}{c:List Value}{L:List Nat}(n:Nat),RCs w x c L->∃L',RCs w (x.drop n) (c.drop n) L'/\L'.Sublist L
 |x,c,L,0,h=>⟨L,by simpa using h,AH _⟩
 | [],c,L,n+1,h=>⟨[],by obtain ⟨rfl,rfl⟩:=h;simp [RCs],AR _⟩
 |x::r,_,_,n+1,⟨v,cs',L1,L2,rfl,rfl,h1,h2⟩=>by
  obtain ⟨L',a1,a2⟩:=RCs.dropS n h2;exact ⟨L',by simpa using a1,a2.trans (Bl L1 L2)⟩
theorem RCs.spliceS [NW] {x:List CT}{c:List Value}{L:List Nat}{ys:List CT}{us:List Value}(h:RCs w x c L) (h':RCs w ys us []):∀(off:Nat),∃L',RCs w (splice x off ys) (splice c off us) L'/\L'.Sublist L:=by
 have hl:us.length=ys.length:=h'.len;intro off;induction off generalizing x c L with
 |zero=>
  obtain ⟨L',a1,a2⟩:=h.dropS (0+ys.length);refine ⟨[]++L',?_,a2⟩;simp only[splice,List.take_zero,BE,hl];exact h'.append a1
 |succ off ih=>
  cases x with
  |nil=>
   obtain ⟨rfl,rfl⟩:=h;refine ⟨[],?_,AR _⟩;simpa [splice]using h'
  |cons x r=>
   obtain ⟨v,a,L1,L2,rfl,rfl,h1,h2⟩:=h;obtain ⟨L',a1,a2⟩:=ih h2;refine ⟨L1++L',?_,AM (AH _) a2⟩;have e1:splice (x::r) (off+1) ys=x::splice r off ys:=by
    simp only[splice,Bm,Bn];rw [show off+1+ys.length=(off+ys.length)+1 by omega,Bo]
   have e2:splice (v::a) (off+1) us=v::splice a off us:=by
    simp only[splice,Bm,Bn];rw [show off+1+us.length=(off+us.length)+1 by omega,Bo]
   rw [e1,e2];exact ⟨v,_,L1,L',rfl,rfl,h1,a1⟩
theorem ZkN {α:Type}(c1 c2:List α) (off:Nat) (us:List α):splice (c1++c2) (c1.length+off) us=c1++splice c2 off us:=by
 simp only[splice];rw [Be,AI,Ah,Aj (BC _ _),Ak];simp
theorem Zgv {α:Type}(c1 c2:List α) (off:Nat) (us:List α) (h:off+us.length<=c1.length):splice (c1++c2) off us=splice c1 off us++c2:=by
 simp only[splice];rw [At yE,Bp h];simp
theorem REs.set [NW] {m:Nat}{ys:List CT}{us:List Value}(h':RCs w ys us []):∀{xs:List (List CT)}{cs:List Value}{L:List Nat}{i off:Nat}{x:List CT},REs w m xs cs L->xs[i]?=some x->off+us.length<=m->
  ∃L',REs w m (xs.set i (splice x off ys)) (splice cs (i*m+off) us) L'/\L'.Sublist L
 | [],_,_,_,_,_,_,hx,_=>by simp at hx
 |e::r,_,_,0,off,x,⟨c1,c2,L1,L2,rfl,rfl,h3,h4⟩,hx,ho=>by
  simp at hx;subst hx;obtain ⟨L',a1,a2⟩:=h3.1.spliceS h' off;refine ⟨L'++L2,?_,AM a2 (AH _)⟩;rw [Nat.zero_mul,AW,Zgv _ _ _ _ (by rw [h3.2];exact ho)]
  exact ⟨splice c1 off us,c2,L',L2,rfl,rfl,⟨a1,by rw [Zgc _ _ _ (by rw [h3.2];exact ho)];exact h3.2⟩,h4⟩
 |e::r,_,_,i+1,off,x,⟨c1,c2,L1,L2,rfl,rfl,h3,h4⟩,hx,ho=>by
  obtain ⟨L',a1,a2⟩:=REs.set h' h4 (i:=i) (off:=off) (x:=x) (by simpa using hx) ho
  refine ⟨L1++L',?_,AM (AH _) a2⟩;have e:(i+1)*m+off=c1.length+(i*m+off):=by rw [h3.2,AB];omega
  rw [e,ZkN];exact ⟨c1,_,L1,L',rfl,rfl,h3,a1⟩
theorem Zpj [NW]:∀{vs:List AV}{ys:List CT}{us:List Value},Zjl vs=some ys->ZM (AVR g w) vs us->RCs w ys us []
 | [],_,[],h,_=>by simp [Zjl]at h;subst h;exact ⟨rfl,rfl⟩
 | [],_,_::_,_,h=>h.elim
 |_::_,_,[],_,h=>h.elim
 |x::vs,ys,u::us,h,hr=>by
  simp only[Zjl]at h;obtain ⟨y,h1,h⟩:=A8.1 h;obtain ⟨b,h2,rfl⟩:=A6.1 h;have hx:x=.c y/\y.flat=true:=by
   cases x with
   |c z=>cases z<;>simp [Zut]at h1<;>subst h1<;>exact ⟨rfl,rfl⟩
   |_=>simp [Zut]at h1
  obtain ⟨rfl,hf⟩:=hx;obtain ⟨L,hL,_⟩:=hr.1;have a:L=[]:=by
   cases y with
   |int k n=>exact hL.2
   |bool b=>exact hL.2
   |str s=>exact hL.2.1
   |_=>simp [CT.flat]at hf
  subst a;exact ⟨u,us,[],[],rfl,rfl,hL,Zpj h2 hr.2⟩
theorem Zw2 [NW] (htt:∀t i,tt t=some i->TOk P t i) (hI:HI W g st.ob w) (hU:StU U st) {t k m i off e:Nat}{xs:List (List CT)}{d:Nat}{x ys:List CT}{vs:List AV}{va vv:Value}{ag:Bool}(hk:st.ob k=.row e m xs d) (S:¬d=0) (hx:xs[i]?=some x) (T:Zjl vs=some ys) (hl:vs.length=ZiO (tt t)) (ho:off+vs.length<=m)
  (ha:SVR g w (.rp k m i off) va) (hv:SVR g w (.p ag vs) vv) (l:0<vs.length) {s:Sem Next} (hs:s=(do Instr.storeAt t va vv;pure .skip)):Fin P W U key st g w s (.und,[(k,.row e m (xs.set i (splice x off ys)) d)]):=by
 obtain ⟨b,o,n,c,h1,rfl⟩:=ha;obtain ⟨hm,cs,L,o1,o2,o3,o4,o5⟩:=hI.deepO hk S;obtain ⟨us,c1,c2⟩:=PVR.cells hv;have V:=c2.len;have hi:i<xs.length:=(AE.1 hx).1;rcases o1.2 with ⟨_,hn⟩|⟨b',o',cap,a,y,X,hg,F,Y,aa,ab⟩
 .omega
 have ac:b=b'/\o=o':=by rw [y]at h1;simp at h1;exact ⟨h1.1.1.symm,h1.1.2.symm⟩
 obtain ⟨rfl,rfl⟩:=ac;have hlt:i*m+off+us.length<=xs.length*m:=by
  have:=Af m (show i+1<=xs.length by omega)
  rw [AB]at this;omega
 have hcap:xs.length*m<=cap*m:=Af m F;have A:(sizeOf t).run P w=.ok us.length w:=by
  rw [<-V,hl];unfold ZiO at hl ⊢;cases hti:tt t with
  |none=>rw [hti]at hl;simp at hl;simp [hl]at l
  |some i=>
   cases i with
   |atom z=>obtain ⟨d,zv,i,_,_,h3,_,h4,_⟩:=htt t _ hti;rw [XX h3,h4]
   |strct fs n z=>obtain ⟨_,i,_,_,h3,h4,_⟩:=htt t _ hti;rw [XX h3,h4]
   |slice e m b z=>obtain ⟨_,_,_,_,j,h3,h4,_⟩:=htt t _ hti;rw [XX h3,h4]
   |_=>rw [hti]at hl;simp at hl;simp [hl]at l
 have G:=run_storeCells_at (P:=P) b (o+(i*m+off)) e us 0 a w hg yE (AVRs.one c2);obtain ⟨r1,r2,r3,r4,r5,r6⟩:=ZpF b a (splice a.toList (o+(i*m+off)) us).toArray e hg;have H:s.run P w=.ok .skip (w.setRow b (splice a.toList (o+(i*m+off)) us).toArray):=by
  subst hs;have e:(a.toList.take (o+(i*m+off)+0)++us++a.toList.drop (o+(i*m+off)+0+us.length)).toArray=(splice a.toList (o+(i*m+off)) us).toArray:=by simp [splice]
  rw [e]at G;simp [Instr.storeAt,Instr.sureAddr,storeVar,c1,A,G]
 have B:g.O k=[b]:=by rw [o4,y];rfl
 have I:∀b',b'<w.heap.size->¬g.own b'->(w.setRow b (splice a.toList (o+(i*m+off)) us).toArray).heap[b']?=w.heap[b']?:=fun b' _ hn=>r2 b' fun e=>hn (.inl ⟨k,by simp [B,e]⟩)
 obtain ⟨L',q1,q2⟩:=o2.set (Zpj T c2) hx (show off+us.length<=m by omega)
 have C:(w.setRow b (splice a.toList (o+(i*m+off)) us).toArray).ownsV 0 e m (g.val k) (xs.set i (splice x off ys)).length (splice cs (i*m+off) us):=by
  have J:cs.length=xs.length*m:=o1.1;refine ⟨by rw [Zgc _ _ _ yE,J];simp,.inr ⟨b,o,cap,_,by simpa using y,X,r1,by simpa using F,Y,by rw [List.size_toArray,Zgc _ _ _ (show o+(i*m+off)+us.length<=a.toList.length by simp;omega)];simpa using aa,?_⟩⟩
  have h0:((splice a.toList (o+(i*m+off)) us).toArray.toList).drop o=splice (a.toList.drop o) (i*m+off) us:=by
   show (splice a.toList (o+(i*m+off)) us).drop o=_
   unfold splice;have ad:o<=(a.toList.take (o+(i*m+off))).length:=by simp;omega
   rw [Bp ad,Bf,Ak,List.drop_drop,AI]
  rw [h0];have:a.toList.drop o=cs++(a.toList.drop o).drop (xs.length*m):=by rw [<-ab];exact (List.take_append_drop _ _).symm
  rw [this,Zgv _ _ _ _ yE];have e2:(xs.set i (splice x off ys)).length*m=(splice cs (i*m+off) us).length:=by rw [Zgc _ _ _ yE,J];simp
  rw [e2];exact Bh rfl
 have K:=o2.lt;have E:REs (w.setRow b (splice a.toList (o+(i*m+off)) us).toArray) m (xs.set i (splice x off ys)) (splice cs (i*m+off) us) L':=q1.keep fun b' mb=>I b' (K b' (q2.subset mb)) (o3 b' (q2.subset mb))
 let g':Gh:=⟨g.val,g.O,upd g.D k (if d=2 then L' else []),g.Z⟩
 have hgo:∀b',g'.own b'↔g.own b':=fun b'=>Iff.rfl
 have M:(∀b'∈g'.D k,b'∈g.D k)->QU g g' w.heap.size:=fun hs=>.of (fun b' h=>.inl h) fun j b' mb=>by
  by_cases hj:j=k
  .subst hj;exact .inl (.inr ⟨j,hs b' mb⟩)
  .exact .inl (.inr ⟨j,by simpa [g',ZP _ _ hj]using mb⟩)
 have f:∀b'∈g'.D k,b'∈g.D k:=fun b' mb=>by
  simp only[g',ZF]at mb;split at mb
  .rename_i hd;rcases o5 with ⟨_,o5⟩|⟨o5,_⟩
   .rw [o5];exact q2.subset mb
   .omega
  .simp at mb
 refine ⟨g',undef,_,.inr ⟨H,rfl⟩,?_,rfl,fun x u hx hu=>hu.move hx (fun _ _=>rfl) I (M f) yE,trivial,fun q=>?_,fun q hq=>?_⟩
 .refine hI.step (U:=U) (fun q=>q=k) ?_ rfl (fun b' _ hn=>r2 b' fun e=>hn k rfl (by simp [B,e])) (fun q hq=>⟨ZP _ _ hq,rfl,rfl,ZP _ _ hq⟩) hU.ob (fun _ _=>rfl) (M f) (fun q hq=>?_)
  .exact ⟨r4.trans hI.below.os,r5.trans hI.below.tape,r6.trans hI.below.output,by have:=hI.below.size;omega,fun q hq N=>by rw [r2 q (fun e=>by subst e;rcases (hI.plain k q (by simp [B])).1 with h|h;omega;exact N h)];exact hI.below.block q hq N⟩
  .subst hq;have v:∀b'∈g'.O q++g'.D q,b'∈g.O q++g.D q:=fun b' mb=>by
    rcases A3.1 mb with mb|mb
    .exact A3.2 (.inl mb)
    .exact A3.2 (.inr (f b' mb))
   refine ⟨?_,?_,fun b' mb=>?_,fun j hj b' mb mj=>?_⟩
   .simp only[Zn,ZF];refine ⟨hm,_,L',C,E,?_⟩;rcases o5 with ⟨o5,_⟩|⟨o5,_⟩
    .exact .inl ⟨o5,o4,by simp [g',upd,o5]⟩
    .exact .inr (.inl ⟨o5,o4,by simp [g',upd,o5],fun b' mb=>o3 b' (q2.subset mb)⟩)
   .have hn:=hI.nodup q;refine hn.sublist (AM (AH _) ?_);simp only[g',ZF];split
    .rename_i hd;rcases o5 with ⟨_,o5⟩|⟨o5,_⟩
     .rw [o5];exact q2
     .omega
    .exact AR _
   .have hp:=hI.plain q b' (v b' mb);rw [hk]at hp;obtain ⟨p1,Q,e',p2⟩:=hp;refine ⟨p1,?_⟩;simp only[Zn,ZF];show ∃a e,_=_
    by_cases R:b'=b
    .subst R;exact ⟨_,_,r1⟩
    .exact ⟨Q,e',by rw [r2 b' R];exact p2⟩
   .have ae:b'∈g.O j++g.D j:=by
     rcases A3.1 mj with mj|mj
     .exact A3.2 (.inl mj)
     .simp only[g',ZP _ _ (fun e:j=q=>hj e.symm)]at mj;exact A3.2 (.inr mj)
    exact hI.apart q j hj b' (v b' mb) ae
 .simp only[Zn,upd];split
  .trivial
  .exact (hU.ob q).mono fun _=>.inl
 .simp only[Zn,upd];split
  .rename_i e;subst e;exact absurd (hU.gone q fun h=>hq (.inl h)) (by simp [hk])
  .exact hU.gone q fun h=>hq (.inl h)
end
end
section
open Go.RowKit
section
variable {P:Program} {W:ZaK} {U:Nat->Prop} {key:Nat} {st:St} {g:Gh} {w w':World} {a:Act} {tt:Nat->Option TI}
theorem Ztq [NW] {α:Type}(f:Nat->α) (k:Nat):upd f k (f k)=f:=by
 funext j;by_cases hj:j=k
 .subst hj;rw [ZF]
 .rw [ZP _ _ hj]
theorem AVR.less [NW] {g1:Gh}{x:AV}{v:Value}(h:AVR g w x v) (hv:g1.val=g.val) (ho:XJ g1 g):AVR g1 w x v:=by
 cases x with
 |c x=>obtain ⟨L,h1,h2⟩:=h;exact ⟨L,h1,fun b mb hb=>h2 b mb (ho.own b hb)⟩
 |n x=>exact NR.move h (fun _ _ _=>rfl) (ho.grow _)
 |row k=>exact ⟨h.1.trans (by rw [hv]),h.2⟩
 |nil e m=>exact h
 |dead=>exact h
theorem SVR.less [NW] {g1:Gh}{x:SV}{v:Value}(h:SVR g w x v) (hv:g1.val=g.val) (ho:XJ g1 g):SVR g1 w x v:=
 h.move (U:=fun _=>True) (by (cases x<;>try trivial);(intro y my;cases y<;>trivial);(intro y my z mz;cases z<;>trivial)) (fun k _=>by rw [hv]) (fun _ _ _=>rfl) (ho.grow _) (A9 _)
theorem Zju [NW] {ob:Nat->Ob}(hI:HI W g ob w) (k:Nat):∃g1:Gh,HI W g1 (upd ob k (Yc (ob k))) w/\g1.val=g.val/\XJ g1 g/\((∃e m xs d,ob k=.row e m xs d)->∀b∈g.O k++g.D k,¬g1.low b):=by
 cases hk:ob k with
 |gone=>exact ⟨g,by rw [show Yc Ob.gone=ob k from hk.symm,Ztq];exact hI,rfl,XJ.refl _,yG⟩
 |box t cs=>exact ⟨g,by rw [show Yc (Ob.box t cs)=ob k from hk.symm,Ztq];exact hI,rfl,XJ.refl _,yG⟩
 |map kk vk kv=>exact ⟨g,by rw [show Yc (Ob.map kk vk kv)=ob k from hk.symm,Ztq];exact hI,rfl,XJ.refl _,yG⟩
 |row e m xs d=>
  obtain ⟨hm,cs,L,o1,o2,o3,o5⟩:=hI.deep hk;let g1:Gh:=⟨g.val,upd g.O k [],upd g.D k [],g.Z⟩
  have hO:∀j b,b∈g1.O j->j≠k/\b∈g.O j:=fun j b mb=>by
   by_cases hj:j=k
   .subst hj;simp [g1,upd]at mb
   .exact ⟨hj,by simpa [g1,upd,hj]using mb⟩
  have hD:∀j b,b∈g1.D j->j≠k/\b∈g.D j:=fun j b mb=>by
   by_cases hj:j=k
   .subst hj;simp [g1,upd]at mb
   .exact ⟨hj,by simpa [g1,upd,hj]using mb⟩
  have l:∀j b,b∈g1.O j++g1.D j->j≠k/\b∈g.O j++g.D j:=fun j b mb=>by
   rcases A3.1 mb with m1|m1
   .exact ⟨(hO j b m1).1,by simp [(hO j b m1).2]⟩
   .exact ⟨(hD j b m1).1,by simp [(hD j b m1).2]⟩
  have a:∀b,g1.own b->g.own b:=fun b hb=>by
   rcases hb with ⟨j,mj⟩|hz
   .exact .inl ⟨j,(hO j b mj).2⟩
   .exact .inr hz
  have f:XJ g1 g:=.of a fun j b mb=>⟨j,(hD j b mb).2⟩
  have o:∀b∈(g.val k).ownBlock.toList,¬g1.own b:=fun b mb hb=>by
   rcases o5 with ⟨_,q,_⟩|⟨_,q,_⟩|⟨_,_,_,q⟩
   .have mk:b∈g.O k++g.D k:=by simp [q,mb]
    rcases hb with ⟨j,mj⟩|hz
    .exact hI.apart k j (fun e=>(hO j b mj).1 e.symm) b mk (by simp [(hO j b mj).2])
    .exact hI.nz mk hz
   .have mk:b∈g.O k++g.D k:=by simp [q,mb]
    rcases hb with ⟨j,mj⟩|hz
    .exact hI.apart k j (fun e=>(hO j b mj).1 e.symm) b mk (by simp [(hO j b mj).2])
    .exact hI.nz mk hz
   .exact q b mb (a b hb)
  refine ⟨g1,⟨hI.below,fun j=>?_,fun j=>?_,fun i j p b mb mj=>?_,fun j b mb=>?_,hI.gz,hI.zx,hI.nw⟩,rfl,f,fun _ b mb hb=>?_⟩
  rotate_right
  .rcases hb with (⟨j,mj⟩|hz)|⟨j,mj⟩
   .exact hI.apart k j (fun e=>(hO j b mj).1 e.symm) b mb (by simp [(hO j b mj).2])
   .exact hI.nz mb hz
   .exact hI.apart k j (fun e=>(hD j b mj).1 e.symm) b mb (by simp [(hD j b mj).2])
  .by_cases hj:j=k
   .subst hj;rw [ZF];refine ⟨hm,cs,L,o1,o2,.inr (.inr ⟨rfl,by simp [g1,upd],by simp [g1,upd],fun b mb=>?_⟩)⟩
    rcases A3.1 mb with m1|m1
    .exact o b m1
    .exact fun hb=>o3 b m1 (a b hb)
   .rw [ZP _ _ hj];have ho:=hI.obs j;cases hoj:ob j with
    |gone=>rw [hoj]at ho;exact ⟨by simpa [g1,upd,hj]using ho.1,by simpa [g1,upd,hj]using ho.2⟩
    |box t ds=>
     rw [hoj]at ho;obtain ⟨b,vs,h1,h2,h3,h4,h5⟩:=ho;exact ⟨b,vs,h1,by simpa [g1,upd,hj]using h2,by simpa [g1,upd,hj]using h3,h4,h5.mono fun x u _ hx=>AVR.less hx rfl f⟩
    |map kk vk kv=>
     rw [hoj]at ho;obtain ⟨b,es,c,h1,h2,h3,h4⟩:=ho;exact ⟨b,es,c,h1,by simpa [g1,upd,hj]using h2,by simpa [g1,upd,hj]using h3,h4⟩
    |row e' m' xs' d'=>
     rw [hoj]at ho;obtain ⟨v,y,L',p1,p2,p3⟩:=ho;refine ⟨v,y,L',p1,p2,?_⟩;have e1:g1.O j=g.O j:=by simp [g1,upd,hj]
     have e2:g1.D j=g.D j:=by simp [g1,upd,hj]
     rw [e1,e2];rcases p3 with p3|⟨q1,q2,q3,q4⟩|⟨q1,q2,q3,q4⟩
     .exact .inl p3
     .exact .inr (.inl ⟨q1,q2,q3,fun b mb hb=>q4 b mb (a b hb)⟩)
     .exact .inr (.inr ⟨q1,q2,q3,fun b mb hb=>q4 b mb (a b hb)⟩)
  .by_cases hj:j=k
   .subst hj;simp [g1,upd]
   .have:=hI.nodup j;simpa [g1,upd,hj]using this
  .exact hI.apart i j p b (l i b mb).2 (l j b mj).2
  .rw [ZP _ _ (l j b mb).1];exact hI.plain j b (l j b mb).2
theorem Zwq [NW] {ob:Nat->Ob}(hI:HI W g ob w) {k t:Nat}{cs:List AV}(hk:ob k=.box t cs):∃g1:Gh,HI W g1 (upd ob k .gone) w/\g1.val=g.val/\XJ g1 g/\∃b vs,g.val k=.pointer (some ⟨b,0,none⟩)/\¬g1.own b/\b<w.heap.size/\Qh w b 0 vs/\ZM (AVR g w) cs vs:=by
 have ho:=hI.obs k;rw [hk]at ho;obtain ⟨b,vs,h1,h2,h3,h4,h5⟩:=ho;let g1:Gh:=⟨g.val,upd g.O k [],upd g.D k [],g.Z⟩
 have hO:∀j x,x∈g1.O j++g1.D j->j≠k/\x∈g.O j++g.D j:=fun j x mx=>by
  by_cases hj:j=k
  .subst hj;simp [g1,upd]at mx
  .exact ⟨hj,by simpa [g1,upd,hj]using mx⟩
 have a:∀x,g1.own x->g.own x/\x≠b:=fun x hx=>by
  rcases hx with ⟨j,mj⟩|hz
  .have:=hO j x (by simp [mj])
   refine ⟨.inl ⟨j,?_⟩,fun e=>?_⟩
   .have hj:=this.1;simpa [g1,upd,hj]using mj
   .subst e;exact hI.apart j k this.1 x this.2 (by simp [h2])
  .exact ⟨.inr hz,fun e=>by subst e;exact hI.nz (k:=k) (by simp [h2]) hz⟩
 have d:XJ g1 g:=.of (fun x hx=>(a x hx).1) fun j b mb=>⟨j,by
  have hj:=(hO j b (by simp [mb])).1
  simpa [g1,upd,hj]using mb⟩
 refine ⟨g1,⟨hI.below,fun j=>?_,fun j=>?_,fun i j f x mx mj=>?_,fun j x mx=>?_,hI.gz,hI.zx,hI.nw⟩,rfl,d,b,vs,h1,fun hb=>(a b hb).2 rfl,(Ag.1 h4).1,fun j u hj=>?_,h5⟩
 .by_cases hj:j=k
  .subst hj;rw [ZF];exact ⟨by simp [g1,upd],by simp [g1,upd]⟩
  .rw [ZP _ _ hj];have ho:=hI.obs j;have e1:g1.O j=g.O j:=by simp [g1,upd,hj]
   have e2:g1.D j=g.D j:=by simp [g1,upd,hj]
   cases hoj:ob j with
   |gone=>rw [hoj]at ho;exact ⟨e1.trans ho.1,e2.trans ho.2⟩
   |box t ds=>
    rw [hoj]at ho;obtain ⟨b,vs,h1,h2,h3,h4,h5⟩:=ho;exact ⟨b,vs,h1,e1.trans h2,e2.trans h3,h4,h5.mono fun x u _ hx=>AVR.less hx rfl d⟩
   |map kk vk kv=>
    rw [hoj]at ho;obtain ⟨b,es,c,h1,h2,h3,h4⟩:=ho;exact ⟨b,es,c,h1,e1.trans h2,e2.trans h3,h4⟩
   |row e' m' xs' d'=>
    rw [hoj]at ho;obtain ⟨l,m,L',p1,p2,p3⟩:=ho;refine ⟨l,m,L',p1,p2,?_⟩;rw [e1,e2];rcases p3 with p3|⟨q1,q2,q3,q4⟩|⟨q1,q2,q3,q4⟩
    .exact .inl p3
    .exact .inr (.inl ⟨q1,q2,q3,fun b mb hb=>q4 b mb (a b hb).1⟩)
    .exact .inr (.inr ⟨q1,q2,q3,fun b mb hb=>q4 b mb (a b hb).1⟩)
 .by_cases hj:j=k
  .subst hj;simp [g1,upd]
  .have:=hI.nodup j;simpa [g1,upd,hj]using this
 .exact hI.apart i j f x (hO i x mx).2 (hO j x mj).2
 .rw [ZP _ _ (hO j x mx).1];exact hI.plain j x (hO j x mx).2
 .rw [AW,cell_of_row w b j vs.toArray t (0,0) h4];simpa using hj
theorem Zs5 [NW] {ob:Nat->Ob}(hI:HI W g ob w) {k e m:Nat}{xs:List (List CT)}(hk:ob k=.row e m xs 0):∃L,RC w (.sl e m xs) (g.val k) L/\∀b∈L,¬g.own b:=by
 obtain ⟨hm,cs,L1,o1,o2,o3,o5⟩:=hI.deep hk;obtain ⟨A,cap,L0,s1,s2,s3,s4,s5⟩:=Sl.row o1;refine ⟨L0++L1,⟨A,cap,cs,L0,L1,s1,s2,s3,rfl,hm,s4,o2⟩,fun b mb=>?_⟩
 rcases A3.1 mb with m1|m1
 .rcases o5 with ⟨q,_⟩|⟨q,_⟩|⟨_,_,_,q⟩
  .omega
  .omega
  .exact q b (s5.subset m1)
 .exact o3 b m1
theorem REs.dropS {m:Nat}:∀{xs:List (List CT)}{cs:List Value}{L:List Nat}(l:Nat),REs w m xs cs L->∃L',REs w m (xs.drop l) (cs.drop (l*m)) L'/\L'.Sublist L
 |xs,cs,L,0,h=>⟨L,by simpa using h,AH _⟩
 | [],cs,L,l+1,h=>⟨[],by obtain ⟨rfl,rfl⟩:=h;simp [REs],AR _⟩
 |x::r,_,_,l+1,⟨c1,c2,L1,L2,rfl,rfl,h3,h4⟩=>by
  obtain ⟨L',h5,h6⟩:=REs.dropS l h4;refine ⟨L',?_,h6.trans (Bl _ _)⟩;have e:(l+1)*m=c1.length+l*m:=by rw [h3.2,AB];omega
  have e2:(c1++c2).drop (c1.length+l*m)=c2.drop (l*m):=by
   rw [Ah,Aj (BC _ _),BE,Ak]
  rw [e,e2];simpa using h5
theorem ZxT [NW] (htt:∀t i,tt t=some i->TOk P t i) (hI:HI W g st.ob w) (hU:StU U st) (c:¬U key) {t k e m d l:Nat}{xs:List (List CT)}(hk:st.ob k=.row e m xs d) (E:¬d=0) (a:Zky (tt t)=m) {lo:Option SV}{vx:Value}{vlo:Option Value}(hl:loB xs.length lo=some l) (hx:SVR g w (.p false [.row k]) vx)
  (F:Zne g w lo vlo) {s:Sem Next} (hs:s=(do pure (.value (<-Instr.sliceAt t vx vlo none none)))):Fin P W U key st g w s (.p false [.row key],[(k,.gone),(key,.row e m (xs.drop l) d)]):=by
 obtain ⟨hm,cs,L,o1,o2,o3,o4,o5⟩:=hI.deepO hk E;have hv:=Zgn hx;subst hv;obtain ⟨A,cap,hv,G,hcm⟩:=QP o1;obtain ⟨b1,b2,_⟩:=ZiY (P:=P) (w:=w) (g:=g) (b:=true) (len:=xs.length) (cap:=cap) (h:=xs.length) (hi:=none) (vhi:=none) rfl hl F trivial G;obtain ⟨e',b',z',H⟩:∃e' b' z',tt t=some (.slice e' m b' z'):=by
  unfold Zky at a;split at a
  .rename_i h1;subst a;exact ⟨_,_,_,h1⟩
  .omega
 obtain ⟨hu,_,_,⟨ie,zv,I,J,_⟩,_⟩:=htt t _ H;have hO:g.O k=(Value.slice A xs.length cap).ownBlock.toList:=by rw [o4,hv]
 have f:=o1;rw [hv]at f;obtain ⟨t1,t2⟩:=Zug (l:=l) f b2;generalize hw:(Value.slice (if cap=l then A else A.map (·.add (l*m))) (xs.length - l) (cap - l))=v' at t1 t2
 have u:s.run P w=.ok (.value v') w:=by
  subst hs;have:(Instr.sliceAt t (.slice A xs.length cap) vlo none none).run P w=.ok v' w:=by
   rw [<-hw];simp [Instr.sliceAt,YC hu,Instr.slice,b1,XX I,J]
  rw [hv];simp only[Sem.run_bind,this,Result.andThen_ok,Sem.run_pure]
 obtain ⟨M,r1,r2⟩:=o2.dropS l;have K:U k:=Classical.byContradiction fun hn=>by have:=hU.gone _ hn;rw [hk]at this;simp at this
 have x:∀b∈(if d=2 then M else []),b∈g.D k:=fun b mb=>by
  split at mb
  .rename_i hd;rcases o5 with ⟨_,q⟩|⟨q,_⟩
   .rw [q];exact r2.subset mb
   .omega
  .simp at mb
 have z:(xs.drop l).length=xs.length - l:=by simp
 obtain ⟨i1,i2⟩:=hI.turn (key:=key) (U:=U) (w':=w) (v:=v') (O:=v'.ownBlock.toList) (D:=if d=2 then M else []) (o:=.row e m (xs.drop l) d) hU.ob c [k]
  (fun j mj=>by simp at mj;subst mj;exact K) hI.below (A9 _) (fun b hb hn=>rfl)
  (fun b mb=>.inl ⟨k,yG,by rw [hO,<-t2];exact mb⟩)
  (fun b mb=>.inl ⟨k,yG,A3.2 (.inr (x b mb))⟩)
  (by
   have hn:=hI.nodup k;refine hn.sublist (AM (by rw [hO,<-t2];exact AH _) ?_)
   split
   .rename_i hd;rcases o5 with ⟨_,q⟩|⟨q,_⟩
    .rw [q];exact r2
    .omega
   .exact AR _)
  (fun b mb=>by
   have B:b∈g.O k++g.D k:=by
    rcases A3.1 mb with mb|mb
    .exact A3.2 (.inl (by rw [hO,<-t2];exact mb))
    .exact A3.2 (.inr (x b mb))
   obtain ⟨p1,p2⟩:=hI.plain k b B;exact ⟨p1,p2.of (by rw [hk];rfl)⟩)
  (fun hown=>⟨hm,cs.drop (l*m),M,by simp only[Gh.turn,ZF];rw [z];exact t1,r1,by
   rcases o5 with ⟨q,_⟩|⟨q,_⟩
   .exact .inl ⟨q,by simp [Gh.turn,ZF],by simp [Gh.turn,q]⟩
   .refine .inr (.inl ⟨q,by simp [Gh.turn,ZF],by simp [Gh.turn,q],fun b mb ho=>?_⟩)
    rcases ZfA ho with mo|⟨j,_,_,mj⟩|hz
    .exact o3 b (r2.subset mb) (.inl ⟨k,by rw [hO,<-t2];exact mo⟩)
    .exact o3 b (r2.subset mb) (.inl ⟨j,mj⟩)
    .exact o3 b (r2.subset mb) (.inr hz)⟩)
 have C:=Zjx (key:=key) (o:=.row e m (xs.drop l) d) hU [k] trivial;refine ⟨_,v',w,.inl u,i1,⟨_,rfl,⟨by simp [Gh.turn,ZF],?_⟩⟩,i2,fun y my=>by simp at my;subst my;exact ZkS,C.1,C.2⟩
 rw [<-hw];simp [Value.oneCell']
theorem Zvd [NW] (htt:∀t i,tt t=some i->TOk P t i) (hI:HI W g st.ob w) (hU:StU U st) (o:¬U key) {t:Nat}{x:SV}{r:SV×List (Nat×Ob)}{lo hi:Option SV}{vx:Value}{vlo vhi:Option Value}(h:Zaf st key (tt t) lo hi x=some r) (hx:SVR g w x vx)
  (a:Zne g w lo vlo) (b:Zne g w hi vhi) {s:Sem Next} (hs:s=(do pure (.value (<-Instr.sliceAt t vx vlo vhi none)))):Fin P W U key st g w s r:=by
 unfold Zaf at h;split at h
 .rename_i k;split at h
  rotate_left
  .simp at h
  split at h
  .rename_i e m xs d hk;split at h
   .rename_i u;split at h
    .rename_i f;obtain ⟨l,hl,rfl⟩:=A6.1 h;unfold mvS at f;split at f
     .have A:¬d=0:=fun e=>by subst e;simp at f
      cases vhi with
      |some _=>exact b.elim
      |none=>exact ZxT htt hI hU o hk A u hl hx a hs
     .simp at f
    obtain ⟨q,hq,h⟩:=A8.1 h;obtain ⟨l,hl,rfl⟩:=A6.1 h;obtain ⟨g1,i1,i2,i3,_⟩:=Zju hI k;rw [hk]at i1;obtain ⟨L,t1,t2⟩:=Zs5 i1 (ZF st.ob k (.row e m xs 0));have B:vx=g1.val k:=by rw [i2];exact Zgn hx
    have C:SVR g1 w (.p false [.c (.sl e m xs)]) vx:=⟨_,rfl,L,B ▸ t1,t2⟩;have D:Zne g1 w lo vlo:=by
     cases lo<;>cases vlo<;>simp only[Zne]at a ⊢
     exact a.less i2 i3
    have E:Zne g1 w hi vhi:=by
     cases hi<;>cases vhi<;>simp only[Zne]at b ⊢
     exact b.less i2 i3
    obtain ⟨cv,c1,c2,c3⟩:=ZsS (t:=t) (U:=U) (g:=g1) (P:=P) (x:=.p false [.c (.sl e m xs)]) (v:=.p false [.c (.sl e m ((xs.take q).drop l))]) htt (by simp only[Zl8,u,if_true,hq,hl,A0,Ax]) C D E
    have F:U k:=Classical.byContradiction fun hn=>by have:=hU.gone _ hn;rw [hk]at this;simp at this
    refine ⟨g1,cv,w,.inl (by rw [hs];simp only[Sem.run_bind,c1,Result.andThen_ok,Sem.run_pure]),i1,c2,fun y v _ hy=>hy.less i2 i3,c3.mono fun _=>.inl,fun j=>?_,fun j hj=>?_⟩
    .show obU _ (upd st.ob k (.row e m xs 0) j)
     by_cases z:j=k
     .subst z;rw [ZF];trivial
     .rw [ZP _ _ z];exact (hU.ob j).mono fun _=>.inl
    .show upd st.ob k (.row e m xs 0) j=_
     rw [ZP _ _ (show j≠k from fun e=>hj (.inl (e ▸ F)))];exact hU.gone j fun h=>hj (.inl h)
   .simp at h
  .simp at h
 .obtain ⟨v,hv,rfl⟩:=A6.1 h;obtain ⟨cv,c1,c2,c3⟩:=ZsS (U:=U) htt hv hx a b;exact ZaW hI hU (by rw [hs];simp only[Sem.run_bind,c1,Result.andThen_ok,Sem.run_pure]) c2 c3
 .simp at h
end
end
end
end Go.Proofs.YtlpkbfjcdaanmaaGreatDoor
