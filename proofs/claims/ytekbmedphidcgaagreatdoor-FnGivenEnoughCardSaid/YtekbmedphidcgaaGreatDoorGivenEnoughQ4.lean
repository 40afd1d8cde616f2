/- Texts of this proof, joined: S23, S25, S26, N1, N2, N3, N4, N5, S24, N15, N6, N7, N16, S27, D1, D2, D3, N8, D4, N9, D5, D9, D10, BInv, BRun, BOps1, BOps2, BOps3, BOps4, BOps5, BOps6. What each holds is said at its theorems. -/
import Derived.Test.YtekbmedphidcgaaGreatDoorGivenEnoughQ3
import Derived.Test.YtekbmedphidcgaaGreatDoorGivenEnoughQ1
import Derived.Test.YtekbmedphidcgaaGreatDoorGivenEnoughQ2
import Derived.Laws.CopyRow
import Derived.Laws.OwnMore
import Derived.Laws.StructEq
import Derived.Laws.Tables
import Derived.Great.BuildSlice
open Array renaming getElem?_eq_some_iff→B2
open Bool renaming and_eq_true→A3,false_eq_true→Ar
open ByteArray renaming size_extract→Aa
open Go.ByteArray renaming toList_eq→BR
open Int renaming toNat_natCast→AD,toNat→AG,toNat_of_nonneg→Ae,not_lt→Az,tmod_nonneg→BM,tmod_lt_of_pos→BN
open List renaming mem_append→A5,mem_flatMap→A7,getElem?_eq_some_iff→A8,getElem?_eq_getElem→A9,mem_of_getElem?→AA,mem_map→AF,mem_cons→AH,length_append→AM,eq_nil_of_length_eq_zero→AN,mem_filterMap→AO,length_cons→AP,all_eq_true→AQ,getElem?_eq_none→AR,dropLast_concat_getLast→AS,pairwise_iff_getElem→AT,mem_filter→AU,singleton_append→AW,foldl_cons→AX,nodup_cons→AY,getElem?_append_right→AZ,getElem?_cons_succ→Ab,getElem?_cons_zero→Ac,map_cons→Ad,range'→Ag,replicate→Ah,nodup_append→Ak,length_map→Al,getElem?_append_left→Am,getElem_mem→Ap,length_singleton→Aq,append_assoc→At,map_append→Au,mem_iff_getElem?→Aw,flatMap_cons→Ay,mem_of_mem_drop→B4,mem_of_mem_take→B5,filter_eq_nil_iff→B7,append_of_mem→B8,flatMap_append→B9,append_nil→BA,take_length→BB,drop_zero→BC,getElem?_map→BE,take_append_of_le_length→BF,map_map→BG,nil_append→BI,length_nil→BJ,map_flatMap→BK,take_append_drop→BO,filter_sublist→BQ,getElem?_take→BS,getElem?_drop→BT,drop_append→BU,drop_of_length_le→BV
open List.Sublist renaming refl→BP,append→BX
open List.cons renaming injEq→BH
open Nat renaming le_refl→AB,zero_add→AI,add_assoc→AK,add_mul→AL,le_trans→Af,lt_trichotomy→Aj,zero_le→Ax,and_le_right→BL
open Option renaming bind_some→A0,map_eq_some_iff→A6,bind_eq_some_iff→AE,map_some→As,isSome_none→B6
open Option.some renaming injEq→A4,inj→AJ
open Prod.mk renaming injEq→AC
open UInt8 renaming ofNat→B3
set_option linter.unusedSimpArgs false
set_option linter.unusedVariables false
set_option maxRecDepth 1000000
set_option maxHeartbeats 4000000
namespace Go.Proofs.YtekbmedphidcgaaGreatDoor
section
open Classical
theorem Zn7 {ρ:Type} {l:List Int} (hl:l.length≤1000) {fin:List Bool→Option ρ} {body:Nat→Int→List Bool→Option (List Bool ⊕ ρ)} (hb:∀i x s,body i x s=chk (s.length+1≤1073741824) (some (.inl (s++[decide (0≤x)])))):Zn body fin l 0 []=fin (l.map fun x=>decide (0≤x)):=by
 rw [Zk3 (g:=fun x=>decide (0≤x))]
 ·rfl
 ·intro j x s _ hs
  simp at hs
  rw [hb,Zi _ yE]
theorem ZmN {b:Zu} (h:ZdS b):ZdW b=some ((rdB b).map fun x=>decide (0≤x)):=by
 unfold ZdW
 have:=h.n1
 rw [ZrH h,A0,Zn7 (by rw [h.rd];omega) fun i x s=>rfl]
theorem ZJz {b:Zu} (h:ZdS b):ZIN b=some ((rdB b).map fun x=>decide (0≤x)):=by
 unfold ZIN
 have:=h.n1
 rw [ZFN h,A0,Zn7 (by rw [h.rd];omega) fun i x s=>rfl]
theorem Zkm {ρ:Type} {fin:List Zd→Option ρ} {body:Nat→Bool→List Zd→Option (List Zd ⊕ ρ)} {F:List Zd} (hF:∀f∈F,f.args.length≤1048576) (hl:F.length≤1000)
  (hb:∀i x s,body i x s=if x=true then (atI F ((i:Nat):Int)).bind fun f=>(Yl f).bind fun g=>chk (s.length+1≤1073741824) (some (.inl (s++[g]))) else some (.inl s)):
  ∀(a:List Zd) (l:List Int) (b acc:List Zd),F=b++a→l.length=a.length→acc.length≤b.length→Zn body fin (l.map fun x=>decide (0≤x)) b.length acc=fin (acc++YT a l)
 | [],[],b,acc,_,_,_=>by simp [Zn,YT]
 | [],_::_,_,_,_,e,_=>by simp at e
 | _::_,[],_,_,_,e,_=>by simp at e
 | f::a,v::l,b,acc,e,el,ha=>by
  have hf:F[b.length]?=some f:=by rw [e];simp
  have hlt:=(A8.1 hf).1
  have ih:=fun c h'=>Zkm (fin:=fin) hF hl hb a l (b++[f]) c (by rw [e];simp) (by simpa using el) h'
  simp only[AM,Aq] at ih
  rw [Ad]
  unfold YT
  by_cases hv:0≤v
  ·rw [ZV (s':=acc++[f]) (by
    rw [hb,if_pos (decide_eq_true hv),Zby,hf,A0,YB _ (hF f (AA hf)),A0,Zi _ yE]),ih _ (by simp;omega),if_pos hv]
   simp
  ·rw [ZV (s':=acc) (by rw [hb,if_neg (by simpa using hv)]),ih _ yE,if_neg hv]
theorem ZJa {ρ:Type} {fin:List Zd→Option ρ} {body:Nat→Zd→List Zd→Option (List Zd ⊕ ρ)} {L:List Bool} {N:Nat} (hN:N≤1000) {z:List Zd→ρ}
  (hb:∀i x s,body i x s=if decide (((i:Nat):Int)<((L.length:Nat):Int))=true then chk (0≤((i:Nat):Int)∧((i:Nat):Int)<((L.length:Nat):Int)) ((L[i]?).bind fun v=>if v=true then (XM x).bind fun g=>chk (s.length+1≤1073741824) (some (.inl (s++[g]))) else some (.inl s)) else some (.inr (z s))):
  ∀(a:List Zd) (l:List Int) (b:List Bool) (acc:List Zd),(∀f∈a,f.args.length≤1048576)→L=b++(l.map fun x=>decide (0≤x))→l.length=a.length→acc.length≤b.length→b.length+a.length≤N→Zn body fin a b.length acc=fin (acc++YT a l)
 | [],[],b,acc,_,_,_,_,_=>by simp [Zn,YT]
 | [],_::_,_,_,_,_,e,_,_=>by simp at e
 | _::_,[],_,_,_,_,e,_,_=>by simp at e
 | f::a,v::l,b,acc,hF,e,el,ha,hn=>by
  have hf:L[b.length]?=some (decide (0≤v)):=by rw [e];simp
  have hlt:=(A8.1 hf).1
  have ih:=fun c h'=>ZJa (fin:=fin) hN hb a l (b++[decide (0≤v)]) c (fun g mg=>hF g (by simp [mg])) (by rw [e];simp) (by simpa using el) h' (by simp at hn ⊢;omega)
  simp only[AM,Aq] at ih
  simp only[AP] at hn
  have hx:∀s,body b.length f s=if 0≤v then chk (s.length+1≤1073741824) (some (.inl (s++[f]))) else some (.inl s):=fun s=>by
   rw [hb,if_pos (decide_eq_true yE),Zi _ ⟨yE,yE⟩,hf,A0]
   by_cases hv:0≤v
   ·rw [if_pos (decide_eq_true hv),if_pos hv,Xo _ (hF f yG),A0]
   ·rw [if_neg (by simpa using hv),if_neg hv]
  unfold YT
  by_cases hv:0≤v
  ·rw [ZV (s':=acc++[f]) (by rw [hx,if_pos hv,Zi _ yE]),ih _ (by simp;omega),if_pos hv]
   simp
  ·rw [ZV (s':=acc) (by rw [hx,if_neg hv]),ih _ yE,if_neg hv]
theorem Zo3 {b:Zu} (h:ZdS b) {F:List Zd} (hF:∀f∈F,f.args.length≤1048576) (hn:b.nodes=((F.length:Nat):Int)):ZcT F b=some (YT F (rdB b)):=by
 have h1:=h.n1
 have hr:=h.rd
 unfold ZcT
 rw [ZmN h,A0]
 exact Zkm hF yE (fun i x s=>rfl) F (rdB b) [] [] rfl yE (AB _)
theorem ZJ6 {b:Zu} (h:ZdS b) {F:List Zd} (hF:∀f∈F,f.args.length≤1048576) (hn:b.nodes=((F.length:Nat):Int)):ZI0 F b=some (YT F (rdB b)):=by
 have h1:=h.n1
 have hr:=h.rd
 unfold ZI0
 rw [ZJz h,A0]
 exact ZJa (N:=F.length) yE (fun i x s=>rfl) F (rdB b) [] [] hF rfl yE (AB _) yG
theorem Yu.args {R:List Zf} {base F:List Zd} (h:Yu R base F):∀f∈F,f.args.length≤1048576:=fun f mf=>by
 have:=Xg (h.good.ok f mf)
 omega
structure ZKg (M:List Zd):Prop where
 len:M.length≤24
 ok:∀f∈M,YH f=true
theorem Yu.few {R:List Zf} {base F:List Zd} (h:Yu R base F) (l:List Int):ZKg (YT F l):=by
 have h1:=h.len
 obtain ⟨k1,k2⟩:=Zms (F:=F) (l:=l)
 exact ⟨yE,fun f mf=>h.good.ok f (k2 f mf)⟩
theorem ZIx (l:List Int) (x:Int):ZEh l x=some (ZvD l x):=Zpi l x
end
section
open Classical
theorem ZH4 {b:Zu} (h:ZdS b) (x:Int):ZDN b (rdB b) x=some (ZDU b x):=by
 unfold ZDN ZDU
 have h0:=h.n0
 have a:=h.rd
 by_cases c1:x<0
 ·rw [if_pos (decide_eq_true c1),if_neg yE]
 ·rw [if_neg (by simpa using c1)]
  by_cases c2:b.nodes≤x
  ·rw [if_pos (decide_eq_true c2),if_neg yE]
  ·rw [if_neg (by simpa using c2),ZG4 a yE yE,A0]
   by_cases c3:rdN (rdB b) x<0
   ·rw [if_pos (decide_eq_true c3),if_neg yE]
   ·rw [if_neg (by simpa using c3),if_pos ⟨yE,yE,yE⟩]
    refine ZEd (s:=()) (fin:=fun _=>some (-1)) (p:=ZHm b x) rfl fun i r mr=>?_
    unfold ZHm
    by_cases c4:r.for_=x
    ·rw [if_pos (by simpa using c4),ZF6 h mr yE,A0]
     by_cases c5:Zmr (rdB b) (rdN (rdB b) x).toNat r
     ·rw [if_pos (decide_eq_true c5),decide_eq_true (show r.for_=x∧_ from ⟨c4,c5⟩)];rfl
     ·rw [if_neg (by simpa using c5),decide_eq_false (fun hh:r.for_=x∧_=>c5 hh.2)];rfl
    ·rw [if_neg (by simpa using c4),decide_eq_false (fun hh:r.for_=x∧_=>c4 hh.1)];rfl
theorem ZHa {b:Zu} (h:ZdS b) (x:Int):ZDr b x=some (ZDU b x):=by
 unfold ZDr ZDU
 have h0:=h.n0
 have h1:=h.n1
 have a:=h.rd
 rw [ZFN h,A0,ZuV yE yE,Zgf,A0]
 by_cases c1:0≤x∧x<b.nodes
 ·rw [if_pos (by simp;omega),Zi _ ⟨yE,yE⟩]
  have hg:=ZG4 a c1.1 yE
  unfold atI at hg
  rw [if_pos c1.1] at hg
  rw [hg,A0]
  by_cases c3:rdN (rdB b) x<0
  ·rw [if_pos (decide_eq_true c3),if_neg yE]
  ·rw [if_neg (by simpa using c3),if_pos ⟨c1.1,c1.2,yE⟩]
   refine ZEd (s:=()) (fin:=fun _=>some (-1)) (p:=ZHm b x) rfl fun i r mr=>?_
   unfold ZHm
   by_cases c4:r.for_=x
   ·rw [if_pos (by simpa using c4),ZHu h mr yE,A0]
    by_cases c6:r.inn.all (ZsE (rdB b) (rdN (rdB b) x).toNat)=true
    ·rw [if_pos c6,ZIm h mr,A0]
     by_cases c7:r.outs.all (ZrW (rdB b))=true
     ·rw [if_pos c7,decide_eq_true (show r.for_=x∧_ from ⟨c4,Zll.1 ⟨c6,c7⟩⟩)];rfl
     ·rw [if_neg c7,decide_eq_false (fun hh:r.for_=x∧_=>c7 (Zll.2 hh.2).2)];rfl
    ·rw [if_neg c6,decide_eq_false (fun hh:r.for_=x∧_=>c6 (Zll.2 hh.2).1)];rfl
   ·rw [if_neg (by simpa using c4),decide_eq_false (fun hh:r.for_=x∧_=>c4 hh.1)];rfl
 ·rw [if_neg (by simp;omega),if_neg yE]
theorem ZdN.join {R:List Zg} {x y z:Int} (h:ZdN R x y) (k:ZdN R y z):ZdN R x z:=by
 induction k with
 | one h1=>exact .step h h1
 | step _ h1 ih=>exact .step ih h1
theorem ZdS.depOk {b:Zu} (h:ZdS b):Zl9 b=true:=by
 have h0:=h.n0
 unfold Zl9
 rw [A3,decide_eq_true_iff]
 refine ⟨⟨h.n0,h.n1,h.len⟩,AQ.2 fun r mr=>?_⟩
 obtain ⟨⟨f0,f1⟩,f2,f3⟩:=h.ok r mr
 rw [A3,A3,decide_eq_true_iff]
 refine ⟨⟨⟨f0,yE⟩,AQ.2 fun y my=>?_⟩,AQ.2 fun y my=>?_⟩
 ·have:=f2 y my
  rw [decide_eq_true_iff];omega
 ·have:=f3 y my
  rw [decide_eq_true_iff];omega
theorem Ze1 {b:Zu} (h:ZdS b):XI b=some true:=by
 unfold XI
 have h0:=h.n0
 have h60:=h.len
 rw [Zli h.small yE,h.valid,A0,if_pos rfl]
 unfold ZaL
 rw [if_pos h.depOk,A0]
 obtain ⟨hS,hD⟩:=Zty (n:=b.nodes.toNat) (R:=b.reasons) (D:=fun i j=>ZdN b.reasons ((i:Nat):Int) ((j:Nat):Int)) (fun r mr=>by
   obtain ⟨⟨f0,f1⟩,f2,f3⟩:=h.ok r mr
   exact ⟨f1,fun y my=>(f2 y my).2,fun y my=>(f3 y my).2⟩) (fun r mr y my=>by
   obtain ⟨⟨f0,f1⟩,f2,f3⟩:=h.ok r mr
   have hy:0≤y:=by
    rcases my with my | my
    ·exact (f2 y my).1
    ·exact (f3 y my).1
   exact .one ⟨r,mr,yE,by rw [Ae hy];exact my⟩) (fun i k j h1 h2=>h1.join h2)
 rw [ZW (p:=fun _=>true) (r:=true)]
 ·simp
 ·intro i r mr
  rw [ZW (p:=fun _=>true) (r:=.inl ())]
  ·simp
  ·intro j y my
   obtain ⟨k1,k2⟩:=h.strat r mr y my
   obtain ⟨⟨f0,f1⟩,_,f3⟩:=h.ok r mr
   obtain ⟨y0,y1⟩:=f3 y my
   have ey:(y==r.for_)=false:=by simpa using k1
   obtain ⟨q1,q2,q3,_⟩:=hS.get y1 f1
   have hv:(Zfc b.nodes.toNat b.reasons)[y.toNat][r.for_.toNat]=false:=by
    cases hb:(Zfc b.nodes.toNat b.reasons)[y.toNat][r.for_.toNat] with
    | false=>rfl
    | true=>
     have:=hD y.toNat r.for_.toNat (by rw [q3,hb])
     rw [Ae y0,Ae f0] at this
     exact absurd this k2
   rw [ey]
   simp only[Ar,if_false]
   have a1:atI (Zfc b.nodes.toNat b.reasons) y=some (Zfc b.nodes.toNat b.reasons)[y.toNat]:=by
    unfold atI
    rw [if_pos y0,A9 q1]
   have a2:atI (Zfc b.nodes.toNat b.reasons)[y.toNat] r.for_=some false:=by
    unfold atI
    rw [if_pos f0,A9 q2,hv]
   rw [a1,A0,a2,A0]
   rfl
end
section
open Classical
structure ZFl (b:Zu) (l:List Int):Prop where
 nodup:l.Nodup
 sup:∀s∈l,∃y,s=ZDU b y∧0≤ZDU b y
theorem ZIt (b:Zu):ZFl b []:=⟨List.nodup_nil,by simp⟩
theorem ZFl.len {b:Zu} (h:ZdS b) {l:List Int} (g:ZFl b l):l.length≤60:=Af (ZIu g.nodup g.sup) h.len
theorem ZGy {b:Zu} (h:ZdS b) {sup:Int→Option Int} {d:List Int→Int→Option Bool} (hs:∀x,sup x=some (ZDU b x)) (hh:∀l s,d l s=some (ZvD l s)):
  ∀(n:Nat) (x:Int) (l:List Int),(rdN (rdB b) x).toNat<n→ZFl b l→∃r,ZDY sup d b n x l=some r∧ZFC b n x l=some r∧ZFl b r
 | 0,_,_,hx,_=>by omega
 | n+1,x,l,hx,hg=>by
  obtain ⟨r,e1,e2,e3,e4⟩:=ZFo b (n+1) x l hx
  have hr:ZFl b r:=⟨e2.nodup hg.nodup,fun s ms=>(e2.new s ms).elim (hg.sup s) (fun ⟨y,a,c,_⟩=>⟨y,a,c⟩)⟩
  refine ⟨r,?_,e1,hr⟩
  rw [ZDY,hs,A0]
  unfold ZFC at e1
  rw [ZED] at e1
  by_cases h1:ZDU b x<0
  ·rw [if_pos (decide_eq_true h1)]
   rw [if_pos (.inl h1)] at e1
   exact e1
  ·rw [if_neg (by simpa using h1),hh,A0]
   by_cases h2:ZDU b x∈l
   ·rw [if_pos (Zoz.2 h2)]
    rw [if_pos (.inr h2)] at e1
    exact e1
   ·rw [if_neg (by rw [Zoz];exact h2)]
    rw [if_neg (fun a=>a.elim h1 h2)] at e1
    have h0:0≤ZDU b x:=by omega
    obtain ⟨_,_,_,q,hq,_,_⟩:=ZEA h0
    have hi:ZHe b (ZDU b x)=q.inn:=by unfold ZHe;rw [hq];rfl
    have e:∀(ys l:List Int),(∀y∈ys,(rdN (rdB b) y).toNat<n)→ZFl b l→∃t,goO (ZDY sup d b n) ys l=some t∧goP (ZED (ZDU b) (ZHe b) n) ys l=some t∧ZFl b t:=by
     intro ys
     induction ys with
     | nil=>intro l _ g;exact ⟨l,rfl,rfl,g⟩
     | cons y ys ih=>
      intro l hy g
      obtain ⟨u,u1,u2,u3⟩:=ZGy h hs hh n y l (hy y yG) g
      obtain ⟨t,t1,t2,t3⟩:=ih u (fun z hz=>hy z (by simp [hz])) u3
      unfold ZFC at u2
      exact ⟨t,by rw [goO,u1,A0,t1],by rw [goP,u2,A0,t2],t3⟩
    rw [hq,A0]
    rw [hi] at e1
    obtain ⟨t,t1,t2,t3⟩:=e q.inn l (fun y my=>by have:=ZHq h0 y (by rw [hi];exact my);omega) hg
    rw [t2] at e1
    rw [t1,A0,if_pos (by have:=t3.len h;omega)]
    exact e1
structure ZFZ (b:Zu) (x:Int) (l:List Int):Prop where
 good:ZFl b l
 ord:ZGJ (ZDU b) (ZHe b) l
 none:ZDU b x<0→l=[]
 last:0≤ZDU b x→∃t,l=t++[ZDU b x]
theorem ZGw {b:Zu} (h:ZdS b) {sup:Int→Option Int} {a:List Int→Int→Option Bool} (hs:∀x,sup x=some (ZDU b x)) (hh:∀l s,a l s=some (ZvD l s)) (x:Int):
  ∃r,ZDY sup a b ((((rdB b)[x.toNat]?).getD 0).toNat+1) x []=some r∧ZFC b ((((rdB b)[x.toNat]?).getD 0).toNat+1) x []=some r∧ZFZ b x r:=by
 have hx:(rdN (rdB b) x).toNat<(((rdB b)[x.toNat]?).getD 0).toNat+1:=by
  unfold rdN
  cases (rdB b)[x.toNat]? with
  | none=>simp
  | some v=>simp
 obtain ⟨r,r1,r2,r3⟩:=ZGy h hs hh _ x [] hx (ZIt b)
 obtain ⟨r',e1,e2,e3,e4⟩:=ZFo b _ x [] hx
 obtain rfl:r=r':=by rw [r2] at e1;exact AJ e1
 refine ⟨r,r1,r2,r3,e2.ord (ZGJ.nil _ _),fun hn=>?_,fun h0=>e4 h0 yG⟩
 unfold ZFC at r2
 rw [ZED,if_pos (.inl hn)] at r2
 exact (AJ r2).symm
theorem ZFn {b:Zu} (h:ZdS b) (x:Int):∃l,ZDD b x=some l∧ZDF b x=some l∧ZFZ b x l:=by
 obtain ⟨r,r1,r2,r3⟩:=ZGw h (ZH4 h) Zpi x
 obtain ⟨r',q1,q2,_⟩:=ZGw h (ZHa h) ZIx x
 obtain rfl:r=r':=by rw [r2] at q2;exact AJ q2
 refine ⟨r,?_,?_,r3⟩
 ·unfold ZDD
  rw [Ze1 h,A0,if_pos rfl,ZrH h,A0]
  exact r1
 ·unfold ZDF
  rw [ZFN h,A0]
  exact q1
end
section
open Classical
structure ZJN (n:Nat) (R:List Zg) (L:List Int) (s:Int) (row:List Int) (k:Nat):Prop where
 rin:RIn n row k
 low:∀x:Nat,0≤rdN row ((x:Nat):Int)→lvN L x<s
 supp:∀x:Nat,0≤rdN row ((x:Nat):Int)→∃r∈R,r.for_.toNat=x∧(∀y∈r.inn,0≤rdN row y∧rdN row y<rdN row ((x:Nat):Int))∧∀y∈r.outs,rdN row y<0
 clos:∀r∈R,lvN L r.for_.toNat<s→(∀y∈r.inn,0≤rdN row y)→(∀y∈r.outs,rdN row y<0)→0≤rdN row r.for_
theorem ZJp (row:List Int) (y:Int):rdN row y=rdN row ((y.toNat:Nat):Int):=by unfold rdN;rw [AD]
theorem ZJ8 {row l:List Int} {k:Nat} {y:Int} (hl:y.toNat<row.length):rdN (ZjJ row l ((k:Nat):Int)) y=if ∃x∈l,x.toNat=y.toNat then ((k:Nat):Int) else rdN row y:=by
 unfold rdN
 rw [Zq7]
 by_cases hc:∃x∈l,x.toNat=y.toNat
 ·rw [if_pos ⟨hc,hl⟩,if_pos hc];rfl
 ·rw [if_neg fun h=>hc h.1,if_neg hc]
theorem ZJV {row:List Int} {y:Int} (hl:¬y.toNat<row.length):rdN row y=-1:=by
 unfold rdN
 rw [AR yE]
 rfl
structure ZJ3 (n:Nat) (R:List Zg) (L:List Int) (s:Int) (row:List Int) (k:Nat):Prop where
 rin:RIn n row k
 low:∀x:Nat,0≤rdN row ((x:Nat):Int)→lvN L x≤s
 supp:∀x:Nat,0≤rdN row ((x:Nat):Int)→∃r∈R,r.for_.toNat=x∧(∀y∈r.inn,0≤rdN row y∧rdN row y<rdN row ((x:Nat):Int))∧∀y∈r.outs,rdN row y<0
 clos:∀r∈R,lvN L r.for_.toNat<s→(∀y∈r.inn,0≤rdN row y)→(∀y∈r.outs,rdN row y<0)→0≤rdN row r.for_
theorem RIn.lt {n:Nat} {row:List Int} {k:Nat} (h:RIn n row k) (y:Int) (h0:0≤rdN row y):y.toNat<n∧rdN row y<((k:Nat):Int):=by
 by_cases hl:y.toNat<n
 ·obtain ⟨v,hv,hv2⟩:=h.val y.toNat hl
  have e:rdN row y=v:=by unfold rdN;rw [hv];rfl
  rw [e] at h0 ⊢
  exact ⟨hl,yE⟩
 ·rw [ZJV (by rw [h.len];exact hl)] at h0
  omega
theorem ZJ3.next {n:Nat} {R:List Zg} {L:List Int} {s:Int} {row:List Int} {k:Nat} (hR:∀r∈R,OkN n r) (hL:Zjk R (lvN L)) (h:ZJ3 n R L s row k) (hc:Q2 R L s row k≠[]):ZJ3 n R L s (ZjJ row (Q2 R L s row k) ((k:Nat):Int)) (k+1):=by
 have d:=(h.rin.next hR hc).1
 have hlen:=h.rin.len
 have a:∀y:Int,y.toNat<n→rdN (ZjJ row (Q2 R L s row k) ((k:Nat):Int)) y=if ∃x∈Q2 R L s row k,x.toNat=y.toNat then ((k:Nat):Int) else rdN row y:=fun y hy=>ZJ8 yE
 have f:∀y:Int,(∃x∈Q2 R L s row k,x.toNat=y.toNat)→lvN L y.toNat=s∧rdN row y<0:=fun y ⟨x,mx,e⟩=>by
  obtain ⟨r,mr,e2,h1,h2,_⟩:=ZiD.1 mx
  rw [←e]
  refine ⟨h1,?_⟩
  rw [ZJp row y,←e,←ZJp]
  exact h2
 have up:∀y:Int,0≤rdN row y→rdN (ZjJ row (Q2 R L s row k) ((k:Nat):Int)) y=rdN row y:=fun y hy=>by
  have hl:=(h.rin.lt y hy).1
  rw [a y hl,if_neg fun hx=>by have:=(f y hx).2;omega]
 have dn:∀y:Int,y.toNat<n→lvN L y.toNat<s→rdN (ZjJ row (Q2 R L s row k) ((k:Nat):Int)) y=rdN row y:=fun y hl hy=>by
  rw [a y hl,if_neg fun hx=>by have:=(f y hx).1;omega]
 refine ⟨d,fun x hx=>?_,fun x hx=>?_,fun r mr hs hi ho=>?_⟩
 ·have hl:=(d.lt _ hx).1
  rw [AD] at hl
  rw [a _ (by simpa using hl)] at hx
  split at hx
  ·rename_i c
   have:=(f ((x:Nat):Int) c).1
   rw [AD] at this
   omega
  ·exact h.low x hx
 ·have hl:=(d.lt _ hx).1
  rw [AD] at hl
  by_cases c:∃y∈Q2 R L s row k,y.toNat=x
  ·obtain ⟨y,my,e⟩:=c
   obtain ⟨r,mr,rfl,h1,h2,h3,h4⟩:=ZiD.1 my
   have hk:rdN (ZjJ row (Q2 R L s row k) ((k:Nat):Int)) ((x:Nat):Int)=((k:Nat):Int):=by
    rw [a _ (by simpa using hl),if_pos ⟨r.for_,my,by simpa using e⟩]
   refine ⟨r,mr,e,fun y b=>?_,fun y b=>?_⟩
   ·obtain ⟨k1,k2⟩:=h3 y b
    rw [up y k1,hk]
    exact ⟨k1,k2⟩
   ·have hy:=(hR r mr).2.2 y b
    have:=hL.outs r mr y b
    rw [dn y hy.2 yE]
    exact h4 y b
  ·have e:rdN (ZjJ row (Q2 R L s row k) ((k:Nat):Int)) ((x:Nat):Int)=rdN row ((x:Nat):Int):=by
    rw [a _ (by simpa using hl),if_neg (by simpa using c)]
   rw [e] at hx ⊢
   obtain ⟨r,mr,e2,h3,h4⟩:=h.supp x hx
   refine ⟨r,mr,e2,fun y my=>?_,fun y my=>?_⟩
   ·obtain ⟨k1,k2⟩:=h3 y my
    rw [up y k1]
    exact ⟨k1,k2⟩
   ·have hy:=(hR r mr).2.2 y my
    have h5:=hL.outs r mr y my
    have h6:=h.low x hx
    rw [e2] at h5
    rw [dn y hy.2 yE]
    exact h4 y my
 ·have g:∀y∈r.inn,0≤rdN row y:=fun y my=>by
   have hy:=(hR r mr).2.1 y my
   have h5:=hL.inn r mr y my
   have:=hi y my
   rwa [dn y hy.2 yE] at this
  have i:∀y∈r.outs,rdN row y<0:=fun y my=>by
   have hy:=(hR r mr).2.2 y my
   have h5:=hL.outs r mr y my
   have:=ho y my
   rwa [dn y hy.2 yE] at this
  have:=h.clos r mr hs g i
  rw [up _ this]
  exact this
theorem ZJq {n:Nat} {R:List Zg} {L:List Int} {s:Int} (hR:∀r∈R,OkN n r) (hL:Zjk R (lvN L)):∀(f:Nat) (row:List Int) (k:Nat),ZJ3 n R L s row k→Ze8 row≤f→ZJ3 n R L s (Zbr R L s f row k).1 (Zbr R L s f row k).2
 | 0,row,k,h,hf=>h
 | f+1,row,k,h,hf=>by
  unfold Zbr
  by_cases hc:Q2 R L s row k=[]
  ·rw [if_pos hc];exact h
  ·rw [if_neg hc]
   exact ZJq hR hL f _ _ (h.next hR hL hc) (by have:=(h.rin.next hR hc).2;omega)
theorem ZJN.level {n:Nat} {R:List Zg} {L:List Int} {s:Int} {row:List Int} {k:Nat} (hR:∀r∈R,OkN n r) (hL:Zjk R (lvN L)) (h:ZJN n R L s row k):ZJN n R L (s+1) (Zbr R L s n row k).1 (Zbr R L s n row k).2:=by
 have hu:Ze8 row≤n:=by have:=h.rin.few;omega
 have hm:ZJ3 n R L s row k:=⟨h.rin,fun x hx=>by have:=h.low x hx;omega,h.supp,h.clos⟩
 have h1:=ZJq hR hL n row k hm hu
 have h2:=(Zhk (L:=L) (s:=s) hR n row k h.rin hu).2
 refine ⟨h1.rin,fun x hx=>by have:=h1.low x hx;omega,h1.supp,fun r mr hs hi ho=>?_⟩
 by_cases e:lvN L r.for_.toNat=s
 ·refine Classical.byContradiction fun hn=>?_
  have:r.for_∈Q2 R L s (Zbr R L s n row k).1 (Zbr R L s n row k).2:=ZiD.2 ⟨r,mr,rfl,e,yE,fun y my=>⟨hi y my,(h1.rin.lt y (hi y my)).2⟩,ho⟩
  rw [h2] at this
  simp at this
 ·exact h1.clos r mr yE hi ho
theorem ZJd {n:Nat} {R:List Zg} {L:List Int} (hR:∀r∈R,OkN n r) (hL:Zjk R (lvN L)):∀(d s:Nat) (st:List Int × Nat),ZJN n R L ((s:Nat):Int) st.1 st.2→ZJN n R L ((s+d:Nat):Int) (QM R L n (Ag s d) st).1 (QM R L n (Ag s d) st).2
 | 0,_,_,h=>h
 | d+1,s,st,h=>by
  have h1:ZJN n R L ((s+1:Nat):Int) (Zbr R L ((s:Nat):Int) n st.1 st.2).1 (Zbr R L ((s:Nat):Int) n st.1 st.2).2:=by
   have:=h.level hR hL
   rwa [show ((s:Nat):Int)+1=((s+1:Nat):Int) by omega] at this
  have:=ZJd hR hL d (s+1) _ h1
  rwa [show s+1+d=s+(d+1) by omega] at this
theorem ZdS.end {b:Zu} (h:ZdS b):(∀x:Nat,0≤rdN (rdB b) ((x:Nat):Int)→∃r∈b.reasons,r.for_.toNat=x∧(∀y∈r.inn,0≤rdN (rdB b) y∧rdN (rdB b) y<rdN (rdB b) ((x:Nat):Int))∧∀y∈r.outs,rdN (rdB b) y<0)∧∀r∈b.reasons,(∀y∈r.inn,0≤rdN (rdB b) y)→(∀y∈r.outs,rdN (rdB b) y<0)→0≤rdN (rdB b) r.for_:=by
 obtain ⟨hL,hv⟩:=h.lv
 have none:∀y:Int,rdN (Ah b.nodes.toNat (-1)) y=-1:=fun y=>by
  unfold rdN
  by_cases hy:y.toNat<b.nodes.toNat
  ·simp [hy]
  ·rw [AR (by simp;omega)];rfl
 have a:ZJN b.nodes.toNat b.reasons (lvB b) ((0:Nat):Int) (Ah b.nodes.toNat (-1),0).1 (Ah b.nodes.toNat (-1),0).2:=⟨Zl5 _,fun x hx=>by rw [none] at hx;omega,fun x hx=>by rw [none] at hx;omega,fun r mr hs=>by have:=(hv r.for_.toNat).1;omega⟩
 have hE:=ZJd h.ok hL.sol b.nodes.toNat 0 _ a
 have e:rdB b=(QM b.reasons (lvB b) b.nodes.toNat (Ag 0 b.nodes.toNat) (Ah b.nodes.toNat (-1),0)).1:=by unfold rdB;rw [List.range_eq_range']
 rw [←e] at hE
 refine ⟨hE.supp,fun r mr=>hE.clos r mr ?_⟩
 have:=hv r.for_.toNat
 have:=(h.ok r mr).1.2
 omega
end
section
open Classical
theorem ZJZ {M F:List Zd}:∀n (l:List Zr),l.length=n→(∀x∈l,¬x.kind=2)→∀t∈ZM l F,(∀f∈t.facts,f∈M)→t∈ZM l M:=by
 intro n
 induction n with
 | zero=>
  intro l h _ t mt _
  rw [AN h] at mt ⊢
  exact mt
 | succ n ih=>
  intro l h hk
  obtain ⟨p,x,rfl⟩:∃p x,l=p++[x]:=⟨l.dropLast,l.getLast (by intro e;simp [e] at h),(AS _).symm⟩
  intro t mt hf
  rw [ZaR] at mt ⊢
  obtain ⟨s,ms,mt⟩:=A7.1 mt
  have hx:=hk x yG
  unfold ZgR at mt
  by_cases h1:x.kind=1
  ·rw [if_pos h1] at mt
   obtain ⟨g,mg,hg⟩:=AO.1 mt
   obtain ⟨b,hb,rfl⟩:=A6.1 hg
   have hs:=ih p (by simpa using h) (fun y my=>hk y (by simp [my])) s ms fun f mf=>hf f (by simp [mf])
   refine A7.2 ⟨s,hs,?_⟩
   unfold ZgR
   rw [if_pos h1]
   exact AO.2 ⟨g,hf g yG,by rw [hb];rfl⟩
  ·rw [if_neg h1] at mt
   have hh:∀G,ZfV x s.binding G=ZfV x s.binding F:=fun G=>by
    unfold ZfV
    simp only[if_neg h1,if_neg hx]
   split at mt
   ·rename_i hb
    simp at mt;subst mt
    have hs:=ih p (by simpa using h) (fun y my=>hk y (by simp [my])) t ms hf
    refine A7.2 ⟨t,hs,?_⟩
    unfold ZgR
    rw [if_neg h1,hh,if_pos hb]
    simp
   ·simp at mt
theorem ZKc {R:List Zf} {r:Zf} {M F:List Zd} {t:Zt} (mt:t∈ZM (QZ r) F) (hf:∀f∈t.facts,f∈M):t∈ZM (QZ r) M:=ZJZ _ (QZ r) rfl Zsm t mt hf
theorem ZKa {r:Zf} {F:List Zd} {t:Zt} (mt:t∈ZM (QZ r) F):∀f∈t.facts,f∈F:=(Zec F _ t mt).sub
structure ZOt (R:List Zf) (base M:List Zd):Prop where
 giv:∀f∈base,f∈M
 clos:∀r∈R,∀t∈ZM (QZ r) M,(∀g∈Zqu r t,g∉M)→∀a∈r.thn,Z7 a t∈M
 supp:∃rank:Zd→Nat,∀f∈M,f∈base∨∃r∈R,∃t∈ZM (QZ r) M,∃a∈r.thn,Z7 a t=f∧(∀g∈t.facts,rank g<rank f)∧∀g∈Zqu r t,g∉M
theorem Zmw {f:Zd}:∀{F:List Zd} {l:List Int},l.length=F.length→(f∈YT F l↔∃i,F[i]?=some f∧0≤rdN l ((i:Nat):Int))
 | [],l,_=>by simp [YT]
 | g::F,[],h=>by simp at h
 | g::F,v::l,h=>by
  have ih:=Zmw (f:=f) (F:=F) (l:=l) (by simpa using h)
  have sh:∀i:Nat,rdN (v::l) ((i+1:Nat):Int)=rdN l ((i:Nat):Int):=fun i=>by unfold rdN;rw [AD,AD];simp
  have s0:rdN (v::l) ((0:Nat):Int)=v:=by unfold rdN;rfl
  have key:(∃i,(g::F)[i]?=some f∧0≤rdN (v::l) ((i:Nat):Int))↔(g=f∧0≤v)∨∃i,F[i]?=some f∧0≤rdN l ((i:Nat):Int):=by
   constructor
   ·rintro ⟨i,h1,h2⟩
    cases i with
    | zero=>rw [s0] at h2;exact .inl ⟨by simpa using h1,h2⟩
    | succ i=>rw [sh] at h2;exact .inr ⟨i,by simpa using h1,h2⟩
   ·rintro (⟨h1,h2⟩ | ⟨i,h1,h2⟩)
    ·exact ⟨0,by simp [h1],by rw [s0];exact h2⟩
    ·exact ⟨i+1,by simpa using h1,by rw [sh];exact h2⟩
  rw [key]
  unfold YT
  by_cases hv:0≤v
  ·rw [if_pos hv,AH,ih]
   constructor
   ·rintro (h | h)
    ·exact .inl ⟨h.symm,hv⟩
    ·exact .inr h
   ·rintro (⟨h,_⟩ | h)
    ·exact .inl h.symm
    ·exact .inr h
  ·rw [if_neg hv,ih]
   constructor
   ·exact .inr
   ·rintro (⟨_,h⟩ | h)
    ·exact absurd h hv
    ·exact h
theorem ZN8 {F:List Zd} {f g:Zd} (hf:f∈F) (hg:g∈F) (h:Z9 F f=Z9 F g):f=g:=by
 obtain ⟨i,h1,h2⟩:=Zgc hf
 obtain ⟨j,h3,h4⟩:=Zgc hg
 have:i=j:=by omega
 subst this
 rw [h2] at h4
 exact AJ h4
theorem Zm3 {F:List Zd} (hF:F.Nodup) {j:Nat} {f:Zd} (h:F[j]?=some f):Z9 F f=((j:Nat):Int):=by
 obtain ⟨k,h1,h2⟩:=Zgc (AA h)
 obtain ⟨hj,ej⟩:=A8.1 h
 obtain ⟨hk,ek⟩:=A8.1 h2
 have:k=j:=by
  rcases Aj k j with hl | hl | hl
  ·exact absurd (ek.trans ej.symm) (AT.1 hF k j hk hj hl)
  ·exact hl
  ·exact absurd (ej.trans ek.symm) (AT.1 hF j k hj hk hl)
 rw [h1,this]
theorem ZtX {F:List Zd} (hF:F.Nodup) {l:List Int} (hl:l.length=F.length) {f:Zd}:f∈YT F l↔f∈F∧0≤rdN l (Z9 F f):=by
 rw [Zmw hl]
 constructor
 ·rintro ⟨i,h1,h2⟩
  exact ⟨AA h1,by rw [Zm3 hF h1];exact h2⟩
 ·rintro ⟨h1,h2⟩
  obtain ⟨j,h3,h4⟩:=Zgc h1
  exact ⟨j,h4,by rw [←h3];exact h2⟩
theorem ZOr {R:List Zf} {base F:List Zd} (h:Yu R base F) {rs:List Zg} {c:List Zd} (hB:ZdS { nodes:=((F.length:Nat):Int),reasons:=rs })
  (k:∀x,x∈rs↔(∃f∈c,x={ for_:=Z9 F f,inn:=[],outs:=[] })∨∃r∈R,∃t∈ZM (QZ r) F,∃a∈r.thn,x=Z6 F r t a) (hg:∀f∈c,f∈F):ZOt R c (YT F (rdB { nodes:=((F.length:Nat):Int),reasons:=rs })):=by
 obtain ⟨e1,e2⟩:=hB.end
 have hF:=Zg2 h.good.asc
 have hl:=hB.rd
 generalize rdB { nodes:=((F.length:Nat):Int),reasons:=rs }=rd at e1 e2 hl
 simp only[AD] at hl
 have hm:∀f,f∈YT F rd↔f∈F∧0≤rdN rd (Z9 F f):=fun f=>ZtX hF hl
 have d:∀f∈F,((Z9 F f).toNat:Int)=Z9 F f:=fun f mf=>by
  obtain ⟨j,h1,_⟩:=Zgc mf
  omega
 refine ⟨fun f mf=>?_,fun r mr t mt m a ma=>?_,fun f=>(rdN rd (Z9 F f)).toNat,fun f mf=>?_⟩
 ·rw [hm]
  exact ⟨hg f mf,e2 _ ((k _).2 (.inl ⟨f,mf,rfl⟩)) yG yG⟩
 ·have ht:∀g∈t.facts,g∈YT F rd:=ZKa mt
  have l:t∈ZM (QZ r) F:=ZKc (R:=R) mt fun g mg=>((hm g).1 (ht g mg)).1
  have i:=h.closed r mr t l a ma
  rw [hm]
  refine ⟨i,e2 _ ((k _).2 (.inr ⟨r,mr,t,l,a,ma,rfl⟩)) (fun y my=>?_) fun y my=>?_⟩
  ·obtain ⟨g,mg,e,_⟩:=((XN F t.facts).2.1 y).1 my
   rw [←e]
   exact ((hm g).1 (ht g mg)).2
  ·obtain ⟨g,mg,e,e0⟩:=((XN F (Zqu r t)).2.1 y).1 my
   have gF:g∈F:=by
    rcases Zhd F g with ⟨_,h2⟩ | ⟨j,_,h2⟩
    ·omega
    ·exact AA h2
   refine Classical.byContradiction fun hn=>m g mg ((hm g).2 ⟨gF,?_⟩)
   rw [e];omega
 ·obtain ⟨fF,f0⟩:=(hm f).1 mf
  obtain ⟨x,mx,ex,hi,ho⟩:=e1 (Z9 F f).toNat (by rw [d f fF];exact f0)
  rw [d f fF] at hi
  rcases (k x).1 mx with ⟨g,mg,rfl⟩ | ⟨r,mr,t,mt,a,ma,rfl⟩
  ·left
   have:Z9 F g=Z9 F f:=by have:=d g (hg g mg);have:=d f fF;simp only at ex;omega
   rw [←ZN8 (hg g mg) fF this]
   exact mg
  ·right
   have i:=h.closed r mr t mt a ma
   have e:Z7 a t=f:=ZN8 i fF (by
    have h1:=d _ i;have h2:=d f fF
    have ex':(Z9 F (Z7 a t)).toNat=(Z9 F f).toNat:=ex
    omega)
   have b:∀g∈t.facts,g∈YT F rd∧rdN rd (Z9 F g)<rdN rd (Z9 F f):=fun g mg=>by
    have gF:=ZKa mt g mg
    obtain ⟨j,k1,_⟩:=Zgc gF
    have my:Z9 F g∈Zaq F t.facts:=((XN F t.facts).2.1 _).2 ⟨g,mg,rfl,yE⟩
    obtain ⟨k2,k3⟩:=hi _ my
    exact ⟨(hm g).2 ⟨gF,k2⟩,k3⟩
   refine ⟨r,mr,t,ZKc (R:=R) mt fun g mg=>(b g mg).1,a,ma,e,fun g mg=>?_,fun g mg o=>?_⟩
   ·have k2:=(b g mg).2
    have k1:=((hm g).1 (b g mg).1).2
    show (rdN rd (Z9 F g)).toNat<(rdN rd (Z9 F f)).toNat
    omega
   ·obtain ⟨gF,g0⟩:=(hm g).1 o
    obtain ⟨j,k1,_⟩:=Zgc gF
    have my:Z9 F g∈Zaq F (Zqu r t):=((XN F (Zqu r t)).2.1 _).2 ⟨g,mg,rfl,yE⟩
    have:=ho _ my
    omega
theorem ZOw {R:List Zf} {base F:List Zd} (h:Yu R base F) (a:(YJ R F base).length≤60):ZOt R base (YT F (rdB { nodes:=((F.length:Nat):Int),reasons:=YJ R F base })):=
 ZOr h (ZdS.of h a) (fun _=>ZjN) h.good.inc
/- one model alone -/
end
section
open Classical
theorem ZIW {b:List Zp} (hb:ZX b=true):∀{p f:List ByteArray},p.all Yi=true→f.all ZP=true→p.length=f.length→(∀a∈p,Ye a=true→∃z,Qe b a=some z)→((ZdI p f b).isSome=true↔Zd0 p b=some f)
 | [],[],_,_,_,_=>by simp [ZdI,Zd0]
 | [],_::_,_,_,h,_=>by simp at h
 | _::_,[],_,_,h,_=>by simp at h
 | a::p,w::f,hp,hf,hl,hv=>by
  simp only[List.all_cons,A3] at hp hf
  have ih:=ZIW hb (p:=p) (f:=f) hp.2 hf.2 (by simpa using hl) fun x mx=>hv x (by simp [mx])
  obtain ⟨l,el,hll⟩:=ZkQ hp.2 fun x mx=>hv x (by simp [mx])
  by_cases ha:ZP a=true
  ·have d:Xx b a=some a:=by unfold Xx;rw [if_pos ha]
   simp only[ZdI,Zd0,if_pos ha,d,A0]
   by_cases e:a=w
   ·subst e
    rw [if_pos rfl,ih,el]
    simp
   ·rw [if_neg e,el]
    simp [e]
  ·have c:Ye a=true:=by
    have:=hp.1
    unfold Yi at this
    rw [Bool.or_eq_true] at this
    exact this.resolve_left ha
   obtain ⟨z,hz⟩:=hv a yG c
   have d:Xx b a=some z:=by rw [ZgZ c];exact hz
   have he:ZfJ b a w=if z=w then some b else none:=by
    unfold ZfJ
    rw [if_pos ⟨hb,c,hf.1⟩,hz]
   simp only[ZdI,Zd0,if_neg ha,d,A0,he]
   by_cases e:z=w
   ·subst e
    rw [if_pos rfl,A0,ih,el]
    simp
   ·rw [if_neg e,el]
    simp [e]
theorem ZI5 {p:Zv} {g:Zd} {b:List Zp} (hp:Z0 p=true) (hb:ZX b=true) (hv:∀a∈p.args,Ye a=true→∃z,Qe b a=some z) (hg:YH g=true):(Zan p g b).isSome=true↔Zba p b=some g:=by
 have c:=hp
 have d:=hg
 unfold Z0 at c
 unfold YH at d
 simp only[A3] at c d
 obtain ⟨l,el,f⟩:=ZkQ c.2 hv
 unfold Zba
 rw [if_pos ⟨hp,hb⟩,el]
 unfold Zan
 by_cases hc:Zfh p g b=true
 ·rw [if_pos hc]
  unfold Zfh at hc
  simp only[A3,decide_eq_true_eq] at hc
  rw [ZIW hb c.2 d.2 hc.2 hv,el]
  simp only[As,A4]
  constructor
  ·intro e;rw [e,hc.1.2]
  ·intro e;rw [←e]
 ·rw [if_neg hc]
  simp only[B6,Ar,As,A4,false_iff]
  intro e
  refine hc ?_
  unfold Zfh
  simp only[A3,decide_eq_true_eq]
  exact ⟨⟨⟨⟨hp,hg⟩,hb⟩,by rw [←e]⟩,by rw [←e];exact f.symm⟩
theorem ZJv {p:Zv} {b:List Zp} (hp:Z0 p=true) (hb:ZX b=true) (hv:∀a∈p.args,Ye a=true→∃z,Qe b a=some z):∃i,Zba p b=some i:=by
 have c:=hp
 unfold Z0 at c
 simp only[A3] at c
 obtain ⟨l,el,_⟩:=ZkQ c.2 hv
 unfold Zba
 rw [if_pos ⟨hp,hb⟩,el]
 exact ⟨_,rfl⟩
theorem ZJb {b c:List Zp} (h:∀u z,Qe b u=some z→Qe c u=some z):∀{p l:List ByteArray},Zd0 p b=some l→Zd0 p c=some l
 | [],_,e=>e
 | a::p,l,e=>by
  simp only[Zd0] at e ⊢
  obtain ⟨v,e1,e⟩:=AE.1 e
  obtain ⟨q,e2,rfl⟩:=A6.1 e
  have:Xx c a=some v:=by
   unfold Xx at e1 ⊢
   split at e1
   ·rename_i h1;rw [if_pos h1];exact e1
   ·rename_i h1
    rw [if_neg h1]
    split at e1
    ·rename_i h2;rw [if_pos h2];exact h _ _ e1
    ·simp at e1
  rw [this,A0,ZJb h e2]
  rfl
theorem ZJe {p:Zv} {b c:List Zp} (hc:ZX c=true) (h:∀u z,Qe b u=some z→Qe c u=some z) {i:Zd} (e:Zba p b=some i):Zba p c=some i:=by
 unfold Zba at e ⊢
 split at e
 ·rename_i h1
  rw [if_pos ⟨h1.1,hc⟩]
  obtain ⟨l,e1,rfl⟩:=A6.1 e
  rw [ZJb h e1]
  rfl
 ·simp at e
theorem ZJQ {x:Zr} {b:List Zp} {M:List Zd} (hk:x.kind=2) (hc:Yz x=true) (hb:ZX b=true) (hv:∀a∈x.pattern.args,Ye a=true→∃z,Qe b a=some z) (hM:∀f∈M,YH f=true):ZfV x b M=true↔(Zce (Zba x.pattern b)).1∉M:=by
 have hp:Z0 x.pattern=true:=by
  unfold Yz at hc
  rw [if_pos (.inr hk)] at hc
  simp only[A3] at hc
  exact hc.1.1
 obtain ⟨i,hi⟩:=ZJv hp hb hv
 have e1:(Zce (Zba x.pattern b)).1=i:=by rw [hi];rfl
 have h1:¬x.kind=1:=by omega
 unfold ZfV
 rw [if_pos ⟨hc,hb⟩,if_neg h1,if_pos hk,decide_eq_true_iff,e1]
 unfold Zcu
 rw [List.length_eq_zero_iff,B7]
 constructor
 ·intro h mi
  exact h i mi ((ZI5 hp hb hv (hM i mi)).2 hi)
 ·intro h g mg hs
  have:=(ZI5 hp hb hv (hM g mg)).1 hs
  rw [hi] at this
  exact h (by rw [AJ this];exact mg)
structure ZJO (l:List Zr):Prop where
 valid:∀x∈l,Yz x=true
 bound:∀p x q,l=p++x::q→x.kind=2→∀a∈x.pattern.args,Ye a=true→a∈Ys p
theorem ZJC {M:List Zd} (hM:∀f∈M,YH f=true):∀n (l:List Zr),l.length=n→ZJO l→∀t,t∈ZM l M↔t∈ZM (l.filter fun x=>x.kind != 2) M∧∀x∈l,x.kind=2→(Zce (Zba x.pattern t.binding)).1∉M:=by
 intro n
 induction n with
 | zero=>
  intro l h _ t
  rw [AN h]
  simp
 | succ n ih=>
  intro l h hB t
  obtain ⟨p,x,rfl⟩:∃p x,l=p++[x]:=⟨l.dropLast,l.getLast (by intro e;simp [e] at h),(AS _).symm⟩
  have k:ZJO p:=⟨fun y my=>hB.valid y (by simp [my]),fun q y s e=>hB.bound q y (s++[x]) (by rw [e];simp)⟩
  have j:=ih p (by simpa using h) k
  have o:∀s u:Zt,s∈ZM p M→ZX u.binding=true→(∀v z,Qe s.binding v=some z→Qe u.binding v=some z)→∀y∈p,y.kind=2→(Zce (Zba y.pattern u.binding)).1=(Zce (Zba y.pattern s.binding)).1:=fun s u ms hu hg y my hk=>by
   obtain ⟨q,r,e⟩:=B8 my
   have hp:Z0 y.pattern=true:=by
    have hc:=k.valid y my
    unfold Yz at hc
    rw [if_pos (.inr hk)] at hc
    simp only[A3] at hc
    exact hc.1.1
   have ho:=Zec M p s ms
   obtain ⟨i,hi⟩:=ZJv hp ho.bind fun a ma hv=>ho.vars a (by
    have:=k.bound q y r e hk a ma hv
    rw [e]
    unfold Ys at this ⊢
    rw [B9]
    exact A5.2 (.inl this))
   rw [hi,ZJe hu hg hi]
  rw [ZaR,List.filter_append]
  by_cases h1:x.kind=1
  ·have hf:[x].filter (fun x=>x.kind != 2)=[x]:=by simp [h1]
   rw [hf,ZaR]
   have m:∀s u:Zt,s∈ZM p M→u∈ZgR x M s→((∀y∈p++[x],y.kind=2→(Zce (Zba y.pattern u.binding)).1∉M)↔∀y∈p,y.kind=2→(Zce (Zba y.pattern s.binding)).1∉M):=fun s u ms mu=>by
    have hu:=mu
    unfold ZgR at hu
    rw [if_pos h1] at hu
    obtain ⟨g,mg,hg⟩:=AO.1 hu
    obtain ⟨b,hb,rfl⟩:=A6.1 hg
    obtain ⟨k1,_,k3⟩:=Zr5 hb
    have w:=o s { facts:=s.facts++[g],binding:=b } ms k1 k3
    constructor
    ·intro hh y my hk
     rw [←w y my hk]
     exact hh y (by simp [my]) hk
    ·intro hh y my hk
     rcases A5.1 my with my | my
     ·rw [w y my hk]
      exact hh y my hk
     ·simp at my;subst my;omega
   constructor
   ·intro mt
    obtain ⟨s,ms,mt⟩:=A7.1 mt
    obtain ⟨i1,i2⟩:=(j s).1 ms
    exact ⟨A7.2 ⟨s,i1,mt⟩,(m s t ms mt).2 i2⟩
   ·rintro ⟨mt,ha⟩
    obtain ⟨s,ms,mt⟩:=A7.1 mt
    have hs:s∈ZM p M:=(j s).2 ⟨ms,fun y my hk=>?_⟩
    ·exact A7.2 ⟨s,hs,mt⟩
    ·have hu:=mt
     unfold ZgR at hu
     rw [if_pos h1] at hu
     obtain ⟨g,mg,hg⟩:=AO.1 hu
     obtain ⟨b,hb,e⟩:=A6.1 hg
     obtain ⟨k1,_,k3⟩:=Zr5 hb
     have hp:Z0 y.pattern=true:=by
      have hc:=k.valid y my
      unfold Yz at hc
      rw [if_pos (.inr hk)] at hc
      simp only[A3] at hc
      exact hc.1.1
     obtain ⟨q,r,e2⟩:=B8 my
     have ho:=Zec M _ s ms
     obtain ⟨i,hi⟩:=ZJv hp ho.bind fun a ma hv=>ho.vars a (by
      have:=k.bound q y r e2 hk a ma hv
      rw [e2]
      unfold Ys at this ⊢
      obtain ⟨c,mc,hc⟩:=A7.1 this
      by_cases A:c.kind=1
      ·exact A7.2 ⟨c,AU.2 ⟨by simp [mc],by simp [A]⟩,hc⟩
      ·rw [if_neg A] at hc;simp at hc)
     have:=ha y (by simp [my]) hk
     rw [←e,ZJe k1 k3 hi] at this
     rw [hi]
     exact this
  ·by_cases h2:x.kind=2
   ·have hf:[x].filter (fun x=>x.kind != 2)=[]:=by simp [h2]
    rw [hf,BA]
    have hn:∀s,ZgR x M s=if ZfV x s.binding M=true then [s] else []:=fun s=>by unfold ZgR;rw [if_neg h1]
    have hx:∀s,s∈ZM p M→(ZfV x s.binding M=true↔(Zce (Zba x.pattern s.binding)).1∉M):=fun s ms=>by
     have ho:=Zec M p s ms
     exact ZJQ h2 (hB.valid x yG) ho.bind (fun a ma hv=>ho.vars a (hB.bound p x [] yG h2 a ma hv)) hM
    constructor
    ·intro mt
     obtain ⟨s,ms,mt⟩:=A7.1 mt
     rw [hn] at mt
     split at mt
     ·rename_i hh
      simp at mt;subst mt
      obtain ⟨i1,i2⟩:=(j t).1 ms
      refine ⟨i1,fun y my hk=>?_⟩
      rcases A5.1 my with my | my
      ·exact i2 y my hk
      ·simp at my;subst my;exact (hx t ms).1 hh
     ·simp at mt
    ·rintro ⟨mt,ha⟩
     have hs:t∈ZM p M:=(j t).2 ⟨mt,fun y my hk=>ha y (by simp [my]) hk⟩
     refine A7.2 ⟨t,hs,?_⟩
     rw [hn,if_pos ((hx t hs).2 (ha x yG h2))]
     simp
   ·have hf:[x].filter (fun x=>x.kind != 2)=[x]:=by simp [h2]
    rw [hf,ZaR]
    have hn:∀s,ZgR x M s=if ZfV x s.binding M=true then [s] else []:=fun s=>by unfold ZgR;rw [if_neg h1]
    constructor
    ·intro mt
     obtain ⟨s,ms,mt⟩:=A7.1 mt
     have d:=mt
     rw [hn] at d
     split at d
     ·simp at d;subst d
      obtain ⟨i1,i2⟩:=(j t).1 ms
      refine ⟨A7.2 ⟨t,i1,mt⟩,fun y my hk=>?_⟩
      rcases A5.1 my with my | my
      ·exact i2 y my hk
      ·simp at my;subst my;exact absurd hk h2
     ·simp at d
    ·rintro ⟨mt,ha⟩
     obtain ⟨s,ms,mt⟩:=A7.1 mt
     have d:=mt
     rw [hn] at d
     split at d
     ·simp at d;subst d
      exact A7.2 ⟨t,(j t).2 ⟨ms,fun y my hk=>ha y (by simp [my]) hk⟩,mt⟩
     ·simp at d
end
section
open Classical
theorem ZJ4 {r:Zf} (h:ZU r=true):ZJO r.cond:=by
 unfold ZU at h
 simp only[A3] at h
 obtain ⟨⟨hr,hb⟩,_⟩:=h
 unfold XX at hr
 simp only[A3] at hr
 have hv:=hr.1.1.2
 refine ⟨fun x mx=>?_,fun p x q e hk a ma ha=>?_⟩
 ·obtain ⟨j,hj,e⟩:=List.getElem_of_mem mx
  have:=ZnB hv j x (by rw [A9 hj,e])
  simp only[A3] at this
  exact this.1.1
 ·have:=ZnB hb p.length x (by rw [e];simp)
  unfold Zg7 at this
  rw [hk] at this
  simp only[AI,decide_true,Bool.not_true,Bool.false_or,AQ] at this
  have hm:a∈Yt x:=by
   unfold Yt
   rw [ZS]
   refine AU.2 ⟨?_,ha⟩
   unfold Zfz
   simp [ma]
  have h2:=XD.1 (this a hm)
  unfold Yr at h2
  rw [ZS,e] at h2
  simpa using h2
theorem ZIY {r:Zf} (h:ZU r=true) {M:List Zd} (hM:∀f∈M,YH f=true) (t:Zt):t∈ZM r.cond M↔t∈ZM (QZ r) M∧∀g∈Zqu r t,g∉M:=by
 rw [ZJC hM _ r.cond rfl (ZJ4 h)]
 refine and_congr_right fun _=>?_
 unfold Zqu
 constructor
 ·intro hh g mg
  obtain ⟨x,mx,rfl⟩:=AF.1 mg
  obtain ⟨m1,m2⟩:=AU.1 mx
  exact hh x m1 (by simpa using m2)
 ·intro hh x mx hk
  exact hh _ (AF.2 ⟨x,AU.2 ⟨mx,by simp [hk]⟩,rfl⟩)
/- without one of the given facts -/
end
section
open Classical
theorem ZI1 {l:List Zd} (hl:l.length≤24) (ha:ZiF l) (c:∀f∈l,YH f=true):Yw l=true:=by
 unfold Yw
 rw [A3,decide_eq_true_iff]
 refine ⟨hl,?_⟩
 have key:∀(b a:List Zd),l=a++b→Zar (ZeN l) b a.length=true:=by
  intro b
  induction b with
  | nil=>intro a _;rfl
  | cons x b ih=>
   intro a e
   simp only[Zar,A3]
   refine ⟨?_,by have:=ih (a++[x]) (by rw [e];simp);simpa using this⟩
   unfold ZeN
   rw [A3]
   refine ⟨c x (by rw [e];simp),?_⟩
   by_cases h0:a.length=0
   ·rw [if_pos h0]
   ·rw [if_neg h0]
    obtain ⟨q,y,rfl⟩:∃q y,a=q++[y]:=⟨a.dropLast,a.getLast (by intro e2;simp [e2] at h0),(AS _).symm⟩
    have hy:l[(q++[y]).length - 1]?=some y:=by rw [e];simp
    rw [hy,decide_eq_true_iff]
    unfold ZiF at ha
    rw [e,At,List.pairwise_append] at ha
    have h2:=ha.2.1
    rw [AW,List.pairwise_cons] at h2
    exact h2.1 x yG
 exact key l [] rfl
theorem ZJS {a b:List Zd} (h:a.Sublist b) (hb:ZiF b):ZiF a:=List.Pairwise.sublist h hb
theorem ZiB:∀{F:List Zd} {l:List Int},(YT F l).Sublist F
 | [],l=>by simp [YT]
 | f::F,[]=>by simp [YT]
 | f::F,v::l=>by
  unfold YT
  split
  ·exact ZiB.cons_cons f
  ·exact ZiB.cons f
theorem ZJB {R L:List Zf} (hS:ZbC L) (hL:∀r∈L,r∈R) (b:(Yn L&&L.all (YN L))=true) {base F:List Zd} (h:Yu R base F) {a:List Zd} (hs:a.Sublist base):∃G,Yg L a=some (G,true)∧Yf L a=some (G,true)∧Yu L a G∧∀f∈G,f∈F:=by
 obtain ⟨c,d⟩:=Zds h.facts
 have hg:Yw a=true:=ZI1 (Af hs.length_le c) (ZJS hs (ZhD h.facts)) fun f mf=>d f (hs.subset mf)
 have e:Cl L a F:=⟨h.good.asc,fun f mf=>h.good.inc f (hs.subset mf),fun r mr=>h.closed r (hL r mr)⟩
 have g:a.length≤1048576:=by have:=hs.length_le;omega
 obtain ⟨s1,s2⟩:=Zgz hS a g
 obtain ⟨i1,i2⟩:=Zgx hS a
 obtain ⟨x,e1,r1⟩:=s2 b hg
 obtain ⟨y,e2,r2⟩:=i2 b hg
 rw [←r1.uniq r2] at e2
 obtain ⟨G,ok⟩:=x
 rcases r1 with ⟨h1,h2,h3,h4⟩ | ⟨h1,h2,h3⟩
 ·simp only at h1 h2 h3 h4
  subst h1
  exact ⟨G,e1,e2,⟨b,hg,h2,h3,h4⟩,fun f mf=>h2.low F e f mf⟩
 ·have:=h3 F e
  have:=h.len
  omega
/- reasons, of the smaller set -/
def ZIh (F:List Zd) (y:Int):Zd:=match F[y.toNat]? with | some f=>f | none=>{ rel:=⟨#[]⟩,args:=[] }
theorem ZIR {F:List Zd} {f:Zd} (h:f∈F):ZIh F (Z9 F f)=f:=by
 obtain ⟨j,h1,h2⟩:=Zgc h
 unfold ZIh
 rw [h1,AD,h2]
noncomputable def ZOv (F G:List Zd) (x:Zg):Zg:={ for_:=Z9 G (ZIh F x.for_),inn:=Zaq G (x.inn.map (ZIh F)),outs:=Zaq G (x.outs.map (ZIh F)) }
theorem ZOd {F G:List Zd} (h:∀f∈G,f∈F) (l:List Zd):Zaq G ((Zaq F l).map (ZIh F))=Zaq G l:=by
 obtain ⟨h1,h2,_⟩:=XN G ((Zaq F l).map (ZIh F))
 obtain ⟨k1,k2,_⟩:=XN G l
 have a:∀g:Zd,0≤Z9 G g→g∈G:=fun g hg=>by
  rcases Zhd G g with ⟨_,h2⟩ | ⟨j,_,h2⟩
  ·omega
  ·exact AA h2
 refine Zos h1 k1 fun x=>?_
 rw [h2,k2]
 constructor
 ·rintro ⟨f,mf,e,e0⟩
  obtain ⟨y,my,rfl⟩:=AF.1 mf
  obtain ⟨g,mg,e2,e3⟩:=((XN F l).2.1 y).1 my
  have gF:g∈F:=by
   rcases Zhd F g with ⟨_,h2⟩ | ⟨j,_,h2⟩
   ·omega
   ·exact AA h2
  rw [←e2,ZIR gF] at e
  exact ⟨g,mg,e,e0⟩
 ·rintro ⟨g,mg,e,e0⟩
  have gG:=a g yE
  have gF:=h g gG
  obtain ⟨j,k3,_⟩:=Zgc gF
  exact ⟨g,AF.2 ⟨Z9 F g,((XN F l).2.1 _).2 ⟨g,mg,rfl,yE⟩,ZIR gF⟩,e,e0⟩
theorem ZN9:∀(c l:List Zg),l.Nodup→(c.foldl ZiI l).Nodup
 | [],_,h=>h
 | r::c,l,h=>by
  rw [AX]
  refine ZN9 c _ ?_
  unfold ZiI
  split
  ·exact h
  ·rename_i hn
   rw [Ak]
   exact ⟨h,yG,fun a ha b hb e=>by simp at hb;subst hb;subst e;exact hn ha⟩
theorem ZOc {F:List Zd}:∀{base:List Zd},base.Nodup→(∀f∈base,f∈F)→(ZcB F base).Nodup
 | [],_,_=>by simp [ZcB]
 | f::base,h,hF=>by
  rw [AY] at h
  show (_::ZcB F base).Nodup
  rw [AY]
  refine ⟨fun hm=>?_,ZOc h.2 fun g mg=>hF g (by simp [mg])⟩
  obtain ⟨g,mg,e⟩:=AF.1 hm
  have e2:Z9 F g=Z9 F f:=congrArg Zg.for_ e
  exact h.1 (by rw [←ZN8 (hF g (by simp [mg])) (hF f yG) e2];exact mg)
theorem ZOm {R L:List Zf} (hL:∀r∈L,r∈R) {base F b G:List Zd} (h:Yu R base F) (k:Yu L b G) (hs:∀f∈b,f∈base) (hG:∀f∈G,f∈F):(YJ L G b).length≤(YJ R F base).length:=by
 have hn:(YJ L G b).Nodup:=ZN9 _ _ (ZOc (Zg2 (ZhD k.facts)) k.good.inc)
 have:=Zcs (m:=(YJ R F base).map (ZOv F G)) hn fun x mx=>by
  rcases ZjN.1 mx with ⟨f,mf,rfl⟩ | ⟨r,mr,t,mt,a,ma,rfl⟩
  ·refine AF.2 ⟨{ for_:=Z9 F f,inn:=[],outs:=[] },ZjN.2 (.inl ⟨f,hs f mf,rfl⟩),?_⟩
   unfold ZOv
   rw [ZIR (hG f (k.good.inc f mf))]
   rfl
  ·have c:t∈ZM (QZ r) F:=ZKc (R:=R) mt fun g mg=>hG g (ZKa mt g mg)
   refine AF.2 ⟨Z6 F r t a,ZjN.2 (.inr ⟨r,hL r mr,t,c,a,ma,rfl⟩),?_⟩
   unfold ZOv Z6
   simp only
   rw [ZOd hG,ZOd hG,ZIR (hG _ (k.closed r mr t mt a ma))]
 rwa [Al] at this
theorem ZN6 {R:List Zf} {base F:List Zd} (h:Yu R base F) (h1:Yg R base=some (F,true)) (h2:Yf R base=some (F,true)) (h60:(YJ R F base).length≤60):Xe R base=some (F,{ nodes:=((F.length:Nat):Int),reasons:=YJ R F base },true)∧X4 R base=some (F,{ nodes:=((F.length:Nat):Int),reasons:=YJ R F base },true):=by
 obtain ⟨e1,_⟩:=Zi7 ZnY F noI R base
 obtain ⟨e2,_⟩:=Zi7 Zo5 F noS R base
 unfold Xe X4
 rw [Zpu h h2,Zpt h h1]
 unfold Zqe
 rw [e1,e2,if_neg yE,if_neg yE]
 exact ⟨rfl,rfl⟩
end
section
open Classical
theorem ZJi (r:Zf) (F:List Zd) (hr:Za6 r):ZIP r ((r.cond.length:Nat):Int) F=some (if (XX r&&Yw F)=true then ZM r.cond F else []):=by
 unfold ZIP
 rw [ZiV r hr,A0]
 cases h1:XX r with
 | false=>rfl
 | true=>
  rw [if_pos rfl,ZgU F,A0]
  cases h2:Yw F with
  | false=>rfl
  | true=>
   obtain ⟨a,b⟩:=Zds h2
   have hc:=(ZbZ h1).1
   rw [if_pos rfl,if_neg yG,Zz,if_neg yG,Zi _ yE,AD,BB,BC,ZgN _ _ hc a (fun f mf=>Xg (b f mf))]
   rfl
theorem ZJX {α:Type} {p:Nat→α→Bool} {b:List α} (hp:∀i x,p i x=true↔b[i]?=some x):∀(a:List α),a.length=b.length→(Zar p a 0=true↔a=b):=by
 intro a hl
 constructor
 ·intro ha
  apply List.ext_getElem?
  intro i
  by_cases hi:i<a.length
  ·have hx:=A9 hi
   have:=ZnB ha i _ hx
   rw [AI,hp] at this
   rw [hx,this]
  ·rw [AR yE,AR yE]
 ·rintro rfl
  have:∀(l c:List α),a=c++l→Zar p l c.length=true:=by
   intro l
   induction l with
   | nil=>intro c _;rfl
   | cons x l ih=>
    intro c e
    simp only[Zar,A3]
    refine ⟨(hp _ _).2 (by rw [e];simp),?_⟩
    have:=ih (c++[x]) (by rw [e];simp)
    simpa using this
  exact this a [] rfl
theorem ZI8 (a b:List Zd):ZIL a b=some (decide (a=b)):=by
 unfold ZIL
 by_cases h:a.length=b.length
 ·rw [if_neg (by simp;omega),Xh (p:=fun i x=>decide (b[i]?=some x)) (r:=false)]
  ·have:=ZJX (p:=fun i x=>decide (b[i]?=some x)) (b:=b) (fun i x=>by rw [decide_eq_true_iff]) a h
   by_cases e:a=b
   ·rw [if_pos (this.2 e),decide_eq_true e]
   ·rw [if_neg fun hh=>e (this.1 hh),decide_eq_false e]
  ·intro j x hx
   have hj:=(A8.1 hx).1
   have hb:b[j]?=some b[j]:=A9 yE
   rw [AI,Zby,hb,A0,ZbI,A0]
   by_cases he:x=b[j]
   ·rw [if_pos (decide_eq_true he),decide_eq_true (by rw [he])];rfl
   ·rw [if_neg (by simpa using he),decide_eq_false fun e=>he (AJ e).symm];rfl
 ·rw [if_pos (by simp;omega),decide_eq_false (fun e=>h (by rw [e]))]
def ZJK (l:List ZvY) (u:Int):Zd:=match l[u.toNat]? with | some s=>s.fact | none=>{ rel:=⟨#[]⟩,args:=[] }
def ZJg (l:List ZvY) (u:Int):Bool:=decide (0≤u∧u<((l.length:Nat):Int))
theorem ZKe {l:List ZvY} {u:Int} (h:ZJg l u=true):∃s,atI l u=some s∧s.fact=ZJK l u:=by
 unfold ZJg at h
 rw [decide_eq_true_iff] at h
 have hl:u.toNat<l.length:=by omega
 refine ⟨l[u.toNat],?_,?_⟩
 ·unfold atI
  rw [if_pos h.1,A9 hl]
 ·unfold ZJK
  rw [A9 hl]
theorem ZJy {ρ:Type} {p:Int→Bool} {g:Int→Zd} {z:ρ} {fin:List Zd→Option ρ} {body:Nat→Int→List Zd→Option (List Zd ⊕ ρ)}:∀{l:List Int} {i:Nat} {acc:List Zd},(∀j u s,s.length+1≤acc.length+l.length→body j u s=if p u=true then some (.inl (s++[g u])) else some (.inr z))→Zn body fin l i acc=if l.all p=true then fin (acc++l.map g) else some z
 | [],_,acc,_=>by simp [Zn]
 | u::l,i,acc,h=>by
  have hx:=h i u acc yG
  by_cases hp:p u=true
  ·rw [if_pos hp] at hx
   rw [ZV hx,ZJy (p:=p) (g:=g) (z:=z) fun j v s hs=>h j v s (by simp at hs ⊢;omega)]
   simp [hp]
  ·rw [if_neg hp] at hx
   rw [Ya hx]
   simp [hp]
noncomputable def givesB (t:Zt) (f:Zd) (a:Zx):Bool:=(Zce (Zba a.pattern t.binding)).2&&decide ((Zce (Zba a.pattern t.binding)).1=f)
end
section
open Classical
theorem ZHp {β:Type} {P:Zg→β→Prop}:∀(c:List (Zg × β)) (s:List Zg × List β),(∀x∈c,P x.1 x.2)→s.2.length=s.1.length→(∀(k:Nat) (q:Zg) (o:β),s.1[k]?=some q→s.2[k]?=some o→P q o)→∀(k:Nat) (q:Zg) (o:β),(c.foldl Qh s).1[k]?=some q→(c.foldl Qh s).2[k]?=some o→P q o
 | [],s,_,_,h=>h
 | x::c,s,hc,hl,h=>by
  rw [AX]
  refine ZHp c (Qh s x) (fun y my=>hc y (by simp [my])) ?_ ?_
  ·unfold Qh
   split
   ·exact hl
   ·simp [hl]
  ·intro k q o hq ho
   unfold Qh at hq ho
   split at hq
   ·rename_i hm
    rw [if_pos hm] at ho
    exact h k q o hq ho
   ·rename_i hm
    rw [if_neg hm] at ho
    rcases Aj k s.1.length with hk | hk | hk
    ·rw [Am hk] at hq
     rw [Am yE] at ho
     exact h k q o hq ho
    ·subst hk
     rw [AZ (AB _)] at hq
     rw [←hl,AZ (AB _)] at ho
     simp at hq ho
     subst hq ho
     exact hc x yG
    ·rw [AR (by simp;omega)] at hq
     simp at hq
def ZIE {β:Type} (oF:Zf→Zt→β) (z:β) (R:List Zf) (base F:List Zd) (q:Zg) (o:β):Prop:=
 (∃f∈base,q={ for_:=Z9 F f,inn:=[],outs:=[] }∧o=z)∨∃r∈R,∃t∈ZM (QZ r) F,∃a∈r.thn,q=Z6 F r t a∧o=oF r t
theorem ZHt {β:Type} (oF:Zf→Zt→β) (z:β) (R:List Zf) (base F:List Zd) (k:Nat) (q:Zg) (o:β) (hq:(Zad oF F z R base).1[k]?=some q) (ho:(Zad oF F z R base).2[k]?=some o):ZIE oF z R base F q o:=by
 refine ZHp (P:=ZIE oF z R base F) (R.flatMap (Zkd oF F)) (ZcB F base,base.map fun _=>z) ?_ (by simp [ZcB]) ?_ k q o hq ho
 ·intro x mx
  obtain ⟨r,mr,mx⟩:=A7.1 mx
  obtain ⟨t,mt,mx⟩:=A7.1 mx
  obtain ⟨a,ma,rfl⟩:=AF.1 mx
  exact .inr ⟨r,mr,t,mt,a,ma,rfl,rfl⟩
 ·intro k q o hq ho
  simp only[ZcB,BE,A6] at hq ho
  obtain ⟨f,hf,rfl⟩:=hq
  obtain ⟨_,_,rfl⟩:=ho
  exact .inl ⟨f,AA hf,rfl,rfl⟩
noncomputable def ZEx (out:List ZvY) (x:Zd):Int:=ZEr (fun s:ZvY=>decide (s.fact=x)) out 0
theorem ZIU {α:Type} {p:α→Bool}:∀{l:List α} {i:Nat},ZEr p l i<0→∀x∈l,p x=false
 | [],_,_,x,mx=>by simp at mx
 | y::l,i,h,x,mx=>by
  rw [ZEr] at h
  by_cases hp:p y=true
  ·rw [if_pos hp] at h;omega
  ·rw [if_neg hp] at h
   rcases AH.1 mx with rfl | mx
   ·simpa using hp
   ·exact ZIU h x mx
theorem ZIX {a:List ZvY} {x:Zd} (h:∃s∈a,s.fact=x):ZJg a (ZEx a x)=true∧ZJK a (ZEx a x)=x:=by
 have h0:0≤ZEx a x:=by
  rcases ZIT (p:=fun s:ZvY=>decide (s.fact=x)) (l:=a) (i:=0) with e | e
  ·exfalso
   obtain ⟨s,ms,hs⟩:=h
   have:=ZIU (by rw [e];omega) s ms
   simp [hs] at this
  ·exact e
 obtain ⟨j,s,h1,h2,h3⟩:=ZFK h0
 have e:ZEx a x=((j:Nat):Int):=by unfold ZEx;rw [h1,AI]
 have hj:=(A8.1 h2).1
 rw [e]
 refine ⟨?_,?_⟩
 ·unfold ZJg
  rw [decide_eq_true_iff]
  omega
 ·unfold ZJK
  rw [AD,h2]
  simpa using h3
noncomputable def mkS (F:List Zd) (Q:List Zg) (O:List Zac) (out:List ZvY) (k:Int):ZvY:=
 { fact:=ZIh F (((Q[k.toNat]?).map (·.for_)).getD 0),rule:=((O[k.toNat]?).map (·.rule)).getD ⟨#[]⟩,uses:=(((O[k.toNat]?).map (·.facts)).getD []).map (ZEx out) }
noncomputable def ZDn (F:List Zd) (Q:List Zg) (O:List Zac) (l:List Int):List ZvY:=l.foldl (fun out k=>out++[mkS F Q O out k]) []
theorem ZEK (F:List Zd) (Q:List Zg) (O:List Zac) (l:List Int) (k:Int):ZDn F Q O (l++[k])=ZDn F Q O l++[mkS F Q O (ZDn F Q O l) k]:=by
 unfold ZDn
 rw [List.foldl_append]
 rfl
theorem ZHx {α:Type} {P:List α→Prop} (h0:P []) (h:∀p x,P p→P (p++[x])) (l:List α):P l:=by
 have:∀n (l:List α),l.length=n→P l:=by
  intro n
  induction n with
  | zero=>intro l hl;rw [AN hl];exact h0
  | succ n ih=>
   intro l hl
   obtain ⟨p,x,rfl⟩:∃p x,l=p++[x]:=⟨l.dropLast,l.getLast (by intro e;simp [e] at hl),(AS _).symm⟩
   exact h p x (ih p (by simpa using hl))
 exact this _ l rfl
theorem ZEG (F:List Zd) (Q:List Zg) (O:List Zac) (l:List Int):(ZDn F Q O l).length=l.length:=
 ZHx (P:=fun l=>(ZDn F Q O l).length=l.length) rfl (fun p x ih=>by rw [ZEK,AM,AM,ih];rfl) l
theorem ZJw (F:List Zd) (Q:List Zg) (O:List Zac) (l:List Int):(ZDn F Q O l).map (·.fact)=l.map fun k=>ZIh F (((Q[k.toNat]?).map (·.for_)).getD 0):=
 ZHx (P:=fun l=>(ZDn F Q O l).map (·.fact)=l.map fun k=>ZIh F (((Q[k.toNat]?).map (·.for_)).getD 0)) rfl (fun p x ih=>by rw [ZEK,Au,Au,ih];rfl) l
theorem ZJH {F:List Zd} {Q:List Zg} {O:List Zac} {l:List Int} {k:Int} (h:k∈l):∃s∈ZDn F Q O l,s.fact=ZIh F (((Q[k.toNat]?).map (·.for_)).getD 0):=by
 have:ZIh F (((Q[k.toNat]?).map (·.for_)).getD 0)∈(ZDn F Q O l).map (·.fact):=by rw [ZJw];exact AF.2 ⟨k,h,rfl⟩
 obtain ⟨s,ms,e⟩:=AF.1 this
 exact ⟨s,ms,e⟩
theorem ZIq {F:List Zd} {Q:List Zg} {O:List Zac}:∀{l:List Int} {i:Nat} {s:ZvY},(ZDn F Q O l)[i]?=some s→∃p k q,l=p++k::q∧p.length=i∧s=mkS F Q O (ZDn F Q O p) k∧(ZDn F Q O l).take i=ZDn F Q O p:=by
 intro l
 refine ZHx (P:=fun l=>∀{i:Nat} {s:ZvY},(ZDn F Q O l)[i]?=some s→∃p k q,l=p++k::q∧p.length=i∧s=mkS F Q O (ZDn F Q O p) k∧(ZDn F Q O l).take i=ZDn F Q O p) ?_ ?_ l
 ·intro i s h;simp [ZDn] at h
 ·intro p x ih i s h
  have hl:=ZEG F Q O p
  rw [ZEK] at h ⊢
  by_cases hi:i<p.length
  ·rw [Am yE] at h
   obtain ⟨p',k,q,e1,e2,e3,e4⟩:=ih h
   refine ⟨p',k,q++[x],by rw [e1];simp,e2,e3,?_⟩
   rw [BF yE,e4]
  ·have a:i<(ZDn F Q O p++[mkS F Q O (ZDn F Q O p) x]).length:=(A8.1 h).1
   have b:i=p.length:=by simp at a;omega
   subst b
   rw [←hl,AZ (AB _)] at h
   simp at h
   exact ⟨p,x,[],rfl,rfl,h.symm,by rw [←hl,BF (AB _),BB]⟩
theorem ZJU {b:Zu} (h:ZdS b) {x:Int} (h0:0≤x) (hx:0≤rdN (rdB b) x):0≤ZDU b x:=by
 have hxl:x.toNat<b.nodes.toNat:=by
  refine Classical.byContradiction fun hn=>?_
  rw [ZJV (by rw [h.rd];exact hn)] at hx
  omega
 have h1:=h.n0
 have e0:((x.toNat:Nat):Int)=x:=Ae h0
 obtain ⟨r,mr,hf,hi,ho⟩:=h.end.1 x.toNat (by rw [e0];exact hx)
 rw [e0] at hi
 have a:r.for_=x:=by have:=(h.ok r mr).1.1;omega
 unfold ZDU
 rw [if_pos ⟨h0,yE,hx⟩]
 rcases ZIT (p:=ZHm b x) (l:=b.reasons) (i:=0) with e | e
 ·exfalso
  have:=ZIU (by rw [e];omega) r mr
  unfold ZHm at this
  rw [decide_eq_false_iff_not] at this
  exact this ⟨a,fun y my=>by have:=hi y my;omega,ho⟩
 ·exact e
def ZJG (R:List Zf) (base F M:List Zd) (before:List ZvY) (s:ZvY):Prop:=
 (s.rule=⟨#[]⟩∧s.uses=[]∧s.fact∈base)∨∃r∈R,∃t∈ZM (QZ r) F,∃a∈r.thn,s.rule=r.name∧s.fact=Z7 a t∧(∀u∈s.uses,ZJg before u=true)∧s.uses.map (ZJK before)=t.facts∧(∀x∈t.facts,x∈M∧∃s'∈before,s'.fact=x)∧∀g∈Zqu r t,g∉M
section
variable {R:List Zf} {base F:List Zd}
theorem ZJJ (hG:Yu R base F) (C:(YJ R F base).length≤60) {O:List Zac} (hO:O=(Zad ZnY F noI R base).2) {x:Int} {l:List Int} (hl:ZFZ { nodes:=((F.length:Nat):Int),reasons:=YJ R F base } x l):
  ∀p k q,l=p++k::q→ZJG R base F (YT F (rdB { nodes:=((F.length:Nat):Int),reasons:=YJ R F base })) (ZDn F (YJ R F base) O p) (mkS F (YJ R F base) O (ZDn F (YJ R F base) O p) k)∧(mkS F (YJ R F base) O (ZDn F (YJ R F base) O p) k).fact∈YT F (rdB { nodes:=((F.length:Nat):Int),reasons:=YJ R F base }):=by
 intro p k q e
 have hB:=ZdS.of hG C
 have v:=Zg2 hG.good.asc
 have w:(rdB { nodes:=((F.length:Nat):Int),reasons:=YJ R F base }).length=F.length:=by rw [hB.rd];simp
 generalize hb:({ nodes:=((F.length:Nat):Int),reasons:=YJ R F base }:Zu)=b at *
 have A:b.reasons=YJ R F base:=by rw [←hb]
 obtain ⟨y,e1,e2⟩:=hl.good.sup k (by rw [e];simp)
 obtain ⟨y0,y1,y2,c,c1,c2,c3⟩:=ZEA e2
 rw [←e1,A] at c1
 obtain ⟨g1,g2⟩:=Zi7 ZnY F noI R base
 have hkl:k.toNat<(YJ R F base).length:=(A8.1 c1).1
 obtain ⟨o,ho⟩:∃o,O[k.toNat]?=some o:=⟨_,A9 (by rw [hO];omega)⟩
 have hm:=ZHt ZnY noI R base F k.toNat c o (by rw [g1];exact c1) (by rw [←hO];exact ho)
 have em:mkS F (YJ R F base) O (ZDn F (YJ R F base) O p) k={ fact:=ZIh F c.for_,rule:=o.rule,uses:=o.facts.map (ZEx (ZDn F (YJ R F base) O p)) }:=by unfold mkS;rw [c1,ho];rfl
 rw [em]
 rcases hm with ⟨f,mf,hc,rfl⟩ | ⟨r,mr,t,mt,a,ma,hc,rfl⟩
 ·have m:=hG.good.inc f mf
  have ef:ZIh F c.for_=f:=by rw [hc];exact ZIR m
  simp only[ef]
  refine ⟨.inl ⟨rfl,rfl,mf⟩,(ZtX v w).2 ⟨m,?_⟩⟩
  have:Z9 F f=y:=by rw [←c2,hc]
  rw [this];exact y2
 ·have m:Z7 a t∈F:=hG.closed r mr t mt a ma
  have ef:ZIh F c.for_=Z7 a t:=by rw [hc];exact ZIR m
  have ey:Z9 F (Z7 a t)=y:=by rw [←c2,hc];rfl
  have B:∀z∈t.facts,z∈F∧0≤Z9 F z∧0≤rdN (rdB b) (Z9 F z)∧Z9 F z∈c.inn:=fun z mz=>by
   have mF:=ZKa mt z mz
   obtain ⟨j,hj,_⟩:=Zgc mF
   have h0:0≤Z9 F z:=by omega
   have mi:Z9 F z∈c.inn:=by
    rw [hc]
    exact ((XN F t.facts).2.1 _).2 ⟨z,mz,rfl,h0⟩
   exact ⟨mF,h0,(c3.1 _ mi).1,mi⟩
  have i:∀z∈t.facts,∃s'∈ZDn F (YJ R F base) O p,s'.fact=z:=fun z mz=>by
   obtain ⟨mF,h0,hr,mi⟩:=B z mz
   have hs:=ZJU hB h0 hr
   have mp:ZDU b (Z9 F z)∈p:=hl.ord p k q e (Z9 F z) (by
    unfold ZHe
    rw [A,c1]
    exact mi) hs
   obtain ⟨s',D,E⟩:=ZJH (F:=F) (Q:=YJ R F base) (O:=O) mp
   refine ⟨s',D,?_⟩
   obtain ⟨_,_,_,d,d1,d2,_⟩:=ZEA hs
   rw [A] at d1
   rw [E,d1]
   show ZIh F d.for_=z
   rw [d2]
   exact ZIR mF
  simp only[ef]
  refine ⟨.inr ⟨r,mr,t,mt,a,ma,rfl,rfl,fun u mu=>?_,?_,fun z mz=>⟨(ZtX v w).2 ⟨(B z mz).1,(B z mz).2.2.1⟩,i z mz⟩,fun g mg G=>?_⟩,(ZtX v w).2 ⟨m,by rw [ey];exact y2⟩⟩
  ·obtain ⟨z,mz,rfl⟩:=AF.1 mu
   exact (ZIX (i z mz)).1
  ·show (t.facts.map _).map _=t.facts
   rw [BG]
   conv=>rhs;rw [←List.map_id t.facts]
   exact List.map_congr_left fun z mz=>(ZIX (i z mz)).2
  ·obtain ⟨gF,g0⟩:=(ZtX v w).1 G
   obtain ⟨j,hj,_⟩:=Zgc gF
   have mo:Z9 F g∈c.outs:=by
    rw [hc]
    exact ((XN F (Zqu r t)).2.1 _).2 ⟨g,mg,rfl,yE⟩
   have:=c3.2 _ mo
   omega
end
end
section
open Classical
theorem Yu.logical1 {R:List Zf} {base F:List Zd} (h:Yu R base F):∀r∈R,ZU r=true:=fun r mr=>(h.rule mr).1
theorem Yu.factsM {R:List Zf} {base F:List Zd} (h:Yu R base F) (l:List Int):Yw (YT F l)=true:=
 ZI1 (h.few l).len (ZJS ZiB h.good.asc) (h.few l).ok
end
section
open Classical
theorem ZI2 (n:ByteArray):∀(l:List Zf) (i:Nat),(∃z,Zn (σ:=Unit) (ρ:=Int) (fun (i4:Nat) (x5:Zf) _=>if (sEq x5.name n)=true then some (.inr ((i4:Nat):Int)) else some (.inl ())) (fun _=>some (-1)) l i ()=some z∧((z=-1∧∀r∈l,r.name≠n)∨∃j r,z=((i+j:Nat):Int)∧l[j]?=some r∧r.name=n∧∀k u,k<j→l[k]?=some u→u.name≠n))
 | [],i=>⟨-1,rfl,.inl ⟨rfl,yG⟩⟩
 | x::l,i=>by
  by_cases hx:x.name=n
  ·exact ⟨((i:Nat):Int),Ya (by rw [if_pos (ZN.2 hx)]),.inr ⟨0,x,yG,rfl,hx,fun k u hk=>by omega⟩⟩
  ·obtain ⟨z,e,hz⟩:=ZI2 n l (i+1)
   refine ⟨z,(ZV (s':=()) (by rw [if_neg (by rw [ZN];exact hx)])).trans e,?_⟩
   rcases hz with ⟨h1,h2⟩ | ⟨j,r,h1,h2,h3,h4⟩
   ·refine .inl ⟨h1,fun r mr=>?_⟩
    rcases AH.1 mr with rfl | mr
    ·exact hx
    ·exact h2 r mr
   ·refine .inr ⟨j+1,r,by rw [h1];congr 1;omega,by simpa using h2,h3,fun k u hk hu=>?_⟩
    cases k with
    | zero=>simp at hu;subst hu;exact hx
    | succ k=>exact h4 k u yE (by simpa using hu)
theorem ZI6 (l:List Zf) (n:ByteArray):(Zi2 l n=-1∧∀r∈l,r.name≠n)∨∃j r,Zi2 l n=((j:Nat):Int)∧l[j]?=some r∧r.name=n∧∀k u,k<j→l[k]?=some u→u.name≠n:=by
 obtain ⟨z,e,hz⟩:=ZI2 n l 0
 have e2:Zao l n=some z:=e
 rw [ZgE] at e2
 obtain rfl:=AJ e2
 simpa using hz
theorem ZJu (R:List Zf):Yn R=true↔R.length≤6∧(∀r∈R,XX r=true)∧R.Pairwise fun a b=>a.name≠b.name:=by
 unfold Yn
 rw [A3,decide_eq_true_iff]
 refine and_congr_right fun _=>?_
 constructor
 ·intro h
  have f:∀j r,R[j]?=some r→XX r=true∧Zi2 R r.name=((j:Nat):Int):=fun j r hj=>by
   have:=ZnB h j r hj
   unfold ZfF at this
   rw [A3,beq_iff_eq,AI] at this
   exact this
  refine ⟨fun r mr=>?_,AT.2 fun i j hi hj hij e=>?_⟩
  ·obtain ⟨j,hj⟩:=List.getElem?_of_mem mr
   exact (f j r hj).1
  ·have h1:=(f i _ (A9 hi)).2
   have h2:=(f j _ (A9 hj)).2
   rw [e] at h1
   omega
 ·rintro ⟨h1,h2⟩
  have key:∀(d c:List Zf),R=c++d→Zar (ZfF R) d c.length=true:=by
   intro d
   induction d with
   | nil=>intro c _;rfl
   | cons x d ih=>
    intro c e
    simp only[Zar,A3]
    refine ⟨?_,by have:=ih (c++[x]) (by rw [e];simp);simpa using this⟩
    unfold ZfF
    rw [A3,beq_iff_eq]
    refine ⟨h1 x (by rw [e];simp),?_⟩
    have hx:R[c.length]?=some x:=by rw [e];simp
    rcases ZI6 R x.name with ⟨_,k2⟩ | ⟨j,r,k1,k2,k3,k4⟩
    ·exact absurd rfl (k2 x (by rw [e];simp))
    ·rw [k1]
     congr 1
     rcases Aj j c.length with hl | hl | hl
     ·exfalso
      obtain ⟨q1,e1⟩:=A8.1 k2
      obtain ⟨q2,e2⟩:=A8.1 hx
      exact AT.1 h2 j c.length q1 q2 hl (by rw [e1,e2,k3])
     ·exact hl
     ·exact absurd rfl (k4 c.length x hl hx)
  exact key R [] rfl
end
section
open Classical
theorem ZJF {F:List Zd}:∀n (l:List Zr),l.length=n→∀t∈ZM l F,∀u∈ZM l F,t.facts=u.facts→t=u:=by
 intro n
 induction n with
 | zero=>
  intro l h t mt u mu _
  rw [AN h] at mt mu
  simp [ZM] at mt mu
  rw [mt,mu]
 | succ n ih=>
  intro l h t mt u mu e
  obtain ⟨p,x,rfl⟩:∃p x,l=p++[x]:=⟨l.dropLast,l.getLast (by intro e;simp [e] at h),(AS _).symm⟩
  have a:=ih p (by simpa using h)
  rw [ZaR] at mt mu
  obtain ⟨s,ms,mt⟩:=A7.1 mt
  obtain ⟨v,mv,mu⟩:=A7.1 mu
  unfold ZgR at mt mu
  by_cases hk:x.kind=1
  ·rw [if_pos hk] at mt mu
   obtain ⟨f,_,ef⟩:=AO.1 mt
   obtain ⟨g,_,eg⟩:=AO.1 mu
   obtain ⟨b,eb,rfl⟩:=A6.1 ef
   obtain ⟨c,ec,rfl⟩:=A6.1 eg
   obtain ⟨e1,e2⟩:=List.append_inj' e rfl
   simp only[BH,and_true] at e2
   subst e2
   obtain rfl:=a s ms v mv e1
   rw [eb] at ec
   obtain rfl:=AJ ec
   rfl
  ·rw [if_neg hk] at mt mu
   split at mt
   ·split at mu
    ·simp only[List.mem_singleton] at mt mu
     subst mt mu
     exact a _ ms _ mv e
    ·simp at mu
   ·simp at mt
theorem ZJo {α β:Type} {q:α→Bool} {g:α→β} {z:β} {t:α}:∀{l:List α} {i:Nat} {body:Nat→α→Unit→Option (Unit ⊕ β)},t∈l→q t=true→(∀u∈l,q u=true→u=t)→(∀j a,body j a ()=if q a=true then some (.inr (g a)) else some (.inl ()))→Zn body (fun _=>some z) l i ()=some (g t)
 | [],_,_,h,_,_,_=>by simp at h
 | a::l,i,body,h,hq,hu,hb=>by
  by_cases ha:q a=true
  ·rw [Ya (by rw [hb,if_pos ha]),hu a yG ha]
  ·rw [ZV (s':=()) (by rw [hb,if_neg ha])]
   refine ZJo ?_ hq (fun u mu=>hu u (by simp [mu])) hb
   rcases AH.1 h with rfl | h
   ·exact absurd hq ha
   ·exact h
theorem ZJx {r:Zf} (hr:Za6 r) (hv:XX r=true) {M:List Zd} (hM:Yw M=true) {t:Zt} (mt:t∈ZM r.cond M):ZIM r M t.facts=some (t,true):=by
 unfold ZIM
 rw [ZJi r M hr,A0,if_pos (by rw [hv,hM];rfl)]
 exact ZJo (q:=fun u:Zt=>decide (u.facts=t.facts)) (g:=fun u=>(u,true)) mt yG (fun u mu hu=>ZJF _ r.cond rfl u mu t mt (of_decide_eq_true hu)) (fun j a=>by rw [ZI8,A0])
theorem ZJ9 {R:List Zf} (h:Yn R=true) {r:Zf} (mr:r∈R):∃j:Nat,Zi2 R r.name=((j:Nat):Int)∧R[j]?=some r:=by
 obtain ⟨_,_,hp⟩:=(ZJu R).1 h
 rcases ZI6 R r.name with ⟨_,h2⟩ | ⟨j,u,h1,h2,h3,_⟩
 ·exact absurd rfl (h2 r mr)
 ·refine ⟨j,h1,?_⟩
  obtain ⟨i,hi⟩:=Aw.1 mr
  obtain ⟨b,ei⟩:=A8.1 hi
  obtain ⟨c,ej⟩:=A8.1 h2
  have d:=AT.1 hp
  rcases Aj i j with a | rfl | a
  ·exact absurd (by rw [ei,ej,h3]) (d i j b c a)
  ·exact hi
  ·exact absurd (by rw [ei,ej,h3]) (d j i c b a)
theorem ZKb {r:Zf} (h:XX r=true):r.name≠⟨#[]⟩:=by
 unfold XX at h
 simp only[A3] at h
 have hn:=h.1.1.1.1.1.1.1.1.1
 unfold Qc at hn
 rw [A3] at hn
 have h1:=(ZeH hn.1).1
 intro e
 rw [e] at h1
 exact absurd h1 yF
theorem ZJ5 {a:Zx} {t:Zt} (h:YH (Z7 a t)=true):givesB t (Z7 a t) a=true:=by
 unfold givesB Z7
 unfold Z7 at h
 cases hi:Zba a.pattern t.binding with
 | none=>rw [hi] at h;exact absurd h yF
 | some g=>simp [Zce]
def ZKf (R:List Zf) (given M:List Zd) (before:List ZvY) (s:ZvY):Prop:=
 (s.rule=⟨#[]⟩∧s.uses=[]∧s.fact∈given)∨∃r∈R,∃t∈ZM r.cond M,∃a∈r.thn,s.rule=r.name∧s.fact=Z7 a t∧(∀u∈s.uses,ZJg before u=true)∧s.uses.map (ZJK before)=t.facts
theorem ZJY {R:List Zf} (hR:ZbC R) (hA:Yn R=true) (hL:∀r∈R,ZU r=true) {b M:List Zd} (hM:Yw M=true) {before:List ZvY} (hb:before.length≤60) {s:ZvY} (hs:s.uses.length≤1048576) (h:ZKf R b M before s):ZIO R b M before s=some true:=by
 have d:=(Zds hM).2
 unfold ZIO
 rcases h with ⟨h1,h2,h3⟩ | ⟨r,mr,t,mt,a,ma,h1,h2,h3,h4⟩
 ·obtain ⟨j,hj,_⟩:=Zgc h3
  rw [if_pos (by rw [h1];rfl),if_pos (by rw [h2];rfl),ZbE,hj]
  simp
 ·have hv:=(ZhO hA).2 r mr
  obtain ⟨j,hj,f⟩:=ZJ9 hA mr
  rw [if_neg (by rw [h1,ZN];exact ZKb hv),ZgE,A0,h1,hj,if_neg yG,ZJy (p:=ZJg before) (g:=ZJK before) (z:=false) (l:=s.uses) (acc:=[])]
  ·rw [if_pos (AQ.2 h3),Zby,f,A0,BI,h4,ZJx (hR.s r mr) hv hM mt,A0]
   simp only[if_true]
   rw [Zc7 (p:=givesB t s.fact) (r:=true),if_pos (List.any_eq_true.2 ⟨a,ma,by rw [h2];exact ZJ5 (Zq4 (hL r mr) ((ZIY (hL r mr) d t).1 mt).1 ma)⟩)]
   intro i c mc
   unfold givesB
   rw [ZdQ,A0]
   cases (Zce (Zba c.pattern t.binding)).2 with
   | false=>rfl
   | true=>
    rw [if_pos rfl,ZbI,A0]
    cases decide ((Zce (Zba c.pattern t.binding)).1=s.fact)<;>rfl
  ·intro j u acc ha
   simp only[BJ,AI] at ha
   by_cases hu:ZJg before u=true
   ·obtain ⟨q,e,ef⟩:=ZKe hu
    rw [if_pos hu,e,A0,ef,Zi _ yE]
    unfold ZJg at hu
    rw [decide_eq_true_iff] at hu
    rw [if_neg (by simp;omega),if_neg (by simp;omega)]
   ·rw [if_neg hu]
    unfold ZJg at hu
    rw [decide_eq_true_iff] at hu
    by_cases hn:u<0
    ·rw [if_pos (decide_eq_true hn)]
    ·rw [if_neg (by simpa using hn),if_pos (decide_eq_true yE)]
theorem ZJn {α:Type}:∀{l:List α} {i:Nat} {body:Nat→α→Unit→Option (Unit ⊕ Bool)},(∀j x,l[j]?=some x→body (i+j) x ()=some (.inl ()))→Zn body (fun _=>some true) l i ()=some true
 | [],_,_,_=>rfl
 | x::l,i,body,h=>by
  have h0:=h 0 x rfl
  rw [Nat.add_zero] at h0
  rw [ZV (s':=()) h0]
  exact ZJn fun j y hy=>by
   have:=h (j+1) y (by simpa using hy)
   rwa [show i+(j+1)=i+1+j by omega] at this
theorem ZJL {R:List Zf} (hR:ZbC R) (hA:Yn R=true) (hL:∀r∈R,ZU r=true) {b M:List Zd} (hM:Yw M=true) (hm:Zbg R b=some (M,true)) {a:List ZvY} (h60:a.length≤60) (hs:∀s∈a,s.uses.length≤1048576) (h:∀i s,a[i]?=some s→ZKf R b M (a.take i) s):ZIK R b a=some true:=by
 unfold ZIK
 rw [hm,A0]
 simp only[if_true]
 rw [if_neg (by simp;omega)]
 refine ZJn fun j x hx=>?_
 have hj:=(A8.1 hx).1
 rw [AI,Zi _ ⟨yE,yE⟩]
 have:=ZJY hR hA hL hM (before:=List.drop 0 (List.take j a)) (by simp;omega) (hs x (AA hx)) (by rw [BC];exact h j x hx)
 rw [this,A0]
 rfl
end
section
open Classical
theorem ZGb (a:List ZvY) (x:Zd):ZEa a x=some (ZEx a x):=by
 unfold ZEa ZEx
 refine ZEd (s:=()) (fin:=fun _=>some (-1)) (p:=fun s:ZvY=>decide (s.fact=x)) rfl fun i s _=>?_
 rw [ZbI,A0]
 cases decide (s.fact=x)<;>rfl
theorem ZGo (a:List ZvY) (x:Zd):ZEo a x=some (ZEx a x):=by
 unfold ZEo ZEx
 refine ZEd (s:=()) (fin:=fun _=>some (-1)) (p:=fun s:ZvY=>decide (s.fact=x)) rfl fun i s _=>?_
 rw [ZHw,A0]
 cases decide (s.fact=x)<;>rfl
def toI (c:Xd):Zac:={ rule:=c.rule,facts:=c.token.facts }
theorem ZHi {β γ:Type} (g:β→γ):∀(c:List (Zg × β)) (s:List Zg × List β),((c.map fun p=>(p.1,g p.2)).foldl Qh (s.1,s.2.map g))=((c.foldl Qh s).1,(c.foldl Qh s).2.map g)
 | [],_=>rfl
 | x::c,s=>by
  have e:Qh (s.1,s.2.map g) (x.1,g x.2)=((Qh s x).1,(Qh s x).2.map g):=by
   unfold Qh
   by_cases h:x.1∈s.1
   ·simp only[h,if_true]
   ·simp only[h,if_false,Au,Ad,List.map_nil]
  rw [Ad,AX,AX,e]
  exact ZHi g c (Qh s x)
theorem ZG6 (R:List Zf) (base F:List Zd):(Zad ZnY F noI R base).2=(Zad Zo5 F noS R base).2.map toI:=by
 have h:=ZHi toI (R.flatMap (Zkd Zo5 F)) (ZcB F base,base.map fun _=>noS)
 have e1:(R.flatMap (Zkd Zo5 F)).map (fun p=>(p.1,toI p.2))=R.flatMap (Zkd ZnY F):=by
  rw [BK]
  congr 1
  funext r
  rw [Zkd,Zkd,BK]
  congr 1
  funext t
  simp [ZlN,toI,Zo5,ZnY]
 have e2:(base.map fun _=>noS).map toI=base.map fun _=>noI:=by
  rw [BG];rfl
 rw [e1,e2] at h
 unfold Zad
 rw [h]
theorem ZGa {ρ:Type} {F:List Zd} {Q:List Zg} {O:List Zac} {l:List Int} {fin:List ZvY→Option ρ} {body:Nat→Int→List ZvY→Option (List ZvY ⊕ ρ)} (hl:l.length≤60) (hb:∀i k a,k∈l→a.length≤60→body i k a=some (.inl (a++[mkS F Q O a k]))):Zn body fin l 0 []=fin (ZDn F Q O l):=by
 have h0:([]:List ZvY)=ZDn F Q O []:=rfl
 rw [h0,QL (fun p=>ZDn F Q O p) l]
 intro p k q e
 have:p.length+(q.length+1)=l.length:=by rw [e,AM,AP]
 rw [hb _ _ _ (by rw [e];simp) (by rw [ZEG];omega),ZEK]
section
variable {R:List Zf} {base F:List Zd}
theorem ZF0 (hG:Yu R base F) (a:(YJ R F base).length≤60) {x:Int} {l:List Int} (hl:ZFZ { nodes:=((F.length:Nat):Int),reasons:=YJ R F base } x l) {k:Int} (mk:k∈l):
  ∃c o,0≤k∧k.toNat<(YJ R F base).length∧(YJ R F base)[k.toNat]?=some c∧(Zad ZnY F noI R base).2[k.toNat]?=some o∧ZIE ZnY noI R base F c o∧0≤c.for_∧c.for_.toNat<F.length:=by
 have hB:=ZdS.of hG a
 obtain ⟨y,e1,e2⟩:=hl.good.sup k mk
 obtain ⟨y0,y1,y2,c,c1,c2,c3⟩:=ZEA e2
 rw [←e1] at c1 e2
 simp only at c1 y1
 obtain ⟨g1,g2⟩:=Zi7 ZnY F noI R base
 have b:k.toNat<(YJ R F base).length:=(A8.1 c1).1
 have ho:(Zad ZnY F noI R base).2[k.toNat]?=some _:=A9 yE
 exact ⟨c,_,e2,b,c1,ho,ZHt ZnY noI R base F k.toNat c _ (by rw [g1];exact c1) ho,yE,yE⟩
theorem ZFb (hG:Yu R base F) {c:Zg} {o:Zac} (h:ZIE ZnY noI R base F c o):o.rule.size≤8∧o.facts.length≤4:=by
 rcases h with ⟨f,_,_,rfl⟩ | ⟨r,mr,t,mt,a,_,_,rfl⟩
 ·exact ⟨yF,yF⟩
 ·have h1:=(hG.tokS mr mt).len
  refine ⟨?_,by show t.facts.length≤4;omega⟩
  have hl:=(hG.rule mr).1
  unfold ZU at hl
  simp only[A3] at hl
  have hv:=hl.1.1
  unfold XX at hv
  simp only[A3] at hv
  have hn:=hv.1.1.1.1.1.1.1.1.1
  unfold Qc at hn
  rw [A3] at hn
  exact (ZeH hn.1).2
theorem ZH1 {O:List Zac} {Q:List Zg} {a:List ZvY} {k:Int} {c:Zg} {o:Zac} (h1:Q[k.toNat]?=some c) (h2:O[k.toNat]?=some o):mkS F Q O a k={ fact:=ZIh F c.for_,rule:=o.rule,uses:=o.facts.map (ZEx a) }:=by unfold mkS;rw [h1,h2];rfl
theorem ZFW {y:Int} {f:Zd} (h:F[y.toNat]?=some f):ZIh F y=f:=by unfold ZIh;rw [h]
theorem ZHV (hG:Yu R base F) (d:(YJ R F base).length≤60) (hi:ZEB R base=some (F,{ nodes:=((F.length:Nat):Int),reasons:=YJ R F base },(Zad ZnY F noI R base).2,true)) (hs:ZD0 R base=some (F,{ nodes:=((F.length:Nat):Int),reasons:=YJ R F base },(Zad Zo5 F noS R base).2,true)) (f:Zd):
  ∃l,ZFZ { nodes:=((F.length:Nat):Int),reasons:=YJ R F base } (Z9 F f) l∧ZDQ R base f=some (ZDn F (YJ R F base) (Zad ZnY F noI R base).2 l,decide (0<l.length))∧ZDT R base f=some (ZDn F (YJ R F base) (Zad ZnY F noI R base).2 l,decide (0<l.length)):=by
 have hB:=ZdS.of hG d
 obtain ⟨l,f1,f2,f3⟩:=ZFn hB (Z9 F f)
 have b:=f3.good.len hB
 have a:=hG.args
 refine ⟨l,f3,?_,?_⟩
 ·unfold ZDQ
  rw [hi,A0,if_pos rfl,ZbE,A0,f1,A0]
  by_cases h0:l.length=0
  ·rw [if_pos (by simpa using h0)]
   rw [AN h0]
   rfl
  ·rw [if_neg (by simpa using h0),ZGa (F:=F) (Q:=YJ R F base) (O:=(Zad ZnY F noI R base).2) b]
   ·rw [decide_eq_true (show 0<l.length by omega)]
   ·intro i k e mk p
    obtain ⟨c,o,k0,k1,hc,ho,hm,c0,c1⟩:=ZF0 hG d f3 mk
    obtain ⟨_,q⟩:=ZFb hG hm
    obtain ⟨g,hg⟩:∃g,F[c.for_.toNat]?=some g:=⟨_,A9 c1⟩
    have a1:atI F c.for_=some g:=by unfold atI;rw [if_pos c0,hg]
    have a2:atI (Zad ZnY F noI R base).2 k=some o:=by unfold atI;rw [if_pos k0,ho]
    dsimp only
    rw [Zi _ ⟨k0,yE⟩,hc,A0,a1,A0,YB _ (a g (AA hg)),A0,a2,A0,Zk3 (g:=ZEx e)]
    ·rw [Zi _ yE,ZH1 hc ho,ZFW hg]
     rfl
    ·intro j y s _ m
     rw [ZGb,A0,Zi _ (by simp at m;omega)]
 ·unfold ZDT
  rw [hs,A0,if_pos rfl,Zbw,A0,f2,A0,ZGa (F:=F) (Q:=YJ R F base) (O:=(Zad ZnY F noI R base).2) b]
  ·rw [ZEG]
   congr 2
   exact decide_eq_decide.2 yE
  ·intro i k e mk p
   obtain ⟨c,o,k0,k1,hc,ho,hm,c0,c1⟩:=ZF0 hG d f3 mk
   obtain ⟨_,q⟩:=ZFb hG hm
   obtain ⟨g,hg⟩:∃g,F[c.for_.toNat]?=some g:=⟨_,A9 c1⟩
   obtain ⟨u,hu,t⟩:∃u,(Zad Zo5 F noS R base).2[k.toNat]?=some u∧toI u=o:=by
    rw [ZG6,BE] at ho
    exact A6.1 ho
   subst t
   have a2:atI (Zad Zo5 F noS R base).2 k=some u:=by unfold atI;rw [if_pos k0,hu]
   have hof2:u.token.facts.length≤4:=q
   dsimp only
   rw [Zi _ ⟨k0,yE⟩,hc,A0,Zi _ ⟨c0,yE⟩,hg,A0,Xo _ (a g (AA hg)),A0,a2,A0,Zk3 (g:=ZEx e)]
   ·rw [Zi _ yE,ZH1 hc ho,ZFW hg]
    rfl
   ·intro j y s _ m
    rw [ZGo,A0,Zi _ (by simp at m;omega)]
end
theorem ZHW {R:List Zf} {base F:List Zd} (hG:Yu R base F) (a:(YJ R F base).length≤60) {x:Int} {l:List Int} (hl:ZFZ { nodes:=((F.length:Nat):Int),reasons:=YJ R F base } x l):(ZDn F (YJ R F base) (Zad ZnY F noI R base).2 l).length≤60∧∀s∈ZDn F (YJ R F base) (Zad ZnY F noI R base).2 l,ZEm s≤80∧s.uses.length≤4:=by
 have hB:=ZdS.of hG a
 refine ⟨by rw [ZEG];exact hl.good.len hB,fun s ms=>?_⟩
 obtain ⟨i,hi⟩:=Aw.1 ms
 obtain ⟨p,k,q,e1,_,rfl,_⟩:=ZIq hi
 obtain ⟨c,o,k0,k1,hc,ho,hm,c0,c1⟩:=ZF0 hG a hl (k:=k) (by rw [e1];simp)
 obtain ⟨h8,h4⟩:=ZFb hG hm
 obtain ⟨g,hg⟩:∃g,F[c.for_.toNat]?=some g:=⟨_,A9 c1⟩
 rw [ZH1 hc ho,ZFW hg]
 have hgc:=ZIr (hG.good.ok g (AA hg))
 have e:ZEm { fact:=g,rule:=o.rule,uses:=o.facts.map (ZEx (ZDn F (YJ R F base) (Zad ZnY F noI R base).2 p)) }=ZC2 g+o.rule.size+(o.facts.map (ZEx (ZDn F (YJ R F base) (Zad ZnY F noI R base).2 p))).length:=rfl
 rw [Al] at e
 refine ⟨by rw [e];omega,?_⟩
 show (o.facts.map _).length≤4
 rw [Al]
 exact h4
theorem ZHd (R:List Zf) (base:List Zd):ZEB R base=ZaJ R base∧ZD0 R base=Xl R base:=⟨rfl,rfl⟩
theorem ZId {β:Type} {F:List Zd} {g:List Zg × List β} (h:g.1.length≤60):Zqe F g=(F,{ nodes:=((F.length:Nat):Int),reasons:=g.1 },g.2,true):=by
 unfold Zqe
 rw [if_neg yE]
end
theorem Znh (y:Int):0≤ZkD .i64 y 255∧ZkD .i64 y 255≤255:=by
 have e:ZkD .i64 y 255=(((BitVec.ofInt 64 y &&& BitVec.ofInt 64 255).toNat:Nat):Int):=by
  show IntKind.i64.wrap (((BitVec.ofInt 64 y &&& BitVec.ofInt 64 255).toNat:Nat):Int)=_
  have:=BL (n:=(BitVec.ofInt 64 y).toNat) (m:=(BitVec.ofInt 64 255).toNat)
  rw [BitVec.toNat_and]
  have h2:(BitVec.ofInt 64 255).toNat=255:=by decide
  exact Xn yE yE
 have:=BL (n:=(BitVec.ofInt 64 y).toNat) (m:=(BitVec.ofInt 64 255).toNat)
 rw [e,BitVec.toNat_and]
 have h2:(BitVec.ofInt 64 255).toNat=255:=by decide
 omega
structure Qb (c:ZF):Prop where
 i:0≤c.i
 b:c.b.length≤4096
theorem ZtT (a:List Int) (h:a.length≤4096):∃c,ZhL a=some c∧Qb c:=by
 unfold ZhL
 have key:∀(l:List Int) (i:Nat) (s:Int),∃c,Zn (fun (i5:Nat) (x6:Int) (d:Int)=>
   if (decide (((i5:Nat):Int)<4000))=true then
    some (.inl (ZkD .i64 (IntKind.i64.wrap ((IntKind.i64.wrap ((IntKind.i64.wrap (d * 167))+IntKind.i64.wrap x6))+29)) 1073741823))
   else
    some (.inr ({ b:=a,i:=0,h:=d }:ZF))) (fun d=>some ({ b:=a,i:=0,h:=d }:ZF)) l i s=some c∧Qb c:=by
  intro l
  induction l with
  | nil=>intro i s;exact ⟨_,rfl,Int.le_refl _,h⟩
  | cons x l ih=>
   intro i s
   cases hd:decide (((i:Nat):Int)<4000) with
   | true=>
    obtain ⟨c,h1,h2⟩:=ih (i+1) (ZkD .i64 (IntKind.i64.wrap ((IntKind.i64.wrap ((IntKind.i64.wrap (s * 167))+IntKind.i64.wrap x))+29)) 1073741823)
    exact ⟨c,by rw [ZV (by rw [hd,if_pos rfl])];exact h1,h2⟩
   | false=>exact ⟨_,by rw [Ya (by rw [hd];rfl)],Int.le_refl _,h⟩
 exact key a 0 _
theorem Zsn {c:ZF} (h:Qb c):∃x c',Zb0 c=some (x,c')∧0≤x∧x≤255∧Qb c':=by
 unfold Zb0
 cases hd:decide (c.i<((c.b.length:Nat):Int)) with
 | true=>
  have hlt:c.i<((c.b.length:Nat):Int):=by simpa using hd
  have hi:=h.i
  have hb:=h.b
  have hn:c.i.toNat<c.b.length:=by omega
  rw [if_pos rfl,show atI c.b c.i=some (c.b[c.i.toNat]) by unfold atI;rw [if_pos hi,A9 hn]]
  refine ⟨_,_,rfl,(Znh _).1,(Znh _).2,?_,hb⟩
  show 0≤IntKind.i64.wrap (c.i+1)
  rw [Xn yE yE]
  omega
 | false=>
  rw [if_neg yG]
  exact ⟨_,_,rfl,(Znh _).1,(Znh _).2,h.i,h.b⟩
theorem ZcC {c:ZF} (h:Qb c) {n:Int} (h0:0<n) (h1:n≤256):∃x c',Xb c n=some (x,c')∧0≤x∧x<n∧Qb c':=by
 unfold Xb
 obtain ⟨x,c',e,hx,_,hc⟩:=Zsn h
 rw [if_neg (by simp;omega),if_pos (by simp;omega),e]
 refine ⟨Int.tmod x n,c',?_,BM _ hx,BN _ h0,hc⟩
 show chk _ _=_
 rw [Zi _ yE]
def Xs (p s:ByteArray):Prop:=∃a b,a≤b∧b≤s.size∧p=s.extract a b
theorem Xs.size {p s:ByteArray} (h:Xs p s):p.size≤s.size:=by
 obtain ⟨a,b,h1,h2,rfl⟩:=h
 rw [Aa]
 omega
theorem ZoP (s:ByteArray) (a b:Nat):toL (s.extract a b)=((toL s).drop a).take (b - a):=by
 unfold toL
 rw [ByteArray.data_extract,Array.toList_extract,List.extract_eq_take_drop]
theorem Xs.infix {p s:ByteArray} (h:Xs p s):toL p <:+: toL s:=by
 obtain ⟨a,b,h1,h2,rfl⟩:=h
 rw [ZoP]
 refine ⟨(toL s).take a,((toL s).drop a).drop (b - a),?_⟩
 rw [At,BO,BO]
theorem ZqJ {σ ρ:Type} {s sep:ByteArray} (hsep:0<sep.size) (st:List ByteArray→Nat→Nat→σ) (g:List ByteArray→ρ) {body:σ→Option (σ ⊕ ρ)}
  (h1:∀row a i,a≤i→i+sep.size≤s.size→row.length≤i→body (st row a i)=some (.inl (if sEq (s.extract i (i+sep.size)) sep=true then st (row++[s.extract a i]) (i+sep.size) (i+sep.size) else st row a (i+1))))
  (h2:∀row a i,a≤i→i≤s.size→¬i+sep.size≤s.size→row.length≤i→body (st row a i)=some (.inr (g (row++[s.extract a s.size])))):
  ∃l,Y5 body (st [] 0 0)=some (g l)∧l.length≤s.size+1∧∀p∈l,Xs p s:=by
 have key:∀m row a i,s.size - i≤m→a≤i→i≤s.size→row.length≤i→(∀p∈row,Xs p s)→∃l,Y5 body (st row a i)=some (g l)∧l.length≤s.size+1∧∀p∈l,Xs p s:=by
  intro m
  induction m with
  | zero=>
   intro row a i hm hf hi hr hp
   have hn:¬i+sep.size≤s.size:=by omega
   refine ⟨_,YG (h2 row a i hf hi hn hr),by simp;omega,fun p mp=>?_⟩
   rcases A5.1 mp with mp | mp
   ·exact hp p mp
   ·simp at mp;subst mp;exact ⟨a,s.size,yE,AB _,rfl⟩
  | succ m ih=>
   intro row a i hm hf hi hr hp
   by_cases hn:i+sep.size≤s.size
   ·rw [YU (h1 row a i hf hn hr)]
    split
    ·refine ih _ _ _ yE (AB _) hn (by simp;omega) fun p mp=>?_
     rcases A5.1 mp with mp | mp
     ·exact hp p mp
     ·simp at mp;subst mp;exact ⟨a,i,hf,hi,rfl⟩
    ·exact ih _ _ _ yE yE yE yE hp
   ·refine ⟨_,YG (h2 row a i hf hi hn hr),by simp;omega,fun p mp=>?_⟩
    rcases A5.1 mp with mp | mp
    ·exact hp p mp
    ·simp at mp;subst mp;exact ⟨a,s.size,yE,AB _,rfl⟩
 exact key s.size [] 0 0 yE (AB _) (Ax _) (AB _) yG
theorem Xs.ext (s:ByteArray) {a b:Nat} (h:a≤b) (hb:b≤s.size):Xs (s.extract a b) s:=⟨a,b,h,hb,rfl⟩
theorem Xs.trans {p q s:ByteArray} (h:Xs p q) (k:Xs q s):Xs p s:=by
 obtain ⟨a,b,h1,h2,rfl⟩:=h
 obtain ⟨c,d,h3,h4,rfl⟩:=k
 rw [Aa] at h2
 refine ⟨c+a,c+b,yE,yE,?_⟩
 rw [ByteArray.extract_extract]
 congr 1
 omega
theorem Xj {s sep:ByteArray} (hs:s.size≤1000) (h0:0<sep.size) (h1:sep.size≤10):∃l,Qd s sep=some l∧l.length≤s.size+1∧∀p∈l,Xs p s:=by
 unfold Qd
 rw [if_neg (by rw [ZN];intro e;rw [e] at h0;exact absurd h0 yF)]
 refine ZqJ h0 (fun row f i=>(row,((f:Nat):Int),((i:Nat):Int))) (fun l=>l) ?_ ?_
 ·intro row f i hf hi hr
  have e:IntKind.i64.wrap (((i:Nat):Int)+((sep.size:Nat):Int))=((i+sep.size:Nat):Int):=by rw [Xn yE yE];omega
  have e1:IntKind.i64.wrap (((i:Nat):Int)+1)=((i+1:Nat):Int):=by rw [Xn yE yE];omega
  simp only[e,e1,AD]
  rw [if_pos (by simp;omega),Zi _ yE]
  split
  ·rw [Zi _ yE,Zi _ yE]
  ·rfl
 ·intro row f i hf hi hn hr
  have e:IntKind.i64.wrap (((i:Nat):Int)+((sep.size:Nat):Int))=((i+sep.size:Nat):Int):=by rw [Xn yE yE];omega
  simp only[e,AD]
  rw [if_neg (by simp;omega),Zi _ yE,Zi _ yE]
theorem ZsC {α:Type} {l:List α} (h:¬(((l.length:Nat):Int) != 2)=true):∃x y,l=[x,y]:=by
 have hl:l.length=2:=by simp at h;omega
 match l,hl with
 | [x,y],_=>exact ⟨x,y,rfl⟩
theorem Zqk {s:ByteArray} (hs:s.size≤1000):∃r a ok,Zd9 s=some (r,a,ok)∧a.length≤s.size+1:=by
 unfold Zd9
 obtain ⟨l,e,hl,hp⟩:=Xj (sep:=⟨#[40]⟩) hs yF yF
 rw [e,A0]
 split
 ·exact ⟨_,_,_,rfl,yG⟩
 rename_i h2
 obtain ⟨x,y,rfl⟩:=ZsC h2
 have c:(([x,y]:List ByteArray).length:Int)=2:=rfl
 rw [Zi _ (by rw [c];decide)]
 simp only[show AG 1=1 from rfl,show AG 0=0 from rfl,Ab,Ac,A0]
 have hy:=(hp y yG).size
 split
 ·exact ⟨_,_,_,rfl,yG⟩
 rename_i h3
 have hy0:y.size≠0:=fun e=>h3 (by rw [e];rfl)
 have e1:IntKind.i64.wrap (((y.size:Nat):Int) - 1)=((y.size - 1:Nat):Int):=by rw [Xn yE yE];omega
 simp only[e1]
 have hb:∃b,sAt y ((y.size - 1:Nat):Int)=some b:=by
  unfold sAt
  rw [if_pos yE,AD]
  exact ⟨y[y.size - 1]'yE,by rw [getElem?_pos]⟩
 obtain ⟨b,hb⟩:=hb
 rw [hb,A0]
 split
 ·exact ⟨_,_,_,rfl,yG⟩
 rw [Zi _ yE,AD]
 split
 ·rw [Zi _ yG]
  exact ⟨_,_,_,rfl,yG⟩
 ·rw [Zi _ yG]
  have hq:(y.extract 0 (y.size - 1)).size≤y.size:=by rw [Aa];omega
  obtain ⟨k,e2,hk,_⟩:=Xj (s:=y.extract 0 (y.size - 1)) (sep:=⟨#[44]⟩) yE yF yF
  rw [e2,A0]
  exact ⟨_,_,_,rfl,yE⟩
theorem ZeZ {s:ByteArray} (hs:s.size≤1000):∃p ok,Yd s=some (p,ok)∧p.args.length≤s.size+1:=by
 unfold Yd
 obtain ⟨r,a,ok,e,ha⟩:=Zqk hs
 rw [e,A0]
 cases ok with
 | false=>exact ⟨_,_,rfl,yG⟩
 | true=>
  rw [if_pos rfl,QA,A0]
  split
  ·exact ⟨_,_,rfl,ha⟩
  ·exact ⟨_,_,rfl,yG⟩
def ZiL:ByteArray:=⟨#[110,111,116,32]⟩
theorem ZnQ {s:ByteArray} (hs:s.size≤1000):∃x ok,ZaH s=some (x,ok)∧x.pattern.args.length≤s.size+1∧(x.kind=2→Xs ZiL s):=by
 unfold ZaH
 have sg:∀k:Int,∃g,Zfu k=some g∧0<g.size∧g.size≤10:=fun k=>by
  unfold Zfu
  split
  ·exact ⟨_,rfl,yF,yF⟩
  ·split
   ·exact ⟨_,rfl,yF,yF⟩
   ·exact ⟨_,rfl,yF,yF⟩
 have key:∀(body:Int→Option (Int ⊕ Zr × Bool)) (Q:Zr × Bool→Prop),(∀k:Nat,3≤k→k≤5→(∃r,body ((k:Nat):Int)=some (.inr r)∧Q r)∨body ((k:Nat):Int)=some (.inl ((k+1:Nat):Int)))→(∃r,body 6=some (.inr r)∧Q r)→∃r,Y5 body 3=some r∧Q r:=by
  intro body Q h1 h2
  have b:∀k:Nat,3≤k→k≤6→∃r,Y5 body ((k:Nat):Int)=some r∧Q r:=by
   have go:∀m k:Nat,k+m=6→3≤k→∃r,Y5 body ((k:Nat):Int)=some r∧Q r:=by
    intro m
    induction m with
    | zero=>
     intro k hk _
     obtain rfl:k=6:=by omega
     obtain ⟨r,e,q⟩:=h2
     exact ⟨r,YG e,q⟩
    | succ m ih=>
     intro k hk h3
     rcases h1 k h3 yE with ⟨r,e,q⟩ | e
     ·exact ⟨r,YG e,q⟩
     ·rw [YU e];exact ih (k+1) yE yE
   exact fun k h3 h6=>go (6 - k) k yE h3
  exact b 3 yE yE
 have fin:∀body:Int→Option (Int ⊕ Zr × Bool),(∃r,Y5 body 3=some r∧(r.1.pattern.args.length≤s.size+1∧(r.1.kind=2→Xs ZiL s)))→∃x ok,Y5 body 3=some (x,ok)∧x.pattern.args.length≤s.size+1∧(x.kind=2→Xs ZiL s):=fun _ ⟨r,e,q⟩=>⟨r.1,r.2,e,q⟩
 refine fin _ (key _ (fun r=>r.1.pattern.args.length≤s.size+1∧(r.1.kind=2→Xs ZiL s)) ?_ ?_)
 ·intro k h3 h5
  rw [if_pos (by simp;omega)]
  obtain ⟨g,eg,g0,g1⟩:=sg ((k:Nat):Int)
  obtain ⟨l,el,hl,hp⟩:=Xj hs g0 g1
  have e1:IntKind.i64.wrap (((k:Nat):Int)+1)=((k+1:Nat):Int):=by rw [Xn yE yE];omega
  rw [eg,A0,el,A0,e1]
  split
  ·rename_i h2
   obtain ⟨x,y,rfl⟩:=ZsC (l:=l) (by simp at h2 ⊢;omega)
   rw [Zi _ yG]
   simp only[show AG 1=1 from rfl,show AG 0=0 from rfl,Ab,Ac,A0]
   rw [Zi _ yG,ZbT,A0]
   split
   ·exact .inl ⟨_,rfl,yG,fun h=>by simp only at h;omega⟩
   ·exact .inr rfl
  ·exact .inr rfl
 ·rw [if_neg yF]
  have a:∀(t:ByteArray),t.size≤s.size→∀kd:Int,(kd=2→Xs ZiL s)→∃r,((Yd t).bind fun v=>if v.2=true then some (Sum.inr (({ kind:=kd,pattern:=v.1,left:=⟨#[]⟩,right:=⟨#[]⟩ }:Zr),true)) else some (.inr (({ kind:=0,pattern:=({ rel:=⟨#[]⟩,args:=[] }:Zv),left:=⟨#[]⟩,right:=⟨#[]⟩ }:Zr),false)))=some (Sum.inr r:Int ⊕ Zr × Bool)∧(r.1.pattern.args.length≤s.size+1∧(r.1.kind=2→Xs ZiL s)):=fun t ht kd hk=>by
   obtain ⟨p,ok,e,ha⟩:=ZeZ (s:=t) yE
   rw [e,A0]
   cases ok with
   | true=>exact ⟨_,rfl,by show p.args.length≤_;omega,hk⟩
   | false=>exact ⟨_,rfl,yG,fun h=>by simp at h⟩
  split
  ·rename_i h4
   have h4':4<s.size:=by simp at h4;omega
   rw [Zi _ yE]
   split
   ·rename_i hn
    have c:=ZN.1 hn
    exact a _ (by rw [Aa];omega) 2 fun _=>by
     unfold ZiL
     rw [←c]
     exact Xs.ext s yF (by show AG 4≤_;have:AG 4=4:=rfl;omega)
   ·exact a s (AB _) 1 fun h=>by omega
  ·exact a s (AB _) 1 fun h=>by omega
theorem Zo2 {s:ByteArray} (hs:s.size≤1000):∃a ok,Zap s=some (a,ok)∧a.pattern.args.length≤s.size+1:=by
 unfold Zap
 split
 ·exact ⟨_,_,rfl,yG⟩
 obtain ⟨l,e,hl,hp⟩:=Xj (sep:=⟨#[32]⟩) hs yF yF
 rw [e,A0]
 split
 ·exact ⟨_,_,rfl,yG⟩
 rename_i h2
 obtain ⟨x,y,rfl⟩:=ZsC h2
 have hy:=(hp y yG).size
 obtain ⟨p,ok,ep,ha⟩:=ZeZ (s:=y) yE
 rw [Zi _ yG]
 simp only[show AG 1=1 from rfl,show AG 0=0 from rfl,Ab,Ac,A0,ep]
 split
 ·rw [Zi _ yG]
  exact ⟨_,_,rfl,by show p.args.length≤_;omega⟩
 ·split
  ·rw [Zi _ yG]
   exact ⟨_,_,rfl,by show p.args.length≤_;omega⟩
  ·exact ⟨_,_,rfl,yG⟩
structure ZiP (s:ByteArray) (r:Zf):Prop where
 cl:r.cond.length≤s.size+1
 tl:r.thn.length≤s.size+1
 ca:∀x∈r.cond,x.pattern.args.length≤s.size+1∧(x.kind=2→Xs ZiL s)
 ta:∀a∈r.thn,a.pattern.args.length≤s.size+1
theorem ZmR {α ρ:Type} {s:ByteArray} {P:α→Prop} {g:ByteArray→Option (α × Bool)} {fin:List α→Option ρ} {z:List α→ρ} {Q:ρ→Prop} {l:List ByteArray} (hl:l.length≤2000) (hp:∀p∈l,Xs p s) (hg:∀p,Xs p s→∃x ok,g p=some (x,ok)∧P x) (hz:∀acc:List α,acc.length≤l.length→(∀x∈acc,P x)→Q (z acc)) (b:∀acc:List α,acc.length≤l.length→(∀x∈acc,P x)→∃r,fin acc=some r∧Q r):
  ∃r,Zn (σ:=List α) (fun (i:Nat) (x:ByteArray) row=>(g x).bind fun v=>if v.2=true then chk (row.length+1≤1073741824) (some (.inl (row++[v.1]))) else some (.inr (z row))) fin l 0 []=some r∧Q r:=by
 have key:∀(m:List ByteArray) (i:Nat) (acc:List α),(∀p∈m,p∈l)→acc.length+m.length≤l.length→(∀x∈acc,P x)→∃r,Zn (σ:=List α) (fun (i:Nat) (x:ByteArray) row=>(g x).bind fun v=>if v.2=true then chk (row.length+1≤1073741824) (some (.inl (row++[v.1]))) else some (.inr (z row))) fin m i acc=some r∧Q r:=by
  intro m
  induction m with
  | nil=>intro i acc _ a ha;exact b acc (by simp at a;omega) ha
  | cons x m ih=>
   intro i acc hm a ha
   obtain ⟨y,ok,e,hy⟩:=hg x (hp x (hm x yG))
   rw [AP] at a
   cases ok with
   | true=>
    rw [ZV (s':=acc++[y]) (by rw [e];exact Zi _ yE)]
    exact ih _ _ (fun p mp=>hm p (by simp [mp])) (by simp;omega) fun q mq=>by
     rcases A5.1 mq with mq | mq
     ·exact ha q mq
     ·simp at mq;subst mq;exact hy
   | false=>exact ⟨_,Ya (by rw [e];rfl),hz acc yE ha⟩
 exact key l 0 [] (fun _ h=>h) yG yG
theorem Zp5 {s a b:ByteArray} (hs:s.size≤1000) (ha:Xs a s) (hb:Xs b s) (r0:Zf):∃r ok,Zen r0 a b=some (r,ok)∧ZiP s r:=by
 unfold Zen
 have ha':=ha.size
 have hb':=hb.size
 obtain ⟨l,e,hl,hp⟩:=Xj (s:=a) (sep:=⟨#[32,38,32]⟩) yE yF yF
 obtain ⟨k,e2,hk,hq⟩:=Xj (s:=b) (sep:=⟨#[32,38,32]⟩) yE yF yF
 rw [e,A0]
 obtain ⟨r,h1,h2⟩:=ZmR (s:=s) (P:=fun x:Zr=>x.pattern.args.length≤s.size+1∧(x.kind=2→Xs ZiL s)) (g:=ZaH) (fin:=fun d=>(Qd b (⟨#[32,38,32]⟩)).bind fun i=>
   Zn (σ:=(List Zx))
    (fun (i37:Nat) (j:ByteArray) c=>
     (Zap j).bind fun f=>
     if f.2=true then
      chk (c.length+1≤1073741824) <|
      some (.inl (c++[f.1]))
     else
      some (.inr (({ name:=r0.name,priority:=r0.priority,cond:=d,thn:=c }:Zf),false)))
    (fun c=>
     (ZbX ({ name:=r0.name,priority:=r0.priority,cond:=d,thn:=c }:Zf)).bind fun m=>
     some (({ name:=r0.name,priority:=r0.priority,cond:=d,thn:=c }:Zf),m))
    i 0 []) (z:=fun d=>(({ name:=r0.name,priority:=r0.priority,cond:=d,thn:=[] }:Zf),false)) (Q:=fun r=>ZiP s r.1) (l:=l) yE (fun p mp=>(hp p mp).trans ha) (fun p hp=>by
    obtain ⟨x,ok,e,h1,h2⟩:=ZnQ (s:=p) (by have:=hp.size;omega)
    exact ⟨x,ok,e,by have:=hp.size;omega,fun h=>(h2 h).trans hp⟩) (fun acc h1 h2=>⟨by show acc.length≤_;omega,yG,h2,yG⟩) (fun acc h1 h2=>by
    rw [e2,A0]
    exact ZmR (s:=s) (P:=fun x:Zx=>x.pattern.args.length≤s.size+1) (g:=Zap) (z:=fun c=>(({ name:=r0.name,priority:=r0.priority,cond:=acc,thn:=c }:Zf),false)) (Q:=fun r=>ZiP s r.1) (l:=k) yE (fun p mp=>(hq p mp).trans hb) (fun p hp=>by
     obtain ⟨x,ok,e,h1⟩:=Zo2 (s:=p) (by have:=hp.size;omega)
     exact ⟨x,ok,e,by have:=hp.size;omega⟩) (fun row h3 h4=>⟨by show acc.length≤_;omega,by show row.length≤_;omega,h2,h4⟩) (fun row h3 h4=>by
     rw [Zfr _ ⟨by show acc.length≤_;omega,by show row.length≤_;omega,fun x mx=>by have:=(h2 x mx).1;omega,fun x mx=>by have:=h4 x mx;omega⟩,A0]
     exact ⟨_,rfl,by show acc.length≤_;omega,by show row.length≤_;omega,h2,h4⟩))
 exact ⟨r.1,r.2,h1,h2⟩
theorem Zel (s:ByteArray):ZiP s { name:=⟨#[]⟩,priority:=0,cond:=[],thn:=[] }:=⟨by simp,by simp,by simp,by simp⟩
theorem Znt {s:ByteArray} (hs:s.size≤1000):∃r ok,QB s=some (r,ok)∧ZiP s r:=by
 unfold QB
 obtain ⟨l,e,hl,hp⟩:=Xj (sep:=⟨#[58,32]⟩) hs yF yF
 rw [e,A0]
 split
 ·exact ⟨_,_,rfl,Zel s⟩
 rename_i h2
 obtain ⟨x,y,rfl⟩:=ZsC h2
 have hx:=hp x yG
 have hy:=hp y yG
 have hx':=hx.size
 have hy':=hy.size
 obtain ⟨m,em,hm,hpm⟩:=Xj (s:=x) (sep:=⟨#[32]⟩) yE yF yF
 obtain ⟨k,ek,hk,a⟩:=Xj (s:=y) (sep:=⟨#[32,45,62,32]⟩) yE yF yF
 rw [Zi _ yG]
 simp only[show AG 1=1 from rfl,show AG 0=0 from rfl,Ab,Ac,A0,em]
 rw [Zi _ yG,ek,A0]
 split
 ·exact ⟨_,_,rfl,Zel s⟩
 rename_i h3
 obtain ⟨m0,m1,rfl⟩:=ZsC h3
 split
 ·exact ⟨_,_,rfl,Zel s⟩
 rename_i h4
 obtain ⟨k0,k1,rfl⟩:=ZsC h4
 rw [Zi _ yG]
 simp only[Ab,Ac,A0,Q0]
 split
 ·rw [Zi _ yG,Zi _ yG,Zi _ yG]
  obtain ⟨r,ok,er,hr⟩:=Zp5 hs ((a k0 yG).trans hy) ((a k1 yG).trans hy) ({ name:=m0,priority:=(ZcZ m1).1,cond:=[],thn:=[] }:Zf)
  rw [er,A0]
  cases ok with
  | true=>exact ⟨_,_,rfl,hr⟩
  | false=>exact ⟨_,_,rfl,Zel s⟩
 ·exact ⟨_,_,rfl,Zel s⟩
section
open Classical
def ZOq (R:List Zf):Prop:=∀r∈R,∀x∈r.cond,¬x.kind=2
theorem ZOk {R:List Zf} (hm:ZOq R) {r:Zf} (mr:r∈R) (t:Zt):Zqu r t=[]:=by
 unfold Zqu
 have:r.cond.filter (fun x=>x.kind==2)=[]:=B7.2 fun x mx=>by simpa using hm r mr x mx
 rw [this]
 rfl
theorem ZOb {R:List Zf} (hm:ZOq R) {base F:List Zd} (h:Yu R base F) (b:(YJ R F base).length≤60):YT F (rdB { nodes:=((F.length:Nat):Int),reasons:=YJ R F base })=F:=by
 have hM:=ZOw h b
 have ha:ZiF (YT F (rdB { nodes:=((F.length:Nat):Int),reasons:=YJ R F base })):=ZJS ZiB h.good.asc
 refine Zkc ha h.good.asc fun f=>⟨fun mf=>Zms.2 f mf,fun mf=>h.good.low _ ⟨ha,hM.giv,fun r mr t mt a ma=>hM.clos r mr t mt (by rw [ZOk hm mr];simp) a ma⟩ f mf⟩
end
theorem ZoD {c:ZF} (h:Qb c) {l:List ByteArray} (h0:0<l.length) (h1:l.length≤256):∃x c',Zdx c l=some (x,c')∧x∈l∧Qb c':=by
 obtain ⟨x,c',e,hx,hx2,hc⟩:=ZcC h (n:=((l.length:Nat):Int)) yE yE
 have hn:x.toNat<l.length:=by omega
 refine ⟨l[x.toNat],c',?_,Ap _,hc⟩
 unfold Zdx
 rw [e]
 show (atI l x).bind _=_
 rw [show atI l x=some l[x.toNat] by unfold atI;rw [if_pos hx,A9 hn]]
 rfl
def RK (nots:Bool) (r:Zf):Prop:=∃s:ByteArray,s.size≤100∧(nots=false→¬Xs ZiL s)∧ZiP s r
theorem ZkZ (L:List ByteArray) (n:Int) (N:Nat) (hN:N=L.length) (h0:0<n) (hn:n≤N) (hs:∀s∈L,s.size≤100) (hL:N≤256) {c:ZF} (hc:Qb c):∃s r c',((Xb c n).bind fun v1=>chk (0≤v1.1∧v1.1<((N:Nat):Int)) ((L[(AG v1.1)]?).bind fun x2=>(QB x2).bind fun v3=>some (v3.1,v1.2)))=some (r,c')∧s∈L.take n.toNat∧s.size≤100∧ZiP s r∧Qb c':=by
 obtain ⟨x,c',e,hx,hx2,a⟩:=ZcC hc h0 yE
 have hl:x.toNat<L.length:=by omega
 obtain ⟨r,ok,er,hr⟩:=Znt (s:=L[x.toNat]) (by have:=hs _ (Ap hl);omega)
 refine ⟨L[x.toNat],r,c',?_,?_,hs _ (Ap hl),hr,a⟩
 ·rw [e,A0,Zi _ yE,A9 hl,A0,er]
  rfl
 ·rw [List.mem_take_iff_getElem]
  exact ⟨x.toNat,yE,rfl⟩
theorem Zwa {s:ByteArray} (h:¬toL ZiL <:+: toL s):¬Xs ZiL s:=fun k=>h k.infix
theorem ZpT {c:ZF} (h:Qb c) (a:Bool):∃r c',Zbn c a=some (r,c')∧RK a r∧Qb c':=by
 unfold Zbn
 have fin:∀{L:List ByteArray} {n:Int} {o:Option (Zf × ZF)},(a=false→∀s∈L.take n.toNat,¬toL ZiL <:+: toL s)→(∃s r c',o=some (r,c')∧s∈L.take n.toNat∧s.size≤100∧ZiP s r∧Qb c')→∃r c',o=some (r,c')∧RK a r∧Qb c':=fun hn ⟨s,r,c',e,h1,h2,h3,h4⟩=>⟨r,c',e,⟨s,h2,fun hf=>Zwa (hn hf s h1),h3⟩,h4⟩
 cases a with
 | true=>
  rw [if_pos rfl]
  exact fin (fun h=>by cases h) (ZkZ _ 11 11 rfl yE yE yF yE h)
 | false=>
  rw [if_neg yG]
  exact fin (fun _=>by decide) (ZkZ _ 7 11 rfl yE yE yF yE h)
theorem RK.name {a:Bool} {r:Zf} (h:RK a r) (n:ByteArray) (p:Int):RK a { name:=n,priority:=p,cond:=r.cond,thn:=r.thn }:=by
 obtain ⟨s,h1,h2,h3⟩:=h
 exact ⟨s,h1,h2,h3.cl,h3.tl,h3.ca,h3.ta⟩
theorem Zr7 {a:Bool} {R:List Zf} (hl:R.length≤100) (h:∀r∈R,RK a r):ZbC R:=by
 have b:∀r∈R,Za6 r∧r.cond.length≤101:=fun r mr=>by
  obtain ⟨s,h1,_,h3⟩:=h r mr
  have:=h3.cl
  have:=h3.tl
  exact ⟨⟨yE,yE,fun x mx=>by have:=(h3.ca x mx).1;omega,fun x mx=>by have:=h3.ta x mx;omega⟩,yE⟩
 refine ⟨fun r mr=>(b r mr).1,?_⟩
 have:∀l:List Zf,(∀r∈l,r∈R)→(l.flatMap Yc).length≤101 * l.length:=by
  intro l
  induction l with
  | nil=>intro _;simp
  | cons r l ih=>
   intro hm
   have h1:=ih fun q mq=>hm q (by simp [mq])
   have h2:=ZkR r
   have h3:=(b r (hm r yG)).2
   rw [Ay,AM,AP]
   omega
 have:=this R fun _ h=>h
 omega
theorem ZOu {R:List Zf} (h:∀r∈R,RK false r):ZOq R:=fun r mr x mx hk=>by
 obtain ⟨s,_,h2,h3⟩:=h r mr
 exact h2 rfl ((h3.ca x mx).2 hk)
theorem Zow {c:ZF} (h:Qb c) (a:Bool):∃R c',Zda c a=some (R,c')∧R.length≤3∧(∀r∈R,RK a r)∧Qb c':=by
 unfold Zda
 obtain ⟨n,c1,e,n0,n1,hc⟩:=ZcC h (n:=4) yE yE
 rw [e,A0]
 have key:∀(k:Nat) (cc:ZF) (row:List Zf),Qb cc→row.length+k≤3→(∀r∈row,RK a r)→∃R c',Y5 (σ:=(List Int) × Int × Int × (List Zf) × Int)
  (fun s=>
   match s with
   | (j,l,m,d,f)=>
   if (decide (0<f))=true then
    (Zbn ({ b:=j,i:=l,h:=m }:ZF) a).bind fun v9=>
    (XO f).bind fun o=>
    chk ((⟨#[114]⟩:ByteArray).size+o.size≤9223372036854775807) <|
    chk (d.length+1≤1073741824) <|
    some (.inl (v9.2.b,v9.2.i,v9.2.h,(d++[({ name:=((⟨#[114]⟩:ByteArray)++o),priority:=v9.1.priority,cond:=v9.1.cond,thn:=v9.1.thn }:Zf)]),(IntKind.i64.wrap (f - 1))))
   else
    some (.inr (d,({ b:=j,i:=l,h:=m }:ZF))))
  (cc.b,cc.i,cc.h,row,((k:Nat):Int))=some (R,c')∧R.length≤3∧(∀r∈R,RK a r)∧Qb c':=by
  intro k
  induction k with
  | zero=>
   intro cc row g hl hr
   exact ⟨row,cc,YG rfl,yE,hr,g⟩
  | succ k ih=>
   intro cc row g hl hr
   obtain ⟨r,c2,e2,t,u⟩:=ZpT g a
   have p:decide (0<(((k+1:Nat)):Int))=true:=decide_eq_true yE
   have hw:IntKind.i64.wrap ((((k+1:Nat)):Int) - 1)=((k:Nat):Int):=by rw [Xn yE yE];omega
   have hsz:(ofL (Lib.itoa ((k+1:Nat):Int))).size≤21:=Zss ⟨yE,yE⟩
   refine (YU (s':=(c2.b,c2.i,c2.h,row++[({ name:=((⟨#[114]⟩:ByteArray)++ofL (Lib.itoa ((k+1:Nat):Int))),priority:=r.priority,cond:=r.cond,thn:=r.thn }:Zf)],((k:Nat):Int))) ?_) ▸ ih c2 _ u (by simp;omega) fun q mq=>?_
   ·simp only[p,if_true]
    rw [show ({ b:=cc.b,i:=cc.i,h:=cc.h }:ZF)=cc from rfl,e2,A0,ZfT ⟨yE,yE⟩,A0,Zi _ (by have:(⟨#[114]⟩:ByteArray).size=1:=rfl;omega),Zi _ yE,hw]
   ·rcases A5.1 mq with mq | mq
    ·exact hr q mq
    ·simp at mq;subst mq;exact t.name _ _
 have e5:n=((n.toNat:Nat):Int):=by omega
 have:=key n.toNat c1 [] hc (by simp;omega) (fun y hy=>by simp at hy)
 rw [←e5] at this
 exact this
theorem ZqB {c:ZF} (h:Qb c) {m:Int} (h0:0≤m) (h7:m≤7):∃l c',Zeo c m=some (l,c')∧l.length≤7∧(∀f∈l,f.args.length≤2)∧Qb c':=by
 unfold Zeo
 have hw:IntKind.i64.wrap (m+1)=m+1:=Xn yE yE
 rw [hw]
 obtain ⟨n,c1,e,n0,n1,hc⟩:=ZcC h (n:=m+1) yE yE
 rw [e,A0]
 have B:∀(row:List Zd) (f:Zd),row.length≤7→(∀f∈row,f.args.length≤2)→f.args.length≤2→∃j,YI row f=some j∧j.length≤row.length+1∧∀f∈j,f.args.length≤2:=fun row f hl ha hf=>⟨_,Zk2 row f yE (fun x mx=>by have:=ha x mx;omega) yE,ZjK f row,fun x mx=>by
  rcases Qm.1 mx with rfl | mx
  ·exact hf
  ·exact ha x mx⟩
 have key:∀(k:Nat) (cc:ZF) (row:List Zd),Qb cc→row.length+k≤7→(∀f∈row,f.args.length≤2)→∃l c',Y5 (σ:=(List Int) × Int × Int × (List Zd) × Int)
   (fun s=>
   match s with
   | (A,t,u,g,o)=>
   if (decide (0<o))=true then
    (Zdx ({ b:=A,i:=t,h:=u }:ZF) ([(⟨#[97]⟩),(⟨#[98]⟩),(⟨#[49]⟩),(⟨#[50]⟩)])).bind fun q=>
    (Zdx q.2 ([(⟨#[97]⟩),(⟨#[98]⟩),(⟨#[49]⟩)])).bind fun w=>
    (Xb w.2 5).bind fun d=>
    if (d.1==0)=true then
     (YI g ({ rel:=(⟨#[112]⟩),args:=[q.1] }:Zd)).bind fun C=>
     some (.inl (d.2.b,d.2.i,d.2.h,C,(IntKind.i64.wrap (o - 1))))
    else
     if (d.1==1)=true then
      (YI g ({ rel:=(⟨#[97,116]⟩),args:=[q.1,w.1] }:Zd)).bind fun D=>
      some (.inl (d.2.b,d.2.i,d.2.h,D,(IntKind.i64.wrap (o - 1))))
     else
      if (d.1==2)=true then
       (YI g ({ rel:=(⟨#[113]⟩),args:=[q.1] }:Zd)).bind fun E=>
       some (.inl (d.2.b,d.2.i,d.2.h,E,(IntKind.i64.wrap (o - 1))))
      else
       (YI g ({ rel:=(⟨#[111,110]⟩),args:=[q.1,w.1] }:Zd)).bind fun F=>
       some (.inl (d.2.b,d.2.i,d.2.h,F,(IntKind.i64.wrap (o - 1))))
   else
    some (.inr (g,({ b:=A,i:=t,h:=u }:ZF))))
   (cc.b,cc.i,cc.h,row,((k:Nat):Int))=some (l,c')∧l.length≤7∧(∀f∈l,f.args.length≤2)∧Qb c':=by
  intro k
  induction k with
  | zero=>
   intro cc row z hl hr
   exact ⟨row,cc,YG rfl,yE,hr,z⟩
  | succ k ih=>
   intro cc row z hl hr
   obtain ⟨a,c2,e2,_,G⟩:=ZoD z (l:=[(⟨#[97]⟩),(⟨#[98]⟩),(⟨#[49]⟩),(⟨#[50]⟩)]) yG yG
   obtain ⟨b,c3,e3,_,H⟩:=ZoD G (l:=[(⟨#[97]⟩),(⟨#[98]⟩),(⟨#[49]⟩)]) yG yG
   obtain ⟨x,c4,e4,_,_,I⟩:=ZcC H (n:=5) yE yE
   have p:decide (0<(((k+1:Nat)):Int))=true:=decide_eq_true yE
   have hw:IntKind.i64.wrap ((((k+1:Nat)):Int) - 1)=((k:Nat):Int):=by rw [Xn yE yE];omega
   have go:∀f:Zd,f.args.length≤2→∀{body:(List Int) × Int × Int × (List Zd) × Int→Option (((List Int) × Int × Int × (List Zd) × Int) ⊕ (List Zd × ZF))},(body (cc.b,cc.i,cc.h,row,((k+1:Nat):Int))=(YI row f).bind fun v=>some (.inl (c4.b,c4.i,c4.h,v,((k:Nat):Int))))→(∀(row:List Zd),row.length+k≤7→(∀f∈row,f.args.length≤2)→∃l c',Y5 body (c4.b,c4.i,c4.h,row,((k:Nat):Int))=some (l,c')∧l.length≤7∧(∀f∈l,f.args.length≤2)∧Qb c')→∃l c',Y5 body (cc.b,cc.i,cc.h,row,((k+1:Nat):Int))=some (l,c')∧l.length≤7∧(∀f∈l,f.args.length≤2)∧Qb c':=fun f hf body hb hi=>by
    obtain ⟨j,ep,hl',J⟩:=B row f yE hr hf
    rw [YU (hb.trans (by rw [ep];rfl))]
    exact hi j yE J
   have hi:=fun row=>ih c4 row I
   by_cases x0:x=0
   ·refine go { rel:=(⟨#[112]⟩),args:=[a] } yG ?_ hi
    simp only[p,if_true]
    rw [show ({ b:=cc.b,i:=cc.i,h:=cc.h }:ZF)=cc from rfl,e2,A0,e3,A0,e4,A0,hw,if_pos (by simp [x0])]
   ·by_cases x1:x=1
    ·refine go { rel:=(⟨#[97,116]⟩),args:=[a,b] } yG ?_ hi
     simp only[p,if_true]
     rw [show ({ b:=cc.b,i:=cc.i,h:=cc.h }:ZF)=cc from rfl,e2,A0,e3,A0,e4,A0,hw,if_neg (by simp [x0]),if_pos (by simp [x1])]
    ·by_cases x2:x=2
     ·refine go { rel:=(⟨#[113]⟩),args:=[a] } yG ?_ hi
      simp only[p,if_true]
      rw [show ({ b:=cc.b,i:=cc.i,h:=cc.h }:ZF)=cc from rfl,e2,A0,e3,A0,e4,A0,hw,if_neg (by simp [x0]),if_neg (by simp [x1]),if_pos (by simp [x2])]
     ·refine go { rel:=(⟨#[111,110]⟩),args:=[a,b] } yG ?_ hi
      simp only[p,if_true]
      rw [show ({ b:=cc.b,i:=cc.i,h:=cc.h }:ZF)=cc from rfl,e2,A0,e3,A0,e4,A0,hw,if_neg (by simp [x0]),if_neg (by simp [x1]),if_neg (by simp [x2])]
 have e5:n=((n.toNat:Nat):Int):=by omega
 have:=key n.toNat c1 [] hc (by simp;omega) (fun y hy=>by simp at hy)
 rw [←e5] at this
 exact this
theorem ZOa (a:List Int) (h:a.length≤4096):∃R base,ZNY a=some (R,base)∧R.length≤3∧(∀r∈R,RK false r)∧base.length≤7∧∀f∈base,f.args.length≤2:=by
 obtain ⟨c,e1,h1⟩:=ZtT a h
 obtain ⟨R,c1,e2,r1,r2,h2⟩:=Zow h1 false
 obtain ⟨base,c2,e3,b1,b2,_⟩:=ZqB h2 (m:=5) yE yE
 refine ⟨R,base,?_,r1,r2,b1,b2⟩
 unfold ZNY
 rw [e1,A0,e2,A0,e3]
 rfl
section
open Classical
def ZKd (R:List Zf) (base M:List Zd) (ok:Bool):Prop:=(ok=false∧M=[])∨(ok=true∧∃F,Yu R base F∧(YJ R F base).length≤60∧M=YT F (rdB { nodes:=((F.length:Nat):Int),reasons:=YJ R F base }))
theorem ZJt {R:List Zf} (hR:ZbC R) (base:List Zd) (a:base.length≤1048576):∃M ok,ZIQ R base=some (M,ok)∧Zbg R base=some (M,ok)∧ZKd R base M ok:=by
 obtain ⟨F,b,ok,h1,h2,h3⟩:=Zhb hR base a
 unfold ZIQ Zbg
 rw [h1,h2]
 rcases h3 with ⟨rfl,rfl,rfl⟩ | ⟨rfl,hG,rfl,c⟩
 ·exact ⟨_,_,rfl,rfl,.inl ⟨rfl,rfl⟩⟩
 ·have hB:=ZdS.of hG c
  refine ⟨_,true,?_,?_,.inr ⟨rfl,F,hG,c,rfl⟩⟩
  ·rw [A0,if_pos rfl,ZJ6 hB hG.args rfl];rfl
  ·rw [A0,if_pos rfl,Zo3 hB hG.args rfl];rfl
theorem Zse {l:List Zd} {f:Zd}:Z9 l f<0↔f∉l:=by
 rcases Zhd l f with ⟨h1,h2⟩ | ⟨j,h1,h2⟩
 ·exact ⟨fun _=>h1,fun _=>by omega⟩
 ·exact ⟨fun h=>by omega,fun h=>absurd (AA h2) h⟩
theorem Znn {l:List Zd} {f:Zd}:0≤Z9 l f↔f∈l:=by
 have:=Zse (l:=l) (f:=f)
 by_cases h:f∈l
 ·exact ⟨fun _=>h,fun _=>Az.1 fun hn=>this.1 hn h⟩
 ·exact ⟨fun hn=>absurd hn (Int.not_le.2 (this.2 h)),fun hh=>absurd hh h⟩
end
section
open Classical
theorem Zp3 (l:List Zd) (f:Zd):Zh6 l f=some (decide (f∈l)):=by
 unfold Zh6
 rw [Zbw,A0]
 exact congrArg some (decide_eq_decide.2 Znn)
theorem Zsp {a:List Int} (h:¬decide (4096<((a.length:Nat):Int))=true):a.length≤4096:=by
 simp at h;omega
theorem ZtE (a:List Int):ZqV a=some (decide (4096<((a.length:Nat):Int))):=rfl
theorem ZI3 {R:List Zf} (hR:ZbC R) {base F:List Zd} (h:Yu R base F):Yg R base=some (F,true)∧Yf R base=some (F,true):=by
 obtain ⟨G,p1,p2,hG,a⟩:=ZJB hR (fun _ h=>h) h.logical h (BP base)
 have e:G=F:=Zkc hG.good.asc h.good.asc fun f=>⟨a f,h.good.low G ⟨hG.good.asc,hG.good.inc,hG.closed⟩ f⟩
 rw [←e]
 exact ⟨p1,p2⟩
end
section
open Classical
section
variable {R:List Zf} {base F:List Zd}
theorem ZJI (hR:ZbC R) (hG:Yu R base F) (a:(YJ R F base).length≤60):ZEB R base=some (F,{ nodes:=((F.length:Nat):Int),reasons:=YJ R F base },(Zad ZnY F noI R base).2,true)∧ZD0 R base=some (F,{ nodes:=((F.length:Nat):Int),reasons:=YJ R F base },(Zad Zo5 F noS R base).2,true):=by
 obtain ⟨q1,q2⟩:=ZHd R base
 obtain ⟨p1,p2⟩:=ZI3 hR hG
 obtain ⟨e1,_⟩:=Zi7 ZnY F noI R base
 obtain ⟨e2,_⟩:=Zi7 Zo5 F noS R base
 refine ⟨?_,?_⟩
 ·rw [q1,Zpu hG p2,ZId (by rw [e1];exact a),e1]
 ·rw [q2,Zpt hG p1,ZId (by rw [e2];exact a),e2]
theorem ZJ2 (hG:Yu R base F) (a:(YJ R F base).length≤60) {f:Zd} {l:List Int} (hl:ZFZ { nodes:=((F.length:Nat):Int),reasons:=YJ R F base } (Z9 F f) l):0<l.length↔f∈YT F (rdB { nodes:=((F.length:Nat):Int),reasons:=YJ R F base }):=by
 have hB:=ZdS.of hG a
 have b:=Zg2 hG.good.asc
 have c:(rdB { nodes:=((F.length:Nat):Int),reasons:=YJ R F base }).length=F.length:=by rw [hB.rd];simp
 rw [ZtX b c]
 constructor
 ·intro h
  have h0:0≤ZDU { nodes:=((F.length:Nat):Int),reasons:=YJ R F base } (Z9 F f):=by
   refine Az.1 fun hn=>?_
   rw [hl.none hn] at h
   simp at h
  obtain ⟨y0,_,y2,_⟩:=ZEA h0
  exact ⟨Znn.1 y0,y2⟩
 ·rintro ⟨mF,hr⟩
  obtain ⟨t,e⟩:=hl.last (ZJU hB (Znn.2 mF) hr)
  rw [e];simp
theorem ZJR (hG:Yu R base F) {f:Zd} {l:List Int} (hl:ZFZ { nodes:=((F.length:Nat):Int),reasons:=YJ R F base } (Z9 F f) l) (h:0<l.length) {O:List Zac}:∃s,(ZDn F (YJ R F base) O l)[l.length - 1]?=some s∧s.fact=f:=by
 have h0:0≤ZDU { nodes:=((F.length:Nat):Int),reasons:=YJ R F base } (Z9 F f):=by
  refine Az.1 fun hn=>?_
  rw [hl.none hn] at h
  simp at h
 obtain ⟨t,e⟩:=hl.last h0
 obtain ⟨y0,_,y2,c,c1,c2,_⟩:=ZEA h0
 simp only at c1
 refine ⟨mkS F (YJ R F base) O (ZDn F (YJ R F base) O t) (ZDU { nodes:=((F.length:Nat):Int),reasons:=YJ R F base } (Z9 F f)),?_,?_⟩
 ·rw [e,ZEK,AM,Aq,Nat.add_sub_cancel]
  have:=ZEG F (YJ R F base) O t
  rw [AZ yE,this]
  simp
 ·unfold mkS
  rw [c1]
  show ZIh F c.for_=f
  rw [c2]
  exact ZIR (Znn.1 y0)
end
end
section
open Classical
theorem ZOn {a b:List Zd} (ha:ZiF a) (hb:ZiF b) (hs:∀f∈a,f∈b):a.Sublist b:=by
 have:a=b.filter fun f=>decide (f∈a):=Zkc ha (ZJS BQ hb) fun f=>by
  rw [AU,decide_eq_true_iff]
  exact ⟨fun h=>⟨hs f h,h⟩,fun h=>h.2⟩
 rw [this]
 exact BQ
theorem ZN7 {f:Zd}:∀(l:List ZvY),f∈ZNX l↔∃s∈l,s.rule=⟨#[]⟩∧s.fact=f:=
 ZHx (P:=fun l=>f∈ZNX l↔∃s∈l,s.rule=⟨#[]⟩∧s.fact=f) (by simp [ZNX]) fun p x ih=>by
  rw [ZN1]
  by_cases h:sEq x.rule ⟨#[]⟩=true
  ·rw [if_pos h,Qm,ih]
   rw [ZN] at h
   constructor
   ·rintro (rfl | ⟨s,ms,h1⟩)
    ·exact ⟨x,yG,h,rfl⟩
    ·exact ⟨s,by simp [ms],h1⟩
   ·rintro ⟨s,ms,h1,h2⟩
    rcases A5.1 ms with ms | ms
    ·exact .inr ⟨s,ms,h1,h2⟩
    ·simp at ms
     subst ms
     exact .inl h2.symm
  ·rw [if_neg h,ih]
   rw [ZN] at h
   constructor
   ·rintro ⟨s,ms,h1⟩
    exact ⟨s,by simp [ms],h1⟩
   ·rintro ⟨s,ms,h1,h2⟩
    rcases A5.1 ms with ms | ms
    ·exact ⟨s,ms,h1,h2⟩
    ·simp at ms
     subst ms
     exact absurd h1 h
theorem ZOj {R:List Zf} (hR:ZbC R) (d:ZOq R) {base F:List Zd} (hG:Yu R base F) (m:(YJ R F base).length≤60) {x:Int} {l:List Int} (hl:ZFZ { nodes:=((F.length:Nat):Int),reasons:=YJ R F base } x l):
  ∃G,Zbg R (ZNX (ZDn F (YJ R F base) (Zad ZnY F noI R base).2 l))=some (G,true)∧(∀s∈ZDn F (YJ R F base) (Zad ZnY F noI R base).2 l,s.fact∈G)∧ZIK R (ZNX (ZDn F (YJ R F base) (Zad ZnY F noI R base).2 l)) (ZDn F (YJ R F base) (Zad ZnY F noI R base).2 l)=some true:=by
 obtain ⟨c1,c2⟩:=ZHW hG m hl
 have g:=fun p k q e=>(ZJJ hG m (O:=(Zad ZnY F noI R base).2) rfl hl p k q e).1
 generalize hO:(Zad ZnY F noI R base).2=O at *
 generalize hst:ZDn F (YJ R F base) O l=st at *
 have B:∀{r:Zf},r∈R→r.name≠⟨#[]⟩:=fun mr=>by
  have c:=hG.logical
  rw [A3] at c
  exact ZKb ((ZhO c.1).2 _ mr)
 have u:∀f∈ZNX st,f∈base:=fun f mf=>by
  obtain ⟨s,ms,h1,h2⟩:=(ZN7 st).1 mf
  obtain ⟨i,hi⟩:=Aw.1 ms
  rw [←hst] at hi
  obtain ⟨p,k,q,e1,_,e2,_⟩:=ZIq hi
  rcases g p k q e1 with ⟨_,_,h3⟩ | ⟨r,mr,t,_,a,_,h3,_⟩
  ·rw [←e2,h2] at h3;exact h3
  ·rw [←e2,h1] at h3
   exact absurd h3.symm (B mr)
 have v:(ZNX st).Sublist base:=ZOn (ZOo st).asc (ZhD hG.facts) u
 obtain ⟨G,p1,p2,b,C⟩:=ZJB hR (fun _ h=>h) hG.logical hG v
 have j:(YJ R G (ZNX st)).length≤60:=Af (ZOm (fun _ h=>h) hG b u C) m
 have hB:=ZdS.of b j
 obtain ⟨h1,h2⟩:=ZN6 b p1 p2 j
 have hm:Zbg R (ZNX st)=some (G,true):=by
  unfold Zbg
  rw [h1,A0,if_pos rfl,Zo3 hB b.args rfl,ZOb d b j];rfl
 have w:∀p q,l=p++q→∀s∈ZDn F (YJ R F base) O p,s.fact∈G:=by
  intro p
  refine ZHx (P:=fun p=>∀q,l=p++q→∀s∈ZDn F (YJ R F base) O p,s.fact∈G) ?_ ?_ p
  ·intro q _ s ms;simp [ZDn] at ms
  ·intro p k ih q e s ms
   have e':l=p++k::q:=by rw [e];simp
   rw [ZEK] at ms
   rcases A5.1 ms with ms | ms
   ·exact ih (k::q) e' s ms
   ·simp at ms
    subst ms
    rcases g p k q e' with ⟨h3,_,h4⟩ | ⟨r,mr,t,mt,a,ma,_,h4,_,_,h5,_⟩
    ·refine b.good.inc _ ((ZN7 st).2 ⟨_,?_,h3,rfl⟩)
     rw [←hst,e']
     have:p++k::q=(p++[k])++q:=by simp
     rw [this]
     have D:∀(q p:List Int),ZDn F (YJ R F base) O p <+: ZDn F (YJ R F base) O (p++q):=by
      intro q
      induction q with
      | nil=>intro p;simp
      | cons y q E=>
       intro p
       have:=E (p++[y])
       rw [At] at this
       refine List.IsPrefix.trans ?_ this
       rw [ZEK]
       exact List.prefix_append _ _
     refine (D q (p++[k])).subset ?_
     rw [ZEK]
     simp
    ·rw [h4]
     exact b.closed r mr t (ZKc (R:=R) mt fun f mf=>by
      obtain ⟨s',o,rfl⟩:=(h5 f mf).2
      exact ih (k::q) e' s' o) a ma
 have z:∀s∈st,s.fact∈G:=by rw [←hst];exact w l [] yG
 have c:=hG.logical
 rw [A3] at c
 have A:Yw G=true:=by
  have:=b.factsM (rdB { nodes:=((G.length:Nat):Int),reasons:=YJ R G (ZNX st) })
  rw [ZOb d b j] at this
  exact this
 refine ⟨G,hm,z,ZJL hR c.1 hG.logical1 A hm c1 (fun s ms=>by have:=(c2 s ms).2;omega) fun i s hs=>?_⟩
 have ms:s∈st:=AA hs
 rw [←hst] at hs
 obtain ⟨p,k,q,e1,_,e2,e3⟩:=ZIq hs
 rw [hst] at e3
 rw [e3]
 rcases g p k q e1 with ⟨h3,h4,h5⟩ | ⟨r,mr,t,mt,a,ma,h3,h4,h5,h6,h7,_⟩
 ·rw [←e2] at h3 h4
  exact .inl ⟨h3,h4,(ZN7 st).2 ⟨s,ms,h3,rfl⟩⟩
 ·rw [←e2] at h3 h4 h5 h6
  refine .inr ⟨r,mr,t,(ZIY (hG.logical1 r mr) (Zds A).2 t).2 ⟨ZKc (R:=R) mt fun f mf=>?_,by rw [ZOk d mr];simp⟩,a,ma,h3,h4,h5,h6⟩
  obtain ⟨s',o,rfl⟩:=(h7 f mf).2
  exact w p (k::q) e1 s' o
theorem ZN2 (a:List Int) (m:∀x∈a,0≤x∧x≤255):ZNZ a=some true:=by
 unfold ZNZ
 rw [ZtE,A0]
 split
 ·rfl
 rename_i hb
 obtain ⟨R,base,e1,hl,g,hbl,hba⟩:=ZOa a (Zsp hb)
 have hR:=Zr7 yE g
 have d:=ZOu g
 obtain ⟨M,ok,e2,e3,hM⟩:=ZJt hR base yE
 have o:∃v,ZOs a 0=some v∧0≤v:=by
  unfold ZOs
  cases a with
  | nil=>exact ⟨0,rfl,yE⟩
  | cons x l=>
   have hx:=m x yG
   refine ⟨x,?_,hx.1⟩
   rw [if_neg yG]
   show some (IntKind.i64.wrap x)=some x
   rw [Xn yE yE]
 obtain ⟨v,ev,hv⟩:=o
 rw [e1]
 simp only[A0]
 rw [e2]
 simp only[A0]
 rcases hM with ⟨rfl,rfl⟩ | ⟨rfl,F,hG,b,p⟩
 ·rfl
 rw [if_pos rfl]
 by_cases h0:M.length=0
 ·rw [if_pos (by simpa using h0)]
 ·rw [if_neg (by simpa using h0),ev]
  simp only[A0]
  have i:(0:Int)<((M.length:Nat):Int):=by omega
  have q:=BM ((M.length:Nat):Int) hv
  have t:=BN v i
  rw [Zi _ yE,Zi _ ⟨q,t⟩]
  have j:(Int.tmod v ((M.length:Nat):Int)).toNat<M.length:=by omega
  rw [A9 j,A0]
  have mf:M[(Int.tmod v ((M.length:Nat):Int)).toNat]∈M:=Ap j
  generalize M[(Int.tmod v ((M.length:Nat):Int)).toNat]=f at mf
  obtain ⟨u,w⟩:=ZJI hR hG b
  obtain ⟨l,f3,q1,q2⟩:=ZHV hG b u w f
  have c:=ZJ2 hG b f3
  rw [←p] at c
  have k:=c.2 mf
  obtain ⟨s,hs,y⟩:=ZJR hG f3 k (O:=(Zad ZnY F noI R base).2)
  obtain ⟨c1,c2⟩:=ZHW hG b f3
  obtain ⟨G,k1,k2,k3⟩:=ZOj hR d hG b f3
  have z:f∈G:=by rw [←y];exact k2 s (AA hs)
  have e:ZEy (ZDn F (YJ R F base) (Zad ZnY F noI R base).2 l)≤1048576:=by
   have:((ZDn F (YJ R F base) (Zad ZnY F noI R base).2 l).map ZEm).sum≤(ZDn F (YJ R F base) (Zad ZnY F noI R base).2 l).length * 80:=ZGX fun x mx=>(c2 x mx).1
   unfold ZEy
   omega
  rw [q1]
  simp only[A0]
  rw [ZOi e]
  simp only[A0]
  rw [k1]
  simp only[A0]
  rw [if_pos (decide_eq_true k),if_pos trivial,Zp3,A0,if_pos (decide_eq_true z),k3]
  rfl
end
section
open Go.RowKit
def ZH {α β:Type} (R:α→β→Prop):List α→List β→Prop
 | [],[]=>True
 | a::l,b::r=>R a b∧ZH R l r
 | _,_=>False
section
variable {α β:Type} {R R':α→β→Prop}
theorem ZH.len:∀{l:List α} {r:List β},ZH R l r→l.length=r.length
 | [],[],_=>rfl
 | _::_,_::_,h=>by simp [h.2.len]
 | [],_::_,h=>h.elim
 | _::_,[],h=>h.elim
theorem ZH.mono:∀{l:List α} {r:List β},ZH R l r→(∀a b,a∈l→R a b→R' a b)→ZH R' l r
 | [],[],_,_=>trivial
 | _::_,_::_,h,f=>⟨f _ _ yG h.1,h.2.mono fun a b m=>f a b (by simp [m])⟩
 | [],_::_,h,_=>h.elim
 | _::_,[],h,_=>h.elim
theorem ZH.at:∀{l:List α} {r:List β} {i:Nat} {a:α},ZH R l r→l[i]?=some a→∃b,r[i]?=some b∧R a b
 | [],[],_,_,_,h=>by simp at h
 | _::_,b::_,0,_,h,e=>by simp at e;subst e;exact ⟨b,yG,h.1⟩
 | _::_,_::_,i+1,a,h,e=>by
  obtain ⟨b,h1,h2⟩:=h.2.at (i:=i) (a:=a) (by simpa using e)
  exact ⟨b,by simpa using h1,h2⟩
 | [],_::_,_,_,h,_=>h.elim
 | _::_,[],_,_,h,_=>h.elim
theorem ZH.set:∀{l:List α} {r:List β} {i:Nat} {a:α} {b:β},ZH R l r→R a b→ZH R (l.set i a) (r.set i b)
 | [],[],_,_,_,_,_=>trivial
 | _::_,_::_,0,_,_,h,e=>⟨e,h.2⟩
 | _::_,_::_,_+1,_,_,h,e=>⟨h.1,h.2.set e⟩
 | [],_::_,_,_,_,h,_=>h.elim
 | _::_,[],_,_,_,h,_=>h.elim
theorem ZH.drop:∀{l:List α} {r:List β} (n:Nat),ZH R l r→ZH R (l.drop n) (r.drop n)
 | _,_,0,h=>by simpa using h
 | [],[],n+1,_=>by simp [ZH]
 | _::_,_::_,n+1,h=>by simpa using h.2.drop n
 | [],_::_,_+1,h=>h.elim
 | _::_,[],_+1,h=>h.elim
theorem ZH.take:∀{l:List α} {r:List β} (n:Nat),ZH R l r→ZH R (l.take n) (r.take n)
 | _,_,0,h=>by simp [ZH]
 | [],[],n+1,_=>by simp [ZH]
 | _::_,_::_,n+1,h=>by simpa using ⟨h.1,h.2.take n⟩
 | [],_::_,_+1,h=>h.elim
 | _::_,[],_+1,h=>h.elim
theorem ZH.append:∀{l l':List α} {r r':List β},ZH R l r→ZH R l' r'→ZH R (l++l') (r++r')
 | [],_,[],_,_,h=>h
 | _::_,_,_::_,_,h,h'=>⟨h.1,h.2.append h'⟩
 | [],_,_::_,_,h,_=>h.elim
 | _::_,_,[],_,h,_=>h.elim
end
class NW where
 B0:Nat
structure Gh where
 val:Nat→Value
 O:Nat→List Nat
 D:Nat→List Nat
 Z:Nat→Prop
def Gh.own (g:Gh) (b:Nat):Prop:=(∃k,b∈g.O k)∨g.Z b
def Gh.low (g:Gh) (b:Nat):Prop:=g.own b∨∃k,b∈g.D k
structure X7 (g g':Gh) (n:Nat):Prop where
 own:∀b,g'.own b→g.own b∨n≤b
 low:∀b,g'.low b→g.low b∨n≤b
structure Y7 (g' g:Gh):Prop where
 own:∀b,g'.own b→g.own b
 low:∀b,g'.low b→g.low b
theorem X7.refl (g:Gh) (n:Nat):X7 g g n:=⟨fun _ h=>.inl h,fun _ h=>.inl h⟩
theorem Y7.refl (g:Gh):Y7 g g:=⟨fun _ h=>h,fun _ h=>h⟩
theorem Y7.trans {a b c:Gh} (h:Y7 a b) (k:Y7 b c):Y7 a c:=⟨fun x hx=>k.own x (h.own x hx),fun x hx=>k.low x (h.low x hx)⟩
theorem Y7.grow {g' g:Gh} (h:Y7 g' g) (n:Nat):X7 g g' n:=⟨fun x hx=>.inl (h.own x hx),fun x hx=>.inl (h.low x hx)⟩
theorem Y7.of {g' g:Gh} (h:∀b,g'.own b→g.own b) (k:∀j b,b∈g'.D j→∃i,b∈g.D i):Y7 g' g:=⟨h,fun x hx=>hx.imp (h x) fun ⟨j,mj⟩=>k j x mj⟩
theorem X7.of {g g':Gh} {n:Nat} (h:∀b,g'.own b→g.own b∨n≤b) (k:∀j b,b∈g'.D j→g.low b∨n≤b):X7 g g' n:=⟨h,fun x hx=>by
 rcases hx with hx | ⟨j,mj⟩
 ·exact (h x hx).imp (fun q=>.inl q) id
 ·exact k j x mj⟩
structure QK extends World where
 z:Nat→Prop
 x:Nat→Prop
 hv:Option Value
structure Bel (W:QK) (w:World):Prop where
 os:w.os=W.os
 tape:w.tape=W.tape
 output:w.output=W.output
 size:W.heap.size≤w.heap.size
 block:∀k,k<W.heap.size→¬W.x k→w.heap[k]?=W.heap[k]?
theorem Bel.trans {W:QK} {w w':World} (h:Bel W w) (k:Below w.heap.size w w'):Bel W w':=
 ⟨k.os.trans h.os,k.tape.trans h.tape,k.output.trans h.output,Af h.size k.size,fun i hi hx=>(k.block i (Nat.lt_of_lt_of_le hi h.size)).trans (h.block i hi hx)⟩
def NR [NW] (g:Gh) (w:World) (x:CT) (v:Value):Prop:=
 ∃e m xs cs L,x=.sl e m xs∧0<m∧w.ownsV 0 e m v xs.length cs∧REs w m xs cs L∧(v.ownBlock.toList++L).Nodup∧∀b∈v.ownBlock.toList++L,¬g.low b∧NW.B0≤b∧∃cur t,w.heap[b]?=some (.cells cur t (0,0))
def AVR [NW] (g:Gh) (w:World):AV→Value→Prop
 | .c x,v=>∃L,RC w x v L∧∀b∈L,¬g.own b
 | .n x,v=>NR g w x v
 | .row k,v=>v=g.val k∧v.oneCell'=true
 | .nil _ _,v=>v=.slice none 0 0
 | .dead,v=>v.oneCell'=true
def PVR [NW] (g:Gh) (w:World):Bool→List AV→Value→Prop
 | true,cs,v=>∃vs:List Value,v=.agg vs.toArray∧ZH (AVR g w) cs vs
 | false,cs,v=>∃x,cs=[x]∧AVR g w x v
def SVR [NW] (g:Gh) (w:World):SV→Value→Prop
 | .any,_=>True
 | .und,v=>v=undef
 | .p a cs,v=>PVR g w a cs v
 | .tup xs,v=>∃vs:List Value,v=.tuple vs.toArray∧ZH (fun x u=>PVR g w x.1 x.2 u) xs vs
 | .bp k off,v=>∃b,g.val k=.pointer (some ⟨b,0,none⟩)∧v=.pointer (some ⟨b,off,none⟩)
 | .rp k m i off,v=>∃b o n c,g.val k=.slice (some ⟨b,o,none⟩) n c∧v=.pointer (some ⟨b,o+(i * m+off),none⟩)
 | .ep e off,v=>∃b lo cs L,v=.pointer (some ⟨b,lo+off,none⟩)∧Q9 w b lo cs∧RCs w e cs L∧(∀x∈b::L,¬g.own x)∧b<w.heap.size
 | .fn f,v=>v=.func (.func f) #[] #[]
def ObR [NW] (g:Gh) (w:World) (k:Nat):Ob→Prop
 | .gone=>g.O k=[]∧g.D k=[]
 | .box t cs=>∃b vs,g.val k=.pointer (some ⟨b,0,none⟩)∧g.O k=[b]∧g.D k=[]∧w.heap[b]?=some (.cells vs.toArray t (0,0))∧ZH (AVR g w) cs vs
 | .row e m xs d=>0<m∧∃cs L,w.ownsV 0 e m (g.val k) xs.length cs∧REs w m xs cs L∧((d=2∧g.O k=(g.val k).ownBlock.toList∧g.D k=L)∨(d=1∧g.O k=(g.val k).ownBlock.toList∧g.D k=[]∧∀b∈L,¬g.own b)∨(d=0∧g.O k=[]∧g.D k=[]∧∀b∈(g.val k).ownBlock.toList++L,¬g.own b))
 | .map kk vk kv=>∃b es c,g.val k=.map (some b)∧g.O k=[b]∧g.D k=[]∧w.heap[b]?=some (.map es c)∧Zc2 es=kv∧Zib kk vk kv
def Xk (w:World) (o:Ob) (b:Nat):Prop:=
 match o with
 | .map _ _ _=>∃es c,w.heap[b]?=some (.map es c)
 | _=>∃cur e,w.heap[b]?=some (.cells cur e (0,0))
theorem Xk.lt {w:World} {o:Ob} {b:Nat} (h:Xk w o b):b<w.heap.size:=by
 unfold Xk at h
 split at h
 ·obtain ⟨_,_,h⟩:=h;exact (B2.1 h).1
 ·obtain ⟨_,_,h⟩:=h;exact (B2.1 h).1
theorem Xk.keep {w w':World} {o:Ob} {b:Nat} (h:Xk w o b) (e:w'.heap[b]?=w.heap[b]?):Xk w' o b:=by
 unfold Xk at h ⊢
 rw [e];exact h
def ZhR:Ob→Bool
 | .map _ _ _=>true
 | _=>false
theorem Xk.of {w:World} {o o':Ob} {b:Nat} (h:Xk w o b) (e:ZhR o'=ZhR o):Xk w o' b:=by
 cases o<;>cases o'<;>simp [ZhR] at e<;>exact h
structure HI [NW] (W:QK) (g:Gh) (ob:Nat→Ob) (w:World):Prop where
 below:Bel W w
 obs:∀k,ObR g w k (ob k)
 nodup:∀k,(g.O k++g.D k).Nodup
 apart:∀k j,k≠j→∀b∈g.O k++g.D k,b∉g.O j++g.D j
 plain:∀k,∀b∈g.O k++g.D k,(W.heap.size≤b∨W.x b)∧Xk w (ob k) b
 gz:g.Z=W.z
 zx:∀b,W.z b→b<W.heap.size∧¬W.x b
 nw:∀b,(W.heap.size≤b∨W.x b)→NW.B0≤b
def avU (U:Nat→Prop):AV→Prop
 | .row k=>U k
 | _=>True
def X6 (U:Nat→Prop) (cs:List AV):Prop:=∀x∈cs,avU U x
def svU (U:Nat→Prop):SV→Prop
 | .p _ cs=>X6 U cs
 | .tup xs=>∀x∈xs,X6 U x.2
 | .bp k _=>U k
 | .rp k _ _ _=>U k
 | _=>True
def obU (U:Nat→Prop):Ob→Prop
 | .box _ cs=>X6 U cs
 | _=>True
structure StU (U:Nat→Prop) (st:St):Prop where
 sl:∀t,svU U (st.sl t)
 ob:∀k,obU U (st.ob k)
 gone:∀k,¬U k→st.ob k=.gone
theorem HI.lt [NW] {W:QK} {g:Gh} {ob:Nat→Ob} {w:World} (h:HI W g ob w) (k:Nat):∀b∈g.O k++g.D k,b<w.heap.size:=by
 intro b m
 exact (h.plain k b m).2.lt
theorem HI.nz [NW] {W:QK} {g:Gh} {ob:Nat→Ob} {w:World} (h:HI W g ob w) {k b:Nat} (m:b∈g.O k++g.D k):¬g.Z b:=fun hz=>by
 rw [h.gz] at hz
 obtain ⟨h1,h2⟩:=h.zx b hz
 rcases (h.plain k b m).1 with h3 | h3
 ·omega
 ·exact h2 h3
section
variable {g g':Gh} {w w':World} {U:Nat→Prop}
theorem NR.move [NW] {x:CT} {v:Value} (h:NR g w x v)
  (hw:∀b,b<w.heap.size→¬g.own b→w'.heap[b]?=w.heap[b]?) (ho:X7 g g' w.heap.size):NR g' w' x v:=by
 obtain ⟨e,m,xs,cs,L,h1,h2,h3,h4,h5,h6⟩:=h
 have a:∀b∈v.ownBlock.toList++L,b<w.heap.size:=fun b mb=>by
  obtain ⟨_,_,_,_,q⟩:=h6 b mb
  exact (B2.1 q).1
 have hs:∀b∈v.ownBlock.toList++L,w'.heap[b]?=w.heap[b]?:=fun b mb=>hw b (a b mb) fun o=>(h6 b mb).1 (.inl o)
 refine ⟨e,m,xs,cs,L,h1,h2,Zhf h3 fun b mb=>hs b (by simp [mb]),h4.keep fun b mb=>hs b (by simp [mb]),h5,fun b mb=>⟨fun o=>?_,(h6 b mb).2.1,by rw [hs b mb];exact (h6 b mb).2.2⟩⟩
 rcases ho.low b o with o | o
 ·exact (h6 b mb).1 o
 ·have:=a b mb;omega
theorem AVR.move [NW] {x:AV} {v:Value} (h:AVR g w x v) (hx:avU U x) (hv:∀k,U k→g'.val k=g.val k)
  (hw:∀b,b<w.heap.size→¬g.own b→w'.heap[b]?=w.heap[b]?) (ho:X7 g g' w.heap.size):AVR g' w' x v:=by
 cases x with
 | c x=>
  obtain ⟨L,h1,h2⟩:=h
  have a:=h1.lt
  refine ⟨L,h1.keep fun b m=>hw b (a b m) (h2 b m),fun b m o=>?_⟩
  rcases ho.own b o with o | o
  ·exact h2 b m o
  ·have:=a b m;omega
 | n x=>exact NR.move h hw ho
 | row k=>exact ⟨h.1.trans (hv k hx).symm,h.2⟩
 | nil e m=>exact h
 | dead=>exact h
theorem AVRs.move [NW] {cs:List AV} {vs:List Value} (h:ZH (AVR g w) cs vs) (hx:X6 U cs) (hv:∀k,U k→g'.val k=g.val k)
  (hw:∀b,b<w.heap.size→¬g.own b→w'.heap[b]?=w.heap[b]?) (ho:X7 g g' w.heap.size):ZH (AVR g' w') cs vs:=
 h.mono fun a _ m r=>r.move (hx a m) hv hw ho
theorem PVR.move [NW] {a:Bool} {cs:List AV} {v:Value} (h:PVR g w a cs v) (hx:X6 U cs) (hv:∀k,U k→g'.val k=g.val k)
  (hw:∀b,b<w.heap.size→¬g.own b→w'.heap[b]?=w.heap[b]?) (ho:X7 g g' w.heap.size):PVR g' w' a cs v:=by
 cases a with
 | true=>obtain ⟨vs,h1,h2⟩:=h;exact ⟨vs,h1,AVRs.move h2 hx hv hw ho⟩
 | false=>obtain ⟨x,h1,h2⟩:=h;exact ⟨x,h1,h2.move (hx x (by simp [h1])) hv hw ho⟩
theorem SVR.move [NW] {s:SV} {v:Value} (h:SVR g w s v) (hx:svU U s) (hv:∀k,U k→g'.val k=g.val k)
  (hw:∀b,b<w.heap.size→¬g.own b→w'.heap[b]?=w.heap[b]?) (ho:X7 g g' w.heap.size) (hs:w.heap.size≤w'.heap.size):SVR g' w' s v:=by
 cases s with
 | any=>exact h
 | und=>exact h
 | p a cs=>exact PVR.move h hx hv hw ho
 | tup xs=>
  obtain ⟨vs,h1,h2⟩:=h
  exact ⟨vs,h1,h2.mono fun x _ m r=>r.move (hx x m) hv hw ho⟩
 | bp k off=>obtain ⟨b,h1,h2⟩:=h;exact ⟨b,(hv k hx).trans h1,h2⟩
 | rp k m i off=>obtain ⟨b,o,n,c,h1,h2⟩:=h;exact ⟨b,o,n,c,(hv k hx).trans h1,h2⟩
 | ep e off=>
  obtain ⟨b,lo,cs,L,h1,h2,h3,h4,h5⟩:=h
  have d:=h3.lt
  refine ⟨b,lo,cs,L,h1,fun j u hu=>?_,h3.keep fun x m=>hw x (d x m) (h4 x (by simp [m])),fun x m o=>?_,yE⟩
  ·rw [←h2 j u hu];exact World.cell?_of_block (hw b h5 (h4 b yG))
  ·rcases ho.own x o with o | o
   ·exact h4 x m o
   ·rcases AH.1 m with rfl | m
    ·omega
    ·have:=d x m;omega
 | fn f=>exact h
theorem HI.step [NW] {W:QK} {ob ob':Nat→Ob} (h:HI W g ob w) (T:Nat→Prop)
  (v:Bel W w') (hZ:g'.Z=g.Z)
  (hw:∀b,b<w.heap.size→(∀k,T k→b∉g.O k)→w'.heap[b]?=w.heap[b]?)
  (hk:∀k,¬T k→ob' k=ob k∧g'.val k=g.val k∧g'.O k=g.O k∧g'.D k=g.D k)
  (y:∀k,obU U (ob k)) (hv:∀k,U k→g'.val k=g.val k)
  (ho:X7 g g' w.heap.size)
  (hT:∀k,T k→ObR g' w' k (ob' k)∧(g'.O k++g'.D k).Nodup∧(∀b∈g'.O k++g'.D k,(W.heap.size≤b∨W.x b)∧Xk w' (ob' k) b)∧∀j,k≠j→∀b∈g'.O k++g'.D k,b∉g'.O j++g'.D j):
  HI W g' ob' w':=by
 have p:∀b,b<w.heap.size→¬g.own b→w'.heap[b]?=w.heap[b]?:=fun b hb hn=>hw b hb fun k _ m=>hn (.inl ⟨k,m⟩)
 have i:∀k,¬T k→∀b∈g.O k++g.D k,w'.heap[b]?=w.heap[b]?:=fun k hk b m=>
  hw b (h.lt k b m) fun j hj mj=>h.apart j k (fun e=>hk (e ▸ hj)) b (by simp [mj]) m
 refine ⟨v,fun k=>?_,fun k=>?_,fun k j q b m=>?_,fun k b m=>?_,hZ.trans h.gz,h.zx,h.nw⟩
 ·by_cases a:T k
  ·exact (hT k a).1
  ·obtain ⟨e1,e2,e3,e4⟩:=hk k a
   have f:=h.obs k
   have hF:=i k a
   have hU:=y k
   rw [e1]
   cases hok:ob k with
   | gone=>rw [hok] at f;exact ⟨e3.trans f.1,e4.trans f.2⟩
   | box t cs=>
    rw [hok] at f hU
    obtain ⟨b,vs,h1,h2,h3,h4,h5⟩:=f
    exact ⟨b,vs,e2.trans h1,e3.trans h2,e4.trans h3,by rw [hF b (by simp [h2])];exact h4,AVRs.move h5 hU hv p ho⟩
   | map kk vk kv=>
    rw [hok] at f
    obtain ⟨b,es,c,h1,h2,h3,h4,h5⟩:=f
    exact ⟨b,es,c,e2.trans h1,e3.trans h2,e4.trans h3,by rw [hF b (by simp [h2])];exact h4,h5⟩
   | row e m xs d=>
    rw [hok] at f
    obtain ⟨hm,cs,L,h1,h2,h4⟩:=f
    have l:=h2.lt
    have hL:∀b∈L,w'.heap[b]?=w.heap[b]?:=fun b mb=>by
     rcases h4 with ⟨_,_,h4⟩ | ⟨_,_,_,h4⟩ | ⟨_,_,_,h4⟩
     ·exact hF b (by simp [h4,mb])
     ·exact p b (l b mb) (h4 b mb)
     ·exact p b (l b mb) (h4 b (by simp [mb]))
    have A:∀b∈(g.val k).ownBlock.toList,w'.heap[b]?=w.heap[b]?:=fun b mb=>by
     rcases h4 with ⟨_,h3,_⟩ | ⟨_,h3,_⟩ | ⟨_,_,_,h4⟩
     ·exact hF b (by simp [h3,mb])
     ·exact hF b (by simp [h3,mb])
     ·exact p b (Zp8 h1 b mb) (h4 b (by simp [mb]))
    refine ⟨hm,cs,L,by rw [e2];exact Zhf h1 A,h2.keep hL,?_⟩
    rw [e2,e3,e4]
    have u:∀b,b<w.heap.size→¬g.own b→¬g'.own b:=fun b hb hn o=>by
     rcases ho.own b o with o | o
     ·exact hn o
     ·omega
    rcases h4 with h4 | ⟨hd,h3,h4,h5⟩ | ⟨hd,h3,h4,h5⟩
    ·exact .inl h4
    ·exact .inr (.inl ⟨hd,h3,h4,fun b mb=>u b (l b mb) (h5 b mb)⟩)
    ·refine .inr (.inr ⟨hd,h3,h4,fun b mb=>?_⟩)
     rcases A5.1 mb with m1 | m1
     ·exact u b (Zp8 h1 b m1) (h5 b mb)
     ·exact u b (l b m1) (h5 b mb)
 ·by_cases a:T k
  ·exact (hT k a).2.1
  ·obtain ⟨e1,e2,e3,e4⟩:=hk k a
   rw [e3,e4];exact h.nodup k
 ·by_cases a:T k
  ·exact (hT k a).2.2.2 j q b m
  ·by_cases z:T j
   ·exact fun mj=>(hT j z).2.2.2 k (fun e=>q e.symm) b mj m
   ·obtain ⟨_,_,e3,e4⟩:=hk k a
    obtain ⟨_,_,f3,f4⟩:=hk j z
    rw [e3,e4] at m
    rw [f3,f4]
    exact h.apart k j q b m
 ·by_cases a:T k
  ·exact (hT k a).2.2.1 b m
  ·obtain ⟨_,_,e3,e4⟩:=hk k a
   rw [e3,e4] at m
   obtain ⟨p1,p2⟩:=h.plain k b m
   obtain ⟨e1,_⟩:=hk k a
   exact ⟨p1,by rw [e1];exact p2.keep (i k a b m)⟩
end
structure Inv [NW] (W:QK) (U:Nat→Prop) (st:St) (a:Act) (w:World):Prop where
 ex:∃g,HI W g st.ob w∧∀t,SVR g w (st.sl t) (a.tmps.getD t undef)
 wf:StU U st
 defers:a.defers=[]
 hand:∀v,W.hv=some v→a.tmps.getD 0 undef=v
end
section
open Go.RowKit
def QV:AV→Value→Bool
 | .c (.int k n),.int k' n'=>k==k'&&n==n'
 | .c (.bool b),.bool b'=>b==b'
 | .c (.str s),.string s'=>s.data.toList==s'.data.toList&&Z2 s
 | .nil _ m,.slice none 0 0=>Nat.blt 0 m
 | _,_=>false
def ZgW:TypeDesc→AV→Bool
 | .int k,.c (.int k' _)=>k==k'
 | .bool,.c (.bool _)=>true
 | .string,.c (.str _)=>true
 | _,_=>false
def Zpk:TypeDesc→Bool
 | .struct _=>true
 | .array _ _=>true
 | _=>false
def Zc4:PK→TypeDesc→Bool
 | .int k,.int k'=>k==k'
 | .str,.string=>true
 | .bool,.bool=>true
 | _,_=>false
def EqF (P:Program):List PK→List Field→Nat→Prop
 | [],[],_=>True
 | k :: ks, f :: fs, n => f.name ≠ "_" ∧ f.offset = n ∧ (∃ d, P.underlying f.type = some d ∧ Zc4 k d = true) ∧ EqF P ks fs (n + 1)
 | _,_,_=>False
def TOk (P:Program) (t:TypeId):TI→Prop
 | .atom z=>∃d zv i,P.underlying t=some d∧ZgW d z=true∧P.info? t=some i∧i.zero=some zv∧i.size=1∧QV z zv=true
 | .strct fs n z=>∃(fields:Array Field) (i:TypeInfo) (zvs:Array Value),P.underlying t=some (.struct fields)∧P.info? t=some i∧i.size=n∧i.zero=some (.agg zvs)∧ZH (fun a v=>QV a v=true) z zvs.toList∧
   ZH (fun (fi:FI) (f:Field)=>f.offset=fi.off∧fi.size≠0∧∃j d,P.info? f.type=some j∧j.size=fi.size∧P.underlying f.type=some d∧Zpk d=fi.agg) fs fields.toList
 | .slice e m bytes z=>P.underlying t=some (.slice e)∧0<m∧bytes≤131072∧(∃(i:TypeInfo) (zv:Value),P.info? e=some i∧i.size=m∧i.bytes=bytes∧i.zero=some zv∧ZH (fun a v=>QV a v=true) z zv.cells.toList∧z.length=m)∧
   ∃j:TypeInfo,P.info? t=some j∧j.size=1∧j.zero=some (.slice none 0 0)
 | .ifc=>∃ms,P.underlying t=some (.interface ms)
 | .map kk vk=>∃kt et dk dv i zv,P.underlying t=some (.map kt et)∧P.underlying kt=some dk∧Zc4 kk dk=true∧P.underlying et=some dv∧Zc4 vk dv=true∧P.info? et=some i∧i.zero=some zv∧QV (ZdG vk) zv=true
 | .eqs ks=>∃u,t=u+4000∧P.underlying u=some (.struct (P.fieldsOf u))∧P.stoodInHeld u=false∧P.eqGuardType P.depth u=false∧EqF P ks (P.fieldsOf u).toList 0
section
variable {P:Program} {w:World} {t:TypeId}
theorem ZpU {i:TypeInfo} (h:P.info? t=some i):(typeInfo t).run P w=.ok i w:=by simp [typeInfo,program,Sem.run,h]
theorem Yh {d:TypeDesc} (h:P.underlying t=some d):(underlying t).run P w=.ok d w:=by simp [underlying,program,Sem.run,h]
theorem Xp [NW] {i:TypeInfo} (h:P.info? t=some i):(sizeOf t).run P w=.ok i.size w:=by simp [sizeOf,ZpU h]
theorem Zhp [NW] {i:TypeInfo} {z:Value} (h:P.info? t=some i) (hz:i.zero=some z):(zeroValue t).run P w=.ok z w:=by simp [zeroValue,ZpU h,hz]
theorem Zgq [NW] {d:TypeDesc} (h:P.underlying t=some d):(isAgg t).run P w=.ok (Zpk d) w:=by
 simp only[isAgg,Sem.run_bind,Yh h,Result.andThen_ok]
 cases d<;>rfl
theorem ZtM {d:TypeDesc} {z:AV} (h:ZgW d z=true):Zpk d=false:=by
 unfold ZgW at h
 split at h<;>first | rfl | simp at h
end
section
variable {g:Gh} {w:World}
theorem Zpn {s:ByteArray} (h:Z2 s=true):s.size≤9223372036854775807:=by
 unfold Z2 at h
 have:=Nat.le_of_ble_eq_true h
 rw [Array.length_toList] at this
 exact this
theorem Zep [NW] {x:AV} {v:Value} (h:QV x v=true):AVR g w x v:=by
 unfold QV at h
 split at h
 ·simp only[A3,beq_iff_eq] at h
  exact ⟨[],⟨by rw [h.1,h.2],rfl⟩,yG⟩
 ·simp only[beq_iff_eq] at h
  exact ⟨[],⟨by rw [h],rfl⟩,yG⟩
 ·rename_i s s'
  simp only[A3,beq_iff_eq] at h
  have e:s=s':=by
   cases s;cases s'
   simpa using h.1
  exact ⟨[],⟨by rw [e],rfl,Zpn h.2⟩,yG⟩
 ·rfl
 ·simp at h
theorem AVR.one [NW] {x:AV} {v:Value} (h:AVR g w x v):v.oneCell'=true:=by
 cases x with
 | c x=>obtain ⟨L,h1,_⟩:=h;exact h1.one
 | n x=>
  obtain ⟨e,m,xs,cs,L,h1,h2,h3,_⟩:=h
  obtain ⟨A,c,hv,_⟩:=ZcS h3
  simp [hv,Value.oneCell']
 | row k=>exact h.2
 | nil e m=>simp [AVR] at h;simp [h,Value.oneCell']
 | dead=>exact h
theorem ZmH {v:Value} (h:v.oneCell'=true):v.cells=#[v]:=by
 cases v<;>simp [Value.oneCell'] at h<;>rfl
theorem PVR.cells [NW] {a:Bool} {cs:List AV} {v:Value} (h:PVR g w a cs v):∃vs:List Value,v.cells=vs.toArray∧ZH (AVR g w) cs vs:=by
 cases a with
 | true=>obtain ⟨vs,rfl,h2⟩:=h;exact ⟨vs,rfl,h2⟩
 | false=>obtain ⟨x,rfl,h2⟩:=h;exact ⟨[v],by rw [ZmH h2.one],⟨h2,trivial⟩⟩
theorem AVRs.one [NW] {cs:List AV} {vs:List Value} (h:ZH (AVR g w) cs vs):∀u∈vs,u.oneCell'=true:=by
 induction vs generalizing cs with
 | nil=>simp
 | cons v r ih=>
  cases cs with
  | nil=>exact h.elim
  | cons c cs=>
   intro u m
   rcases AH.1 m with rfl | m
   ·exact h.1.one
   ·exact ih h.2 u m
end
theorem Zrt (x y:ByteArray):(x.toList==y.toList)=decide (x=y):=by
 rw [Bool.eq_iff_iff]
 simp only[beq_iff_eq,decide_eq_true_eq]
 constructor
 ·intro h
  have h':x.data.toList=y.data.toList:=by rw [←BR,←BR];exact h
  cases x;cases y
  simpa using h'
 ·rintro rfl;rfl
end
section
open Go.RowKit
def Uk (U:Nat→Prop) (key:Nat):Nat→Prop:=fun k=>U k∨(key≤k∧k<key+16)
theorem avU.mono {U U':Nat→Prop} (h:∀k,U k→U' k) {x:AV} (hx:avU U x):avU U' x:=by cases x<;>first | exact h _ hx | trivial
theorem X6.mono [NW] {U U':Nat→Prop} (h:∀k,U k→U' k) {x:List AV} (hx:X6 U x):X6 U' x:=fun y m=>(hx y m).mono h
theorem svU.mono [NW] {U U':Nat→Prop} (h:∀k,U k→U' k) {x:SV} (hx:svU U x):svU U' x:=by
 cases x<;>first | exact X6.mono h hx | exact fun y m=>X6.mono h (hx y m) | exact h _ hx | trivial
theorem obU.mono [NW] {U U':Nat→Prop} (h:∀k,U k→U' k) {x:Ob} (hx:obU U x):obU U' x:=by
 cases x<;>first | exact X6.mono h hx | trivial
def Fin [NW] (P:Program) (W:QK) (U:Nat→Prop) (key:Nat) (st:St) (g:Gh) (w:World) (s:Sem Next) (r:SV × List (Nat × Ob)):Prop:=
 ∃g' cv w',(s.run P w=.ok (.value cv) w'∨(s.run P w=.ok .skip w'∧cv=undef))∧HI W g' (Zk st.ob r.2) w'∧SVR g' w' r.1 cv∧(∀x v,svU U x→SVR g w x v→SVR g' w' x v)∧
  svU (Uk U key) r.1∧(∀k,obU (Uk U key) (Zk st.ob r.2 k))∧∀k,¬Uk U key k→Zk st.ob r.2 k=.gone
section
variable {P:Program} {W:QK} {U:Nat→Prop} {key:Nat} {st:St} {g:Gh} {w:World} {a:Act} {tt:Nat→Option TI}
theorem QY [NW] {s:Sem Next} {v:SV} {cv:Value} (hI:HI W g st.ob w) (hU:StU U st) (a:s.run P w=.ok (.value cv) w) (hv:SVR g w v cv) (hu:svU U v):Fin P W U key st g w s (v,[]):=
 ⟨g,cv,w,.inl a,hI,hv,fun _ _ _ h=>h,hu.mono fun _=>.inl,fun k=>(hU.ob k).mono fun _=>.inl,fun k hk=>hU.gone k fun h=>hk (.inl h)⟩
theorem Y8 (x:CT):svU U (.p false [.c x]):=fun y m=>by simp at m;subst m;trivial
theorem ZaQ [NW] (k:IntKind) (n:Int):SVR g w (.p false [.c (.int k n)]) (.int k n):=⟨_,rfl,[],⟨rfl,rfl⟩,by simp⟩
theorem Q3 [NW] (b:Bool):SVR g w (.p false [.c (.bool b)]) (.bool b):=⟨_,rfl,[],⟨rfl,rfl⟩,by simp⟩
theorem Zjz [NW] {s:ByteArray} (h:s.size≤9223372036854775807):SVR g w (.p false [.c (.str s)]) (.string s):=⟨_,rfl,[],⟨rfl,rfl,h⟩,by simp⟩
theorem Za1 [NW] {k:IntKind} {n:Int} {v:Value} (h:SVR g w (.p false [.c (.int k n)]) v):v=.int k n:=by
 obtain ⟨x,hx,h⟩:=h;simp at hx;subst hx;obtain ⟨L,h1,_⟩:=h;exact h1.1
theorem ZeW [NW] {b:Bool} {v:Value} (h:SVR g w (.p false [.c (.bool b)]) v):v=.bool b:=by
 obtain ⟨x,hx,h⟩:=h;simp at hx;subst hx;obtain ⟨L,h1,_⟩:=h;exact h1.1
theorem Zhm [NW] {s:ByteArray} {v:Value} (h:SVR g w (.p false [.c (.str s)]) v):v=.string s∧s.size≤9223372036854775807:=by
 obtain ⟨x,hx,h⟩:=h;simp at hx;subst hx;obtain ⟨L,h1,_⟩:=h;exact ⟨h1.1,h1.2.2⟩
theorem ZAR [NW] {t:Nat} (htt:∀t i,tt t=some i→TOk P t i) (v:Value):SVR g w (cvT (tt t) v) v∧svU U (cvT (tt t) v):=by
 unfold cvT
 split
 ·exact ⟨ZaQ _ _,Y8 _⟩
 ·exact ⟨Q3 _,Y8 _⟩
 ·split
  ·rename_i h;exact ⟨Zjz (Zpn h),Y8 _⟩
  ·exact ⟨trivial,trivial⟩
 ·split
  ·exact ⟨⟨_,rfl,rfl⟩,fun y m=>by simp at m;subst m;trivial⟩
  ·exact ⟨trivial,trivial⟩
 ·exact ⟨trivial,trivial⟩
theorem Zi6 [NW] (htt:∀t i,tt t=some i→TOk P t i) (hS:∀t,SVR g w (st.sl t) (a.tmps.getD t undef)) (hU:StU U st) (t:Nat) (x:Operand):
  SVR g w (st.ev tt t x) (a.eval x)∧svU U (st.ev tt t x):=by
 cases x with
 | tmp s=>exact ⟨hS s,hU.sl s⟩
 | const v=>exact ZAR htt v
 | global _=>exact ⟨trivial,trivial⟩
 | func f=>exact ⟨rfl,trivial⟩
set_option maxHeartbeats 1000000 in
theorem ZuT [NW] {op:BinOp} {t:Nat} {ox oy:Operand} {k k':IntKind} {n n':Int} {z:CT} (hk:k=k'∨op=.shl∨op=.shr) (hz:Zu3 op k n n'=some z):
  ∃cv,(do eqGuard op t ox oy (.int k n) (.int k' n');binOp op t (.int k n) (.int k' n'):Sem Value).run P w=.ok cv w∧SVR g w (.p false [.c z]) cv:=by
 have hg:(eqGuard op t ox oy (.int k n) (.int k' n')).run P w=.ok () w:=by
  cases op<;>rfl
 simp only[Sem.run_bind,hg,Result.andThen_ok]
 cases op<;>simp only[Zu3,Zy5,ZkD,orI,ZuA,Zrc,ZBR,Zsr,Option.map_none,As,A4,reduceCtorEq] at hz<;>(try subst hz)<;>
  (try (split at hz<;>simp only[A4,reduceCtorEq] at hz;subst hz))<;>
  simp only[reduceCtorEq,or_false,or_true] at hk<;>(try subst hk)<;>
  first
   | (refine ⟨_,?_,ZaQ _ _⟩;simp [binOp,Op.intArith,Op.intDiv,Op.intBits,Op.shift, *];done)
   | (refine ⟨_,?_,Q3 _⟩;simp [binOp,Op.intCmp];done)
set_option maxHeartbeats 1000000 in
theorem Zvy [NW] {op : BinOp} {t : Nat} {ox oy : Operand} {s s' : ByteArray} {z : CT} (hz : Zux op s s' = some z) :
    ∃ cv, (do eqGuard op t ox oy (.string s) (.string s'); binOp op t (.string s) (.string s') : Sem Value).run P w = .ok cv w ∧ SVR g w (.p false [.c z]) cv := by
  have hg : (eqGuard op t ox oy (.string s) (.string s')).run P w = .ok () w := by
    cases op <;> rfl
  simp only[Sem.run_bind, hg, Result.andThen_ok]
  cases op <;> simp only[Zux, A4, reduceCtorEq] at hz <;> (try subst hz) <;>
    first
      | (refine ⟨_, ?_, Q3 _⟩; simp only[binOp, Op.stringOp, sLt, sEq, ← Zrt]; rfl)
      | (split at hz
         · rename_i hl
           simp only[A4] at hz
           subst hz
           refine ⟨_, ?_, Zjz (by rw [ByteArray.size_append]; exact hl)⟩
           have hl' : ¬ ((s.size + s'.size : Nat) : Int) > IntKind.i64.max := by
             have : IntKind.i64.max = 9223372036854775807 := by decide
             omega
           simp only[binOp, Op.stringOp, hl', if_false]
           rfl
         · simp at hz)
theorem ZoA [NW] {op:BinOp} {t:Nat} {ox oy:Operand} {b b':Bool} {r:Bool} (ht:P.underlying t=some .bool) (a:(op=.eql∧r=(b==b'))∨(op=.neq∧r=!(b==b'))):
  (do eqGuard op t ox oy (.bool b) (.bool b');binOp op t (.bool b) (.bool b'):Sem Value).run P w=.ok (.bool r) w:=by
 have hg:(eqGuard op t ox oy (.bool b) (.bool b')).run P w=.ok () w:=by
  cases op<;>rfl
 have he:(Op.equal t (.bool b) (.bool b')).run P w=.ok (b==b') w:=by
  have key:∀d:Nat,(Op.equalIn (d+1) t (.bool b) (.bool b')).run P w=.ok (b==b') w:=fun d=>by
   rw [Op.equalIn]
   simp only[Sem.run_bind,Yh ht,Result.andThen_ok,Sem.run_pure]
  exact key 9999
 simp only[Sem.run_bind,hg,Result.andThen_ok]
 rcases a with ⟨rfl,rfl⟩ | ⟨rfl,rfl⟩
 ·simp only[binOp,Sem.run_bind,he,Result.andThen_ok,Sem.run_pure]
 ·simp only[binOp,Sem.run_bind,he,Result.andThen_ok,Sem.run_pure]
theorem ZwD [NW] (htt:∀t i,tt t=some i→TOk P t i) {op:BinOp} {t:Nat} {ox oy:Operand} {x y v:SV} {vx vy:Value} (h:Zvn (tt t) op x y=some v) (hx:SVR g w x vx) (hy:SVR g w y vy):
  ∃cv,(do eqGuard op t ox oy vx vy;binOp op t vx vy:Sem Value).run P w=.ok cv w∧SVR g w v cv∧svU U v:=by
 unfold Zvn at h
 split at h
 ·have ex:=Za1 hx
  have ey:=Za1 hy
  subst ex ey
  split at h
  ·rename_i hk
   obtain ⟨z,hz,rfl⟩:=A6.1 h
   obtain ⟨cv,h1,h2⟩:=ZuT (P:=P) (g:=g) (w:=w) (t:=t) (ox:=ox) (oy:=oy) hk hz
   exact ⟨cv,h1,h2,Y8 _⟩
  ·simp at h
 ·obtain ⟨ex,lx⟩:=Zhm hx
  obtain ⟨ey,ly⟩:=Zhm hy
  subst ex ey
  obtain ⟨z,hz,rfl⟩:=A6.1 h
  obtain ⟨cv,h1,h2⟩:=Zvy (P:=P) (g:=g) (w:=w) (t:=t) (ox:=ox) (oy:=oy) hz
  exact ⟨cv,h1,h2,Y8 _⟩
 ·have ex:=ZeW hx
  have ey:=ZeW hy
  subst ex ey
  split at h
  ·rename_i a
   simp only[A4] at h
   subst h
   obtain ⟨d,zv,i,h1,h2,_⟩:=htt t _ a
   have hd:d=.bool:=by cases d<;>simp [ZgW] at h2;rfl
   subst hd
   exact ⟨_,ZoA h1 (.inl ⟨rfl,rfl⟩),Q3 _,Y8 _⟩
  ·rename_i a
   simp only[A4] at h
   subst h
   obtain ⟨d,zv,i,h1,h2,_⟩:=htt t _ a
   have hd:d=.bool:=by cases d<;>simp [ZgW] at h2;rfl
   subst hd
   exact ⟨_,ZoA h1 (.inr ⟨rfl,rfl⟩),Q3 _,Y8 _⟩
  ·simp at h
 ·simp at h
theorem ZmL {k:PK} {d:TypeDesc} (h:Zc4 k d=true):Zpk d=false:=by
 unfold Zc4 at h
 split at h<;>first | rfl | simp at h
theorem ZxJ [NW] {k:PK} {x y:AV} {vx vy:Value} {b:Bool} {t:Nat} {d:TypeDesc} (h:eqC k x y=some b) (hd:P.underlying t=some d) (hk:Zc4 k d=true) (hx:AVR g w x vx) (hy:AVR g w y vy) (n:Nat):(Op.equalIn (n+1) t vx vy).run P w=.ok b w:=by
 unfold eqC at h
 split at h
 ·split at h<;>simp only[A4,reduceCtorEq] at h
  rename_i kk;subst kk h
  obtain ⟨_,h1,_⟩:=hx;obtain ⟨_,h2,_⟩:=hy
  have e1:=h1.1;have e2:=h2.1;subst e1 e2
  cases d<;>simp [Zc4] at hk
  exact run_equalIn_int w n t _ _ _ _ hd
 ·simp only[A4] at h;subst h
  obtain ⟨_,h1,_⟩:=hx;obtain ⟨_,h2,_⟩:=hy
  have e1:=h1.1;have e2:=h2.1;subst e1 e2
  cases d<;>simp [Zc4] at hk
  rw [run_equalIn_string w n t _ _ hd,sEq,Zrt]
 ·simp only[A4] at h;subst h
  obtain ⟨_,h1,_⟩:=hx;obtain ⟨_,h2,_⟩:=hy
  have e1:=h1.1;have e2:=h2.1;subst e1 e2
  cases d<;>simp [Zc4] at hk
  exact run_equalIn_bool' w n t _ _ hd
 ·simp at h
theorem Zrn [NW] (n:Nat) {X Y:Array Value}:∀{ks:List PK} {fs:List Field} {o:Nat} {xs ys:List AV} {vx vy:List Value} {b:Bool},ZlL ks xs ys=some b→EqF P ks fs o→ZH (AVR g w) xs vx→ZH (AVR g w) ys vy→(∀j v,vx[j]?=some v→X[o+j]?=some v)→(∀j v,vy[j]?=some v→Y[o+j]?=some v)→(Op.eqFields (n+1) X Y fs).run P w=.ok b w
 | [],[],_,[],[],_,_,b,h,_,_,_,_,_=>by simp [ZlL] at h;subst h;simp [Op.eqFields]
 | k::ks,f::fs,o,x::xs,y::ys,[],_,_,_,_,hx,_,_,_=>hx.elim
 | k::ks,f::fs,o,x::xs,y::ys,_::_,[],_,_,_,_,hy,_,_=>hy.elim
 | k::ks,f::fs,o,x::xs,y::ys,u::vx,v::vy,b,h,hf,hx,hy,hX,hY=>by
  simp only[ZlL] at h
  obtain ⟨b1,h1,h⟩:=AE.1 h
  obtain ⟨b2,h2,rfl⟩:=A6.1 h
  obtain ⟨f1,f2,⟨d,f3,f4⟩,f5⟩:=hf
  have e1:=ZxJ h1 f3 f4 hx.1 hy.1 n
  have e2:=Zrn n h2 f5 hx.2 hy.2 (fun j v hj=>by have:=hX (j+1) v (by simpa using hj);rwa [show o+(j+1)=o+1+j by omega] at this) (fun j v hj=>by have:=hY (j+1) v (by simpa using hj);rwa [show o+(j+1)=o+1+j by omega] at this)
  have p1:(part f.type X f.offset).run P w=.ok u w:=by
   have:=hX 0 u yG
   simp only[part,Sem.run_bind,Zgq f3,ZmL f4,Result.andThen_ok]
   rw [f2];simp at this;simp [this]
  have p2:(part f.type Y f.offset).run P w=.ok v w:=by
   have:=hY 0 v yG
   simp only[part,Sem.run_bind,Zgq f3,ZmL f4,Result.andThen_ok]
   rw [f2];simp at this;simp [this]
  simp only[Op.eqFields,f1,ne_eq,not_false_eq_true,if_true,Sem.run_bind,p1,p2,e1,Result.andThen_ok]
  cases b1
  ·simp
  ·simpa using e2
 | [],_::_,_,_,_,_,_,_,_,hf,_,_,_,_=>hf.elim
 | _::_,[],_,_,_,_,_,_,_,hf,_,_,_,_=>hf.elim
 | [],[],_,_::_,_,_,_,_,h,_,_,_,_,_=>by simp [ZlL] at h
 | [],[],_,[],_::_,_,_,_,h,_,_,_,_,_=>by simp [ZlL] at h
 | _::_,_::_,_,[],_,_,_,_,h,_,_,_,_,_=>by simp [ZlL] at h
 | _::_,_::_,_,_::_,[],_,_,_,h,_,_,_,_,_=>by simp [ZlL] at h
theorem ZoJ {op:BinOp} {b:Bool} {v:SV} (h:Zn8 op b=some v):(op=.eql∧v=.p false [.c (.bool b)])∨(op=.neq∧v=.p false [.c (.bool (!b))]):=by
 unfold Zn8 at h
 split at h<;>simp only[A4,reduceCtorEq] at h<;>subst h
 ·exact .inl ⟨rfl,rfl⟩
 ·exact .inr ⟨rfl,rfl⟩
theorem Zxc [NW] (htt:∀t i,tt t=some i→TOk P t i) {op:BinOp} {t:Nat} {ox oy:Operand} {x y v:SV} {vx vy:Value} (h:Zvq (tt (t+4000)) op x y=some v) (hx:SVR g w x vx) (hy:SVR g w y vy):
  ∃cv,(do eqGuard op t ox oy vx vy;binOp op t vx vy:Sem Value).run P w=.ok cv w∧SVR g w v cv∧svU U v:=by
 unfold Zvq at h
 split at h
 ·obtain ⟨ks,a,h'⟩:=AE.1 h
  obtain ⟨b,hb,d⟩:=AE.1 h'
  have c:tt (t+4000)=some (.eqs ks):=by
   unfold ZtP at a
   split at a<;>simp only[A4,reduceCtorEq] at a
   rename_i c
   rw [c,a]
  obtain ⟨u,e,h1,h2,h3,h4⟩:=htt _ _ c
  have e:t=u:=Nat.add_right_cancel e
  subst e
  obtain ⟨us,rfl,f⟩:=hx
  obtain ⟨vs,rfl,k⟩:=hy
  have hq:=Zrn (X:=us.toArray) (Y:=vs.toArray) 9998 hb h4 f k (fun j v hj=>by simpa using hj) (fun j v hj=>by simpa using hj)
  have hg:=run_eqGuard_agg (P:=P) w op t ox oy us.toArray vs.toArray h3
  rcases ZoJ d with ⟨rfl,rfl⟩ | ⟨rfl,rfl⟩
  ·refine ⟨_,?_,Q3 b,Y8 _⟩
   simp only[Sem.run_bind,hg,Result.andThen_ok,run_eql_struct,run_equalIn_struct w 9999 t _ _ h1 h2,hq]
  ·refine ⟨_,?_,Q3 (!b),Y8 _⟩
   simp only[Sem.run_bind,hg,Result.andThen_ok,run_neq_struct,run_equalIn_struct w 9999 t _ _ h1 h2,hq]
 ·simp at h
theorem Zws [NW] {b:Bool} {v:Value} (h:SVR g w (.p false [.c (.ifc b)]) v):(b=true∧v=.nilIface)∨(b=false∧∃t x,v=.iface t x):=by
 obtain ⟨x,hx,h⟩:=h;simp at hx;subst hx;obtain ⟨L,h1,_⟩:=h
 have h2:=h1.2.2
 cases b with
 | true=>exact .inl ⟨rfl,h2⟩
 | false=>exact .inr ⟨rfl,h2⟩
theorem ZuQ [NW] (htt:∀t i,tt t=some i→TOk P t i) {op:BinOp} {t:Nat} {ox oy:Operand} {x y v:SV} {vx:Value} (h:ZtF tt t (Zil oy) op x y=some v) (hx:SVR g w x vx) (hy:SVR g w y (a.eval oy)):
  ∃cv,(do eqGuard op t ox oy vx (a.eval oy);binOp op t vx (a.eval oy):Sem Value).run P w=.ok cv w∧SVR g w v cv∧svU U v:=by
 unfold ZtF at h
 split at h
 ·rename_i hn
  have ho:oy=.const .nilIface:=by
   cases oy with
   | const c=>cases c<;>first | rfl | (simp [Zil,Zqo] at hn;done)
   | _=>simp [Zil] at hn
  subst ho
  split at h
  rotate_left
  ·simp at h
  rename_i hif
  have hti:tt t=some .ifc:=by
   unfold Zts at hif
   split at hif
   ·assumption
   ·simp at hif
  obtain ⟨ms,hms⟩:=htt _ _ hti
  unfold ZzV at h
  split at h
  ·rename_i b
   have hb:=Zws hx
   have hev:a.eval (.const .nilIface)=.nilIface:=rfl
   rw [hev]
   have hg:∀v:Value,(v=.nilIface∨∃t x,v=.iface t x)→(eqGuard op t ox (.const .nilIface) v .nilIface).run P w=.ok () w:=fun v hv=>by
    rcases hv with rfl | ⟨t',x',rfl⟩
    ·simp only[eqGuard]
     cases ox<;>cases op<;>rfl
    ·simp only[eqGuard]
     cases op<;>rfl
   have he:(Op.equal t vx .nilIface).run P w=.ok b w:=by
    show (Op.equalIn (9999+1) t _ _).run P w=_
    rw [Op.equalIn]
    rcases hb with ⟨rfl,rfl⟩ | ⟨rfl,t',x',rfl⟩
    ·simp only[Sem.run_bind,Yh hms,Result.andThen_ok,Sem.run_pure]
    ·simp only[Sem.run_bind,Yh hms,Result.andThen_ok,Sem.run_pure]
   have hg':=hg vx (hb.imp (fun h=>h.2) (fun h=>h.2))
   rcases ZoJ h with ⟨rfl,rfl⟩ | ⟨rfl,rfl⟩
   ·refine ⟨_,?_,Q3 b,Y8 _⟩
    simp only[Sem.run_bind,hg',Result.andThen_ok]
    rcases hb with ⟨rfl,rfl⟩ | ⟨rfl,t',x',rfl⟩<;>simp only[binOp,Sem.run_bind,he,Result.andThen_ok,Sem.run_pure]
   ·refine ⟨_,?_,Q3 (!b),Y8 _⟩
    simp only[Sem.run_bind,hg',Result.andThen_ok]
    rcases hb with ⟨rfl,rfl⟩ | ⟨rfl,t',x',rfl⟩<;>simp only[binOp,Sem.run_bind,he,Result.andThen_ok,Sem.run_pure]
  ·simp at h
 ·split at h
  ·exact Zxc htt h hx hy
  ·exact ZwD htt h hx hy
theorem ZBh [NW] {op:UnOp} {x v:SV} {vx:Value} (h:unV op x=some v) (hx:SVR g w x vx):∃cv,(Op.unary op vx).run P w=.ok cv w∧SVR g w v cv∧svU U v:=by
 unfold unV at h
 split at h
 ·have ex:=ZeW hx
  subst ex
  split at h<;>simp at h
  subst h
  exact ⟨_,by simp [Op.unary],Q3 _,Y8 _⟩
 ·have ex:=Za1 hx
  subst ex
  split at h<;>simp at h
  subst h
  exact ⟨_,by simp [Op.unary,Op.intArith],ZaQ _ _,Y8 _⟩
 ·simp at h
end
end
section
open Go.RowKit
section
variable {P:Program} {W:QK} {U:Nat→Prop} {key:Nat} {st:St} {g:Gh} {w:World} {a:Act} {tt:Nat→Option TI}
theorem Zyv {t:Nat} {z:AV} (htt:∀t i,tt t=some i→TOk P t i) (h:tt t=some (.atom z)):∃d,P.underlying t=some d:=by
 obtain ⟨d,_,_,h,_⟩:=htt t _ h;exact ⟨d,h⟩
theorem ZpE {t:Nat} (htt:∀t i,tt t=some i→TOk P t i) (h:Za2 (tt t)=true):∃e,P.underlying t=some (.slice e):=by
 unfold Za2 at h
 split at h
 ·rename_i h1;exact ⟨_,(htt t _ h1).1⟩
 ·simp at h
theorem Zgb {t:Nat} (htt:∀t i,tt t=some i→TOk P t i) (h:ZbY (tt t)=true):P.underlying t=some .string:=by
 unfold ZbY at h
 split at h
 ·rename_i h1
  obtain ⟨d,zv,i,h2,h3,_⟩:=htt t _ h1
  have hd:d=.string:=by cases d<;>simp [ZgW] at h3;rfl
  rw [hd] at h2;exact h2
 ·simp at h
theorem Zvv [NW] (htt:∀t i,tt t=some i→TOk P t i) {s t:Nat} {x v:SV} {vx:Value} (h:ZoY (tt s) (tt t) x=some v) (hx:SVR g w x vx):∃cv,(convert s t vx).run P w=.ok cv w∧SVR g w v cv∧svU U v:=by
 unfold ZoY at h
 split at h
 ·have ex:=Za1 hx
  subst ex
  split at h
  ·rename_i h1 h2
   simp only[A4] at h
   subst h
   obtain ⟨d,zv,i,h3,h4,_⟩:=htt t _ h2
   have hd:∃k,d=.int k:=by cases d<;>simp [ZgW] at h4;exact ⟨_,rfl⟩
   obtain ⟨k,rfl⟩:=hd
   simp only[ZgW,beq_iff_eq] at h4
   subst h4
   obtain ⟨ds,hs⟩:=Zyv htt h1
   refine ⟨_,?_,ZaQ _ _,Y8 _⟩
   simp [convert,Yh hs,Yh h3,Conv.intToInt]
  ·simp at h
 ·simp at h
theorem Zf5 [NW] {e m:Nat} {xs:List (List CT)} {v:Value} (h:SVR g w (.p false [.c (.sl e m xs)]) v):∃A cap cs L0 L1,v=.slice A xs.length cap∧xs.length≤cap∧cap≤maxLen∧0<m∧Sl w m A xs.length cs L0∧REs w m xs cs L1∧(∀b∈L0++L1,¬g.own b):=by
 obtain ⟨x,hx,h⟩:=h
 simp at hx
 subst hx
 obtain ⟨L,⟨A,cap,cs,L0,L1,h1,h2,h3,h4,h5,h6,h7⟩,ho⟩:=h
 exact ⟨A,cap,cs,L0,L1,h1,h2,h3,h5,h6,h7,fun b m=>ho b (h4 ▸ m)⟩
theorem ZeK [NW] {k:Nat} {v:Value} (h:SVR g w (.p false [.row k]) v):v=g.val k:=by
 obtain ⟨x,hx,h⟩:=h;simp at hx;subst hx;exact h.1
theorem ZqE [NW] {e m:Nat} {v:Value} (h:SVR g w (.p false [.nil e m]) v):v=.slice none 0 0:=by
 obtain ⟨x,hx,h⟩:=h;simp at hx;subst hx;exact h
theorem Q8 {B e m n:Nat} {v:Value} {cs:List Value} (h:w.ownsV B e m v n cs):∃A cap,v=.slice A n cap:=by
 obtain ⟨A,c,hv,_⟩:=ZcS h
 exact ⟨A,c,hv⟩
theorem ZBN [NW] {x:CT} {v:Value} (h:SVR g w (.p false [.n x]) v):NR g w x v:=by
 obtain ⟨y,hy,h⟩:=h;simp at hy;subst hy;exact h
theorem Zxg [NW] (htt:∀t i,tt t=some i→TOk P t i) (hI:HI W g st.ob w) {t:Nat} {ts:Array TypeId} {ty:TypeId} (a:ts[0]?=some t) {x v:SV} {vx:Value} (h:ZlW st (tt t) x=some v) (hx:SVR g w x vx):
  ∃cv,(Builtin.len_ ts ty #[vx]).run P w=.ok cv w∧SVR g w v cv∧svU U v:=by
 have fin:∀(A:Option Addr) (n c:Nat),Za2 (tt t)=true→(Builtin.len_ ts ty #[.slice A n c]).run P w=.ok (.int .i64 n) w:=fun A n c hs=>by
  obtain ⟨e,he⟩:=ZpE htt hs
  simp [Builtin.len_,a,Yh he,goInt]
 unfold ZlW at h
 split at h
 ·split at h<;>simp at h
  rename_i hs
  subst h
  obtain ⟨A,cap,_,_,_,rfl,_⟩:=Zf5 hx
  exact ⟨_,fin _ _ _ hs,ZaQ _ _,Y8 _⟩
 ·split at h<;>simp at h
  rename_i hs
  subst h
  obtain ⟨_,_,_,_,_,h1,_,h3,_⟩:=ZBN hx
  simp only[CT.sl.injEq] at h1
  obtain ⟨_,_,rfl⟩:=h1
  obtain ⟨A,cap,rfl⟩:=Q8 h3
  exact ⟨_,fin _ _ _ hs,ZaQ _ _,Y8 _⟩
 ·split at h<;>simp at h
  rename_i hs
  subst h
  obtain ⟨rfl,_⟩:=Zhm hx
  refine ⟨_,?_,ZaQ _ _,Y8 _⟩
  simp [Builtin.len_,a,Yh (Zgb htt hs),goInt]
 ·split at h<;>simp at h
  rename_i hs
  subst h
  have:=ZqE hx
  subst this
  exact ⟨_,fin _ _ _ hs,ZaQ _ _,Y8 _⟩
 ·split at h
  ·rename_i k _ e m xs d hk
   split at h<;>simp at h
   rename_i hs
   subst h
   have hv:=ZeK hx
   subst hv
   have ho:=hI.obs k
   rw [hk] at ho
   obtain ⟨_,cs,L,h1,_⟩:=ho
   obtain ⟨A,cap,hv⟩:=Q8 h1
   rw [hv]
   exact ⟨_,fin _ _ _ hs,ZaQ _ _,Y8 _⟩
  ·simp at h
 ·simp at h
theorem Zki {f:Value→ByteArray→Sem (ForInStep ByteArray)} (hf:∀n s,f (.int .u8 n) s=pure (ForInStep.yield (s.push (B3 n.toNat)))):∀(l:List Int) (s:ByteArray),(forIn (l.map fun n=>Value.int .u8 n) s f).run P w=.ok ⟨s.data++(l.map fun n=>B3 n.toNat).toArray⟩ w
 | [],s=>by simp
 | n::l,s=>by
  have ih:=Zki hf l (s.push (B3 n.toNat))
  simp only[Ad,List.forIn_cons,hf,Sem.run_bind,Sem.run_pure,Result.andThen_ok,ih]
  congr 2
  apply Array.ext'
  simp [ByteArray.push]
theorem Zsa [NW] {b o cap:Nat} (l:List Int) (hc:∀j u,(l.map fun n=>Value.int .u8 n)[j]?=some u→w.cell? ⟨b,o+j,none⟩=some u):(Conv.bytesToString (.slice (some ⟨b,o,none⟩) l.length cap)).run P w=.ok (.string (YQ l)) w:=by
 have h1:=run_loadCells_list (P:=P) w ⟨b,o,none⟩ (l.map fun n=>Value.int .u8 n) (fun j u hj=>by rw [ZcD];exact hc j u hj)
 rw [Al] at h1
 unfold Conv.bytesToString
 simp only[Sem.run_bind,h1,Result.andThen_ok,←Array.forIn_toList]
 rw [Zki (fun _ _=>rfl)]
 simp [YQ,ByteArray.empty,ByteArray.emptyWithCapacity]
 rfl
theorem Zlh {m:Nat}:∀{xs:List (List CT)} {l:List Int} {cs:List Value} {L:List Nat},ZdK xs=some l→REs w m xs cs L→cs=l.map (fun n=>Value.int .u8 n)∧xs.length=l.length
 | [],_,_,_,h,⟨h1,_⟩=>by simp [ZdK] at h;subst h h1;simp
 | x::r,l,_,_,h,⟨c1,c2,L1,L2,rfl,rfl,h3,h4⟩=>by
  unfold ZdK at h
  split at h
  ·rename_i he;simp at he
  ·rename_i n r' he
   simp only[BH] at he
   obtain ⟨rfl,rfl⟩:=he
   obtain ⟨l',hl,rfl⟩:=A6.1 h
   obtain ⟨i1,i2⟩:=Zlh hl h4
   obtain ⟨v,cs',_,_,rfl,rfl,a1,a2⟩:=h3.1
   obtain ⟨rfl,_⟩:=a2
   rw [a1.1,i1]
   exact ⟨rfl,by simp [i2]⟩
  ·simp at h
theorem Zpz (l:List Int):(YQ l).size=l.length:=by simp [YQ,ByteArray.size]
theorem Zug [NW] (htt:∀t i,tt t=some i→TOk P t i) (hI:HI W g st.ob w) {s t:Nat} {x v:SV} {vx:Value} (y:ZbY (tt t)=true) (f:ZkO (ZnC tt (tt s))=true) (h:ZgV st x=some v) (hx:SVR g w x vx):∃cv,(convert s t vx).run P w=.ok cv w∧SVR g w v cv∧svU U v:=by
 have ht:=Zgb htt y
 have hs:∃e,P.underlying s=some (.slice e)∧P.underlying e=some (.int .u8):=by
  unfold ZnC at f
  split at f
  ·rename_i e m b z B
   have h1:=(htt _ _ B).1
   unfold ZkO at f
   split at f
   ·rename_i C
    obtain ⟨d,zv,i,h2,h3,_⟩:=htt _ _ C
    cases d<;>simp [ZgW] at h3
    subst h3
    exact ⟨e,h1,h2⟩
   ·simp at f
  ·simp [ZkO] at f
 obtain ⟨e,hs,he⟩:=hs
 have go:∀A n c,(convert s t (.slice A n c)).run P w=(Conv.bytesToString (.slice A n c)).run P w:=fun A n c=>by
  unfold convert
  simp only[Sem.run_bind,Yh hs,Yh ht,Yh he,Result.andThen_ok]
 have fin:∀(A:Option Addr) (n cap:Nat) (cs:List Value) (L:List Nat) (xs:List (List CT)) (l:List Int) (m:Nat),n=xs.length→0<m→ZdK xs=some l→REs w m xs cs L→n≤9223372036854775807→(n=0∨∃b o,A=some ⟨b,o,none⟩∧Q9 w b o cs)→∃cv,(convert s t (.slice A n cap)).run P w=.ok cv w∧SVR g w (.p false [.c (.str (YQ l))]) cv∧svU U (.p false [.c (.str (YQ l))]):=by
  intro A n cap cs L xs l m hn hm hl hR hsz hA
  obtain ⟨i1,i2⟩:=Zlh hl hR
  have q:(YQ l).size≤9223372036854775807:=by rw [Zpz];omega
  refine ⟨.string (YQ l),?_,Zjz q,Y8 _⟩
  rw [go]
  rcases hA with h0 | ⟨b,o,rfl,hc⟩
  ·have:l=[]:=AN yE
   subst this
   cases A with
   | none=>rfl
   | some a=>
    have h1:=run_loadCells_list (P:=P) w a [] yG
    rw [h0]
    unfold Conv.bytesToString
    simp only[BJ] at h1
    simp only[Sem.run_bind,h1,Result.andThen_ok]
    rfl
  ·rw [hn,i2]
   exact Zsa l fun j u hj=>hc j u (by rw [i1];exact hj)
 unfold ZgV at h
 split at h
 ·split at h
  ·rename_i k _ e' m xs d hk
   obtain ⟨l,hl,rfl⟩:=A6.1 h
   have hv:=ZeK hx
   have ho:=hI.obs k
   rw [hk] at ho
   obtain ⟨hm,cs,L,h1,h2,_⟩:=ho
   rw [hv]
   rcases h1.2 with ⟨h3,h4⟩ | ⟨b,o,cap,cur,h3,h4,h5,h6,h7,h8,h9⟩
   ·rw [h3]
    exact fin _ _ _ cs L xs l m yE hm hl h2 yE (.inl rfl)
   ·rw [h3]
    refine fin _ _ _ cs L xs l m rfl hm hl h2 (by unfold maxLen at h7;omega) (.inr ⟨b,o,rfl,fun j u hj=>?_⟩)
    exact ZhI h1 h3 j u hj
  ·simp at h
 ·obtain ⟨l,hl,rfl⟩:=A6.1 h
  obtain ⟨A,cap,cs,L0,L1,rfl,h2,h3,h5,h6,h7,_⟩:=Zf5 hx
  rename_i e' m' xs _
  refine fin _ _ _ cs L1 xs l _ rfl h5 hl h7 (by unfold maxLen at h3;omega) ?_
  rcases Nat.eq_zero_or_pos xs.length with h0 | h0
  ·exact .inl h0
  ·obtain ⟨b,off,h8,h9,hc⟩:=h6.at_ h0
   exact .inr ⟨b,off,h8,hc⟩
 ·simp at h
theorem Zs1 [NW] (htt:∀t i,tt t=some i→TOk P t i) (hI:HI W g st.ob w) {s t:Nat} {x v:SV} {vx:Value} (h:ZfG tt st s t x=some v) (hx:SVR g w x vx):∃cv,(convert s t vx).run P w=.ok cv w∧SVR g w v cv∧svU U v:=by
 unfold ZfG at h
 split at h
 ·rename_i hc
  simp only[A3] at hc
  exact Zug htt hI hc.1 hc.2 h hx
 ·exact Zvv htt h hx
theorem RCs.avr [NW] {e:List CT} {cs:List Value} {L:List Nat}:RCs w e cs L→(∀b∈L,¬g.own b)→ZH (AVR g w) (e.map .c) cs:=by
 induction e generalizing cs L with
 | nil=>intro h _;obtain ⟨rfl,rfl⟩:=h;trivial
 | cons x r ih=>
  rintro ⟨v,cs',L1,L2,rfl,rfl,h1,h2⟩ ho
  exact ⟨⟨L1,h1,fun b m=>ho b (by simp [m])⟩,ih h2 fun b m=>ho b (by simp [m])⟩
theorem Zkx (a:Bool) (e:List CT):X6 U (e.map AV.c):=fun y m=>by
 obtain ⟨x,_,rfl⟩:=AF.1 m;trivial
theorem Zns [NW] (htt:∀t i,tt t=some i→TOk P t i) {t b lo off:Nat} {cs:List AV} {vs:List Value} {v:SV} (h:cut (tt t) cs off=some v) (hc:Q9 w b lo vs) (hr:ZH (AVR g w) cs vs) (hu:X6 U cs):
  ∃cv,(Instr.loadAt t (.pointer (some ⟨b,lo+off,none⟩))).run P w=.ok cv w∧SVR g w v cv∧svU U v:=by
 have hlen:=hr.len
 have c:∀d,P.underlying t=some d→Zpk d=false→∀x,cs[off]?=some x→∃cv,(Instr.loadAt t (.pointer (some ⟨b,lo+off,none⟩))).run P w=.ok cv w∧SVR g w (.p false [x]) cv∧svU U (.p false [x]):=fun d hd ha x hx=>by
  obtain ⟨u,h1,h2⟩:=hr.at hx
  refine ⟨u,?_,⟨x,rfl,h2⟩,fun y m=>by simp at m;subst m;exact hu y (AA hx)⟩
  simp [Instr.loadAt,Instr.sureAddr,loadVar,Zgq hd,ha,load,Sem.run,hc off u h1]
 unfold cut at h
 split at h
 ·rename_i fs n z k
  split at h<;>simp at h
  rename_i hn
  subst h
  obtain ⟨fields,i,zvs,h1,h2,h3,_⟩:=htt t _ k
  refine ⟨.agg ((vs.drop off).take n).toArray,?_,⟨_,rfl,(hr.drop off).take n⟩,fun y m=>hu y (B4 (B5 m))⟩
  have hl:((vs.drop off).take n).length=i.size:=by simp;omega
  have a:=run_loadCells_list (P:=P) w ⟨b,lo+off,none⟩ ((vs.drop off).take n) (fun j u hj=>by
   rw [ZcD,AK]
   refine hc _ u ?_
   have l:j<n:=by
    have:=(A8.1 hj).1
    simp at this;omega
   rw [BS,if_pos l,BT] at hj
   exact hj)
  rw [hl] at a
  simp [Instr.loadAt,Instr.sureAddr,loadVar,Zgq h1,Zpk,Xp h2,a]
 ·simp at h
 ·rename_i i k o f
  obtain ⟨x,hx,rfl⟩:=A6.1 h
  cases i with
  | atom z=>obtain ⟨d,zv,i,h1,h2,_⟩:=htt t _ f;exact c d h1 (ZtM h2) x hx
  | strct fs n z=>exact absurd rfl (k _ _ _)
  | slice e m b z=>exact c _ (htt t _ f).1 rfl x hx
  | map kk vk=>
   obtain ⟨kt,et,_,_,_,_,h1,_⟩:=htt t _ f
   exact c _ h1 rfl x hx
  | ifc=>obtain ⟨ms,h1⟩:=htt t _ f;exact c _ h1 rfl x hx
  | eqs ks=>exact absurd rfl (o _)
 ·simp at h
end
end
section
open Go.RowKit
section
variable {P:Program} {W:QK} {U:Nat→Prop} {key:Nat} {st:St} {g:Gh} {w:World} {a:Act} {tt:Nat→Option TI}
theorem HI.deep [NW] {ob:Nat→Ob} {k e m:Nat} {xs:List (List CT)} {d:Nat} (hI:HI W g ob w) (hk:ob k=.row e m xs d):0<m∧∃cs L,w.ownsV 0 e m (g.val k) xs.length cs∧REs w m xs cs L∧(∀b∈L,¬g.own b)∧((d=2∧g.O k=(g.val k).ownBlock.toList∧g.D k=L)∨(d=1∧g.O k=(g.val k).ownBlock.toList∧g.D k=[])∨(d=0∧g.O k=[]∧g.D k=[]∧∀b∈(g.val k).ownBlock.toList,¬g.own b)):=by
 have ho:=hI.obs k
 rw [hk] at ho
 obtain ⟨hm,cs,L,h1,h2,h4⟩:=ho
 refine ⟨hm,cs,L,h1,h2,?_,?_⟩
 ·rcases h4 with ⟨_,_,h4⟩ | ⟨_,_,_,h4⟩ | ⟨_,_,_,h4⟩
  ·rintro b mb (⟨j,mj⟩ | hz)
   ·by_cases a:j=k
    ·subst a
     have:=hI.nodup j
     rw [Ak] at this
     exact this.2.2 b mj b (h4 ▸ mb) rfl
    ·exact hI.apart j k a b (by simp [mj]) (by simp [h4,mb])
   ·exact hI.nz (k:=k) (by simp [h4,mb]) hz
  ·exact h4
  ·exact fun b mb=>h4 b (by simp [mb])
 ·rcases h4 with h4 | ⟨q1,q2,q3,_⟩ | ⟨q1,q2,q3,q4⟩
  ·exact .inl h4
  ·exact .inr (.inl ⟨q1,q2,q3⟩)
  ·exact .inr (.inr ⟨q1,q2,q3,fun b mb=>q4 b (by simp [mb])⟩)
theorem HI.deepO [NW] {ob:Nat→Ob} {k e m:Nat} {xs:List (List CT)} {d:Nat} (hI:HI W g ob w) (hk:ob k=.row e m xs d) (hd:¬d=0):0<m∧∃cs L,w.ownsV 0 e m (g.val k) xs.length cs∧REs w m xs cs L∧(∀b∈L,¬g.own b)∧g.O k=(g.val k).ownBlock.toList∧((d=2∧g.D k=L)∨(d=1∧g.D k=[])):=by
 obtain ⟨hm,cs,L,h1,h2,h3,h4⟩:=hI.deep hk
 refine ⟨hm,cs,L,h1,h2,h3,?_⟩
 rcases h4 with ⟨q1,q2,q3⟩ | ⟨q1,q2,q3⟩ | ⟨q1,_⟩
 ·exact ⟨q2,.inl ⟨q1,q3⟩⟩
 ·exact ⟨q2,.inr ⟨q1,q3⟩⟩
 ·exact absurd q1 hd
theorem REs.at {m:Nat}:∀{xs:List (List CT)} {cs:List Value} {L:List Nat} {i:Nat} {e:List CT},REs w m xs cs L→xs[i]?=some e→
  ∃c L',RCs w e c L'∧c.length=m∧(∀b∈L',b∈L)∧∀j u,c[j]?=some u→cs[i * m+j]?=some u
 | [],_,_,_,_,_,h=>by simp at h
 | x::r,_,_,0,e,⟨c1,c2,L1,L2,rfl,rfl,h3,h4⟩,h=>by
  simp at h;subst h
  exact ⟨c1,L1,h3.1,h3.2,fun b mb=>by simp [mb],fun j u hu=>by
   rw [Nat.zero_mul,AI,Am (A8.1 hu).1];exact hu⟩
 | x::r,_,_,i+1,e,⟨c1,c2,L1,L2,rfl,rfl,h3,h4⟩,h=>by
  obtain ⟨c,L',a1,a2,a3,a4⟩:=REs.at h4 (i:=i) (e:=e) (by simpa using h)
  refine ⟨c,L',a1,a2,fun b mb=>by simp [a3 b mb],fun j u hu=>?_⟩
  have hl:=h3.2
  rw [AZ (by rw [AL];omega)]
  rw [←a4 j u hu]
  congr 1
  rw [hl,AL];omega
theorem REs.len {m:Nat}:∀{xs:List (List CT)} {cs:List Value} {L:List Nat},REs w m xs cs L→cs.length=xs.length * m
 | [],_,_,h=>by simp [h.1]
 | x::r,_,_,⟨c1,c2,L1,L2,rfl,rfl,h3,h4⟩=>by simp [h3.2,REs.len h4,AL];omega
theorem ZAb [NW] (htt:∀t i,tt t=some i→TOk P t i) (hI:HI W g st.ob w) (hU:StU U st) {t e m a:Nat} {z:List AV} (p:tt t=some (.slice e m a z)) {x i v:SV} {vx vi:Value} (h:Za9 st m x i=some v) (hx:SVR g w x vx) (B:svU U x) (hi:SVR g w i vi):
  ∃cv,(Instr.indexAt t vx vi).run P w=.ok cv w∧SVR g w v cv∧svU U v:=by
 obtain ⟨hu,hm,_,⟨ie,zv,C,D,_⟩,_⟩:=htt t _ p
 have f:∀(b o n c:Nat) (k:IntKind) (q:Int),0≤q→q<n→(Instr.indexAt t (.slice (some ⟨b,o,none⟩) n c) (.int k q)).run P w=.ok (.pointer (some ⟨b,o+q.toNat * m,none⟩)) w:=fun b o n c k q h0 h1=>by
  simp [Instr.indexAt,asIntOf,Yh hu,h0,h1,Xp C,D,ZcD]
 unfold Za9 at h
 split at h
 ·have ei:=Za1 hi
  subst ei
  split at h
  ·rename_i hq
   obtain ⟨x,l,rfl⟩:=A6.1 h
   obtain ⟨A,cap,cs,L0,L1,rfl,h2,h3,h5,h6,h7,ho⟩:=Zf5 hx
   obtain ⟨h0,rfl⟩:=hq
   have hlt:=(A8.1 l).1
   obtain ⟨b,off,rfl,rfl,hc⟩:=h6.at_ yE
   obtain ⟨c,L',a1,a2,a3,a4⟩:=h7.at l
   refine ⟨_,f b off _ _ _ _ h0 yE,⟨b,off+_,c,L',by rw [Nat.add_zero],fun j u hj=>?_,a1,fun y my=>?_,?_⟩,trivial⟩
   ·rw [AK];exact hc _ u (a4 j u hj)
   ·rcases AH.1 my with rfl | my
    ·exact ho _ yG
    ·exact ho _ (by simp [a3 y my])
   ·exact h6.lt h5 b yG
  ·simp at h
 ·rename_i k _ _
  have ei:=Za1 hi
  subst ei
  split at h
  ·rename_i e' m' xs d hk
   split at h
   ·rename_i hq
    obtain ⟨h0,h1,rfl⟩:=hq
    simp only[A4] at h
    subst h
    have hv:=ZeK hx
    subst hv
    obtain ⟨_,cs,L,o1,_⟩:=hI.deep hk
    rcases o1.2 with ⟨_,hn⟩ | ⟨b,o,cap,cur,hv,_⟩
    ·omega
    ·refine ⟨_,by rw [hv];exact f b o _ _ _ _ h0 h1,⟨b,o,_,_,hv,yG⟩,by have:=B (.row k) yG;exact this⟩
   ·simp at h
  ·simp at h
 ·simp at h
theorem ZvI [NW] (htt:∀t i,tt t=some i→TOk P t i) {t:Nat} {x i v:SV} {vx vi:Value} (h:ZjW (tt t) x i=some v) (hx:SVR g w x vx) (hi:SVR g w i vi):
  ∃cv,(Instr.index t vx vi).run P w=.ok cv w∧SVR g w v cv∧svU U v:=by
 unfold ZjW at h
 split at h
 ·have ei:=Za1 hi
  subst ei
  obtain ⟨rfl,_⟩:=Zhm hx
  split at h
  ·rename_i hq
   obtain ⟨b,hb,rfl⟩:=A6.1 h
   refine ⟨_,?_,ZaQ _ _,Y8 _⟩
   simp [Instr.index,asIntOf,Yh (Zgb htt hq.2),hq.1,hb]
  ·simp at h
 ·simp at h
theorem ZqT [NW] {e:List CT} {v:Value} (h:SVR g w (.p false [.c (.pt e)]) v):∃b cs L,v=.pointer (some ⟨b,0,none⟩)∧b<w.heap.size∧Q9 w b 0 cs∧RCs w e cs L∧∀x∈b::L,¬g.own x:=by
 obtain ⟨x,hx,h⟩:=h
 simp at hx
 subst hx
 obtain ⟨_,⟨b,cs,L,h1,h2,rfl,h4,h5⟩,ho⟩:=h
 exact ⟨b,cs,L,h1,h2,h4,h5,ho⟩
theorem Zq2 [NW] (htt:∀t i,tt t=some i→TOk P t i) (hI:HI W g st.ob w) (hU:StU U st) {t:Nat} {x v:SV} {vx:Value} (h:Qa st (tt t) x=some v) (hx:SVR g w x vx):
  ∃cv,(Instr.loadAt t vx).run P w=.ok cv w∧SVR g w v cv∧svU U v:=by
 unfold Qa at h
 split at h
 ·rename_i k off
  split at h
  ·rename_i tb cs hk
   obtain ⟨b,h1,rfl⟩:=hx
   have ho:=hI.obs k
   rw [hk] at ho
   obtain ⟨b',vs,o1,o2,o3,o4,o5⟩:=ho
   have hb:b=b':=by rw [o1] at h1;simpa using h1.symm
   subst hb
   have hu:=hU.ob k
   rw [hk] at hu
   have hc:Q9 w b 0 vs:=fun j u hj=>by
    rw [AI,cell_of_row w b j vs.toArray tb (0,0) o4];simpa using hj
   have:=Zns (P:=P) htt h hc o5 hu
   simpa using this
  ·simp at h
 ·rename_i k m i off
  split at h
  ·rename_i e m' xs d hk
   obtain ⟨x,a,h'⟩:=AE.1 h
   obtain ⟨b,o,n,c,h1,rfl⟩:=hx
   obtain ⟨hm,cs,L,o1,o2,o3,_⟩:=hI.deep hk
   split at h'
   ·rename_i f
    subst f
    obtain ⟨c',L',a1,a2,a3,a4⟩:=o2.at a
    have hc:Q9 w b (o+i * m) c':=fun j u hj=>by
     rw [AK]
     exact ZhI o1 h1 (i * m+j) u (a4 j u hj)
    rw [←AK]
    exact Zns htt h' hc (a1.avr fun y my=>o3 y (a3 y my)) (Zkx true _)
   ·simp at h'
  ·simp at h
 ·obtain ⟨b,lo,cs,L,rfl,h2,h3,h4,h5⟩:=hx
  exact Zns htt h h2 (h3.avr fun y my=>h4 y (by simp [my])) (Zkx true _)
 ·obtain ⟨b,cs,L,rfl,h2,h3,h4,h5⟩:=ZqT hx
  have:=Zns (P:=P) (U:=U) htt h h3 (h4.avr fun y my=>h5 y (by simp [my])) (Zkx true _)
  simpa using this
 ·simp at h
theorem ZyP [NW] {d:Nat} {x v:SV} {vx:Value} (h:Zit d x=some v) (hx:SVR g w x vx) (hu:svU U x):∃b o,vx=.pointer (some ⟨b,o,none⟩)∧SVR g w v (.pointer (some ⟨b,o+d,none⟩))∧svU U v:=by
 unfold Zit at h
 split at h<;>simp at h<;>subst h
 ·obtain ⟨b,h1,rfl⟩:=hx;exact ⟨b,_,rfl,⟨b,h1,rfl⟩,hu⟩
 ·obtain ⟨b,o,n,c,h1,rfl⟩:=hx;exact ⟨b,_,rfl,⟨b,o,n,c,h1,by simp only[AK]⟩,hu⟩
 ·obtain ⟨b,lo,cs,L,rfl,h⟩:=hx;exact ⟨b,_,rfl,⟨b,lo,cs,L,by rw [AK],h⟩,trivial⟩
 ·obtain ⟨b,cs,L,rfl,h2,h3,h4,h5⟩:=ZqT hx
  exact ⟨b,0,rfl,⟨b,0,cs,L,rfl,h3,h4,h5,h2⟩,trivial⟩
theorem Zy0 [NW] (htt:∀t i,tt t=some i→TOk P t i) {t f n:Nat} {fs:List FI} {z:List AV} (c:tt t=some (.strct fs n z)) {fi:FI} (hf:fs[f]?=some fi) {x v:SV} {vx:Value} (h:Zit fi.off x=some v) (hx:SVR g w x vx) (hu:svU U x):
  ∃cv,(Instr.fieldAt t vx f).run P w=.ok cv w∧SVR g w v cv∧svU U v:=by
 obtain ⟨b,o,rfl,h1,h2⟩:=ZyP h hx hu
 obtain ⟨a,i,zvs,u1,_,_,_,_,u2⟩:=htt t _ c
 obtain ⟨fl,e1,e2,e3,j,d,e4,e5,_⟩:=u2.at hf
 have e:a[f]?=some fl:=by simpa using e1
 refine ⟨_,?_,h1,h2⟩
 simp [Instr.fieldAt,Yh u1,e,Instr.sureAddr,fieldPlace,Xp e4,e5,e3,ZcD,e2]
theorem Zx1 [NW] (htt:∀t i,tt t=some i→TOk P t i) {t f n:Nat} {fs:List FI} {z:List AV} (c:tt t=some (.strct fs n z)) {x v:SV} {vx:Value} (h:Zlj fs f x=some v) (hx:SVR g w x vx) (hu:svU U x):
  ∃cv,(Instr.field t vx f).run P w=.ok cv w∧SVR g w v cv∧svU U v:=by
 unfold Zlj at h
 split at h
 ·rename_i cs
  obtain ⟨fi,hf,h⟩:=AE.1 h
  obtain ⟨vs,rfl,hr⟩:=hx
  obtain ⟨a,i,zvs,u1,_,_,_,_,u2⟩:=htt t _ c
  obtain ⟨fl,e1,e2,e3,j,d,e4,e5,e6,e7⟩:=u2.at hf
  have b:a[f]?=some fl:=by simpa using e1
  have hlen:=hr.len
  split at h
  ·rename_i ha
   split at h<;>simp at h
   rename_i hn
   subst h
   refine ⟨.agg ((vs.drop fi.off).take fi.size).toArray,?_,⟨_,rfl,(hr.drop _).take _⟩,fun y m=>hu y (B4 (B5 m))⟩
   simp [Instr.field,Yh u1,b,asAgg,part,Zgq e6,e7,ha,Xp e4,e5,e2]
  ·rename_i ha
   obtain ⟨y,hy,rfl⟩:=A6.1 h
   obtain ⟨u,b1,b2⟩:=hr.at hy
   refine ⟨u,?_,⟨y,rfl,b2⟩,fun z mz=>by simp at mz;subst mz;exact hu z (AA hy)⟩
   simp [Instr.field,Yh u1,b,asAgg,part,Zgq e6,e7,ha,e2,b1]
 ·simp at h
theorem Zvs [NW] {c:Bool} {x y:SV} {vc vx vy:Value} (hc:SVR g w (.p false [.c (.bool c)]) vc) (hx:SVR g w x vx∧svU U x) (hy:SVR g w y vy∧svU U y):
  ∃cv,(do pure (Next.value (if ←asBool vc then vx else vy)):Sem Next).run P w=.ok (.value cv) w∧SVR g w (if c=true then x else y) cv∧svU U (if c=true then x else y):=by
 have:=ZeW hc
 subst this
 cases c
 ·exact ⟨vy,by simp [asBool],by simpa using hy.1,by simpa using hy.2⟩
 ·exact ⟨vx,by simp [asBool],by simpa using hx.1,by simpa using hx.2⟩
theorem Zwy [NW] {i:Nat} {x v:SV} {vx:Value} (h:Zt1 i x=some v) (hx:SVR g w x vx) (hu:svU U x):∃cv,(Instr.extract vx i).run P w=.ok cv w∧SVR g w v cv∧svU U v:=by
 unfold Zt1 at h
 split at h
 ·obtain ⟨y,hy,rfl⟩:=A6.1 h
  obtain ⟨vs,rfl,hr⟩:=hx
  obtain ⟨u,b1,b2⟩:=hr.at hy
  exact ⟨u,by simp [Instr.extract,b1],b2,hu y (AA hy)⟩
 ·simp at h
theorem Zs6 [NW] {lo:Bool} {x y v:SV} {vx vy:Value} {ts:Array TypeId} {ty:TypeId} (h:ZtJ lo x y=some v) (hx:SVR g w x vx) (hy:SVR g w y vy):
  ∃cv,((if lo then Builtin.min_ ts ty #[vx,vy] else Builtin.max_ ts ty #[vx,vy]):Sem Value).run P w=.ok cv w∧SVR g w v cv∧svU U v:=by
 unfold ZtJ at h
 split at h
 ·have ex:=Za1 hx
  have ey:=Za1 hy
  subst ex ey
  simp only[A4] at h
  subst h
  refine ⟨_,?_,ZaQ _ _,Y8 _⟩
  cases lo
  ·simp [Builtin.max_,Builtin.max2]
  ·simp [Builtin.min_,Builtin.min2]
 ·simp at h
end
end
section
open Go.RowKit
theorem ZeJ {α:Type} (l:List α) (off:Nat) (vs:List α) (h:off+vs.length≤l.length):(splice l off vs).length=l.length:=by
 simp [splice];omega
theorem ZpD {α:Type} (l:List α) (n:Nat) (v:α) (r:List α) (h:n+(r.length+1)≤l.length):splice (l.set n v) (n+1) r=splice l n (v::r):=by
 unfold splice
 have e1:(l.set n v).take (n+1)=l.take n++[v]:=by
  rw [List.take_succ_eq_append_getElem (by simp;omega)]
  simp [List.take_set_of_le]
 have e2:(l.set n v).drop (n+1+r.length)=l.drop (n+(v::r).length):=by
  rw [List.drop_set_of_lt yE]
  congr 1
  simp;omega
 rw [e1,e2];simp
theorem Zmz [NW] (off:Nat):∀(vs:List Value) (k:Nat) (cells:Array Value),off+k+vs.length≤cells.size→
  (vs.zipIdx k).foldl (fun (cs:Array Value) (p:Value × Nat)=>cs.setIfInBounds (off+p.2) p.1) cells=(splice cells.toList (off+k) vs).toArray
 | [],k,cells,h=>by simp [splice]
 | v::r,k,cells,h=>by
  rw [List.zipIdx_cons,AX,Zmz off r (k+1) _ (by simp at h ⊢;omega)]
  have:=ZpD cells.toList (off+k) v r (by simpa using h)
  rw [←this]
  simp [AK]
theorem Zkl [NW] (off:Nat) (v:Value) (vs:List Value) (hv:v.cells=vs.toArray) (cells:Array Value) (h:off+vs.length≤cells.size):
  v.cells.zipIdx.foldl (fun cs (c,j)=>cs.setIfInBounds (off+j) c) cells=(splice cells.toList off vs).toArray:=by
 have:=Zmz off vs 0 cells (by simpa using h)
 rw [hv,←Array.foldl_toList]
 simpa using this
section
variable {P:Program} {W:QK} {U:Nat→Prop} {key:Nat} {st:St} {g:Gh} {w:World} {a:Act} {tt:Nat→Option TI}
theorem ZH.splice {α β:Type} {R:α→β→Prop} {l vs:List α} {r us:List β} (h:ZH R l r) (h':ZH R vs us) (off:Nat):ZH R (splice l off vs) (splice r off us):=by
 unfold Go.Proofs.YtekbmedphidcgaaGreatDoor.splice
 rw [h'.len]
 exact (h.take _).append (h'.append (h.drop _))
theorem ZiW {l vs:List AV} (h:X6 U l) (h':X6 U vs) (off:Nat):X6 U (splice l off vs):=by
 intro y m
 unfold splice at m
 rcases A5.1 m with m | m
 ·exact h y (B5 m)
 ·rcases A5.1 m with m | m
  ·exact h' y m
  ·exact h y (B4 m)
theorem Zq9 [NW] {a:Nat→Option (Nat × Nat)} {fs:List FI} (hp:∀i fi,fs[i]?=some fi→a i=some (fi.off,fi.size)):
  ∀{b:List (Nat × SV)} {ps:List (Nat × Value)} {cs c:List AV} {vs:List Value},ZhA fs cs b=some c→ZH (fun p q=>p.1=q.1∧SVR g w p.2 q.2∧svU U p.2) b ps→ZH (AVR g w) cs vs→X6 U cs→
   ∃d:List Value,Instr.fill a vs.toArray ps=some d.toArray∧ZH (AVR g w) c d∧X6 U c
 | [],[],cs,c,vs,h,_,hr,hu=>by simp [ZhA] at h;subst h;exact ⟨vs,rfl,hr,hu⟩
 | [],_::_,_,_,_,_,h,_,_=>h.elim
 | _::_,[],_,_,_,_,h,_,_=>h.elim
 | (i,s)::r,(j,v)::ps,cs,c,vs,h,⟨⟨e,hs,hsu⟩,hps⟩,hr,hu=>by
  simp only at e hs hsu
  subst e
  cases s with
  | p ag us=>
   simp only[ZhA] at h
   obtain ⟨f,hf,h⟩:=AE.1 h
   split at h
   ·rename_i hl
    obtain ⟨k,c1,c2⟩:=PVR.cells hs
    have hlen:=c2.len
    have hlen2:=hr.len
    obtain ⟨d,d1,d2,d3⟩:=Zq9 hp h hps (hr.splice c2 f.off) (ZiW hu hsu f.off)
    refine ⟨d,?_,d2,d3⟩
    have l:v.cells.size=k.length:=by simp [c1]
    rw [Instr.fill,hp i f hf]
    simp only
    rw [if_neg (by simp [l];omega),Zkl f.off v k c1 _ (by simp;omega)]
    simpa using d1
   ·simp at h
  | _=>simp [ZhA] at h
theorem ZH.of_map {α β γ:Type} {R:β→γ→Prop} (f:α→β) (h:α→γ):∀{l:List α},(∀x∈l,R (f x) (h x))→ZH R (l.map f) (l.map h)
 | [],_=>trivial
 | x::l,hh=>⟨hh x yG,ZH.of_map f h fun y m=>hh y (by simp [m])⟩
theorem Zhc [NW]:∀{z:List AV} {zvs:List Value},ZH (fun a v=>QV a v=true) z zvs→ZH (AVR g w) z zvs∧X6 U z
 | [],[],_=>⟨trivial,fun _ m=>by simp at m⟩
 | x::z,v::zvs,h=>by
  obtain ⟨h1,h2⟩:=Zhc (z:=z) (zvs:=zvs) h.2
  refine ⟨⟨Zep h.1,h1⟩,fun y m=>?_⟩
  rcases AH.1 m with rfl | m
  ·have:=h.1
   cases y<;>first | trivial | simp [QV] at this
  ·exact h2 y m
 | [],_::_,h=>h.elim
 | _::_,[],h=>h.elim
theorem ZmJ:∀{fs:List FI} {a:List Field},ZH (fun (fi:FI) (f:Field)=>f.offset=fi.off∧fi.size≠0∧∃j d,P.info? f.type=some j∧j.size=fi.size∧P.underlying f.type=some d∧Zpk d=fi.agg) fs a→
  a.mapM (fun f=>(P.info? f.type).map fun i=>(f.offset,i.size))=some (fs.map fun fi=>(fi.off,fi.size))
 | [],[],_=>rfl
 | fi::fs,f::a,⟨⟨h1,_,j,d,h2,h3,_⟩,h⟩=>by
  simp [List.mapM_cons,h2,h3,h1,ZmJ h]
 | [],_::_,h=>h.elim
 | _::_,[],h=>h.elim
theorem Zud [NW] (htt:∀t i,tt t=some i→TOk P t i) (hS:∀t,SVR g w (st.sl t) (a.tmps.getD t undef)) (hU:StU U st) {t n:Nat} {fs:List FI} {z:List AV} (f:tt t=some (.strct fs n z)) {b:Array (Nat × Operand)} {cs:List AV} (h:ZhA fs z (b.toList.map (Ze5 tt st fs z))=some cs):
  ∃cv,(Instr.build t (b.map fun (i,x)=>(i,a.eval x))).run P w=.ok cv w∧SVR g w (.p true cs) cv∧svU U (.p true cs):=by
 obtain ⟨fields,i,zvs,u1,u2,u3,u4,u5,u6⟩:=htt t _ f
 obtain ⟨hz,j⟩:=Zhc (g:=g) (w:=w) (U:=U) u5
 have c:ZH (fun (p:Nat × SV) (q:Nat × Value)=>p.1=q.1∧SVR g w p.2 q.2∧svU U p.2) (b.toList.map (Ze5 tt st fs z)) (b.toList.map fun p=>(p.1,a.eval p.2)):=by
  refine ZH.of_map _ _ fun p _=>?_
  unfold Ze5
  split
  ·rename_i hc
   rw [hc]
   refine ⟨rfl,?_⟩
   dsimp only
   split
   ·exact ⟨⟨_,rfl,rfl⟩,fun y m=>by simp at m;subst m;trivial⟩
   ·exact ⟨trivial,trivial⟩
  ·have:=Zi6 htt hS hU 0 p.2
   exact ⟨rfl,this⟩
 have k:∀(i:Nat) (fi:FI),fs[i]?=some fi→((fs.map fun (fi:FI)=>(fi.off,fi.size)).toArray[i]?)=some (fi.off,fi.size):=fun i fi hf=>by simp [hf]
 obtain ⟨d,d1,d2,d3⟩:=Zq9 k h c hz j
 refine ⟨.agg d.toArray,run_build w t _ _ ?_,⟨d,rfl,d2⟩,d3⟩
 unfold Program.built
 simp only[u1,u2,u4,ZmJ u6]
 have e:(b.map fun (x:Nat × Operand)=>(x.1,a.eval x.2)).toList=b.toList.map fun p=>(p.1,a.eval p.2):=by simp
 have e2:(b.map fun x=>match x with | (i,x)=>(i,a.eval x))=b.map fun (x:Nat × Operand)=>(x.1,a.eval x.2):=rfl
 rw [e2,e]
 exact d1
theorem Sl.sub {m n:Nat} {A:Option Addr} {cs:List Value} {L:List Nat} (h:Sl w m A n cs L) (l q cap:Nat) (hm:0<m) (hq:l+q≤n) (hcap:n≤cap):
  ∃A' L',A'=(if cap=l then A else A.map (·.add (l * m)))∧Sl w m A' q ((cs.drop (l * m)).take (q * m)) L'∧∀b∈L',b∈L:=by
 have hlen:=h.1
 have hlm:l * m+q * m≤n * m:=by rw [←AL];exact Nat.mul_le_mul_right m hq
 refine ⟨_,if q=0 then [] else L,rfl,⟨by simp;omega,?_⟩,fun b mb=>?_⟩
 ·by_cases a:q=0
  ·exact .inl ⟨a,by simp [a]⟩
  ·rcases h.2 with ⟨h0,_⟩ | ⟨_,b,off,rfl,rfl,hc⟩
   ·omega
   ·refine .inr ⟨yE,b,off+l * m,by rw [if_neg yE];simp [ZcD],by simp [a],fun j u hj=>?_⟩
    rw [AK]
    refine hc _ u ?_
    have c:j<q * m:=by
     have:=(A8.1 hj).1
     simp at this;omega
    rw [BS,if_pos c,BT] at hj
    exact hj
 ·split at mb
  ·simp at mb
  ·exact mb
theorem REs.drop {m:Nat}:∀{xs:List (List CT)} {cs:List Value} {L:List Nat} (l:Nat),REs w m xs cs L→∃L',REs w m (xs.drop l) (cs.drop (l * m)) L'∧∀b∈L',b∈L
 | xs,cs,L,0,h=>⟨L,by simpa using h,fun _ mb=>mb⟩
 | [],cs,L,l+1,h=>⟨[],by obtain ⟨rfl,rfl⟩:=h;simp [REs],yG⟩
 | x::r,_,_,l+1,⟨c1,c2,L1,L2,rfl,rfl,h3,h4⟩=>by
  obtain ⟨L',h5,h6⟩:=REs.drop l h4
  refine ⟨L',?_,fun b mb=>by simp [h6 b mb]⟩
  have e:(l+1) * m=c1.length+l * m:=by rw [h3.2,AL];omega
  have e2:(c1++c2).drop (c1.length+l * m)=c2.drop (l * m):=by
   rw [BU,BV (Nat.le_add_right _ _),BI,Nat.add_sub_cancel_left]
  rw [e,e2]
  simpa using h5
theorem REs.take {m:Nat}:∀{xs:List (List CT)} {cs:List Value} {L:List Nat} (l:Nat),REs w m xs cs L→∃L',REs w m (xs.take l) (cs.take (l * m)) L'∧∀b∈L',b∈L
 | xs,cs,L,0,h=>⟨[],by simp [REs],yG⟩
 | [],cs,L,l+1,h=>⟨[],by obtain ⟨rfl,rfl⟩:=h;simp [REs],yG⟩
 | x::r,_,_,l+1,⟨c1,c2,L1,L2,rfl,rfl,h3,h4⟩=>by
  obtain ⟨L',h5,h6⟩:=REs.take l h4
  refine ⟨L1++L',?_,fun b mb=>by
   rcases A5.1 mb with mb | mb
   ·simp [mb]
   ·simp [h6 b mb]⟩
  have e:(l+1) * m=c1.length+l * m:=by rw [h3.2,AL];omega
  rw [e,List.take_length_add_append]
  exact ⟨c1,_,L1,L',rfl,rfl,h3,h5⟩
theorem Znc {k:IntKind} {i:Int} {y:Nat} {a:BoundsCode} (h0:0≤i) (h1:i≤y):(Instr.sliceBound (.int k i) y a).run P w=.ok i.toNat w:=by
 simp [Instr.sliceBound,asIntOf,h0,h1]
def Zkq [NW] (g:Gh) (w:World):Option SV→Option Value→Prop
 | none,none=>True
 | some s,some u=>SVR g w s u
 | _,_=>False
theorem Zho [NW] {lo hi:Option SV} {vlo vhi:Option Value} {len cap l h:Nat} {b:Bool} (hh:hiB len hi=some h) (hl:loB h lo=some l) (hlo:Zkq g w lo vlo) (hhi:Zkq g w hi vhi) (hc:len≤cap):
  (Instr.sliceBounds b len cap vlo vhi none).run P w=.ok (l,h,cap) w∧l≤h∧h≤len:=by
 have e1 : ((match vhi, (none : Option Value) with | some v, some _ => Instr.sliceBound v cap .slice3B | some v, none => Instr.sliceBound v cap (if b then .sliceAcap else .sliceAlen) | none, none => pure len | none, some _ => stuck "Slice: max without high") : Sem Nat).run P w = .ok h w ∧ h ≤ len := by
  unfold hiB at hh
  split at hh
  ·simp only[A4] at hh
   subst hh
   cases vhi with
   | none=>exact ⟨rfl,AB _⟩
   | some v=>exact hhi.elim
  ·split at hh<;>simp only[A4,reduceCtorEq] at hh
   rename_i hq
   subst hh
   cases vhi with
   | none=>exact hhi.elim
   | some v=>
    have e:=Za1 hhi
    subst e
    exact ⟨Znc hq.1 yE,yE⟩
  ·simp at hh
 have e2:((match vlo with | some v=>Instr.sliceBound v h .sliceB | none=>pure 0):Sem Nat).run P w=.ok l w∧l≤h:=by
  unfold loB at hl
  split at hl
  ·simp only[A4] at hl
   subst hl
   cases vlo with
   | none=>exact ⟨rfl,Ax _⟩
   | some v=>exact hlo.elim
  ·split at hl<;>simp only[A4,reduceCtorEq] at hl
   rename_i hq
   subst hl
   cases vlo with
   | none=>exact hlo.elim
   | some v=>
    have e:=Za1 hlo
    subst e
    exact ⟨Znc hq.1 hq.2,yE⟩
  ·simp at hl
 refine ⟨?_,e2.2,e1.2⟩
 unfold Instr.sliceBounds
 simp only[Sem.run_bind,Sem.run_pure,Result.andThen_ok,B6,Ar,if_false]
 have e1':=e1.1
 have e2':=e2.1
 cases vhi<;>cases vlo<;>simp_all
theorem Zor [NW] (htt:∀t i,tt t=some i→TOk P t i) {t:Nat} {x v:SV} {lo hi:Option SV} {vx:Value} {vlo vhi:Option Value} (h:ZkW (tt t) lo hi x=some v) (hx:SVR g w x vx)
  (f:Zkq g w lo vlo) (j:Zkq g w hi vhi):∃cv,(Instr.sliceAt t vx vlo vhi none).run P w=.ok cv w∧SVR g w v cv∧svU U v:=by
 unfold ZkW at h
 split at h
 ·rename_i s
  split at h
  ·rename_i k
   have hu:=Zgb htt k
   obtain ⟨q,hq,h⟩:=AE.1 h
   obtain ⟨l,hl,rfl⟩:=A6.1 h
   obtain ⟨rfl,hs⟩:=Zhm hx
   obtain ⟨b1,b2,b3⟩:=Zho (P:=P) (b:=false) hq hl f j (AB _)
   refine ⟨_,?_,Zjz (by rw [Aa];omega),Y8 _⟩
   simp [Instr.sliceAt,Yh hu,Instr.slice,b1]
  ·simp at h
 ·rename_i e m xs
  split at h
  ·rename_i d
   obtain ⟨q,hq,h⟩:=AE.1 h
   obtain ⟨l,hl,rfl⟩:=A6.1 h
   obtain ⟨A,cap,cs,L0,L1,rfl,h2,h3,h5,h6,h7,ho⟩:=Zf5 hx
   obtain ⟨b1,b2,b3⟩:=Zho (P:=P) (b:=true) hq hl f j h2
   obtain ⟨e',b',z',o⟩:∃e' b' z',tt t=some (.slice e' m b' z'):=by
    unfold ZiK at d
    split at d
    ·rename_i h1;subst d;exact ⟨_,_,_,h1⟩
    ·omega
   obtain ⟨hu,_,_,⟨ie,zv,u,y,_⟩,_⟩:=htt t _ o
   have fin:SVR g w (.p false [.c (.sl e m ((xs.take q).drop l))]) (.slice (if cap=l then A else A.map (·.add (l * m))) (q - l) (cap - l)):=by
    obtain ⟨A',L',rfl,s1,s2⟩:=h6.sub l (q - l) cap h5 yE h2
    obtain ⟨M1,r1,r2⟩:=h7.take q
    obtain ⟨M2,r3,r4⟩:=r1.drop l
    have a:((xs.take q).drop l).length=q - l:=by simp;omega
    have e1:(cs.drop (l * m)).take ((q - l) * m)=(cs.take (q * m)).drop (l * m):=by
     rw [List.drop_take,Nat.sub_mul]
    rw [e1] at s1
    refine ⟨_,rfl,L'++M2,⟨_,_,_,L',M2,by rw [a],by rw [a];omega,yE,rfl,h5,by rw [a];exact s1,r3⟩,fun b mb=>?_⟩
    rcases A5.1 mb with mb | mb
    ·exact ho b (by simp [s2 b mb])
    ·exact ho b (by simp [r2 b (r4 b mb)])
   refine ⟨_,?_,fin,Y8 _⟩
   simp [Instr.sliceAt,Yh hu,Instr.slice,b1,Xp u,y]
  ·simp at h
 ·simp at h
end
end
section
open Go.RowKit
theorem Zy {α:Type} (f:Nat→α) (k:Nat) (v:α):upd f k v k=v:=by simp [upd]
theorem ZI {α:Type} (f:Nat→α) {k j:Nat} (v:α) (h:j≠k):upd f k v j=f j:=by simp [upd,h]
theorem Yy (ob:Nat→Ob) (u v:List (Nat × Ob)):Zk ob (u++v)=Zk (Zk ob u) v:=by
 induction u generalizing ob with
 | nil=>rfl
 | cons p r ih=>exact ih _
theorem ZiO:∀(ks:List Nat) (ob:Nat→Ob) (k:Nat),Zk ob (Zaf ks) k=if k∈ks then .gone else ob k
 | [],ob,k=>by simp [Zaf,Zk]
 | x::ks,ob,k=>by
  have:Zaf (x::ks)=(x,Ob.gone)::Zaf ks:=rfl
  rw [this,Zk,ZiO ks]
  by_cases h1:k∈ks
  ·simp [h1]
  ·by_cases h2:k=x
   ·subst h2;simp [upd]
   ·simp [h1,h2,upd]
theorem Zax [NW] (ks:List Nat) (ob:Nat→Ob) (key:Nat) (o:Ob) (k:Nat):Zk ob (Zaf ks++[(key,o)]) k=if k=key then o else if k∈ks then .gone else ob k:=by
 rw [Yy]
 simp only[Zk,upd,ZiO]
def Gh.turn (g:Gh) (ks:List Nat) (key:Nat) (v:Value) (O D:List Nat):Gh:=
 ⟨upd g.val key v,fun k=>if k=key then O else if k∈ks then [] else g.O k,fun k=>if k=key then D else if k∈ks then [] else g.D k,g.Z⟩
section
variable {P:Program} {W:QK} {U:Nat→Prop} {key:Nat} {st:St} {g:Gh} {w w':World} {a:Act} {tt:Nat→Option TI}
theorem ZdX {ks:List Nat} {v:Value} {O D:List Nat} {b:Nat} (h:(g.turn ks key v O D).own b):b∈O∨(∃k,k∉ks∧k≠key∧b∈g.O k)∨g.Z b:=by
 rcases h with ⟨k,hk⟩ | h
 ·simp only[Gh.turn] at hk
  split at hk
  ·exact .inl hk
  ·rename_i h1
   split at hk
   ·simp at hk
   ·rename_i h2;exact .inr (.inl ⟨k,h2,h1,hk⟩)
 ·exact .inr (.inr h)
theorem Zm7 {n:Nat} {ks:List Nat} {v:Value} {O D:List Nat} (hO:∀b∈O,(∃k∈ks,b∈g.O k)∨n≤b) (hD:∀b∈D,(∃k∈ks,b∈g.O k++g.D k)∨n≤b):X7 g (g.turn ks key v O D) n:=by
 refine .of (fun b hb=>?_) fun j b mb=>?_
 ·rcases ZdX hb with m | ⟨k,_,_,m⟩ | m
  ·rcases hO b m with ⟨k,_,m⟩ | m
   ·exact .inl (.inl ⟨k,m⟩)
   ·exact .inr m
  ·exact .inl (.inl ⟨k,m⟩)
  ·exact .inl (.inr m)
 ·simp only[Gh.turn] at mb
  split at mb
  ·refine (hD b mb).imp (fun ⟨k,_,mk⟩=>?_) id
   rcases A5.1 mk with m1 | m1
   ·exact .inl (.inl ⟨k,m1⟩)
   ·exact .inr ⟨k,m1⟩
  ·split at mb
   ·simp at mb
   ·exact .inl (.inr ⟨j,mb⟩)
theorem HI.turn [NW] {ob:Nat→Ob} (h:HI W g ob w) (i:∀k,obU U (ob k)) (c:¬U key) (ks:List Nat) (y:∀k∈ks,U k)
  (l:Bel W w') (z:w.heap.size≤w'.heap.size) (hw:∀b,b<w.heap.size→(∀k∈ks,b∉g.O k)→w'.heap[b]?=w.heap[b]?)
  {v:Value} {O D:List Nat} {o:Ob} (hO:∀b∈O,(∃k∈ks,b∈g.O k)∨w.heap.size≤b) (hD:∀b∈D,(∃k∈ks,b∈g.O k++g.D k)∨w.heap.size≤b)
  (A:(O++D).Nodup) (B:∀b∈O++D,(W.heap.size≤b∨W.x b)∧Xk w' o b)
  (C:X7 g (g.turn ks key v O D) w.heap.size→ObR (g.turn ks key v O D) w' key o):
  HI W (g.turn ks key v O D) (Zk ob (Zaf ks++[(key,o)])) w'∧∀x u,svU U x→SVR g w x u→SVR (g.turn ks key v O D) w' x u:=by
 have hkk:key∉ks:=fun m=>c (y key m)
 have d:∀k,U k→(g.turn ks key v O D).val k=g.val k:=fun k hk=>ZI _ _ fun e=>c (e ▸ hk)
 have a:X7 g (g.turn ks key v O D) w.heap.size:=Zm7 hO hD
 have f:∀b∈O++D,(∃k∈ks,b∈g.O k++g.D k)∨w.heap.size≤b:=fun b m=>by
  rcases A5.1 m with m | m
  ·exact (hO b m).imp (fun ⟨k,h1,h2⟩=>⟨k,h1,by simp [h2]⟩) id
  ·exact hD b m
 refine ⟨h.step (fun k=>k=key∨k∈ks) l rfl (fun b hb hn=>hw b hb fun k hk=>hn k (.inr hk)) (fun k hk=>?_) i d a (fun k hk=>?_),fun x u hx hu=>hu.move hx d (fun b hb hn=>hw b hb fun k _ m=>hn (.inl ⟨k,m⟩)) a z⟩
 ·have h1:k≠key:=fun e=>hk (.inl e)
  have h2:k∉ks:=fun e=>hk (.inr e)
  rw [Zax]
  simp [Gh.turn,h1,h2,upd]
 ·rw [Zax]
  by_cases h1:k=key
  ·subst h1
   have eO:(g.turn ks k v O D).O k=O:=by simp [Gh.turn]
   have eD:(g.turn ks k v O D).D k=D:=by simp [Gh.turn]
   rw [if_pos rfl,eO,eD]
   refine ⟨C a,A,B,fun j hj b m mj=>?_⟩
   have p:¬j=k:=fun e=>hj e.symm
   by_cases h2:j∈ks
   ·simp [Gh.turn,p,h2] at mj
   ·have t:b∈g.O j++g.D j:=by simpa [Gh.turn,p,h2] using mj
    rcases f b m with ⟨q,q1,q2⟩ | q
    ·exact h.apart q j (fun e=>h2 (e ▸ q1)) b q2 t
    ·have:=h.lt j b t;omega
  ·have h2:k∈ks:=hk.resolve_left h1
   have eO:(g.turn ks key v O D).O k=[]:=by simp [Gh.turn,h1,h2]
   have eD:(g.turn ks key v O D).D k=[]:=by simp [Gh.turn,h1,h2]
   rw [if_neg h1,if_pos h2,eO,eD]
   exact ⟨⟨eO,eD⟩,yG,yG,yG⟩
theorem Zh7 [NW] (hU:StU U st) (ks:List Nat) {o:Ob} (ho:obU (Uk U key) o):(∀k,obU (Uk U key) (Zk st.ob (Zaf ks++[(key,o)]) k))∧∀k,¬Uk U key k→Zk st.ob (Zaf ks++[(key,o)]) k=.gone:=by
 constructor
 ·intro k
  rw [Zax]
  split
  ·exact ho
  ·split
   ·trivial
   ·exact (hU.ob k).mono fun _=>.inl
 ·intro k hk
  rw [Zax,if_neg (fun e=>hk (.inr yE))]
  split
  ·rfl
  ·exact hU.gone k fun h=>hk (.inl h)
theorem Zij:Uk U key key:=.inr (by omega)
theorem ZtI [NW] (hI:HI W g st.ob w) (hU:StU U st) (a:¬U key) {t:TypeId} {cs:List AV} {vs:List Value} (hr:ZH (AVR g w) cs vs) (hu:X6 U cs) {s:Sem Next}
  (d:s.run P w=.ok (.value (.pointer (some ⟨w.heap.size,0,none⟩))) (w.alloc (.cells vs.toArray t))):Fin P W U key st g w s (.bp key 0,[(key,.box t cs)]):=by
 have hb:Below w.heap.size w (w.alloc (.cells vs.toArray t)):=(Below.refl _ _).alloc (AB _) _
 obtain ⟨h1,h2⟩:=hI.turn (key:=key) (U:=U) (w':=w.alloc (.cells vs.toArray t)) (v:=.pointer (some ⟨w.heap.size,0,none⟩)) (O:=[w.heap.size]) (D:=[]) (o:=.box t cs) hU.ob a [] yG
  (hI.below.trans hb) hb.size (fun b c _=>hb.block b c) yG yG yG (fun b m=>by
   simp at m;subst m;exact ⟨.inl hI.below.size,_,_,heap_alloc_new w _⟩) (fun f=>⟨w.heap.size,vs,by simp [Gh.turn,upd],by simp [Gh.turn],by simp [Gh.turn],heap_alloc_new w _,
    AVRs.move hr hu (fun k hk=>ZI _ _ fun e=>a (e ▸ hk)) (fun b c _=>hb.block b c) f⟩)
 have i:=Zh7 (key:=key) (o:=.box t cs) hU [] (X6.mono (fun _=>.inl) hu)
 exact ⟨_,_,_,.inl d,h1,⟨w.heap.size,by simp [Gh.turn,upd],rfl⟩,h2,Zij,i.1,i.2⟩
theorem Zmq (b:Nat) (cs a:Array Value) (t:TypeId) (hb:w.heap[b]?=some (.cells cs t (0,0))):(w.setRow b a).heap[b]?=some (.cells a t (0,0))∧(∀k,k≠b→(w.setRow b a).heap[k]?=w.heap[k]?)∧(w.setRow b a).heap.size=w.heap.size∧(w.setRow b a).os=w.os∧(w.setRow b a).tape=w.tape∧(w.setRow b a).output=w.output:=by
 refine ⟨setRow_heap w b cs a t _ hb,fun k hk=>?_,?_,rfl,rfl,rfl⟩
 ·have c:¬b=k:=fun e=>hk e.symm
  simp [World.setRow,Array.getElem?_modify,c]
 ·simp [World.setRow]
theorem ZtA [NW] (htt:∀t i,tt t=some i→TOk P t i) (hI:HI W g st.ob w) (hU:StU U st) {t k off tb:Nat} {cs vs:List AV} {va vv:Value} {ag:Bool} (hk:st.ob k=.box tb cs) (hl:vs.length=Zhl (tt t)) (ho:off+vs.length≤cs.length)
  (ha:SVR g w (.bp k off) va) (hv:SVR g w (.p ag vs) vv) (o:X6 U vs) (a:0<vs.length) {s:Sem Next} (hs:s=(do Instr.storeAt t va vv;pure .skip)):Fin P W U key st g w s (.und,[(k,.box tb (splice cs off vs))]):=by
 obtain ⟨b,h1,rfl⟩:=ha
 have v:=hI.obs k
 rw [hk] at v
 obtain ⟨b',us,o1,o2,o3,o4,o5⟩:=v
 have hb:b=b':=by rw [o1] at h1;simpa using h1.symm
 subst hb
 have hlen:=o5.len
 obtain ⟨xs,c1,c2⟩:=PVR.cells hv
 have C:=c2.len
 have c:=hU.ob k
 rw [hk] at c
 obtain ⟨r1,r2,r3,r4,r5,r6⟩:=Zmq b us.toArray (splice us off xs).toArray tb o4
 have f:(sizeOf t).run P w=.ok xs.length w:=by
  rw [←C,hl]
  unfold Zhl at hl ⊢
  cases hti:tt t with
  | none=>rw [hti] at hl;simp at hl;simp [hl] at a
  | some i=>
   cases i with
   | atom z=>obtain ⟨d,zv,i,_,_,h3,_,h4,_⟩:=htt t _ hti;rw [Xp h3,h4]
   | strct fs n z=>obtain ⟨_,i,_,_,h3,h4,_⟩:=htt t _ hti;rw [Xp h3,h4]
   | slice e m b z=>obtain ⟨_,_,_,_,j,h3,h4,_⟩:=htt t _ hti;rw [Xp h3,h4]
   | _=>rw [hti] at hl;simp at hl;simp [hl] at a
 have y:=run_storeCells_at (P:=P) b off tb xs 0 us.toArray w o4 (by simp;omega) (AVRs.one c2)
 have A:s.run P w=.ok .skip (w.setRow b (splice us off xs).toArray):=by
  subst hs
  have e:(us.toArray.toList.take (off+0)++xs++us.toArray.toList.drop (off+0+xs.length)).toArray=(splice us off xs).toArray:=by simp [splice]
  rw [e] at y
  simp [Instr.storeAt,Instr.sureAddr,storeVar,c1,f,y]
 have l:∀b',b'<w.heap.size→¬g.own b'→(w.setRow b (splice us off xs).toArray).heap[b']?=w.heap[b']?:=fun b' _ hn=>r2 b' fun e=>hn (.inl ⟨k,by simp [o2,e]⟩)
 have B:W.heap.size≤b∨W.x b:=(hI.plain k b (by simp [o2])).1
 refine ⟨g,undef,_,.inr ⟨A,rfl⟩,?_,rfl,fun x u hx hu=>hu.move hx (fun _ _=>rfl) l (X7.refl _ _) yE,trivial,fun q=>?_,fun q hq=>?_⟩
 ·refine hI.step (U:=U) (fun q=>q=k) ?_ rfl (fun b' _ hn=>r2 b' fun e=>hn k rfl (by simp [o2,e])) (fun q hq=>⟨ZI _ _ hq,rfl,rfl,rfl⟩) hU.ob (fun _ _=>rfl) (X7.refl _ _) (fun q hq=>?_)
  ·exact ⟨r4.trans hI.below.os,r5.trans hI.below.tape,r6.trans hI.below.output,by have:=hI.below.size;omega,fun q hq hx=>by rw [r2 q (fun e=>by subst e;rcases B with h | h;omega;exact hx h)];exact hI.below.block q hq hx⟩
  ·subst hq
   refine ⟨?_,hI.nodup q,fun b' m=>?_,hI.apart q⟩
   ·simp only[Zk,Zy]
    exact ⟨b,_,o1,o2,o3,r1,(AVRs.move o5 c (fun _ _=>rfl) l (X7.refl _ _)).splice (AVRs.move c2 o (fun _ _=>rfl) l (X7.refl _ _)) off⟩
   ·simp [o2,o3] at m
    subst m
    refine ⟨B,?_⟩
    simp only[Zk,Zy]
    exact ⟨_,_,r1⟩
 ·simp only[Zk,upd]
  split
  ·exact X6.mono (fun _=>.inl) (ZiW c o off)
  ·exact (hU.ob q).mono fun _=>.inl
 ·simp only[Zk,upd]
  split
  ·rename_i e;subst e
   exact absurd (hU.gone q fun h=>hq (.inl h)) (by simp [hk])
  ·exact hU.gone q fun h=>hq (.inl h)
end
end
section
open Go.RowKit
section
variable {P:Program} {W:QK} {U:Nat→Prop} {key:Nat} {st:St} {g:Gh} {w w':World} {a:Act} {tt:Nat→Option TI}
def Gh.F (g:Gh) (ks:List Nat):List Nat:=ks.flatMap fun k=>g.O k++g.D k
def FP (g:Gh) (ks:List Nat) (d:Nat) (L:List Nat):Prop:=(d=2→L.Sublist (g.F ks))∧d≤2∧0<d∧∀b∈L,¬g.own b∨∃k∈ks,b∈g.O k
theorem FP.nil:FP g [] 2 []:=⟨fun _=>by simp [Gh.F],by simp⟩
theorem FP.append {ks a:List Nat} {d d':Nat} {L L':List Nat} (h:FP g ks d L) (h':FP g a d' L'):FP g (ks++a) (Zex d d') (L++L'):=by
 have q1:=h.2.1
 have q2:=h'.2.1
 have q3:=h.2.2.1
 have q4:=h'.2.2.1
 refine ⟨fun hd=>?_,by unfold Zex;split<;>omega,by unfold Zex;split<;>omega,fun b m=>?_⟩
 ·have c:d=2∧d'=2:=by unfold Zex at hd;split at hd<;>omega
  simp only[Gh.F,B9]
  exact BX (h.1 c.1) (h'.1 c.2)
 ·rcases A5.1 m with m | m
  ·exact (h.2.2.2 b m).imp id fun ⟨k,h1,h2⟩=>⟨k,by simp [h1],h2⟩
  ·exact (h'.2.2.2 b m).imp id fun ⟨k,h1,h2⟩=>⟨k,by simp [h1],h2⟩
theorem HI.nodupF [NW] {ob:Nat→Ob} (hI:HI W g ob w):∀{ks:List Nat},ks.Nodup→(g.F ks).Nodup
 | [],_=>by simp [Gh.F]
 | k::ks,h=>by
  simp only[Gh.F,Ay,Ak]
  rw [AY] at h
  refine ⟨Ak.1 (hI.nodup k),hI.nodupF h.2,fun x hx y hy e=>?_⟩
  subst e
  obtain ⟨j,hj,hy⟩:=A7.1 hy
  exact hI.apart k j (fun e=>h.1 (e ▸ hj)) x hx hy
theorem Zie {ks:List Nat} {b:Nat} (h:b∈g.F ks):∃k∈ks,b∈g.O k++g.D k:=by simpa [Gh.F] using h
theorem Sl.row {B e m n:Nat} {v:Value} {cs:List Value} (h:w.ownsV B e m v n cs):∃A cap L0,v=.slice A n cap∧n≤cap∧cap≤maxLen∧Sl w m A n cs L0∧L0.Sublist v.ownBlock.toList:=by
 obtain ⟨A,cap,rfl,h1,h2⟩:=ZcS h
 obtain ⟨L0,h3,_,h4⟩:=Sl.of_ownV h
 refine ⟨A,cap,L0,rfl,h1,h2,h3,?_⟩
 rcases h3.2 with ⟨_,rfl⟩ | ⟨_,b,off,rfl,rfl,_⟩
 ·exact List.nil_sublist _
 ·simp [Value.ownBlock]
theorem NR.toC [NW] {x:CT} {v:Value} (h:NR g w x v):∃L,RC w x v L∧∀b∈L,¬g.own b:=by
 obtain ⟨e,m,xs,cs,L,rfl,h2,h3,h4,h5,h6⟩:=h
 obtain ⟨A,cap,L0,s1,s2,s3,s4,s5⟩:=Sl.row h3
 refine ⟨L0++L,⟨A,cap,cs,L0,L,s1,s2,s3,rfl,h2,s4,h4⟩,fun b mb o=>(h6 b ?_).1 (.inl o)⟩
 rcases A5.1 mb with m1 | m1
 ·simp [s5.subset m1]
 ·simp [m1]
theorem ZzN [NW] (hI:HI W g st.ob w) {x:AV} {ct:CT} {ks:List Nat} {d:Nat} {v:Value} (h:avT st x=some (ct,ks,d)) (hx:AVR g w x v) (hu:avU U x):∃L,RC w ct v L∧FP g ks d L∧∀k∈ks,U k:=by
 cases x with
 | c y=>
  obtain ⟨L,h1,h2⟩:=hx
  cases y<;>simp only[avT,A4,AC] at h<;>obtain ⟨rfl,rfl,rfl⟩:=h
  ·exact ⟨L,h1,⟨fun _=>by rw [h1.2];simp [Gh.F],yG,yG,fun b m=>.inl (h2 b m)⟩,yG⟩
  ·exact ⟨L,h1,⟨fun _=>by rw [h1.2];simp [Gh.F],yG,yG,fun b m=>.inl (h2 b m)⟩,yG⟩
  ·exact ⟨L,h1,⟨fun _=>by rw [h1.2.1];simp [Gh.F],yG,yG,fun b m=>.inl (h2 b m)⟩,yG⟩
  all_goals exact ⟨L,h1,⟨fun e=>by simp at e,yG,yG,fun b m=>.inl (h2 b m)⟩,yG⟩
 | row k=>
  simp only[avT] at h
  split at h
  ·rename_i e m xs d' hk
   obtain ⟨hm,cs,L1,o1,o2,o3,o5⟩:=hI.deep hk
   obtain ⟨A,cap,L0,s1,s2,s3,s4,s5⟩:=Sl.row o1
   have a:RC w (.sl e m xs) v (L0++L1):=⟨A,cap,cs,L0,L1,by rw [hx.1,s1],s2,s3,rfl,hm,s4,o2⟩
   split at h
   ·rename_i f
    simp only[A4,AC] at h
    obtain ⟨rfl,rfl,rfl⟩:=h
    refine ⟨L0++L1,a,⟨fun e=>by simp at e,yG,yG,fun b m=>.inl ?_⟩,yG⟩
    rcases o5 with ⟨q,_⟩ | ⟨q,_⟩ | ⟨_,_,_,q⟩
    ·omega
    ·omega
    ·rcases A5.1 m with m | m
     ·exact q b (s5.subset m)
     ·exact o3 b m
   ·rename_i f
    simp only[A4,AC] at h
    obtain ⟨rfl,rfl,rfl⟩:=h
    have hO:g.O k=(g.val k).ownBlock.toList:=by
     rcases o5 with ⟨_,q,_⟩ | ⟨_,q,_⟩ | ⟨q,_⟩
     ·exact q
     ·exact q
     ·exact absurd q f
    refine ⟨L0++L1,a,⟨fun hd=>?_,?_,yE,fun b m=>?_⟩,fun q mq=>by simp at mq;subst mq;exact hu⟩
    ·rcases o5 with ⟨_,_,o5⟩ | ⟨o5,_⟩ | ⟨o5,_⟩
     ·simp only[Gh.F,Ay,List.flatMap_nil,BA,hO,o5]
      exact BX s5 (BP _)
     ·omega
     ·omega
    ·rcases o5 with ⟨o5,_⟩ | ⟨o5,_⟩ | ⟨o5,_⟩<;>omega
    ·rcases A5.1 m with m | m
     ·exact .inr ⟨k,yG,by rw [hO];exact s5.subset m⟩
     ·exact .inl (o3 b m)
  ·simp at h
 | nil e m=>
  simp only[avT] at h
  split at h
  ·rename_i hm
   simp only[A4,AC] at h
   obtain ⟨rfl,rfl,rfl⟩:=h
   refine ⟨[],⟨none,0,[],[],[],hx,yG,Ax _,rfl,hm,Sl.zero,rfl,rfl⟩,FP.nil,yG⟩
  ·simp at h
 | n x=>simp [avT] at h
 | dead=>simp [avT] at h
theorem Zrb [NW] (hI:HI W g st.ob w):∀{xs:List AV} {cts:List CT} {ks:List Nat} {d:Nat} {vs:List Value},Ze6 st xs=some (cts,ks,d)→ZH (AVR g w) xs vs→X6 U xs→∃L,RCs w cts vs L∧FP g ks d L∧∀k∈ks,U k
 | [],_,_,_,[],h,_,_=>by
  simp only[Ze6,A4,AC] at h
  obtain ⟨rfl,rfl,rfl⟩:=h
  exact ⟨[],⟨rfl,rfl⟩,FP.nil,yG⟩
 | [],_,_,_,_::_,_,h,_=>h.elim
 | _::_,_,_,_,[],_,h,_=>h.elim
 | x::r,cts,ks,d,v::vs,h,hr,hu=>by
  simp only[Ze6] at h
  obtain ⟨⟨c1,k1,d1⟩,h1,h⟩:=AE.1 h
  obtain ⟨⟨c2,k2,d2⟩,h2,h⟩:=A6.1 h
  simp only[AC] at h
  obtain ⟨rfl,rfl,rfl⟩:=h
  obtain ⟨L1,a1,a2,a3⟩:=ZzN hI h1 hr.1 (hu x yG)
  obtain ⟨L2,b1,b2,b3⟩:=Zrb hI h2 hr.2 (fun y m=>hu y (by simp [m]))
  exact ⟨L1++L2,⟨v,vs,L1,L2,rfl,rfl,a1,b1⟩,a2.append b2,fun k m=>(A5.1 m).elim (a3 k) (b3 k)⟩
theorem ZoK [NW] (hI:HI W g st.ob w) {m:Nat}:∀{xs:List SV} {es:List (List CT)} {ks:List Nat} {d:Nat} {vs:List Value},YL st m xs=some (es,ks,d)→ZH (fun s v=>SVR g w s v∧svU U s) xs vs→
  ∃(cs:List (List Value)) (L:List Nat),ZH (fun (c:List Value) (v:Value)=>v.cells=c.toArray∧c.length=m∧∀u∈c,u.oneCell'=true) cs vs∧REs w m es cs.flatten L∧FP g ks d L∧∀k∈ks,U k
 | [],_,_,_,[],h,_=>by
  simp only[YL,A4,AC] at h
  obtain ⟨rfl,rfl,rfl⟩:=h
  exact ⟨[],[],trivial,⟨rfl,rfl⟩,FP.nil,yG⟩
 | [],_,_,_,_::_,_,h=>h.elim
 | _::_,_,_,_,[],_,h=>h.elim
 | s::r,es,ks,d,v::vs,h,⟨⟨hs,hsu⟩,hr⟩=>by
  cases s with
  | p ag us=>
   simp only[YL] at h
   split at h
   ·rename_i hl
    obtain ⟨⟨c1,k1,d1⟩,h1,h⟩:=AE.1 h
    obtain ⟨⟨c2,k2,d2⟩,h2,h⟩:=A6.1 h
    simp only[AC] at h
    obtain ⟨rfl,rfl,rfl⟩:=h
    obtain ⟨a,p1,p2⟩:=PVR.cells hs
    obtain ⟨L1,a1,a2,a3⟩:=Zrb hI h1 p2 hsu
    obtain ⟨cs,L2,b1,b2,b3,b4⟩:=ZoK hI h2 hr
    have b:a.length=m:=by rw [←p2.len];exact hl
    exact ⟨a::cs,L1++L2,⟨⟨p1,b,AVRs.one p2⟩,b1⟩,⟨a,cs.flatten,L1,L2,yG,rfl,⟨a1,b⟩,b2⟩,a2.append b3,fun k mk=>(A5.1 mk).elim (a3 k) (b4 k)⟩
   ·simp at h
  | _=>simp [YL] at h
theorem Zoo [NW] {m:Nat}:∀(cs:List (List Value)) (vs:List Value) (i:Nat) (a base:List Value),ZH (fun (c:List Value) (v:Value)=>v.cells=c.toArray∧c.length=m∧∀u∈c,u.oneCell'=true) cs vs→a.length=i * m→base.length=vs.length * m→
  Instr.fill (fun i=>some (i * m,m)) (a++base).toArray ((Ag i vs.length).zip vs)=some (a++cs.flatten).toArray
 | [],[],i,a,base,_,_,hb=>by
  have:base=[]:=AN (by simpa using hb)
  subst this
  simp [Instr.fill]
 | [],_::_,_,_,_,h,_,_=>h.elim
 | _::_,[],_,_,_,h,_,_=>h.elim
 | c::cs,v::vs,i,a,base,⟨⟨h1,h2,_⟩,h⟩,hp,hb=>by
  have hb':base.length=m+vs.length * m:=by rw [hb];simp [AL];omega
  have b:v.cells.size=m:=by simp [h1,h2]
  simp only[AP,List.range'_succ,List.zip_cons_cons,Instr.fill]
  rw [if_neg (by simp [b];omega),Zkl (i * m) v c h1 _ (by simp;omega)]
  have e:splice (a++base).toArray.toList (i * m) c=(a++c)++base.drop m:=by
   unfold splice
   simp only[←hp]
   rw [List.take_left',BU,BV yE]
   ·simp [h2]
   ·rfl
  rw [e,Zoo cs vs (i+1) (a++c) (base.drop m) h (by simp [hp,h2,AL]) (by simp;omega)]
  simp
theorem Zsf [NW] (hI:HI W g st.ob w) (hU:StU U st) (i:¬U key) {e m:Nat} (hm:0<m) {xs:List (List CT)} {ks:List Nat} {d:Nat} {L:List Nat} {cs:List Value} {v:Value} (f:w'.ownsV 0 e m v xs.length cs) (hv:v.ownBlock=some w.heap.size)
  (hb:Below w.heap.size w w') (x:∃z e,w'.heap[w.heap.size]?=some (.cells z e (0,0))) (hr:REs w m xs cs L) (hf:FP g ks d L) (B:∀k∈ks,U k) (j:∀k∈ks,∃e m xs d,st.ob k=.row e m xs d) (C:ks.Nodup) {s:Sem Next} (l:s.run P w=.ok (.value v) w'):
  Fin P W U key st g w s (.p false [.row key],Zaf ks++[(key,.row e m xs d)]):=by
 have c:=hr.lt
 have hF:=hI.nodupF C
 have a:∀b∈(if d=2 then L else []),b∈L∧d=2:=fun b mb=>by
  split at mb
  ·rename_i hd;exact ⟨mb,hd⟩
  ·simp at mb
 obtain ⟨h1,h2⟩:=hI.turn (key:=key) (U:=U) (w':=w') (v:=v) (O:=[w.heap.size]) (D:=if d=2 then L else []) (o:=.row e m xs d) hU.ob i ks B
  (hI.below.trans hb) hb.size (fun b t _=>hb.block b t) yG (fun b mb=>by
   obtain ⟨m1,m2⟩:=a b mb
   exact .inl (Zie ((hf.1 m2).subset m1)))
  (by
   simp only[AW,AY]
   refine ⟨fun mb=>?_,?_⟩
   ·have:=c _ (a _ mb).1;omega
   ·split
    ·rename_i hd;exact hF.sublist (hf.1 hd)
    ·simp)
  (fun b mb=>by
   simp only[AW,AH] at mb
   rcases mb with rfl | mb
   ·exact ⟨.inl hI.below.size,x⟩
   ·obtain ⟨m1,m2⟩:=a b mb
    obtain ⟨k,k1,mk⟩:=Zie ((hf.1 m2).subset m1)
    obtain ⟨p1,p2⟩:=hI.plain k b mk
    obtain ⟨_,_,_,_,E⟩:=j k k1
    rw [E] at p2
    exact ⟨p1,p2.keep (hb.block b (c b m1))⟩)
  (fun _=>⟨hm,cs,L,by simpa [Gh.turn,upd] using f,hr.keep fun b mb=>hb.block b (c b mb),by
   have q1:=hf.2.1
   have q2:=hf.2.2.1
   by_cases hd:d=2
   ·exact .inl ⟨hd,by simp [Gh.turn,upd,hv],by simp [Gh.turn,hd]⟩
   ·refine .inr (.inl ⟨yE,by simp [Gh.turn,upd,hv],by simp [Gh.turn,hd],fun b mb ho=>?_⟩)
    have t:=c b mb
    rcases ZdX ho with mo | ⟨k,k1,_,mk⟩ | hz
    ·simp at mo;omega
    ·rcases hf.2.2.2 b mb with hn | ⟨q,q1,q2⟩
     ·exact hn (.inl ⟨k,mk⟩)
     ·exact hI.apart k q (fun e=>k1 (e ▸ q1)) b (by simp [mk]) (by simp [q2])
    ·rcases hf.2.2.2 b mb with hn | ⟨q,q1,q2⟩
     ·exact hn (.inr hz)
     ·exact hI.nz (k:=q) (by simp [q2]) hz⟩)
 have u:=Zh7 (key:=key) (o:=.row e m xs d) hU ks trivial
 refine ⟨_,_,_,.inl l,h1,⟨_,rfl,⟨by simp [Gh.turn,upd],?_⟩⟩,h2,fun y my=>by simp at my;subst my;exact Zij,u.1,u.2⟩
 obtain ⟨A,cap,F⟩:=Q8 f
 simp [F,Value.oneCell']
theorem ZkH (st:St):∀(ks:List Nat) (ob:Nat→Ob) (k:Nat),Zk ob (ZO st ks) k=if k∈ks then Z4 (st.ob k) else ob k
 | [],ob,k=>by simp [ZO,Zk]
 | j::r,ob,k=>by
  show Zk (upd ob j (Z4 (st.ob j))) (ZO st r) k=_
  rw [ZkH st r]
  by_cases h:k∈r
  ·simp [h]
  ·by_cases hj:k=j
   ·subst hj;simp [h,upd]
   ·simp [h,hj,upd]
theorem Zck [NW] (st:St) (ks:List Nat) (ob:Nat→Ob) (key:Nat) (o:Ob) (k:Nat):Zk ob (ZO st ks++[(key,o)]) k=if k=key then o else if k∈ks then Z4 (st.ob k) else ob k:=by
 rw [Yy]
 show upd (Zk ob (ZO st ks)) key o k=_
 by_cases h:k=key
 ·simp [upd,h]
 ·simp only[upd,h,if_false];exact ZkH st ks ob k
theorem Ztv {x:AV} {ct:CT} {ks:List Nat} {d:Nat} (h:avT st x=some (ct,ks,d)):∀k∈ks,∃e m xs d,st.ob k=.row e m xs d:=by
 intro k mk
 cases x with
 | c y=>cases y<;>simp only[avT,A4,AC] at h<;>(rw [←h.2.1] at mk;simp at mk)
 | nil e m=>
  simp only[avT] at h
  split at h<;>simp only[A4,AC,reduceCtorEq] at h
  rw [←h.2.1] at mk;simp at mk
 | row j=>
  simp only[avT] at h
  split at h
  ·rename_i e m xs d' hj
   split at h<;>simp only[A4,AC] at h
   ·rw [←h.2.1] at mk;simp at mk
   ·rw [←h.2.1] at mk;simp at mk;subst mk;exact ⟨_,_,_,_,hj⟩
  ·simp at h
 | n x=>simp [avT] at h
 | dead=>simp [avT] at h
theorem Zma [NW]:∀{xs:List AV} {cts:List CT} {ks:List Nat} {d:Nat},Ze6 st xs=some (cts,ks,d)→∀k∈ks,∃e m xs d,st.ob k=.row e m xs d
 | [],_,_,_,h,k,mk=>by simp only[Ze6,A4,AC] at h;rw [←h.2.1] at mk;simp at mk
 | x::r,_,_,_,h,k,mk=>by
  simp only[Ze6] at h
  obtain ⟨⟨c1,k1,d1⟩,h1,h⟩:=AE.1 h
  obtain ⟨⟨c2,k2,d2⟩,h2,h⟩:=A6.1 h
  simp only[AC] at h
  rw [←h.2.1] at mk
  rcases A5.1 mk with mk | mk
  ·exact Ztv h1 k mk
  ·exact Zma h2 k mk
theorem Zjb [NW] {m:Nat}:∀{xs:List SV} {es:List (List CT)} {ks:List Nat} {d:Nat},YL st m xs=some (es,ks,d)→∀k∈ks,∃e m xs d,st.ob k=.row e m xs d
 | [],_,_,_,h,k,mk=>by simp only[YL,A4,AC] at h;rw [←h.2.1] at mk;simp at mk
 | x::r,_,_,_,h,k,mk=>by
  cases x with
  | p a cs=>
   simp only[YL] at h
   split at h
   ·obtain ⟨⟨c1,k1,d1⟩,h1,h⟩:=AE.1 h
    obtain ⟨⟨c2,k2,d2⟩,h2,h⟩:=A6.1 h
    simp only[AC] at h
    rw [←h.2.1] at mk
    rcases A5.1 mk with mk | mk
    ·exact Zma h1 k mk
    ·exact Zjb h2 k mk
   ·simp at h
  | _=>simp [YL] at h
theorem Zqb [NW] (hI:HI W g st.ob w) (hU:StU U st) (hkey:¬U key) {e m:Nat} (hm:0<m) {xs:List (List CT)} {ks:List Nat} {d:Nat} {L:List Nat} {cs:List Value} {v:Value} (hown:w'.ownsV 0 e m v xs.length cs) (hv:v.ownBlock=some w.heap.size)
  (hb:Below w.heap.size w w') (hpl:∃cur e,w'.heap[w.heap.size]?=some (.cells cur e (0,0))) (hr:REs w m xs cs L) (hf:FP g ks d L) (hks:∀k∈ks,U k) (hrow:∀k∈ks,∃e m xs d,st.ob k=.row e m xs d) (hnd:ks.Nodup) {s:Sem Next} (hrun:s.run P w=.ok (.value v) w'):
  Fin P W U key st g w s (.p false [.row key],ZO st ks++[(key,.row e m xs d)]):=by
 have hlt:=hr.lt
 have hF:=hI.nodupF hnd
 have hDmem:∀b∈(if d=2 then L else []),b∈L∧d=2:=fun b mb=>by
  split at mb
  ·rename_i hd;exact ⟨mb,hd⟩
  ·simp at mb
 obtain ⟨h1,h2⟩:=hI.turn (key:=key) (U:=U) (w':=w') (v:=v) (O:=[w.heap.size]) (D:=if d=2 then L else []) (o:=.row e m xs d) hU.ob hkey ks hks
  (hI.below.trans hb) hb.size (fun b hb' _=>hb.block b hb') (by simp) (fun b mb=>by
   obtain ⟨m1,m2⟩:=hDmem b mb
   exact .inl (Zie ((hf.1 m2).subset m1)))
  (by
   simp only[AW,AY]
   refine ⟨fun mb=>?_,?_⟩
   ·have:=hlt _ (hDmem _ mb).1;omega
   ·split
    ·rename_i hd;exact hF.sublist (hf.1 hd)
    ·simp)
  (fun b mb=>by
   simp only[AW,AH] at mb
   rcases mb with rfl | mb
   ·exact ⟨.inl hI.below.size,hpl⟩
   ·obtain ⟨m1,m2⟩:=hDmem b mb
    obtain ⟨k,k1,mk⟩:=Zie ((hf.1 m2).subset m1)
    obtain ⟨p1,p2⟩:=hI.plain k b mk
    obtain ⟨_,_,_,_,hob⟩:=hrow k k1
    rw [hob] at p2
    exact ⟨p1,p2.keep (hb.block b (hlt b m1))⟩)
  (fun _=>⟨hm,cs,L,by simpa [Gh.turn,upd] using hown,hr.keep fun b mb=>hb.block b (hlt b mb),by
   have q1:=hf.2.1
   have q2:=hf.2.2.1
   by_cases hd:d=2
   ·exact .inl ⟨hd,by simp [Gh.turn,upd,hv],by simp [Gh.turn,hd]⟩
   ·refine .inr (.inl ⟨by omega,by simp [Gh.turn,upd,hv],by simp [Gh.turn,hd],fun b mb ho=>?_⟩)
    have hb':=hlt b mb
    rcases ZdX ho with mo | ⟨k,k1,_,mk⟩ | hz
    ·simp at mo;omega
    ·rcases hf.2.2.2 b mb with hn | ⟨q,q1,q2⟩
     ·exact hn (.inl ⟨k,mk⟩)
     ·exact hI.apart k q (fun e=>k1 (e ▸ q1)) b (by simp [mk]) (by simp [q2])
    ·rcases hf.2.2.2 b mb with hn | ⟨q,q1,q2⟩
     ·exact hn (.inr hz)
     ·exact hI.nz (k:=q) (by simp [q2]) hz⟩)
 have hkk:∀k∈ks,k≠key:=fun k mk e=>hkey (e ▸ hks k mk)
 have h1':HI W (g.turn ks key v [w.heap.size] (if d=2 then L else [])) (Zk st.ob (ZO st ks++[(key,.row e m xs d)])) w':=by
  refine ⟨h1.below,fun k=>?_,h1.nodup,h1.apart,fun k b mb=>?_,h1.gz,h1.zx,h1.nw⟩
  rotate_left
  ·have hp:=h1.plain k b mb
   rw [Zax] at hp
   rw [Zck]
   by_cases hk:k=key
   ·rw [if_pos hk] at hp ⊢;exact hp
   ·rw [if_neg hk] at hp ⊢
    by_cases hm':k∈ks
    ·rw [if_pos hm'] at hp ⊢
     obtain ⟨e2,m2,xs2,d2,hob⟩:=hrow k hm'
     rw [hob]
     exact hp
    ·rw [if_neg hm'] at hp ⊢;exact hp
  have ho:=h1.obs k
  rw [Zax] at ho
  rw [Zck]
  by_cases hk:k=key
  ·rw [if_pos hk] at ho ⊢;exact ho
  ·rw [if_neg hk] at ho ⊢
   by_cases hm':k∈ks
   ·rw [if_pos hm'] at ho ⊢
    obtain ⟨e2,m2,xs2,d2,hob⟩:=hrow k hm'
    obtain ⟨p1,cs2,L2,p2,p3,p4,p5⟩:=hI.deep hob
    rw [hob]
    have hval:(g.turn ks key v [w.heap.size] (if d=2 then L else [])).val k=g.val k:=by simp [Gh.turn,upd,hk]
    have hl2:=p3.lt
    have hl1:=Zp8 p2
    refine ⟨p1,cs2,L2,by rw [hval];exact Zhf p2 fun b mb=>hb.block b (hl1 b mb),p3.keep fun b mb=>hb.block b (hl2 b mb),.inr (.inr ⟨rfl,ho.1,ho.2,fun b mb hob'=>?_⟩)⟩
    rw [hval] at mb
    have hbl:b<w.heap.size:=by
     rcases A5.1 mb with m1 | m1
     ·exact hl1 b m1
     ·exact hl2 b m1
    rcases ZdX hob' with mo | ⟨j,j1,_,mj⟩ | hz
    ·simp at mo;omega
    ·rcases A5.1 mb with m1 | m1
     ·rcases p5 with ⟨_,q1,_⟩ | ⟨_,q1,_⟩ | ⟨_,_,_,q⟩
      ·exact hI.apart j k (fun e=>j1 (e ▸ hm')) b (by simp [mj]) (by simp [q1,m1])
      ·exact hI.apart j k (fun e=>j1 (e ▸ hm')) b (by simp [mj]) (by simp [q1,m1])
      ·exact q b m1 (.inl ⟨j,mj⟩)
     ·exact p4 b m1 (.inl ⟨j,mj⟩)
    ·rcases A5.1 mb with m1 | m1
     ·rcases p5 with ⟨_,q1,_⟩ | ⟨_,q1,_⟩ | ⟨_,_,_,q⟩
      ·exact hI.nz (k:=k) (by simp [q1,m1]) hz
      ·exact hI.nz (k:=k) (by simp [q1,m1]) hz
      ·exact q b m1 (.inr hz)
     ·exact p4 b m1 (.inr hz)
   ·rw [if_neg hm'] at ho ⊢;exact ho
 have hfz:∀k,obU U (Z4 (st.ob k)):=fun k=>by
  have:=hU.ob k
  cases hk:st.ob k<;>simp only[Z4]<;>first | trivial | (rw [hk] at this;exact this)
 refine ⟨_,_,_,.inl hrun,h1',⟨_,rfl,⟨by simp [Gh.turn,upd],?_⟩⟩,h2,fun y my=>by simp at my;subst my;exact Zij,fun k=>?_,fun k hk=>?_⟩
 ·obtain ⟨A,cap,hv'⟩:=Q8 hown
  simp [hv',Value.oneCell']
 ·rw [Zck]
  split
  ·trivial
  ·split
   ·exact (hfz k).mono fun _=>.inl
   ·exact (hU.ob k).mono fun _=>.inl
 ·rw [Zck,if_neg (fun e=>hk (.inr (by omega)))]
  have e:=hU.gone k fun h=>hk (.inl h)
  split
  ·rw [e];rfl
  ·exact e
end
end
end Go.Proofs.YtekbmedphidcgaaGreatDoor
