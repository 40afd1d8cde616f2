/- Texts of this proof, joined: R14, S14, F6, F7, P13, F8, S15, S16, S17, L13C, R11, S18, S19, S20, S21, S22, N14, G1, S23, S25, S26, N5, S24, N15, S27. What each holds is said at its theorems. -/
import Derived.Test.YtekbmedphidcgaaGreatDoorProofOfQ2
import Derived.Test.YtekbmedphidcgaaGreatDoorProofOfQ1
open Bool renaming and_eq_true→A3,false_eq_true→A7,eq_iff_iff→AP,true_and→Am,false_or→Ax,or_eq_true→BV
open Int renaming le_trans→AC,le_refl→AG,toNat→AQ,toNat_of_nonneg→AZ,toNat_natCast→Af,le_antisymm→BR
open List renaming mem_append→A4,getElem?_eq_getElem→A5,mem_cons→A6,length_append→A8,replicate→A9,all_eq_true→AA,foldl_cons→AB,range→AD,length_cons→AE,getElem?_eq_none→AF,getElem?_eq_some_iff→AH,mem_flatMap→AI,mem_of_getElem?→AJ,mem_singleton→AK,foldl_append→AM,range'→AN,getElem?_append_left→AO,eq_nil_of_length_eq_zero→AR,pairwise_cons→AT,mem_filterMap→AU,length_map→AX,mem_range→AY,mem_map→Ab,countP_cons→Ac,getElem?_set→Ad,countP_le_length→Ae,length_singleton→Ag,map_cons→Ah,countP_eq_zero→Ak,flatMap_cons→Al,flatMap_append→Ap,dropLast_concat_getLast→Aq,ext_getElem?→As,map_flatMap→At,map_append→Au,nil_append→Aw,mem_filter→Az,any_eq_true→BA,filterMap_cons→BB,eq_nil_iff_forall_not_mem→BE,mem_range'_1→BF,getElem?_append_right→BG,length_filterMap_le→BH,mem_iff_getElem?→BI,sum_cons→BJ,take_length→BL,nodup_cons→BM,length_filter_le→BN,mergeSort_perm→BO,append_nil→BP,filter_cons→BQ,length_range→BS,length_set→BT,set_cons_succ→BU,getElem_mem→BX,set_set→BY,range_eq_range'→BZ,getElem?_replicate→Ba,getElem?_map→Bb,take_append_of_le_length→Bc
open List.Pairwise renaming nil→Ar
open Nat renaming zero_add→AL,le_trans→AW,le_refl→Aa,zero_le→Ay
open Option renaming bind_some→A0,map_eq_some_iff→Aj,isSome_some→BK
open Option.some renaming inj→AS
open Prod renaming fst→BC
set_option linter.unusedSimpArgs false
set_option linter.unusedVariables false
set_option maxRecDepth 1000000
set_option maxHeartbeats 4000000
namespace Go.Proofs.YtekbmedphidcgaaGreatDoor
section
section
variable {α σ ρ:Type} {body:Nat→α→σ→Option (σ ⊕ ρ)}
theorem Zm8 (I:List α→σ→Prop) (Q:ρ→Prop):∀(l a:List α) (s:σ),I a s→(∀p x s,x∈l→p.length<a.length+l.length→I p s→(∃s',body p.length x s=some (.inl s')∧I (p++[x]) s')∨∃r,body p.length x s=some (.inr r)∧Q r)→
  (∃s',(∀fin:σ→Option ρ,Zn body fin l a.length s=fin s')∧I (a++l) s')∨∃r,(∀fin:σ→Option ρ,Zn body fin l a.length s=some r)∧Q r
 | [],a,s,h,_=>.inl ⟨s,fun _=>rfl,by simpa using h⟩
 | x::l,a,s,h,hs=>by
  rcases hs a x s yG yG h with ⟨s',e,h'⟩ | ⟨r,e,h'⟩
  ·rcases Zm8 I Q l (a++[x]) s' h' fun p y s m hp hI=>hs p y s (by simp [m]) (by simp at hp ⊢;omega) hI with ⟨s2,e2,h2⟩ | ⟨r,e2,h2⟩
   ·refine .inl ⟨s2,fun fin=>?_,by simpa using h2⟩
    rw [ZV e]
    simpa using e2 fin
   ·refine .inr ⟨r,fun fin=>?_,h2⟩
    rw [ZV e]
    simpa using e2 fin
  ·exact .inr ⟨r,fun fin=>Ya e,h'⟩
theorem Zbj (I:List α→σ→Prop) (Q:ρ→Prop) (l:List α) (s:σ) (h:I [] s) (hs:∀p x s,x∈l→p.length<l.length→I p s→(∃s',body p.length x s=some (.inl s')∧I (p++[x]) s')∨∃r,body p.length x s=some (.inr r)∧Q r):
  (∃s',(∀fin:σ→Option ρ,Zn body fin l 0 s=fin s')∧I l s')∨∃r,(∀fin:σ→Option ρ,Zn body fin l 0 s=some r)∧Q r:=by
 have:=Zm8 I Q l [] s h fun p x s m hp hI=>hs p x s m (by simpa using hp) hI
 simpa using this
theorem Zd4 (I:List α→σ→Prop) (l:List α) (s:σ) (h:I [] s) (hs:∀p x s,x∈l→p.length<l.length→I p s→∃s',body p.length x s=some (.inl s')∧I (p++[x]) s'):∃s',(∀fin:σ→Option ρ,Zn body fin l 0 s=fin s')∧I l s':=by
 rcases Zbj I (fun _=>False) l s h fun p x s m hp hI=>.inl (hs p x s m hp hI) with h | ⟨_,_,h⟩
 ·exact h
 ·exact h.elim
end
def Y6 (r:Zf):List ByteArray:=r.thn.filterMap fun x=>if x.kind=1∨x.kind=2 then some x.pattern.rel else none
def Yc (r:Zf):List ByteArray:=r.cond.filterMap fun x=>if x.kind=1∨x.kind=2 then some x.pattern.rel else none
theorem Zpj (r:Zf):(Y6 r).length≤r.thn.length:=BH _ _
theorem ZkR (r:Zf):(Yc r).length≤r.cond.length:=BH _ _
theorem ZgB (r:Zf) (h:r.thn.length≤1048576):XY r=some (ZQ (Y6 r)):=by
 unfold XY
 rw [Yk (g:=fun x:Zx=>if x.kind=1∨x.kind=2 then some x.pattern.rel else none)]
 ·have:=Zpj r
  simp only[Aw]
  show (Yb (Y6 r)).bind _=_
  rw [XG _ yE]
  rfl
 ·intro j x s _ hs
  simp at hs
  by_cases h1:x.kind=1
  ·simp only[h1,beq_self_eq_true,if_true];rw [Zi _ yE];rfl
  ·by_cases h2:x.kind=2
   ·have:((2:Int)==1)=false:=by decide
    simp only[h2,this,A7,if_false,beq_self_eq_true,if_true];rw [Zi _ yE];rfl
   ·simp [h1,h2]
theorem ZnJ (r:Zf) (h:r.cond.length≤1048576):Zbm r=some (ZQ (Yc r)):=by
 unfold Zbm
 rw [Yk (g:=fun x:Zr=>if x.kind=1∨x.kind=2 then some x.pattern.rel else none)]
 ·have:=ZkR r
  simp only[Aw]
  show (Yb (Yc r)).bind _=_
  rw [XG _ yE]
  rfl
 ·intro j x s _ hs
  simp at hs
  by_cases h1:x.kind=1
  ·simp only[h1,beq_self_eq_true,if_true];rw [Zi _ yE];rfl
  ·by_cases h2:x.kind=2
   ·have:((2:Int)==1)=false:=by decide
    simp only[h2,this,A7,if_false,beq_self_eq_true,if_true];rw [Zi _ yE];rfl
   ·simp [h1,h2]
theorem Zio {α:Type} (kd:α→Int) (f:α→ByteArray):∀(l:List α) (a:List ByteArray),l.foldl (fun s x=>if kd x=1∨kd x=2 then XW s (f x) else s) a=(l.filterMap fun x=>if kd x=1∨kd x=2 then some (f x) else none).foldl XW a
 | [],_=>rfl
 | x::l,a=>by
  rw [AB,Zio kd f l]
  by_cases h:kd x=1∨kd x=2<;>simp [h]
theorem ZgH (r:Zf) (h:r.thn.length≤1048576):QI r=some (ZQ (Y6 r)):=by
 unfold QI
 rw [XE (f:=fun s (x:Zx)=>if x.kind=1∨x.kind=2 then XW s x.pattern.rel else s) (fun j s=>s.length≤j) yG]
 ·congr 1
  exact Zio (fun x:Zx=>x.kind) (fun x=>x.pattern.rel) r.thn []
 ·intro j x s _ _ hl hI
  have:=Zc6 x.pattern.rel s
  by_cases h1:x.kind=1
  ·simp only[h1,beq_self_eq_true,if_true,true_or];rw [XV _ _ yE];exact ⟨rfl,yE⟩
  ·by_cases h2:x.kind=2
   ·have:((2:Int)==1)=false:=by decide
    simp only[h2,this,A7,if_false,beq_self_eq_true,if_true,or_true];rw [XV _ _ yE];exact ⟨rfl,yE⟩
   ·simp [h1,h2];omega
theorem Zne (r:Zf) (h:r.cond.length≤1048576):Zbt r=some (ZQ (Yc r)):=by
 unfold Zbt
 rw [XE (f:=fun s (x:Zr)=>if x.kind=1∨x.kind=2 then XW s x.pattern.rel else s) (fun j s=>s.length≤j) yG]
 ·congr 1
  exact Zio (fun x:Zr=>x.kind) (fun x=>x.pattern.rel) r.cond []
 ·intro j x s _ _ hl hI
  have:=Zc6 x.pattern.rel s
  by_cases h1:x.kind=1
  ·simp only[h1,beq_self_eq_true,if_true,true_or];rw [XV _ _ yE];exact ⟨rfl,yE⟩
  ·by_cases h2:x.kind=2
   ·have:((2:Int)==1)=false:=by decide
    simp only[h2,this,A7,if_false,beq_self_eq_true,if_true,or_true];rw [XV _ _ yE];exact ⟨rfl,yE⟩
   ·simp [h1,h2];omega
def Ze3 (R:List Zf) (x y:ByteArray):Prop:=∃r∈R,x∈Y6 r∧y∈Yc r
inductive YY (R:List Zf) (a:ByteArray):ByteArray→Prop
 | one {y:ByteArray}:Ze3 R a y→YY R a y
 | next {x y:ByteArray}:YY R a x→Ze3 R x y→YY R a y
theorem YY.step {R:List Zf} {a x y:ByteArray} (hx:x=a∨YY R a x) (h:Ze3 R x y):YY R a y:=by
 rcases hx with rfl | hx
 ·exact .one h
 ·exact .next hx h
structure ZbC (R:List Zf):Prop where
 s:∀r∈R,Za6 r
 n:(R.flatMap Yc).length≤1048576
theorem ZfD {m:List (ByteArray × Bool)} {k y:ByteArray}:QU (Zeu m k true) y false=if y=k then true else QU m y false:=by
 unfold QU
 induction m with
 | nil=>
  by_cases h:y=k<;>simp [Zeu,Ze9,h]
 | cons p r ih=>
  simp only[Zeu]
  by_cases h:k=p.1
  ·subst h
   rw [if_pos rfl]
   by_cases h2:y=p.1
   ·simp [Ze9,h2]
   ·simp [Ze9,h2]
  ·rw [if_neg h]
   by_cases h2:y=p.1
   ·subst h2
    have:¬p.1=k:=fun e=>h e.symm
    simp [Ze9,this]
   ·simp only[Ze9,if_neg h2];exact ih
def Zb6 (m:List (ByteArray × Bool)) (y:ByteArray):Prop:=QU m y false=true
def Zf2 (U:List ByteArray) (m:List (ByteArray × Bool)):Nat:=U.countP fun y=>!QU m y false
theorem Zeb {α:Type} {p q:α→Bool}:∀{l:List α},(∀x∈l,p x=true→q x=true)→∀y∈l,p y=false→q y=true→l.countP p+1≤l.countP q
 | x::l,h,y,hy,h1,h2=>by
  rw [Ac,Ac]
  have hle:l.countP p≤l.countP q:=List.countP_mono_left fun z mz=>h z (by simp [mz])
  have hx:=h x yG
  rcases A6.1 hy with rfl | hy
  ·simp [h1,h2];omega
  ·have ih:=Zeb (p:=p) (q:=q) (l:=l) (fun z mz=>h z (by simp [mz])) y hy h1 h2
   cases hp:p x with
   | true=>simp [hx hp];omega
   | false=>cases q x<;>simp<;>omega
structure ZoV (U:List ByteArray) (P:ByteArray→Prop) (s0 s:List (ByteArray × Bool) × List ByteArray):Prop where
 mono:∀y,Zb6 s0.1 y→Zb6 s.1 y
 fresh:∀y,Zb6 s.1 y→Zb6 s0.1 y∨(P y∧y∈s.2)
 sub:∀y∈s0.2,y∈s.2
 row:∀y∈s.2,y∈s0.2∨Zb6 s.1 y
 cnt:Zf2 U s.1+s.2.length≤Zf2 U s0.1+s0.2.length
theorem ZoV.refl (U:List ByteArray) (P:ByteArray→Prop) (s:List (ByteArray × Bool) × List ByteArray):ZoV U P s s:=⟨fun _ h=>h,fun _ h=>.inl h,fun _ h=>h,fun _ h=>.inl h,Aa _⟩
theorem ZoV.push {U:List ByteArray} {P:ByteArray→Prop} {s0:List (ByteArray × Bool) × List ByteArray} {m:List (ByteArray × Bool)} {row:List ByteArray} (h:ZoV U P s0 (m,row)) {y:ByteArray} (hy:QU m y false=false) (hU:y∈U) (hP:P y):ZoV U P s0 (Zeu m y true,row++[y]):=by
 have hS:∀z,Zb6 (Zeu m y true) z↔z=y∨Zb6 m z:=fun z=>by
  unfold Zb6
  rw [ZfD]
  by_cases e:z=y<;>simp [e]
 refine ⟨fun z hz=>(hS z).2 (.inr (h.mono z hz)),fun z hz=>?_,fun z hz=>A4.2 (.inl (h.sub z hz)),fun z hz=>?_,?_⟩
 ·rcases (hS z).1 hz with rfl | hz
  ·exact .inr ⟨hP,yG⟩
  ·exact (h.fresh z hz).imp id fun ⟨a,b⟩=>⟨a,A4.2 (.inl b)⟩
 ·rcases A4.1 hz with hz | hz
  ·exact (h.row z hz).imp id fun hh=>(hS z).2 (.inr hh)
  ·exact .inr ((hS z).2 (.inl (by simpa using hz)))
 ·have h1:=h.cnt
  have h2:Zf2 U (Zeu m y true)+1≤Zf2 U m:=Zeb (fun z _ hz=>by
   rw [ZfD] at hz
   by_cases e:z=y
   ·simp [e] at hz
   ·simpa [e] using hz) y hU (by rw [ZfD];simp) (by simp [hy])
  show _+(row++[y]).length≤_
  rw [A8]
  simp only at h1 ⊢
  simp
  omega
theorem YU {σ ρ:Type} {body:σ→Option (σ ⊕ ρ)} {s s':σ} (h:body s=some (.inl s')):Y5 body s=Y5 body s':=by rw [Zig,h]
theorem YG {σ ρ:Type} {body:σ→Option (σ ⊕ ρ)} {s:σ} {r:ρ} (h:body s=some (.inr r)):Y5 body s=some r:=by rw [Zig,h]
theorem Zlq {R:List Zf} (hR:ZbC R) (a:ByteArray):∃m,ZcF R a=some m∧∀y,Zb6 m y↔YY R a y:=by
 have hU:∀r∈R,∀y∈Yc r,y∈R.flatMap Yc:=fun r mr y my=>AI.2 ⟨r,mr,my⟩
 have key:∀(n:Nat) (m:List (ByteArray × Bool)) (row:List ByteArray),Zf2 (R.flatMap Yc) m+row.length≤n→n≤1048577→(∀y,Zb6 m y→YY R a y)→(∀y∈row,y=a∨Zb6 m y)→(∀z,(z=a∨Zb6 m z)→z∈row∨∀y,Ze3 R z y→Zb6 m y)→
   ∃m',Y5 (σ:=(List (ByteArray × Bool)) × (List ByteArray)) (fun s=>
   match s with
   | (mp_42,row_43)=>
   if (decide (0<((row_43.length:Nat):Int)))=true then
    chk (0≤0∧0<((row_43.length:Nat):Int)) <|
    (row_43[(AQ 0)]?).bind fun x44=>
    chk (0≤1∧1≤((row_43.length:Nat):Int)) <|
    Zn (σ:=(List (ByteArray × Bool)) × (List ByteArray))
     (fun (i72:Nat) (x73:Zf) s=>
      match s with
      | (mp_57,row_58)=>
      (XY x73).bind fun v74=>
      (YV v74 x44).bind fun v75=>
      if v75=true then
       (Zbm x73).bind fun v76=>
       Zn (σ:=(List (ByteArray × Bool)) × (List ByteArray))
        (fun (i83:Nat) (x84:ByteArray) s=>
         match s with
         | (mp_80,row_81)=>
         if (QU mp_80 x84 false)=true then
          some (.inl (mp_80,row_81))
         else
          chk (row_81.length+1≤1073741824) <|
          some (.inl ((Zeu mp_80 x84 true),(row_81++[x84]))))
        (fun s=>
         match s with
         | (mp_80,row_81)=>
         some (.inl (mp_80,row_81)))
        v76 0 (mp_57,row_58)
      else
       some (.inl (mp_57,row_58)))
     (fun s=>
      match s with
      | (mp_57,row_58)=>
      some (.inl (mp_57,row_58)))
     R 0 (mp_42,(List.drop (AQ 1) row_43))
   else
    some (.inr mp_42)) (m,row)=some m'∧∀y,Zb6 m' y↔YY R a y:=by
  intro n
  induction n with
  | zero=>
   intro m row hn _ h1 h2 h3
   have hr:row=[]:=AR (by omega)
   subst hr
   refine ⟨m,by rw [Zig];rfl,fun y=>⟨h1 y,fun hy=>?_⟩⟩
   induction hy with
   | one h=>exact ((h3 _ (.inl rfl)).resolve_left (by simp)) _ h
   | next _ h ih=>exact ((h3 _ (.inr ih)).resolve_left (by simp)) _ h
  | succ n ih=>
   intro m row hn hN h1 h2 h3
   cases row with
   | nil=>
    refine ⟨m,by rw [Zig];rfl,fun y=>⟨h1 y,fun hy=>?_⟩⟩
    induction hy with
    | one h=>exact ((h3 _ (.inl rfl)).resolve_left (by simp)) _ h
    | next _ h ih=>exact ((h3 _ (.inr ih)).resolve_left (by simp)) _ h
   | cons x rest=>
    have hx:x=a∨YY R a x:=(h2 x (by simp)).imp id (h1 x)
    have hn':Zf2 (R.flatMap Yc) m+rest.length≤n:=by simp at hn;omega
    obtain ⟨s',e,hg,hd⟩:=Zd4 (ρ:=((List (ByteArray × Bool)) × (List ByteArray)) ⊕ (List (ByteArray × Bool))) (body:=fun (i72:Nat) (x73:Zf) (s:(List (ByteArray × Bool)) × (List ByteArray))=>
      match s with
      | (mp_57,row_58)=>
      (XY x73).bind fun v74=>
      (YV v74 x).bind fun v75=>
      if v75=true then
       (Zbm x73).bind fun v76=>
       Zn (σ:=(List (ByteArray × Bool)) × (List ByteArray))
        (fun (i83:Nat) (x84:ByteArray) s=>
         match s with
         | (mp_80,row_81)=>
         if (QU mp_80 x84 false)=true then
          some (.inl (mp_80,row_81))
         else
          chk (row_81.length+1≤1073741824) <|
          some (.inl ((Zeu mp_80 x84 true),(row_81++[x84]))))
        (fun s=>
         match s with
         | (mp_80,row_81)=>
         some (.inl (mp_80,row_81)))
        v76 0 (mp_57,row_58)
      else
       some (.inl (mp_57,row_58))) (fun pre s=>ZoV (R.flatMap Yc) (YY R a) (m,rest) s∧∀r∈pre,x∈Y6 r→∀y∈Yc r,Zb6 s.1 y) R (m,rest) ⟨ZoV.refl _ _ _,by simp⟩ fun p r s mr hp hI=>by
     obtain ⟨mp,rw_⟩:=s
     obtain ⟨hg,hd⟩:=hI
     have hsm:=hR.s r mr
     show ∃s',(XY r).bind _=_∧_
     rw [ZgB r hsm.tl]
     simp only[A0]
     rw [QO]
     simp only[A0]
     by_cases hw:x∈Y6 r
     ·have hh:Yj (ZQ (Y6 r)) x=true:=by rw [XD,ZS];exact hw
      rw [if_pos hh,ZnJ r hsm.cl]
      simp only[A0]
      obtain ⟨s2,e2,hg2,hd2⟩:=Zd4 (ρ:=((List (ByteArray × Bool)) × (List ByteArray)) ⊕ (((List (ByteArray × Bool)) × (List ByteArray)) ⊕ (List (ByteArray × Bool)))) (body:=fun (i83:Nat) (x84:ByteArray) (s:(List (ByteArray × Bool)) × (List ByteArray))=>
         match s with
         | (mp_80,row_81)=>
         if (QU mp_80 x84 false)=true then
          some (.inl (mp_80,row_81))
         else
          chk (row_81.length+1≤1073741824) <|
          some (.inl ((Zeu mp_80 x84 true),(row_81++[x84])))) (fun pre s=>ZoV (R.flatMap Yc) (YY R a) (m,rest) s∧(∀y,Zb6 mp y→Zb6 s.1 y)∧∀y∈pre,Zb6 s.1 y) (ZQ (Yc r)) (mp,rw_) ⟨hg,fun _ h=>h,by simp⟩ fun p y s my hp hI=>by
       obtain ⟨m2,row2⟩:=s
       obtain ⟨g2,g3,g4⟩:=hI
       have hyr:y∈Yc r:=ZS.1 my
       by_cases hs:QU m2 y false=true
       ·refine ⟨(m2,row2),by simp only[hs,if_true],g2,g3,fun z mz=>?_⟩
        rcases A4.1 mz with mz | mz
        ·exact g4 z mz
        ·rw [AK.1 mz];exact hs
       ·have hf:QU m2 y false=false:=by simpa using hs
        have hc:=g2.cnt
        have hG:=g2.push hf (hU r mr y hyr) (YY.step hx ⟨r,mr,hw,hyr⟩)
        have hmono:∀z,Zb6 m2 z→Zb6 (Zeu m2 y true) z:=fun z hz=>by
         unfold Zb6 at *;rw [ZfD];by_cases e:z=y<;>simp [e,hz]
        refine ⟨(Zeu m2 y true,row2++[y]),?_,hG,fun z hz=>hmono z (g3 z hz),fun z mz=>?_⟩
        ·simp only[hf,A7,if_false]
         rw [Zi _ (by simp only at hc;omega)]
        ·rcases A4.1 mz with mz | mz
         ·exact hmono z (g4 z mz)
         ·rw [AK.1 mz];unfold Zb6;rw [ZfD];simp
      refine ⟨s2,by rw [e2],hg2,fun q mq hq y my=>?_⟩
      rcases A4.1 mq with mq | mq
      ·exact hd2.1 y (hd q mq hq y my)
      ·rw [AK.1 mq] at my
       exact hd2.2 y (ZS.2 my)
     ·have hh:Yj (ZQ (Y6 r)) x=false:=by
       cases hq:Yj (ZQ (Y6 r)) x with
       | false=>rfl
       | true=>rw [XD,ZS] at hq;exact absurd hq hw
      refine ⟨(mp,rw_),by rw [if_neg (by rw [hh];simp)],hg,fun q mq hq=>?_⟩
      rcases A4.1 mq with mq | mq
      ·exact hd q mq hq
      ·rw [AK.1 mq] at hq;exact absurd hq hw
    obtain ⟨m',row'⟩:=s'
    obtain ⟨m2,r1,r2⟩:=ih m' row' (by have:=hg.cnt;simp only at this;omega) (by omega)
     (fun y hy=>(hg.fresh y hy).elim (h1 y) fun h=>h.1)
     (fun y hy=>by
      rcases hg.row y hy with h | h
      ·exact (h2 y (by simp [show y∈rest from h])).imp id (hg.mono y)
      ·exact .inr h)
     (fun z hz=>by
      have old:(z=a∨Zb6 m z)→z∈row'∨∀y,Ze3 R z y→Zb6 m' y:=fun hz=>by
       rcases h3 z hz with h | h
       ·rcases A6.1 h with rfl | h
        ·exact .inr fun y ⟨r,mr,hw,hy⟩=>hd r mr hw y hy
        ·exact .inl (hg.sub z h)
       ·exact .inr fun y hy=>hg.mono y (h y hy)
      rcases hz with hz | hz
      ·exact old (.inl hz)
      ·rcases hg.fresh z hz with h | ⟨_,h⟩
       ·exact old (.inr h)
       ·exact .inl h)
    refine ⟨m2,(YU ?_).trans r1,r2⟩
    show (if decide (0<(((x::rest).length:Nat):Int))=true then _ else _)=_
    rw [if_pos (decide_eq_true (by simp only[AE];omega)),Zi _ (by simp only[AE];omega)]
    show chk _ (Zn _ _ R 0 (m,rest))=_
    rw [Zi _ (by simp only[AE];omega)]
    exact e _
 unfold ZcF
 refine key (Zf2 (R.flatMap Yc) []+1) [] [a] (by simp) ?_ (fun y hy=>by simp [Zb6,QU,Ze9] at hy) (fun y hy=>.inl (by simpa using hy)) (fun z hz=>.inl ?_)
 ·have:=hR.n
  have h2:Zf2 (R.flatMap Yc) []≤(R.flatMap Yc).length:=Ae
  omega
 ·rcases hz with rfl | hz
  ·simp
  ·simp [Zb6,QU,Ze9] at hz
def Ziv (U row:List ByteArray):Nat:=U.countP fun y=>!Yj row y
theorem ZmD {row:List ByteArray} {y z:ByteArray}:Yj (row++[y]) z=true↔Yj row z=true∨z=y:=by
 rw [XD,XD,A4,AK]
theorem Zpd {U row:List ByteArray} {y:ByteArray} (hU:y∈U) (hy:Yj row y=false):Ziv U (row++[y])+1≤Ziv U row:=
 Zeb (fun z _ hz=>by
  cases h:Yj row z with
  | false=>rfl
  | true=>have:=ZmD (y:=y).2 (.inl h);rw [this] at hz;simp at hz) y hU (by have:=ZmD (row:=row) (y:=y) (z:=y).2 (.inr rfl);rw [this];rfl) (by rw [hy];rfl)
open Classical
theorem Zjy {R:List Zf} (hR:ZbC R) (a b:ByteArray):ZaO R a b=some (decide (YY R a b)):=by
 have hU:∀r∈R,∀y∈Yc r,y∈R.flatMap Yc:=fun r mr y my=>AI.2 ⟨r,mr,my⟩
 unfold ZaO
 have key:∀(n u:Nat) (row:List ByteArray),Ziv (R.flatMap Yc) row+row.length≤n+u→n+u≤1048577→u≤row.length→(∀y∈row,y=a∨YY R a y)→a∈row→(∀i x,i<u→row[i]?=some x→∀y,Ze3 R x y→y∈row∧y≠b)→
   Y5 (σ:=(List ByteArray) × Int)
  (fun s=>
   match s with
   | (row_55,u_56)=>
   if (decide (u_56<((row_55.length:Nat):Int)))=true then
    Zn (σ:=(List ByteArray))
     (fun (i93:Nat) (x94:Zf) row_74=>
      (QI x94).bind fun v95=>
      chk (0≤u_56∧u_56<((row_74.length:Nat):Int)) <|
      (row_74[(AQ u_56)]?).bind fun x96=>
      (ZR v95 x96).bind fun v97=>
      if v97=true then
       (Zbt x94).bind fun v98=>
       (ZR v98 b).bind fun v99=>
       if v99=true then
        some (.inr (.inr true))
       else
        Zn (σ:=(List ByteArray))
         (fun (i108:Nat) (x109:ByteArray) row_105=>
          (ZR row_105 x109).bind fun v110=>
          if v110=true then
           some (.inl row_105)
          else
           chk (row_105.length+1≤1073741824) <|
           some (.inl (row_105++[x109])))
         (fun row_105=>
          some (.inl row_105))
         v98 0 row_74
      else
       some (.inl row_74))
     (fun row_74=>
      some (.inl (row_74,(IntKind.i64.wrap (u_56+1)))))
     R 0 row_55
   else
    some (.inr false))
  (row,((u:Nat):Int))=some (decide (YY R a b)):=by
  intro n
  have fin:∀(u:Nat) (row:List ByteArray),u=row.length→a∈row→(∀i x,i<u→row[i]?=some x→∀y,Ze3 R x y→y∈row∧y≠b)→¬YY R a b:=fun u row hu ha hc hb=>by
   have all:∀y,YY R a y→y∈row∧y≠b:=fun y hy=>by
    have one:∀x,x∈row→∀y,Ze3 R x y→y∈row∧y≠b:=fun x mx y h=>by
     obtain ⟨i,hi⟩:=BI.1 mx
     exact hc i x (by rw [hu];exact (AH.1 hi).1) hi y h
    induction hy with
    | one h=>exact one a ha _ h
    | next _ h ih=>exact one _ ih.1 _ h
   exact (all b hb).2 rfl
  have stop:∀(u:Nat) (row:List ByteArray),u=row.length→a∈row→(∀i x,i<u→row[i]?=some x→∀y,Ze3 R x y→y∈row∧y≠b)→decide (YY R a b)=false:=fun u row h1 h2 h3=>decide_eq_false (fin u row h1 h2 h3)
  induction n with
  | zero=>
   intro u row hn _ hu h1 ha hc
   have hu':u=row.length:=by omega
   rw [stop u row hu' ha hc]
   refine YG ?_
   show (if decide (((u:Nat):Int)<((row.length:Nat):Int))=true then _ else _)=_
   rw [if_neg (by rw [decide_eq_true_iff];omega)]
  | succ n ih=>
   intro u row hn hN hu h1 ha hc
   by_cases hlt:u<row.length
   ·have hx:row[u]?=some row[u]:=A5 hlt
    generalize row[u]=x at hx
    have hxr:x=a∨YY R a x:=h1 x (AJ hx)
    rcases Zbj (ρ:=((List ByteArray) × Int) ⊕ Bool) (body:=fun (i93:Nat) (x94:Zf) (row_74:List ByteArray)=>
      (QI x94).bind fun v95=>
      chk (0≤((u:Nat):Int)∧((u:Nat):Int)<((row_74.length:Nat):Int)) <|
      (row_74[(AQ ((u:Nat):Int))]?).bind fun x96=>
      (ZR v95 x96).bind fun v97=>
      if v97=true then
       (Zbt x94).bind fun v98=>
       (ZR v98 b).bind fun v99=>
       if v99=true then
        some (.inr (.inr true))
       else
        Zn (σ:=(List ByteArray))
         (fun (i108:Nat) (x109:ByteArray) row_105=>
          (ZR row_105 x109).bind fun v110=>
          if v110=true then
           some (.inl row_105)
          else
           chk (row_105.length+1≤1073741824) <|
           some (.inl (row_105++[x109])))
         (fun row_105=>
          some (.inl row_105))
         v98 0 row_74
      else
       some (.inl row_74)) (fun pre r2=>(∃q,r2=row++q)∧Ziv (R.flatMap Yc) r2+r2.length≤n+1+u∧(∀y∈r2,y=a∨YY R a y)∧∀r∈pre,x∈Y6 r→∀y∈Yc r,y∈r2∧y≠b) (fun z=>z=.inr true∧YY R a b) R row ⟨⟨[],by simp⟩,hn,h1,by simp⟩ fun p r r2 mr hp hI=>by
     obtain ⟨⟨q,rfl⟩,g1,g2,g3⟩:=hI
     have hsm:=hR.s r mr
     have hxq:(row++q)[u]?=some x:=by rw [AO hlt];exact hx
     rw [ZgH r hsm.tl,A0,Zi _ (by simp;omega),Af,hxq,A0,YF,A0]
     by_cases hw:x∈Y6 r
     ·have hh:Yj (ZQ (Y6 r)) x=true:=by rw [XD,ZS];exact hw
      rw [if_pos hh,Zne r hsm.cl,A0,YF,A0]
      by_cases hb:b∈Yc r
      ·have hh:Yj (ZQ (Yc r)) b=true:=by rw [XD,ZS];exact hb
       rw [if_pos hh]
       exact .inr ⟨_,rfl,rfl,YY.step hxr ⟨r,mr,hw,hb⟩⟩
      ·have hh:¬Yj (ZQ (Yc r)) b=true:=by rw [XD,ZS];exact hb
       rw [if_neg hh]
       obtain ⟨r3,e3,⟨q3,hq3⟩,k1,k2,k3⟩:=Zd4 (ρ:=(List ByteArray) ⊕ (((List ByteArray) × Int) ⊕ Bool)) (body:=fun (i108:Nat) (x109:ByteArray) (row_105:List ByteArray)=>
          (ZR row_105 x109).bind fun v110=>
          if v110=true then
           some (.inl row_105)
          else
           chk (row_105.length+1≤1073741824) <|
           some (.inl (row_105++[x109]))) (fun pre r3=>(∃q',r3=(row++q)++q')∧Ziv (R.flatMap Yc) r3+r3.length≤n+1+u∧(∀y∈r3,y=a∨YY R a y)∧∀y∈pre,y∈r3) (ZQ (Yc r)) (row++q) ⟨⟨[],by simp⟩,g1,g2,by simp⟩ fun p y r3 my hp hI=>by
        obtain ⟨⟨q',rfl⟩,k1,k2,k3⟩:=hI
        have hyr:y∈Yc r:=ZS.1 my
        rw [YF,A0]
        by_cases hh:Yj (row++q++q') y=true
        ·rw [if_pos hh]
         refine ⟨_,rfl,⟨q',rfl⟩,k1,k2,fun z mz=>?_⟩
         rcases A4.1 mz with mz | mz
         ·exact k3 z mz
         ·rw [AK.1 mz];exact XD.1 hh
        ·have hf:Yj (row++q++q') y=false:=by simpa using hh
         have hab:=Zpd (hU r mr y hyr) hf
         rw [if_neg hh,Zi _ (by omega)]
         refine ⟨_,rfl,⟨q'++[y],by simp⟩,by rw [A8];simp only[Ag];omega,fun z mz=>?_,fun z mz=>?_⟩
         ·rcases A4.1 mz with mz | mz
          ·exact k2 z mz
          ·rw [AK.1 mz];exact .inr (YY.step hxr ⟨r,mr,hw,hyr⟩)
         ·rcases A4.1 mz with mz | mz
          ·exact A4.2 (.inl (k3 z mz))
          ·exact A4.2 (.inr mz)
       refine .inl ⟨r3,e3 _,⟨q++q3,by rw [hq3];simp⟩,k1,k2,fun r' mr' hw' y my=>?_⟩
       rcases A4.1 mr' with mr' | mr'
       ·have:=g3 r' mr' hw' y my
        exact ⟨by rw [hq3];exact A4.2 (.inl this.1),this.2⟩
       ·rw [AK.1 mr'] at my
        exact ⟨k3 y (ZS.2 my),fun e=>hb (e ▸ my)⟩
     ·have hh:¬Yj (ZQ (Y6 r)) x=true:=by rw [XD,ZS];exact hw
      rw [if_neg hh]
      refine .inl ⟨_,rfl,⟨q,rfl⟩,g1,g2,fun r' mr' hw'=>?_⟩
      rcases A4.1 mr' with mr' | mr'
      ·exact g3 r' mr' hw'
      ·rw [AK.1 mr'] at hw';exact absurd hw' hw
    with ⟨r2,e,⟨q,rfl⟩,k1,k2,k3⟩ | ⟨z,e,rfl,hb⟩
    ·refine (YU ?_).trans (ih (u+1) (row++q) (by omega) (by omega) (by rw [A8];omega) k2 (A4.2 (.inl ha)) fun i y hi hy z hz=>?_)
     ·show (if decide (((u:Nat):Int)<((row.length:Nat):Int))=true then _ else _)=_
      rw [if_pos (decide_eq_true (by omega)),e,Xn (by omega) (by omega)]
      rfl
     ·by_cases hiu:i<u
      ·rw [AO (by omega)] at hy
       have:=hc i y hiu hy z hz
       exact ⟨A4.2 (.inl this.1),this.2⟩
      ·have:i=u:=by omega
       subst this
       rw [AO hlt,hx] at hy
       obtain rfl:=AS hy
       obtain ⟨r,mr,hw,hr⟩:=hz
       exact k3 r mr hw z hr
    ·rw [decide_eq_true hb]
     refine YG ?_
     show (if decide (((u:Nat):Int)<((row.length:Nat):Int))=true then _ else _)=_
     rw [if_pos (decide_eq_true (by omega)),e]
   ·have hu':u=row.length:=by omega
    rw [stop u row hu' ha hc]
    refine YG ?_
    show (if decide (((u:Nat):Int)<((row.length:Nat):Int))=true then _ else _)=_
    rw [if_neg (by rw [decide_eq_true_iff];omega)]
 refine key 1048577 0 [a] ?_ (by omega) (by simp) (fun y hy=>.inl (by simpa using hy)) (by simp) (fun i x hi=>by omega)
 have h1:=hR.n
 have h2:Ziv (R.flatMap Yc) [a]≤(R.flatMap Yc).length:=Ae
 simp only[Ag]
 omega
theorem ZHG {R:List Zf} (h:ZC4 R≤1048576):ZbC R:=by
 unfold ZC4 at h
 refine ⟨fun r mr=>ZHZ (ZF1 h mr),?_⟩
 have key:∀l:List Zf,(l.flatMap Yc).length≤(l.map ZDd).sum:=by
  intro l
  induction l with
  | nil=>simp
  | cons r l ih=>
   rw [Al,A8,Ah,BJ]
   have h1:=ZkR r
   have h2:r.cond.length≤ZDd r:=by simp only[ZDd,ZDh];omega
   omega
 have:=key R
 omega
end
section
theorem Zsc (l:List Zf) (n:ByteArray):∃z,Zao l n=some z:=by
 unfold Zao
 rcases Zbj (ρ:=Int) (body:=fun (i4:Nat) (x5:Zf) (_:Unit)=>
   if (sEq x5.name n)=true then
    some (.inr ((i4:Nat):Int))
   else
    some (.inl ())) (fun _ _=>True) (fun _=>True) l () trivial (fun p x s mx hp _=>by
  cases h:sEq x.name n with
  | true=>exact .inr ⟨_,by rw [if_pos rfl],trivial⟩
  | false=>exact .inl ⟨(),by rw [if_neg yG],trivial⟩) with ⟨s,e,_⟩ | ⟨z,e,_⟩
 ·exact ⟨-1,e _⟩
 ·exact ⟨z,e _⟩
noncomputable def Zi2 (l:List Zf) (n:ByteArray):Int:=(Zao l n).getD 0
theorem ZgE (l:List Zf) (n:ByteArray):Zao l n=some (Zi2 l n):=by
 obtain ⟨z,h⟩:=Zsc l n
 unfold Zi2
 rw [h];rfl
theorem ZlB (l:List Zf) (n:ByteArray):Zev l n=some (Zi2 l n):=ZgE l n
noncomputable def ZfF (R:List Zf) (j:Nat) (r:Zf):Bool:=XX r&&(Zi2 R r.name==((j:Nat):Int))
noncomputable def Yn (R:List Zf):Bool:=decide (R.length≤6)&&Zar (ZfF R) R 0
theorem ZlE {R:List Zf} (h:∀r∈R,Za6 r):ZcN R=some (Yn R):=by
 unfold ZcN Yn
 by_cases h6:R.length≤6
 ·rw [if_neg (by simp;omega),decide_eq_true h6,Am,Xh (p:=ZfF R) (r:=false)]
  ·cases Zar (ZfF R) R 0<;>rfl
  ·intro j r hj
   rw [ZiV r (h r (AJ hj)),A0,ZgE]
   unfold ZfF
   simp only[A0,AL]
   cases XX r with
   | false=>rfl
   | true=>
    by_cases hf:Zi2 R r.name=((j:Nat):Int)
    ·simp [hf]
    ·have e:(Zi2 R r.name==((j:Nat):Int))=false:=by simpa using hf
     simp [e,hf]
 ·rw [if_pos (by simp;omega),decide_eq_false h6];rfl
theorem ZlJ {R:List Zf} (h:∀r∈R,Za6 r):Zcz R=some (Yn R):=by
 unfold Zcz Yn
 rw [Xh (p:=ZfF R) (r:=false)]
 ·have:decide (((R.length:Nat):Int)≤6)=decide (R.length≤6):=by rw [AP];simp;omega
  rw [this]
  cases Zar (ZfF R) R 0<;>simp
 ·intro j r hj
  rw [Zfr r (h r (AJ hj)),A0,ZlB]
  unfold ZfF
  simp only[A0,AL]
  cases XX r with
  | false=>rfl
  | true=>
   by_cases hf:Zi2 R r.name=((j:Nat):Int)
   ·simp [hf]
   ·have e:(Zi2 R r.name==((j:Nat):Int))=false:=by simpa using hf
    simp [e,hf]
open Classical
noncomputable def Zih (R:List Zf) (rel w:ByteArray):Bool:=!sEq w rel&&!decide (YY R rel w)
noncomputable def Zfd (R:List Zf) (r:Zf) (x:Zr):Bool:=!(x.kind==2)||(ZQ (Y6 r)).all (Zih R x.pattern.rel)
noncomputable def YN (R:List Zf) (r:Zf):Bool:=ZU r&&r.cond.all (Zfd R r)
theorem ZeY {R:List Zf} (hR:ZbC R):ZaP R=some (Yn R&&R.all (YN R)):=by
 unfold ZaP
 rw [ZlE hR.s,A0]
 cases Yn R with
 | false=>rfl
 | true=>
  rw [if_pos rfl,ZW (p:=YN R) (r:=false)]
  ·cases R.all (YN R)<;>rfl
  ·intro i r mr
   have a:=hR.s r mr
   rw [Zj9 r a,A0]
   unfold YN
   cases ZU r with
   | false=>rfl
   | true=>
    rw [if_pos rfl,ZW (p:=Zfd R r) (r:=.inr false)]
    ·cases r.cond.all (Zfd R r)<;>rfl
    ·intro i x mx
     unfold Zfd
     by_cases hk:x.kind=2
     ·obtain ⟨m,e,hm⟩:=Zlq hR x.pattern.rel
      rw [if_neg (by simp [hk]),e,A0,ZgB r a.tl,A0,ZW (p:=Zih R x.pattern.rel) (r:=.inr (.inr false))]
      ·rw [show (!(x.kind==2))=false by simp [hk],Ax]
       cases (ZQ (Y6 r)).all (Zih R x.pattern.rel)<;>rfl
      ·intro i w mw
       unfold Zih
       have:QU m w false=decide (YY R x.pattern.rel w):=by
        rw [AP,decide_eq_true_iff];exact hm w
       rw [this]
       cases sEq w x.pattern.rel<;>cases decide (YY R x.pattern.rel w)<;>rfl
     ·rw [if_pos (by simp [hk]),show (!(x.kind==2))=true by simp [hk]];rfl
theorem Zr4 {α ρ:Type} {r:ρ}:∀(l:List α),Zn (σ:=Unit) (fun (_:Nat) (_:α) _=>some (.inr r)) (fun _=>some r) l 0 ()=some r
 | []=>rfl
 | _::_=>rfl
theorem Zum (x y:ByteArray):sEq x y=sEq y x:=by
 rw [AP,ZN,ZN]
 exact eq_comm
theorem Ze4 {R:List Zf} (hR:ZbC R):ZaM R=some (Yn R&&R.all (YN R)):=by
 unfold ZaM
 rw [ZW (p:=YN R) (r:=false)]
 ·rw [ZlJ hR.s,A0]
  cases R.all (YN R)<;>simp
 ·intro i r mr
  have a:=hR.s r mr
  rw [ZkB r a,A0]
  unfold YN
  cases ZU r with
  | false=>rfl
  | true=>
   rw [if_pos rfl,ZgH r a.tl,A0,ZW (p:=Zfd R r) (r:=.inr false)]
   ·cases r.cond.all (Zfd R r)<;>rfl
   ·intro i x mx
    unfold Zfd
    by_cases hk:x.kind=2
    ·rw [ZW (p:=Zih R x.pattern.rel) (r:=.inr (.inr false))]
     ·rw [show (!(x.kind==2))=false by simp [hk],Ax]
      cases (ZQ (Y6 r)).all (Zih R x.pattern.rel)<;>rfl
     ·intro i w mw
      rw [if_pos (by simp [hk]),Zjy hR,Zum]
      unfold Zih
      cases sEq w x.pattern.rel<;>cases decide (YY R x.pattern.rel w)<;>rfl
    ·have hf:(x.kind==2)=false:=by simp [hk]
     simp only[hf,A7,if_false]
     rw [Zr4]
     rfl
end
section
open Classical
theorem ZHw (a b:Zd):Zj1 a b=some (decide (a=b)):=ZbI a b
noncomputable def ZeN (F:List Zd) (i:Nat) (x:Zd):Bool:=YH x&&(if i=0 then true else match F[i - 1]? with | some y=>decide (Zdl y x<0) | none=>true)
noncomputable def Yw (F:List Zd):Bool:=decide (F.length≤24)&&Zar (ZeN F) F 0
theorem ZjU {α:Type} {p:Nat→α→Bool} {q:α→Bool} (h:∀i x,p i x=true→q x=true):∀{l:List α} {i:Nat},Zar p l i=true→∀x∈l,q x=true
 | [],_,_=>by simp
 | y::l,i,ha=>by
  simp only[Zar,A3] at ha
  intro x mx
  rcases A6.1 mx with rfl | mx
  ·exact h i _ ha.1
  ·exact ZjU h ha.2 x mx
theorem Zds {F:List Zd} (h:Yw F=true):F.length≤24∧∀f∈F,YH f=true:=by
 unfold Yw at h
 rw [A3,decide_eq_true_iff] at h
 refine ⟨h.1,ZjU (fun i x hx=>?_) h.2⟩
 unfold ZeN at hx
 rw [A3] at hx
 exact hx.1
theorem Xg {f:Zd} (h:YH f=true):f.args.length≤3:=by
 unfold YH at h
 simp only[A3,decide_eq_true_iff] at h
 exact h.1.2
theorem ZmV {F:List Zd} (hl:F.length≤1048576) {i:Nat} {x:Zd} (hx:F[i]?=some x):
  (if YH x=true then (if (decide (0<((i:Nat):Int)))=true then (atI F (IntKind.i64.wrap (((i:Nat):Int) - 1))).bind fun a=>(some (Zdl a x)).bind fun b=>if (decide (0≤b))=true then some (.inr false) else some (.inl ()) else some (.inl ())) else some (.inr false):Option (Unit ⊕ Bool))
   = some (bif ZeN F i x then .inl () else .inr false):=by
 have hi:=(AH.1 hx).1
 unfold ZeN
 cases YH x with
 | false=>rfl
 | true=>
  rw [if_pos rfl]
  by_cases h0:i=0
  ·subst h0
   rw [if_neg yG]
   simp
  ·have hg:F[i - 1]?=some F[i - 1]:=A5 yE
   rw [if_pos (by simp;omega),show ((i:Nat):Int) - 1=((i - 1:Nat):Int) by omega,Zdu yE yE,Zby,hg,A0,A0,if_neg h0]
   by_cases hc:Zdl F[i - 1] x<0
   ·rw [if_neg (by simpa using hc)]
    simp [hc]
   ·rw [if_pos (by simpa using hc)]
    simp [hc]
theorem ZgU (F:List Zd):ZcA F=some (Yw F):=by
 unfold ZcA Yw
 by_cases h:F.length≤24
 ·rw [if_neg (by simp;omega),decide_eq_true h,Xh (p:=ZeN F) (r:=false)]
  ·cases Zar (ZeN F) F 0<;>rfl
  ·intro j x hx
   rw [AL,ZiS,A0]
   simp only[Zdo]
   exact ZmV yE hx
 ·rw [if_pos (by simp;omega),decide_eq_false h]
  rfl
theorem ZgI (F:List Zd) (hl:F.length≤1048576):Zdd F=some (Yw F):=by
 unfold Zdd Yw
 rw [Xh (p:=ZeN F) (r:=false)]
 ·have:decide (((F.length:Nat):Int)≤24)=decide (F.length≤24):=by rw [AP];simp;omega
  rw [this]
  cases Zar (ZeN F) F 0<;>simp
 ·intro j x hx
  rw [AL,ZiZ,A0]
  simp only[ZdC]
  exact ZmV hl hx
theorem ZfZ (l:List Zd) (hl:l.length≤1048576) (h:∀f∈l,f.args.length≤1048576):ZaG l=some l:=by
 unfold ZaG
 rw [Zk3 (g:=fun y=>y)]
 ·simp
 ·intro j y s my hs
  rw [YB y (h y my),A0,Zi _ (by simp at hs;omega)]
theorem ZdJ (l:List Zd) (hl:l.length≤1048576) (h:∀f∈l,f.args.length≤1048576):Zak l=some l:=by
 unfold Zak
 rw [Zk3 (g:=fun y=>y)]
 ·simp
 ·intro j y s my hs
  rw [Xo y (h y my),A0,Zi _ (by simp at hs;omega)]
structure ZtD (F:List Zd) (t:Zt):Prop where
 bind:t.binding.length≤6
 len:t.facts.length≤4
 args:∀f∈t.facts,f.args.length≤3
theorem Zkk.s {p:List Zr} {F:List Zd} {t:Zt} (h:Zkk p F t) (hp:p.length≤4) (hF:∀f∈F,f.args.length≤3):ZtD F t:=
 ⟨Qr h.bind,by have:=h.len;omega,fun f mf=>hF f (h.sub f mf)⟩
theorem Zm4 {ρ:Type} {x:Zr} {F:List Zd} {body:Nat→Zt→List Zt→Option (List Zt ⊕ ρ)} {fin:List Zt→Option ρ} (hF:F.length≤24) (ts:List Zt) (hts:ts.length≤331776)
  (hb:∀i t row,t∈ts→row.length≤10000000→body i t row=some (.inl (row++ZgR x F t))):Zn body fin ts 0 []=fin (ZfX x F ts):=by
 have a:ZfX x F []=[]:=rfl
 rw [←a,QL (fun p=>ZfX x F p) ts]
 intro p t q e
 have hl:=ZkV x F hF p
 have hp:p.length≤ts.length:=by rw [e];simp
 rw [hb _ _ _ (by rw [e];simp) yE]
 unfold ZfX
 rw [Ap]
 simp
theorem ZgN (l:List Zr) (F:List Zd) (hl:l.length≤4) (hF:F.length≤24) (hA:∀f∈F,f.args.length≤3):Zam l F=some (ZM l F):=by
 unfold Zam
 have h0:ZM [] F=[({ facts:=[],binding:=[] }:Zt)]:=rfl
 rw [←h0,QL (fun p=>ZM p F) l]
 intro p x q e
 have hpl:p.length+(q.length+1)=l.length:=by rw [e,A8,AE]
 rw [ZaR]
 refine Zm4 (fin:=fun r=>(some (Sum.inl r):Option (List Zt ⊕ List Zt))) hF (ZM p F) (ZeI F hF p yE) (fun i t row mt hr=>?_)
 have ht:=(Zec F p t mt).s yE hA
 unfold ZgR
 by_cases hk:x.kind=1
 ·rw [if_neg (by simpa using hk),if_pos hk,Yk (g:=fun f=>(Zan x.pattern f t.binding).map fun b=>({ facts:=t.facts++[f],binding:=b }:Zt))]
  intro j f s mf hs
  rw [Zf9,A0,ZeQ]
  cases hm:Zan x.pattern f t.binding with
  | none=>simp
  | some b=>
   simp only[BK,if_true]
   rw [ZfZ _ (by have:=ht.len;omega) (fun g mg=>by have:=ht.args g mg;omega),A0,YB f (by have:=hA f mf;omega),A0,Zi _ (by have:=ht.len;omega),Zi _ yE]
   rfl
 ·rw [if_pos (by simpa using hk),if_neg hk,ZjZ _ _ _ yE (fun f mf=>by have:=hA f mf;omega),A0]
  split
  ·rw [Zi _ yE]
  ·simp
theorem ZpP {F:List Zd} {t:Zt} (ht:ZtD F t):ZfQ t=some t:=by
 unfold ZfQ Zb7
 rw [ZdJ _ (by have:=ht.len;omega) (fun g mg=>by have:=ht.args g mg;omega),A0,Zi _ (by have:=ht.bind;omega)]
 rfl
theorem ZpG (ts:List Zt) (x:Zr) (F:List Zd) (a:ts.length≤331776) (hF:F.length≤24) (hA:∀f∈F,f.args.length≤3) (ht:∀t∈ts,ZtD F t):Zfi ts x F=some (ZfX x F ts):=by
 unfold Zfi
 refine Zm4 (fin:=fun r=>some r) hF ts a (fun i t row mt hr=>?_)
 have ht:=ht t mt
 have htb:=ht.bind
 unfold ZgR
 by_cases hk:x.kind=1
 ·rw [if_neg (by simpa using hk),if_pos hk,Yk (g:=fun f=>(Zan x.pattern f t.binding).map fun b=>({ facts:=t.facts++[f],binding:=b }:Zt))]
  intro j f s mf hs
  rw [Zf3 _ _ _ yE,A0,ZeQ]
  cases hm:Zan x.pattern f t.binding with
  | none=>simp
  | some b=>
   simp only[BK,if_true]
   rw [ZdJ _ (by have:=ht.len;omega) (fun g mg=>by have:=ht.args g mg;omega),A0,Xo f (by have:=hA f mf;omega),A0,Zi _ (by have:=ht.len;omega),Zi _ yE]
   rfl
 ·rw [if_pos (by simpa using hk),if_neg hk,ZkS _ _ _ yE yE (fun f mf=>by have:=hA f mf;omega),A0]
  split
  ·rw [ZpP ht,A0,Zi _ yE]
  ·simp
theorem ZgX (l:List Zr) (F:List Zd) (hl:l.length≤4) (hF:F.length≤24) (hA:∀f∈F,f.args.length≤3):Zai l F=some (ZM l F):=by
 unfold Zai
 have h0:ZM [] F=[({ facts:=[],binding:=[] }:Zt)]:=rfl
 rw [←h0,QL (fun p=>ZM p F) l]
 intro p x q e
 have hpl:p.length+(q.length+1)=l.length:=by rw [e,A8,AE]
 rw [ZaR,ZpG _ _ _ (ZeI F hF p yE) hF hA (fun t mt=>(Zec F p t mt).s yE hA)]
 rfl
theorem ZhO {R:List Zf} (h:Yn R=true):R.length≤6∧∀r∈R,XX r=true:=by
 unfold Yn at h
 rw [A3,decide_eq_true_iff] at h
 refine ⟨h.1,ZjU (fun i x hx=>?_) h.2⟩
 unfold ZfF at hx
 rw [A3] at hx
 exact hx.1
theorem ZrY {r:Zf} (h:XX r=true):∀a∈r.thn,a.kind=1→Z0 a.pattern=true∧∀v∈a.pattern.args,Ye v=true→v∈Ys r.cond:=by
 intro a ma hk
 unfold XX at h
 simp only[A3] at h
 have ha:=AA.1 h.1.2 a ma
 rw [A3] at ha
 obtain ⟨h1,h2⟩:=ha
 unfold Xa at h1
 rw [if_pos (.inl hk)] at h1
 refine ⟨h1,fun v mv hv=>?_⟩
 have:=AA.1 h2 v (Zbo.2 ⟨mv,hv⟩)
 rw [XD] at this
 unfold Yr at this
 rw [ZS,BL] at this
 exact this
end
section
open Classical
theorem Zcs {α:Type}:∀{l m:List α},l.Nodup→(∀x∈l,x∈m)→l.length≤m.length
 | [],_,_,_=>Ay _
 | x::l,m,h,hs=>by
  rw [BM] at h
  have hx:x∈m:=hs x yG
  have h2:=Zcs (m:=m.erase x) h.2 (fun y my=>(List.mem_erase_of_ne (fun e=>h.1 (by rw [←e];exact my))).2 (hs y (by simp [my])))
  rw [List.length_erase_of_mem hx] at h2
  have:=List.length_pos_of_mem hx
  simp only[AE]
  omega
theorem ZqP {α:Type} {l m:List α} (hl:l.Nodup) (hs:∀x∈l,x∈m) (hm:m.length≤l.length):∀x∈m,x∈l:=fun x mx=>by
 refine Classical.byContradiction fun hn=>?_
 have:=Zcs (l:=x::l) (m:=m) (BM.2 ⟨hn,hl⟩) (fun y my=>by
  rcases A6.1 my with rfl | my
  ·exact mx
  ·exact hs y my)
 simp only[AE] at this
 omega
theorem Zh2 (x:Zd):¬Zdl x x<0:=by rw [(Zdq.eq x x).2 rfl];omega
theorem Zg2 {l:List Zd} (h:ZiF l):l.Nodup:=List.Pairwise.imp (fun {a b} c e=>by subst e;exact Zh2 a c) h
theorem Zkc:∀{a b:List Zd},ZiF a→ZiF b→(∀x,x∈a↔x∈b)→a=b
 | [],[],_,_,_=>rfl
 | [],y::b,_,_,h=>by have:=(h y).2 yG;simp at this
 | x::a,[],_,_,h=>by have:=(h x).1 yG;simp at this
 | x::a,y::b,ha,hb,h=>by
  unfold ZiF at ha hb
  rw [AT] at ha hb
  have e:x=y:=by
   rcases A6.1 ((h x).1 yG) with e | h1
   ·exact e
   ·rcases A6.1 ((h y).2 yG) with e | h2
    ·exact e.symm
    ·exact absurd (Zdq.tr _ _ _ (ha.1 y h2) (hb.1 x h1)) (Zh2 x)
  subst e
  rw [Zkc ha.2 hb.2 fun z=>?_]
  constructor
  ·intro hz
   rcases A6.1 ((h z).1 (by simp [hz])) with e | c
   ·subst e;exact absurd (ha.1 z hz) (Zh2 z)
   ·exact c
  ·intro hz
   rcases A6.1 ((h z).2 (by simp [hz])) with e | c
   ·subst e;exact absurd (hb.1 z hz) (Zh2 z)
   ·exact c
theorem ZhK {f:Zd}:∀{l:List Zd},f∉l→(Zdn l f).length=l.length+1
 | [],_=>rfl
 | x::l,h=>by
  simp only[A6,not_or] at h
  simp only[Zdn]
  split
  ·rw [AE,ZhK h.2];rfl
  ·rw [if_neg (fun e=>h.1 ((Zdq.eq _ _).1 e).symm)]
   rfl
def QZ (r:Zf):List Zr:=r.cond.filter fun x=>x.kind != 2
theorem Zsm {r:Zf}:∀x∈QZ r,¬x.kind=2:=fun x mx=>by
 have:=(Az.1 mx).2
 simpa using this
theorem Zc9 (r:Zf):(QZ r).length≤r.cond.length:=BN _ _
theorem Zob (l:List Zr):Ys (l.filter fun x=>x.kind != 2)=Ys l:=by
 induction l with
 | nil=>rfl
 | cons x l ih=>
  by_cases hx:x.kind=2
  ·rw [List.filter_cons_of_neg (by simpa using hx),ih]
   simp [Ys,hx]
  ·rw [List.filter_cons_of_pos (by simpa using hx)]
   unfold Ys at ih ⊢
   rw [Al,Al,ih]
theorem Zbd (r:Zf) (h:r.cond.length≤1048576):YA r=some (QZ r):=by
 unfold YA QZ
 rw [ZdF (p:=fun x:Zr=>x.kind != 2)]
 ·simp
 ·intro j x s mx hs
  split
  ·rw [Zi _ (by simp at hs;omega)]
  ·rfl
theorem Zef (r:Zf) (h:r.cond.length≤1048576):Xv r=some (QZ r):=Zbd r h
theorem ZoW {F G:List Zd} (h:∀f∈F,f∈G):∀{l:List Zr},(∀x∈l,¬x.kind=2)→∀t∈ZM l F,t∈ZM l G:=by
 have:∀n (l:List Zr),l.length=n→(∀x∈l,¬x.kind=2)→∀t∈ZM l F,t∈ZM l G:=by
  intro n
  induction n with
  | zero=>intro l hl _ t mt;rw [AR hl] at mt ⊢;exact mt
  | succ n ih=>
   intro l hl hk
   obtain ⟨p,x,rfl⟩:∃p x,l=p++[x]:=⟨l.dropLast,l.getLast (by intro e;simp [e] at hl),(Aq _).symm⟩
   intro t mt
   rw [ZaR] at mt ⊢
   obtain ⟨s,ms,mt⟩:=AI.1 mt
   refine AI.2 ⟨s,ih p (by simpa using hl) (fun y my=>hk y (by simp [my])) s ms,?_⟩
   unfold ZgR at mt ⊢
   by_cases h1:x.kind=1
   ·rw [if_pos h1] at mt ⊢
    obtain ⟨f,mf,e⟩:=AU.1 mt
    exact AU.2 ⟨f,h f mf,e⟩
   ·have h2:=hk x yG
    have e:ZfV x s.binding G=ZfV x s.binding F:=by unfold ZfV;simp only[if_neg h1,if_neg h2]
    rw [if_neg h1] at mt ⊢
    rw [e]
    exact mt
 intro l hk
 exact this _ l rfl hk
theorem ZhD {F:List Zd} (h:Yw F=true):ZiF F:=by
 unfold Yw at h
 rw [A3] at h
 have hadj:∀i y x,F[i]?=some y→F[i+1]?=some x→Zdl y x<0:=fun i y x hy hx=>by
  have:=ZnB h.2 (i+1) x hx
  unfold ZeN at this
  rw [A3,AL,if_neg (by omega),Nat.add_sub_cancel,hy] at this
  simpa using this.2
 have key:∀(l:List Zd),(∀i y x,l[i]?=some y→l[i+1]?=some x→Zdl y x<0)→ZiF l:=by
  intro l
  induction l with
  | nil=>intro _;exact Ar
  | cons a l ih=>
   intro hl
   have hp:=ih (fun i y x hy hx=>hl (i+1) y x (by simpa using hy) (by simpa using hx))
   unfold ZiF at hp ⊢
   rw [AT]
   refine ⟨fun x mx=>?_,hp⟩
   cases l with
   | nil=>simp at mx
   | cons b l=>
    have hab:=hl 0 a b rfl rfl
    rcases A6.1 mx with rfl | mx
    ·exact hab
    ·rw [AT] at hp
     exact Zdq.tr _ _ _ hab (hp.1 x mx)
 exact key F hadj
def Z7 (a:Zx) (t:Zt):Zd:=(Zce (Zba a.pattern t.binding)).1
def Zhq (R:List Zf) (G:List Zd):Prop:=∀r∈R,∀t∈ZM (QZ r) G,∀a∈r.thn,Z7 a t∈G
structure Cl (R:List Zf) (base G:List Zd):Prop where
 asc:ZiF G
 base:∀f∈base,f∈G
 closed:Zhq R G
structure Zer (R:List Zf) (base F:List Zd):Prop where
 asc:ZiF F
 ok:∀f∈F,YH f=true
 inc:∀f∈base,f∈F
 low:∀G,Cl R base G→∀f∈F,f∈G
def Zlu (R:List Zf) (base:List Zd):Prop:=∀G,Cl R base G→25≤G.length
theorem Zer.over {R:List Zf} {base F:List Zd} (h:Zer R base F) (hl:25≤F.length):Zlu R base:=fun G hG=>AW hl (Zcs (Zg2 h.asc) (h.low G hG))
theorem Zer.add {R:List Zf} {base F:List Zd} (h:Zer R base F) {f:Zd} (hf:YH f=true) (a:∀G,Cl R base G→f∈G):Zer R base (Zdn F f) where
 asc:=Zoj h.asc
 ok:=fun g mg=>by
  rcases Qm.1 mg with rfl | mg
  ·exact hf
  ·exact h.ok g mg
 inc:=fun g mg=>Qm.2 (.inr (h.inc g mg))
 low:=fun G hG g mg=>by
  rcases Qm.1 mg with rfl | mg
  ·exact a G hG
  ·exact h.low G hG g mg
theorem ZiR {b:List Zp} (hb:ZX b=true):∀{p l:List ByteArray},Zd0 p b=some l→l.all ZP=true∧l.length=p.length
 | [],l,h=>by
  simp only[Zd0,Option.some.injEq] at h
  subst h
  simp
 | a::p,l,h=>by
  simp only[Zd0] at h
  obtain ⟨v,hv,h⟩:=Option.bind_eq_some_iff.1 h
  obtain ⟨l',c,rfl⟩:=Aj.1 h
  obtain ⟨h1,h2⟩:=ZiR hb c
  have ha:ZP v=true:=by
   unfold Xx at hv
   split at hv
   ·rename_i ha
    obtain rfl:=AS hv
    exact ha
   ·split at hv
    ·obtain ⟨x,mx,_,rfl⟩:=Zsh hv
     unfold ZX at hb
     rw [A3] at hb
     have:=(Zr3 hb.2 x mx).1
     unfold ZeA at this
     rw [A3] at this
     exact this.2
    ·simp at hv
  simp [ha,h1,h2]
theorem Zq4 {r:Zf} {F:List Zd} {t:Zt} (hr:ZU r=true) (ht:t∈ZM (QZ r) F) {a:Zx} (ma:a∈r.thn):YH (Z7 a t)=true:=by
 unfold ZU at hr
 simp only[A3] at hr
 have hk:a.kind=1:=by
  have:=AA.1 hr.2 a ma
  simpa using this
 have c:=Zec F _ t ht
 obtain ⟨h1,h2⟩:=ZrY hr.1.1 a ma hk
 have hp:=h1
 unfold Z0 at hp
 simp only[A3,decide_eq_true_iff] at hp
 obtain ⟨l,e,_⟩:=ZkQ (b:=t.binding) hp.2 (fun v mv hv=>c.vars v (by
  unfold QZ
  rw [Zob]
  exact h2 v mv hv))
 obtain ⟨h3,h4⟩:=ZiR c.bind e
 have:Zba a.pattern t.binding=some { rel:=a.pattern.rel,args:=l }:=by
  unfold Zba
  rw [if_pos ⟨h1,c.bind⟩,e]
  rfl
 unfold Z7
 rw [this]
 show YH { rel:=a.pattern.rel,args:=l }=true
 unfold YH
 simp only[A3,decide_eq_true_iff]
 exact ⟨⟨hp.1.1,yE⟩,h3⟩
theorem Zer.derived {R:List Zf} {base F:List Zd} (h:Zer R base F) {r:Zf} (mr:r∈R) {t:Zt} (mt:t∈ZM (QZ r) F) {a:Zx} (ma:a∈r.thn):∀G,Cl R base G→Z7 a t∈G:=
 fun G hG=>hG.closed r mr t (ZoW (h.low G hG) Zsm t mt) a ma
def Res (R:List Zf) (base:List Zd) (x:List Zd × Bool):Prop:=
 (x.2=true∧Zer R base x.1∧x.1.length≤24∧Zhq R x.1)∨(x.2=false∧x.1=[]∧Zlu R base)
theorem Res.uniq {R:List Zf} {base:List Zd} {x y:List Zd × Bool} (hx:Res R base x) (hy:Res R base y):x=y:=by
 obtain ⟨F,b⟩:=x
 obtain ⟨G,c⟩:=y
 rcases hx with ⟨h1,h2,h3,h4⟩ | ⟨h1,h2,h3⟩<;>rcases hy with ⟨k1,k2,k3,k4⟩ | ⟨k1,k2,k3⟩<;>simp only at h1 h2 h3 k1 k2 k3<;>subst h1<;>subst k1
 ·have e:F=G:=Zkc h2.asc k2.asc fun f=>⟨fun hf=>h2.low G ⟨k2.asc,k2.inc,k4⟩ f hf,fun hf=>k2.low F ⟨h2.asc,h2.inc,h4⟩ f hf⟩
  rw [e]
 ·have:=k3 F ⟨h2.asc,h2.inc,h4⟩
  omega
 ·have:=h3 G ⟨k2.asc,k2.inc,k4⟩
  omega
 ·rw [h2,k2]
structure ZhZ (R:List Zf) (base row0:List Zd) (s:List Zd × Bool):Prop where
 good:Zer R base s.1
 len:s.1.length≤24
 sub:∀f∈row0,f∈s.1
 grow:s.2=true→row0.length<s.1.length
 same:s.2=false→s.1=row0
theorem ZsD {ρ:Type} {R:List Zf} {base c:List Zd} {r:Zf} (mr:r∈R) (hr:ZU r=true) {d:List Zd} (hS:Zer R base d) {t:Zt} (mt:t∈ZM (QZ r) d) {q:ρ}
  {body:Nat→Zx→(List Zd × Bool)→Option ((List Zd × Bool) ⊕ ρ)}
  (hb:∀i a s,body i a s=(Z8 s.1 (Z7 a t)).bind fun j=>if (decide (0≤j))=true then some (.inl s) else if (decide (24≤((s.1.length:Nat):Int)))=true then some (.inr q) else (XF s.1 (Z7 a t)).bind fun k=>some (.inl (k,true)))
  (s:List Zd × Bool) (h:ZhZ R base c s):
  (∃s',(∀fin:(List Zd × Bool)→Option ρ,Zn body fin r.thn 0 s=fin s')∧ZhZ R base c s'∧(s'.2=false→s.2=false∧∀a∈r.thn,Z7 a t∈c))∨((∀fin:(List Zd × Bool)→Option ρ,Zn body fin r.thn 0 s=some q)∧Zlu R base):=by
 rcases Zbj (body:=body) (fun p s'=>ZhZ R base c s'∧(s'.2=false→s.2=false∧∀a∈p,Z7 a t∈c)) (fun x=>x=q∧Zlu R base) r.thn s ⟨h,fun hs=>⟨hs,yG⟩⟩ (fun p a s' ma hp hI=>by
  obtain ⟨hP,hC⟩:=hI
  rw [hb]
  obtain ⟨z,hz,o⟩:=ZlY s'.1 (Z7 a t)
  rw [hz,A0]
  have g:=Zq4 hr mt ma
  have u:=hS.derived mr mt ma
  by_cases hm:Z7 a t∈s'.1
  ·left
   have v:¬z<0:=fun h=>o.1 h hm
   rw [if_pos (by simp;omega)]
   refine ⟨s',rfl,hP,fun hs=>⟨(hC hs).1,fun b mb=>?_⟩⟩
   rcases A4.1 mb with mb | mb
   ·exact (hC hs).2 b mb
   ·simp at mb
    subst mb
    rw [←hP.same hs]
    exact hm
  ·have v:=o.2 hm
   rw [if_neg (by simp;omega)]
   by_cases h24:24≤s'.1.length
   ·right
    rw [if_pos (by simp;omega)]
    refine ⟨q,rfl,rfl,(hP.good.add g u).over ?_⟩
    rw [ZhK hm]
    omega
   ·left
    rw [if_neg (by simp;omega),ZnZ _ _ hm yE (fun f mf=>by have:=Xg (hP.good.ok f mf);omega) (by have:=Xg g;omega),A0]
    refine ⟨_,rfl,⟨hP.good.add g u,by rw [ZhK hm];omega,fun f mf=>Qm.2 (.inr (hP.sub f mf)),fun _=>?_,fun h=>by simp at h⟩,fun h=>by simp at h⟩
    rw [ZhK hm]
    have:=Zcs (l:=c) (m:=s'.1)
    cases hs:s'.2 with
    | true=>have:=hP.grow hs;omega
    | false=>rw [hP.same hs];omega) with ⟨s',e,h'⟩ | ⟨x,e,rfl,h'⟩
 ·exact .inl ⟨s',e,h'⟩
 ·exact .inr ⟨e,h'⟩
theorem ZrI {ρ:Type} {R:List Zf} {base b:List Zd} {r:Zf} (mr:r∈R) (hr:ZU r=true) {q:ρ}
  {ab:Zt→Nat→Zx→(List Zd × Bool)→Option ((List Zd × Bool) ⊕ ((List Zd × Bool) ⊕ ρ))} {body:Nat→Zt→(List Zd × Bool)→Option ((List Zd × Bool) ⊕ ρ)}
  (f:∀t i a s,ab t i a s=(Z8 s.1 (Z7 a t)).bind fun c=>if (decide (0≤c))=true then some (.inl s) else if (decide (24≤((s.1.length:Nat):Int)))=true then some (.inr (.inr q)) else (XF s.1 (Z7 a t)).bind fun d=>some (.inl (d,true)))
  (hb:∀i t s,body i t s=Zn (ab t) (fun s=>some (.inl s)) r.thn 0 s)
  (s:List Zd × Bool) (h:ZhZ R base b s):
  (∃s',(∀fin:(List Zd × Bool)→Option ρ,Zn body fin (ZM (QZ r) s.1) 0 s=fin s')∧ZhZ R base b s'∧(s'.2=false→s.2=false∧∀t∈ZM (QZ r) b,∀a∈r.thn,Z7 a t∈b))∨((∀fin:(List Zd × Bool)→Option ρ,Zn body fin (ZM (QZ r) s.1) 0 s=some q)∧Zlu R base):=by
 rcases Zbj (body:=body) (fun p s'=>ZhZ R base b s'∧(s'.2=false→s.2=false∧∀t∈p,∀a∈r.thn,Z7 a t∈b)) (fun x=>x=q∧Zlu R base) (ZM (QZ r) s.1) s ⟨h,fun hs=>⟨hs,yG⟩⟩ (fun p t s' mt hp hI=>by
  obtain ⟨hP,hC⟩:=hI
  rw [hb]
  rcases ZsD mr hr h.good mt (f t) s' hP with ⟨s2,e2,g,j⟩ | ⟨e2,ho⟩
  ·left
   refine ⟨s2,e2 _,g,fun hs=>?_⟩
   obtain ⟨k1,k2⟩:=j hs
   obtain ⟨k3,k4⟩:=hC k1
   refine ⟨k3,fun u mu=>?_⟩
   rcases A4.1 mu with mu | mu
   ·exact k4 u mu
   ·simp at mu
    subst mu
    exact k2
  ·exact .inr ⟨q,e2 _,rfl,ho⟩) with ⟨s',e,hP,hC⟩ | ⟨x,e,rfl,h'⟩
 ·refine .inl ⟨s',e,hP,fun hs=>?_⟩
  obtain ⟨k1,k2⟩:=hC hs
  exact ⟨k1,by rw [h.same k1] at k2;exact k2⟩
 ·exact .inr ⟨e,h'⟩
theorem ZwX {ρ:Type} {R:List Zf} {base b:List Zd} (hL:∀r∈R,ZU r=true) (h0:Zer R base b) (g:b.length≤24) {q:ρ}
  {ab:Zt→Nat→Zx→(List Zd × Bool)→Option ((List Zd × Bool) ⊕ ((List Zd × Bool) ⊕ ((List Zd × Bool) ⊕ ρ)))} {tb:Zf→Nat→Zt→(List Zd × Bool)→Option ((List Zd × Bool) ⊕ ((List Zd × Bool) ⊕ ρ))} {body:Nat→Zf→(List Zd × Bool)→Option ((List Zd × Bool) ⊕ ρ)}
  (j:∀t i a s,ab t i a s=(Z8 s.1 (Z7 a t)).bind fun c=>if (decide (0≤c))=true then some (.inl s) else if (decide (24≤((s.1.length:Nat):Int)))=true then some (.inr (.inr (.inr q))) else (XF s.1 (Z7 a t)).bind fun d=>some (.inl (d,true)))
  (k:∀r i t s,tb r i t s=Zn (ab t) (fun s=>some (.inl s)) r.thn 0 s)
  (hb:∀i r s,r∈R→s.1.length≤24→(∀f∈s.1,YH f=true)→body i r s=Zn (tb r) (fun s=>some (.inl s)) (ZM (QZ r) s.1) 0 s):
  (∃s',(∀fin:(List Zd × Bool)→Option ρ,Zn body fin R 0 (b,false)=fin s')∧ZhZ R base b s'∧(s'.2=false→Zhq R b))∨((∀fin:(List Zd × Bool)→Option ρ,Zn body fin R 0 (b,false)=some q)∧Zlu R base):=by
 rcases Zbj (body:=body) (fun p s'=>ZhZ R base b s'∧(s'.2=false→∀r∈p,∀t∈ZM (QZ r) b,∀a∈r.thn,Z7 a t∈b)) (fun x=>x=q∧Zlu R base) R (b,false) ⟨⟨h0,g,fun f mf=>mf,fun h=>by simp at h,fun _=>rfl⟩,yG⟩ (fun p r s' mr hp hI=>by
  obtain ⟨hP,hC⟩:=hI
  rw [hb _ _ _ mr hP.len hP.good.ok]
  rcases ZrI (q:=.inr q) mr (hL r mr) (j) (k r) s' hP with ⟨s2,e2,l,m⟩ | ⟨e2,ho⟩
  ·left
   refine ⟨s2,e2 _,l,fun hs=>?_⟩
   obtain ⟨k1,k2⟩:=m hs
   intro u mu
   rcases A4.1 mu with mu | mu
   ·exact hC k1 u mu
   ·simp at mu
    subst mu
    exact k2
  ·exact .inr ⟨q,e2 _,rfl,ho⟩) with ⟨s',e,hP,hC⟩ | ⟨x,e,rfl,h'⟩
 ·exact .inl ⟨s',e,hP,hC⟩
 ·exact .inr ⟨e,h'⟩
theorem ZsQ {R:List Zf} {base:List Zd} {body:(List Zd × Bool)→Option ((List Zd × Bool) ⊕ (List Zd × Bool))} (b:∀row,body (row,false)=some (.inr (row,true)))
  (c:∀row,Zer R base row→row.length≤24→(∃s',body (row,true)=some (.inl s')∧ZhZ R base row s'∧(s'.2=false→Zhq R row))∨(body (row,true)=some (.inr ([],false))∧Zlu R base)) (a:Zer R base base) (d:base.length≤24):∃x,Y5 body (base,true)=some x∧Res R base x:=by
 have key:∀n row,Zer R base row→row.length≤24→25≤row.length+n→∃x,Y5 body (row,true)=some x∧Res R base x:=by
  intro n
  induction n with
  | zero=>intro row _ h3 h4;omega
  | succ n ih=>
   intro row hg hl hn
   rcases c row hg hl with ⟨⟨f,u⟩,e,hP,hC⟩ | ⟨e,ho⟩
   ·rw [YU e]
    cases u with
    | true=>
     have:=hP.grow rfl
     exact ih f hP.good hP.len (by simp only at this;omega)
    | false=>
     have hs:=hP.same rfl
     simp only at hs
     subst hs
     exact ⟨_,YG (b _),.inl ⟨rfl,hP.good,hP.len,hC rfl⟩⟩
   ·exact ⟨_,YG e,.inr ⟨rfl,rfl,ho⟩⟩
 exact key 25 base a d yE
theorem Zgx {R:List Zf} (hR:ZbC R) (base:List Zd):(¬(Yn R&&R.all (YN R))=true∨¬Yw base=true→Yf R base=some ([],false))∧((Yn R&&R.all (YN R))=true→Yw base=true→∃x,Yf R base=some x∧Res R base x):=by
 constructor
 ·intro h
  unfold Yf
  rw [ZeY hR,A0]
  split
  ·rename_i h1
   rw [ZgU,A0,if_neg (h.resolve_left (fun h=>h h1))]
  ·rfl
 ·intro h1 h2
  have hL:∀r∈R,ZU r=true:=fun r mr=>by
   rw [A3] at h1
   have:=AA.1 h1.2 r mr
   unfold YN at this
   rw [A3] at this
   exact this.1
  have j:∀r∈R,r.cond.length≤4:=fun r mr=>by
   have:=hL r mr
   unfold ZU at this
   simp only[A3] at this
   exact (ZbZ this.1.1).1
  obtain ⟨k,l⟩:=Zds h2
  have g:Zer R base base:=⟨ZhD h2,l,fun f mf=>mf,fun G hG f mf=>hG.base f mf⟩
  unfold Yf
  rw [ZeY hR,A0,if_pos h1,ZgU,A0,if_pos h2,ZfZ _ yE (fun f mf=>by have:=Xg (l f mf);omega),A0]
  refine ZsQ (fun row=>rfl) (fun row hg hl=>?_) g k
  have m:=ZwX (ρ:=(List Zd × Bool) ⊕ (List Zd × Bool)) (q:=.inr ([],false)) hL hg hl
   (ab:=fun t _ a s=>(Z8 s.1 (Z7 a t)).bind fun b=>if (decide (0≤b))=true then some (.inl s) else if (decide (24≤((s.1.length:Nat):Int)))=true then some (.inr (.inr (.inr (.inr ([],false))))) else (XF s.1 (Z7 a t)).bind fun c=>some (.inl (c,true)))
   (tb:=fun r _ t s=>Zn (fun _ a s=>(Z8 s.1 (Z7 a t)).bind fun b=>if (decide (0≤b))=true then some (.inl s) else if (decide (24≤((s.1.length:Nat):Int)))=true then some (.inr (.inr (.inr (.inr ([],false))))) else (XF s.1 (Z7 a t)).bind fun c=>some (.inl (c,true))) (fun s=>some (.inl s)) r.thn 0 s)
   (body:=fun _ r s=>(YA r).bind fun o=>(Zam o s.1).bind fun p=>Zn (fun _ t s=>Zn (fun _ a s=>(XZ a.pattern t.binding).bind fun d=>(Z8 s.1 d.1).bind fun b=>if (decide (0≤b))=true then some (.inl s) else if (decide (24≤((s.1.length:Nat):Int)))=true then some (.inr (.inr (.inr (.inr ([],false))))) else (XF s.1 d.1).bind fun c=>some (.inl (c,true))) (fun s=>some (.inl s)) r.thn 0 s) (fun s=>some (.inl s)) p 0 s)
   (fun _ _ _ _=>rfl) (fun _ _ _ _=>rfl) (fun i r s mr hs u=>by
    show (YA r).bind _=_
    rw [Zbd r (by have:=j r mr;omega),A0,ZgN _ _ (by have:=Zc9 r;have:=j r mr;omega) hs (fun f mf=>Xg (u f mf)),A0]
    simp only[ZdQ,A0]
    rfl)
  rcases m with ⟨s',e,hP,hC⟩ | ⟨e,ho⟩
  ·exact .inl ⟨s',e (fun s=>some (.inl s)),hP,hC⟩
  ·exact .inr ⟨e (fun s=>some (.inl s)),ho⟩
structure Zlk (R:List Zf) (base l:List Zd) (row:List Zd):Prop where
 good:Zer R base row
 sub:∀f∈l,f∈row
theorem Zzl {ρ:Type} {R:List Zf} {base l:List Zd} {r:Zf} (mr:r∈R) (hr:ZU r=true) (hS:Zer R base l) {t:Zt} (mt:t∈ZM (QZ r) l) {N:Nat} (hN:N≤1000000) (ht2:r.thn.length≤2)
  {body:Nat→Zx→List Zd→Option (List Zd ⊕ ρ)} (hb:∀i a row,body i a row=(YI row (Z7 a t)).bind fun v=>some (.inl v)) (row:List Zd) (h:Zlk R base l row) (d:row.length≤N):
  ∃c,(∀fin:List Zd→Option ρ,Zn body fin r.thn 0 row=fin c)∧Zlk R base l c∧c.length≤N+2∧(∀f∈row,f∈c)∧∀a∈r.thn,Z7 a t∈c:=by
 obtain ⟨c,e,h1,h2,h3,h4⟩:=Zd4 (body:=body) (fun p c=>Zlk R base l c∧c.length≤N+p.length∧(∀f∈row,f∈c)∧∀a∈p,Z7 a t∈c) r.thn row ⟨h,by simpa using d,fun f mf=>mf,yG⟩ (fun p a c ma hp hI=>by
  obtain ⟨h1,h2,h3,h4⟩:=hI
  have g:=Zq4 hr mt ma
  rw [hb,Zk2 _ _ yE (fun f mf=>by have:=Xg (h1.good.ok f mf);omega) (by have:=Xg g;omega),A0]
  refine ⟨_,rfl,⟨h1.good.add g (hS.derived mr mt ma),fun f mf=>Qm.2 (.inr (h1.sub f mf))⟩,?_,fun f mf=>Qm.2 (.inr (h3 f mf)),fun b mb=>?_⟩
  ·have:=ZjK (Z7 a t) c
   simp only[A8,Ag]
   omega
  ·rcases A4.1 mb with mb | mb
   ·exact Qm.2 (.inr (h4 b mb))
   ·simp at mb
    subst mb
    exact Qm.2 (.inl rfl))
 exact ⟨c,e,h1,yE,h3,h4⟩
theorem ZyE {ρ:Type} {R:List Zf} {base l:List Zd} {r:Zf} (mr:r∈R) (hr:ZU r=true) (hS:Zer R base l) (c:l.length≤24) (hc4:r.cond.length≤4) (j:r.thn.length≤2)
  {body:Nat→Zt→List Zd→Option (List Zd ⊕ ρ)} (hb:∀i t row,t∈ZM (QZ r) l→body i t row=Zn (fun (_:Nat) (a:Zx) row=>(YI row (Z7 a t)).bind fun v=>(some (.inl v):Option (List Zd ⊕ (List Zd ⊕ ρ)))) (fun row=>some (.inl row)) r.thn 0 row) (row:List Zd) (h:Zlk R base l row) (d:row.length≤24):
  ∃b,(∀fin:List Zd→Option ρ,Zn body fin (ZM (QZ r) l) 0 row=fin b)∧Zlk R base l b∧(∀f∈row,f∈b)∧∀t∈ZM (QZ r) l,∀a∈r.thn,Z7 a t∈b:=by
 have hn:=ZeI l c (QZ r) (by have:=Zc9 r;omega)
 obtain ⟨b,e,h1,h2,h3,h4⟩:=Zd4 (body:=body) (fun p b=>Zlk R base l b∧b.length≤24+2 * p.length∧(∀f∈row,f∈b)∧∀t∈p,∀a∈r.thn,Z7 a t∈b) (ZM (QZ r) l) row ⟨h,by simpa using d,fun f mf=>mf,yG⟩ (fun p t b mt hp hI=>by
  obtain ⟨h1,h2,h3,h4⟩:=hI
  rw [hb _ _ _ mt]
  obtain ⟨g,e2,k1,k2,k3,k4⟩:=Zzl (ρ:=List Zd ⊕ ρ) (body:=fun (_:Nat) (a:Zx) row=>(YI row (Z7 a t)).bind fun v=>some (.inl v)) mr hr hS mt (N:=24+2 * p.length) yE j (fun _ _ _=>rfl) b h1 h2
  refine ⟨g,e2 _,k1,by simp only[A8,Ag];omega,fun f mf=>k3 f (h3 f mf),fun u mu a ma=>?_⟩
  rcases A4.1 mu with mu | mu
  ·exact k3 _ (h4 u mu a ma)
  ·simp at mu
   subst mu
   exact k4 a ma)
 exact ⟨b,e,h1,h3,h4⟩
theorem Zgz {R:List Zf} (hR:ZbC R) (base:List Zd) (g:base.length≤1048576):(¬(Yn R&&R.all (YN R))=true∨¬Yw base=true→Yg R base=some ([],false))∧((Yn R&&R.all (YN R))=true→Yw base=true→∃x,Yg R base=some x∧Res R base x):=by
 constructor
 ·intro h
  unfold Yg
  rw [Ze4 hR,A0]
  split
  ·rename_i h1
   rw [ZgI _ g,A0,if_neg (h.resolve_left (fun h=>h h1))]
  ·rfl
 ·intro h1 h2
  have hL:∀r∈R,ZU r=true:=fun r mr=>by
   rw [A3] at h1
   have:=AA.1 h1.2 r mr
   unfold YN at this
   rw [A3] at this
   exact this.1
  have y:∀r∈R,r.cond.length≤4∧r.thn.length≤2:=fun r mr=>by
   have:=hL r mr
   unfold ZU at this
   simp only[A3] at this
   exact ZbZ this.1.1
  obtain ⟨m,o⟩:=Zds h2
  have j:Zer R base base:=⟨ZhD h2,o,fun f mf=>mf,fun G hG f mf=>hG.base f mf⟩
  unfold Yg
  rw [Ze4 hR,A0,if_pos h1,ZgI _ g,A0,if_pos h2,ZdJ _ yE (fun f mf=>by have:=Xg (o f mf);omega),A0]
  refine ZsQ (fun row=>rfl) (fun l hg hl=>?_) j m
  rcases Zbj (σ:=List Zd) (ρ:=(List Zd × Bool) ⊕ (List Zd × Bool)) (body:=fun (_:Nat) (r:Zf) row=>(Xv r).bind fun q=>(Zai q l).bind fun v=>Zn (fun _ t row=>Zn (fun _ a row=>(Y2 a.pattern t.binding).bind fun b=>(YI row b.1).bind fun c=>some (.inl c)) (fun row=>some (.inl row)) r.thn 0 row) (fun row=>if (decide (24<((row.length:Nat):Int)))=true then some (.inr (.inr ([],false))) else some (.inl row)) v 0 row)
   (fun p row=>Zlk R base l row∧row.length≤24∧∀r∈p,∀t∈ZM (QZ r) l,∀a∈r.thn,Z7 a t∈row) (fun x=>x=.inr ([],false)∧Zlu R base) R l ⟨⟨hg,fun f mf=>mf⟩,hl,yG⟩ (fun p r row mr hp hI=>by
    obtain ⟨i1,i2,i3⟩:=hI
    obtain ⟨z,A⟩:=y r mr
    obtain ⟨w,e,k1,k3,k4⟩:=ZyE (ρ:=List Zd ⊕ ((List Zd × Bool) ⊕ (List Zd × Bool))) (body:=fun (_:Nat) (t:Zt) row=>Zn (fun _ a row=>(Y2 a.pattern t.binding).bind fun b=>(YI row b.1).bind fun c=>some (.inl c)) (fun row=>some (.inl row)) r.thn 0 row) mr (hL r mr) hg hl z A (fun i t row mt=>by
     have hb6:=Qr (Zec l _ t mt).bind
     have e1:∀p,Y2 p t.binding=some (Zce (Zba p t.binding)):=fun p=>ZgM p t.binding yE
     simp only[e1,A0]
     rfl) row i1 i2
    simp only[Zef r yE,A0,ZgX (QZ r) l (by have:=Zc9 r;omega) hl (fun f mf=>Xg (hg.ok f mf)),e]
    by_cases h24:24<w.length
    ·rw [if_pos (by simp;omega)]
     exact .inr ⟨_,rfl,rfl,k1.good.over yE⟩
    ·rw [if_neg (by simp;omega)]
     refine .inl ⟨_,rfl,k1,yE,fun u mu t mt a ma=>?_⟩
     rcases A4.1 mu with mu | mu
     ·exact k3 _ (i3 u mu t mt a ma)
     ·simp at mu
      subst mu
      exact k4 t mt a ma) with ⟨row,e,hP,hlen,hC⟩ | ⟨x,e,rfl,ho⟩
  ·left
   refine ⟨_,e (fun row=>some (.inl (row,decide (((l.length:Nat):Int)<((row.length:Nat):Int))))),?_⟩
   by_cases k:l.length<row.length
   ·have hd:decide (((l.length:Nat):Int)<((row.length:Nat):Int))=true:=by simpa using k
    rw [hd]
    exact ⟨⟨hP.good,hlen,hP.sub,fun _=>k,fun h=>by simp at h⟩,fun h=>by simp at h⟩
   ·have hd:decide (((l.length:Nat):Int)<((row.length:Nat):Int))=false:=by simpa using k
    have d:=ZqP (Zg2 hg.asc) hP.sub yE
    have B:row=l:=Zkc hP.good.asc hg.asc fun f=>⟨d f,hP.sub f⟩
    rw [hd]
    exact ⟨⟨hP.good,hlen,hP.sub,fun h=>by simp at h,fun _=>B⟩,fun _ r mr t mt a ma=>d _ (hC r mr t mt a ma)⟩
  ·exact .inr ⟨e (fun row=>some (.inl (row,decide (((l.length:Nat):Int)<((row.length:Nat):Int))))),ho⟩
theorem Zhe {R:List Zf} (hR:ZbC R) (base:List Zd) (a:base.length≤1048576):∃x,Yg R base=some x∧Yf R base=some x∧(x=([],false)∨(Yn R&&R.all (YN R))=true∧Yw base=true∧Res R base x):=by
 obtain ⟨s1,s2⟩:=Zgz hR base a
 obtain ⟨i1,i2⟩:=Zgx hR base
 by_cases h1:(Yn R&&R.all (YN R))=true
 ·by_cases h2:Yw base=true
  ·obtain ⟨x,e1,r1⟩:=s2 h1 h2
   obtain ⟨y,e2,r2⟩:=i2 h1 h2
   rw [←r1.uniq r2] at e2
   exact ⟨x,e1,e2,.inr ⟨h1,h2,r1⟩⟩
  ·exact ⟨_,s1 (.inr h2),i1 (.inr h2),.inl rfl⟩
 ·exact ⟨_,s1 (.inl h1),i1 (.inl h1),.inl rfl⟩
theorem ZGX {α:Type} {f:α→Nat} {N:Nat}:∀{l:List α},(∀x∈l,f x≤N)→(l.map f).sum≤l.length * N
 | [],_=>by simp
 | x::l,h=>by
  have h1:=h x yG
  have h2:=ZGX (l:=l) fun y my=>h y (by simp [my])
  simp only[Ah,BJ,AE,Nat.add_mul]
  omega
theorem ZIr {f:Zd} (h:YH f=true):ZC2 f≤64:=by
 unfold YH Qc at h
 simp only[A3,decide_eq_true_eq,AA] at h
 obtain ⟨⟨⟨h1,_⟩,h2⟩,h3⟩:=h
 have h4:=(ZeH h1).2
 have h5:(f.args.map ByteArray.size).sum≤f.args.length * 8:=ZGX fun x mx=>(ZeH (h3 x mx)).2
 unfold ZC2 ZDs
 omega
end
def ZvD (l:List Int) (x:Int):Bool:=l.any fun y=>y==x
theorem Zoz {l:List Int} {x:Int}:ZvD l x=true↔x∈l:=by simp [ZvD]
theorem Zpi (l:List Int) (x:Int):ZfM l x=some (ZvD l x):=by
 unfold ZfM ZvD
 rw [Zc7 (p:=fun y=>y==x) (r:=true)]
 ·cases l.any fun y=>y==x<;>simp
 ·intro i y _
  cases y==x<;>simp
theorem Zr0 {l:List Int} {x:Int}:x∈Zjh l↔x∈l:=(BO l _).mem_iff
theorem ZrU {l:List Int} (h:l.Nodup):(Zjh l).Pairwise (·<·):=by
 have h1:(Zjh l).Pairwise fun x y=>decide (x≤y)=true:=List.pairwise_mergeSort (fun a b c h1 h2=>by simp at *;omega) (fun a b=>by simp;omega) l
 have h2:(Zjh l).Nodup:=(BO l _).nodup_iff.2 h
 have h3:(Zjh l).Pairwise (·≠·):=h2
 exact (h1.and h3).imp fun ⟨a,b⟩=>by simp at a;omega
def Zdm:List Int→Int→List Int
 | [],x=>[x]
 | y::l,x=>if y<x then y::Zdm l x else if y=x then y::l else x::y::l
theorem ZpO (l:List Int) (x:Int) (h:l.length+1≤1073741824):Zga l x=some (Zdm l x):=by
 unfold Zga
 refine (Q6 (fun l _ (st:List Int × Bool)=>some (if st.2=true then st.1++l else st.1++Zdm l x)) (fun l _ (st:List Int × Bool)=>st.1.length+l.length+(if st.2=true then 0 else 1)≤1073741824) ?_ ?_ l 0 ([],false) (by simpa using h)).trans yG
 ·rintro i ⟨row,d⟩ hI
  cases d with
  | true=>simp
  | false=>simp only[A7,if_false,Zdm];simp at hI;rw [Zi _ yE]
 ·rintro y l i ⟨row,d⟩ hI
  left
  cases d with
  | true=>
   simp at hI
   exact ⟨(row++[y],true),by simp only[if_true];rw [Zi _ yE],by simp;omega,yG⟩
  | false=>
   simp at hI
   by_cases h1:x≤y
   ·by_cases h2:y=x
    ·subst h2
     exact ⟨(row++[y],true),by simp;rw [Zi _ yE],by simp;omega,by simp [Zdm]⟩
    ·exact ⟨(row++[x]++[y],true),by simp [h1,h2];rw [Zi _ yE,Zi _ yE],by simp;omega,by simp [Zdm,h2,show ¬y<x by omega]⟩
   ·exact ⟨(row++[y],false),by simp [h1];rw [Zi _ yE],by simp;omega,by simp [Zdm,show y<x by omega]⟩
theorem Zle {x y:Int}:∀{l:List Int},y∈Zdm l x↔y=x∨y∈l
 | []=>by simp [Zdm]
 | z::l=>by
  simp only[Zdm]
  split
  ·rw [A6,Zle,A6]
   constructor
   ·rintro (h | h | h)<;>simp [h]
   ·rintro (h | h | h)<;>simp [h]
  ·split
   ·rename_i h;subst h;simp
   ·simp
theorem Zpa {x:Int}:∀{l:List Int},l.Pairwise (·<·)→(Zdm l x).Pairwise (·<·)
 | [],_=>by simp [Zdm]
 | z::l,h=>by
  rw [AT] at h
  simp only[Zdm]
  split
  ·rw [AT]
   refine ⟨fun y hy=>?_,Zpa h.2⟩
   rcases Zle.1 hy with rfl | hy
   ·assumption
   ·exact h.1 y hy
  ·split
   ·rw [AT];exact h
   ·rw [AT,AT]
    refine ⟨fun y hy=>?_,h⟩
    rcases A6.1 hy with rfl | hy
    ·omega
    ·have:=h.1 y hy;omega
theorem Zpx (x:Int):∀l:List Int,(Zdm l x).length≤l.length+1
 | []=>by simp [Zdm]
 | z::l=>by
  simp only[Zdm]
  split
  ·have:=Zpx x l;simp;omega
  ·split<;>simp
section
open Classical
section
variable {α σ ρ:Type} {body:Nat→α→σ→Option (σ ⊕ ρ)} {fin:σ→Option ρ}
theorem Zka (st:List α→σ) (ok:List α→Prop) [DecidablePred ok] (q:ρ) (l:List α) (h0:ok []) (b:∀p r,l=p++r→ok l→ok p)
  (h:∀p x r,l=p++x::r→ok p→body p.length x (st p)=if ok (p++[x]) then some (.inl (st (p++[x]))) else some (.inr q)):Zn body fin l 0 (st [])=if ok l then fin (st l) else some q:=by
 have key:∀(r a:List α),l=a++r→ok a→Zn body fin r a.length (st a)=if ok l then fin (st l) else some q:=by
  intro r
  induction r with
  | nil=>intro a e hp;rw [BP] at e;subst e;rw [if_pos hp];rfl
  | cons x r ih=>
   intro a e hp
   have hx:=h a x r e hp
   have e2:l=(a++[x])++r:=by rw [e];simp
   by_cases hk:ok (a++[x])
   ·rw [if_pos hk] at hx
    rw [ZV hx]
    simpa using ih (a++[x]) e2 hk
   ·rw [if_neg hk] at hx
    rw [Ya hx,if_neg fun hl=>hk (b _ _ e2 hl)]
 exact key l [] rfl h0
end
noncomputable def Zqa:List Zd→Zd→Nat→Int
 | [],_,_=>-1
 | x::l,f,i=>if x=f then ((i:Nat):Int) else Zqa l f (i+1)
noncomputable def Z9 (l:List Zd) (f:Zd):Int:=Zqa l f 0
theorem ZbE (l:List Zd) (f:Zd):Z8 l f=some (Z9 l f):=by
 unfold Z8 Z9
 generalize 0=i
 induction l generalizing i with
 | nil=>rfl
 | cons x l ih=>
  by_cases hx:x=f
  ·rw [Ya (r:=((i:Nat):Int)) (by rw [ZbI,A0,if_pos (decide_eq_true hx)])]
   simp [Zqa,hx]
  ·rw [ZV (s':=()) (by rw [ZbI,A0,if_neg (by simpa using hx)]),ih (i+1)]
   simp [Zqa,hx]
theorem Zbw (l:List Zd) (f:Zd):Ql l f=some (Z9 l f):=ZbE l f
theorem Zm1 {f:Zd}:∀{l:List Zd} {i:Nat},(f∉l∧Zqa l f i=-1)∨∃j,Zqa l f i=((i+j:Nat):Int)∧l[j]?=some f
 | [],i=>.inl ⟨yG,rfl⟩
 | x::l,i=>by
  unfold Zqa
  by_cases hx:x=f
  ·rw [if_pos hx];exact .inr ⟨0,yG,by simp [hx]⟩
  ·rw [if_neg hx]
   rcases Zm1 (f:=f) (l:=l) (i:=i+1) with ⟨h1,h2⟩ | ⟨j,h1,h2⟩
   ·exact .inl ⟨by simp only[A6,not_or];exact ⟨fun e=>hx e.symm,h1⟩,h2⟩
   ·exact .inr ⟨j+1,by rw [h1];congr 1;omega,by simpa using h2⟩
theorem Zhd (l:List Zd) (f:Zd):(f∉l∧Z9 l f=-1)∨∃j,Z9 l f=((j:Nat):Int)∧l[j]?=some f:=by
 have:=Zm1 (f:=f) (l:=l) (i:=0)
 simpa [Z9] using this
theorem Zgc {l:List Zd} {f:Zd} (h:f∈l):∃j,Z9 l f=((j:Nat):Int)∧l[j]?=some f:=(Zhd l f).resolve_left fun h'=>h'.1 h
noncomputable def Zaq (F l:List Zd):List Int:=l.foldl (fun row f=>if 0≤Z9 F f then Zdm row (Z9 F f) else row) []
theorem Zha (F:List Zd):∀(l:List Zd) (row:List Int),row.Pairwise (·<·)→(l.foldl (fun row f=>if 0≤Z9 F f then Zdm row (Z9 F f) else row) row).Pairwise (·<·)∧(∀x,x∈l.foldl (fun row f=>if 0≤Z9 F f then Zdm row (Z9 F f) else row) row↔x∈row∨∃f∈l,Z9 F f=x∧0≤x)∧(l.foldl (fun row f=>if 0≤Z9 F f then Zdm row (Z9 F f) else row) row).length≤row.length+l.length
 | [],row,h=>⟨h,yG,yG⟩
 | f::l,row,h=>by
  rw [AB]
  by_cases h0:0≤Z9 F f
  ·rw [if_pos h0]
   obtain ⟨h1,h2,h3⟩:=Zha F l (Zdm row (Z9 F f)) (Zpa h)
   have:=Zpx (Z9 F f) row
   refine ⟨h1,fun x=>?_,by simp only[AE];omega⟩
   rw [h2,Zle]
   constructor
   ·rintro ((rfl | h) | ⟨g,mg,e⟩)
    ·exact .inr ⟨f,yG,rfl,h0⟩
    ·exact .inl h
    ·exact .inr ⟨g,by simp [mg],e⟩
   ·rintro (h | ⟨g,mg,e,e0⟩)
    ·exact .inl (.inr h)
    ·rcases A6.1 mg with rfl | mg
     ·exact .inl (.inl e.symm)
     ·exact .inr ⟨g,mg,e,e0⟩
  ·rw [if_neg h0]
   obtain ⟨h1,h2,h3⟩:=Zha F l row h
   refine ⟨h1,fun x=>?_,by simp only[AE];omega⟩
   rw [h2]
   constructor
   ·rintro (h | ⟨g,mg,e⟩)
    ·exact .inl h
    ·exact .inr ⟨g,by simp [mg],e⟩
   ·rintro (h | ⟨g,mg,e,e0⟩)
    ·exact .inl h
    ·rcases A6.1 mg with rfl | mg
     ·rw [e] at h0;exact absurd e0 h0
     ·exact .inr ⟨g,mg,e,e0⟩
theorem XN (F l:List Zd):(Zaq F l).Pairwise (·<·)∧(∀x,x∈Zaq F l↔∃f∈l,Z9 F f=x∧0≤x)∧(Zaq F l).length≤l.length:=by
 obtain ⟨h1,h2,h3⟩:=Zha F l [] Ar
 exact ⟨h1,fun x=>by rw [Zaq,h2];simp,by simpa [Zaq] using h3⟩
theorem Zpv (F p:List Zd) (f:Zd):Zaq F (p++[f])=if 0≤Z9 F f then Zdm (Zaq F p) (Z9 F f) else Zaq F p:=by rw [Zaq,AM];rfl
theorem ZgD (F l:List Zd) (h:l.length≤1000000):Zbu F l=some (Zaq F l):=by
 unfold Zbu
 have h0:Zaq F []=[]:=rfl
 rw [←h0,QL (fun p=>Zaq F p) l]
 intro p f q e
 have hp:p.length≤l.length:=by rw [e];simp
 have:=(XN F p).2.2
 rw [Zbw,A0,Zpv]
 by_cases h0:0≤Z9 F f
 ·rw [if_pos (by simpa using h0),if_pos h0,ZpO _ _ yE]
  rfl
 ·rw [if_neg (by simpa using h0),if_neg h0]
noncomputable def ZaX (F l:List Zd):List Int:=l.foldl (fun row f=>if 0≤Z9 F f∧Z9 F f∉row then row++[Z9 F f] else row) []
theorem ZiU (F p:List Zd) (f:Zd):ZaX F (p++[f])=if 0≤Z9 F f∧Z9 F f∉ZaX F p then ZaX F p++[Z9 F f] else ZaX F p:=by rw [ZaX,AM];rfl
theorem ZiY (F:List Zd):∀n (l:List Zd),l.length=n→(ZaX F l).Nodup∧(∀x,x∈ZaX F l↔∃f∈l,Z9 F f=x∧0≤x)∧(ZaX F l).length≤l.length:=by
 intro n
 induction n with
 | zero=>intro l hl;rw [AR hl];simp [ZaX]
 | succ n ih=>
  intro l hl
  obtain ⟨p,f,rfl⟩:∃p f,l=p++[f]:=⟨l.dropLast,l.getLast (by intro e;simp [e] at hl),(Aq _).symm⟩
  obtain ⟨h1,h2,h3⟩:=ih p (by simpa using hl)
  rw [ZiU]
  by_cases hc:0≤Z9 F f∧Z9 F f∉ZaX F p
  ·rw [if_pos hc]
   refine ⟨by rw [List.nodup_append];exact ⟨h1,yG,fun a ha b hb e=>by simp at hb;subst hb;subst e;exact hc.2 ha⟩,fun x=>?_,by simp;omega⟩
   rw [A4,h2]
   constructor
   ·rintro (⟨g,mg,e⟩ | h)
    ·exact ⟨g,by simp [mg],e⟩
    ·simp at h;subst h;exact ⟨f,yG,rfl,hc.1⟩
   ·rintro ⟨g,mg,e,e0⟩
    rcases A4.1 mg with mg | mg
    ·exact .inl ⟨g,mg,e,e0⟩
    ·simp at mg;subst mg;exact .inr (by simp [e])
  ·rw [if_neg hc]
   refine ⟨h1,fun x=>?_,by simp;omega⟩
   rw [h2]
   constructor
   ·rintro ⟨g,mg,e⟩
    exact ⟨g,by simp [mg],e⟩
   ·rintro ⟨g,mg,e,e0⟩
    rcases A4.1 mg with mg | mg
    ·exact ⟨g,mg,e,e0⟩
    ·simp at mg;subst mg
     have:Z9 F g∈ZaX F p:=Classical.byContradiction fun hn=>hc ⟨by rw [e];exact e0,hn⟩
     rw [e] at this
     exact (h2 x).1 this
theorem Zhr (F l:List Zd) (h:l.length≤1000000):Zcr F l=some (Zaq F l):=by
 unfold Zcr
 have h0:ZaX F []=[]:=rfl
 rw [←h0,QL (fun p=>ZaX F p) l]
 ·obtain ⟨h1,h2,h3⟩:=ZiY F _ l rfl
  obtain ⟨k1,k2,_⟩:=XN F l
  simp only[ZeC]
  rw [Zi _ yE,A0,Zos (ZrU h1) k1 fun x=>by rw [Zr0,h2,k2]]
 ·intro p f q e
  have hp:p.length≤l.length:=by rw [e];simp
  have h3:=(ZiY F _ p rfl).2.2
  rw [ZbE,A0,ZiU]
  by_cases h0:0≤Z9 F f
  ·rw [if_pos (by simpa using h0),Zpi,A0]
   by_cases hm:Z9 F f∈ZaX F p
   ·rw [if_pos (Zoz.2 hm),if_neg (fun h=>h.2 hm)]
   ·rw [if_neg (by rw [Zoz];exact hm),if_pos ⟨h0,hm⟩,Zi _ yE]
    rfl
  ·rw [if_neg (by simpa using h0),if_neg (fun h=>h0 h.1)]
theorem ZdH (a b:List Int):Zbh a b=some (decide (a=b)):=by
 unfold Zbh
 by_cases h:a.length=b.length
 ·rw [if_neg (by simp;omega),Xh (p:=fun i x=>decide (b[i]?=some x)) (r:=false)]
  ·have:Zar (fun i x=>decide (b[i]?=some x)) a 0=decide (a=b):=by
    rw [AP,decide_eq_true_iff]
    constructor
    ·intro ha
     apply As
     intro i
     by_cases hi:i<a.length
     ·have hx:=A5 hi
      have:=ZnB ha i _ hx
      simp only[AL,decide_eq_true_eq] at this
      rw [hx,this]
     ·rw [AF yE,AF yE]
    ·rintro rfl
     have:∀(l c:List Int),Zar (fun i x=>decide ((c++l)[i]?=some x)) l c.length=true:=by
      intro l
      induction l with
      | nil=>intro c;rfl
      | cons x l ih=>
       intro c
       simp only[Zar,A3,decide_eq_true_eq]
       refine ⟨yG,?_⟩
       have:=ih (c++[x])
       simpa using this
     simpa using this a []
   rw [this]
   cases decide (a=b)<;>rfl
  ·intro j x hx
   have hj:=(AH.1 hx).1
   have hb:b[j]?=some b[j]:=A5 yE
   rw [AL,Zby,hb,A0]
   by_cases he:x=b[j]
   ·simp [he]
   ·have:¬b[j]=x:=fun e=>he e.symm
    simp [he,this]
 ·rw [if_pos (by simp;omega),decide_eq_false (fun e=>h (by rw [e]))]
theorem Zag (a b:List Int):ZaN a b=some (decide (a=b)):=ZdH a b
theorem Zk9 {a b:Zg} (h1:a.for_=b.for_) (h2:a.inn=b.inn) (h3:a.outs=b.outs):a=b:=by
 cases a;cases b;simp only at h1 h2 h3;subst h1 h2 h3;rfl
theorem Zjp (a b:Zg):ZaK a b=some (decide (a=b)):=by
 unfold ZaK
 by_cases h1:a.for_=b.for_
 ·rw [if_pos (by simpa using h1),ZdH,A0]
  by_cases h2:a.inn=b.inn
  ·rw [if_pos (decide_eq_true h2),ZdH,A0]
   congr 1
   rw [AP,decide_eq_true_iff,decide_eq_true_iff]
   exact ⟨Zk9 h1 h2,fun e=>by rw [e]⟩
  ·rw [if_neg (by simpa using h2),decide_eq_false (fun e=>h2 (by rw [e]))]
 ·rw [if_neg (by simpa using h1),decide_eq_false (fun e=>h1 (by rw [e]))]
theorem Zkv (l:List Zg) (r:Zg):ZaA l r=some (decide (r∈l)):=by
 unfold ZaA
 rw [Zc7 (p:=fun x=>decide (x=r)) (r:=true)]
 ·have:l.any (fun x=>decide (x=r))=decide (r∈l):=by
   rw [AP,BA,decide_eq_true_iff]
   exact ⟨fun ⟨x,mx,e⟩=>by rw [decide_eq_true_iff] at e;rw [←e];exact mx,fun h=>⟨r,h,yG⟩⟩
  rw [this]
  cases decide (r∈l)<;>rfl
 ·intro i x mx
  rw [Zjp,A0]
  cases decide (x=r)<;>rfl
theorem Znu (l:List Zg) (r:Zg):∃z,Zd8 l r=some z∧(0≤z↔r∈l):=by
 unfold Zd8
 generalize 0=i
 induction l generalizing i with
 | nil=>exact ⟨-1,rfl,yG⟩
 | cons x l ih=>
  by_cases hx:x=r
  ·subst hx
   refine ⟨((i:Nat):Int),Ya ?_,yG⟩
   rw [if_pos yG,Zag,A0,if_pos yG,Zag,A0,if_pos yG]
  ·obtain ⟨z,e,hz⟩:=ih (i+1)
   refine ⟨z,(ZV ?_).trans e,by rw [hz,A6];exact ⟨.inr,fun h=>h.resolve_left fun e=>hx e.symm⟩⟩
   by_cases h1:x.for_=r.for_
   ·rw [if_pos (by simpa using h1),Zag,A0]
    by_cases h2:x.inn=r.inn
    ·rw [if_pos (decide_eq_true h2),Zag,A0,if_neg (by simpa using fun e=>hx (Zk9 h1 h2 e))]
    ·rw [if_neg (by simpa using h2)]
   ·rw [if_neg (by simpa using h1)]
noncomputable def Zqu (r:Zf) (t:Zt):List Zd:=(r.cond.filter fun x=>x.kind==2).map fun x=>(Zce (Zba x.pattern t.binding)).1
noncomputable def Z6 (F:List Zd) (r:Zf) (t:Zt) (a:Zx):Zg:={ for_:=Z9 F (Z7 a t),inn:=Zaq F t.facts,outs:=Zaq F (Zqu r t) }
theorem Zo4 {ρ:Type} {r:Zf} {t:Zt} (hr:r.cond.length≤1000000) {fin:List Zd→Option ρ} {body:Nat→Zr→List Zd→Option (List Zd ⊕ ρ)}
  (hb:∀i x row,row.length≤1000000→body i x row=if (x.kind==2)=true then some (.inl (row++[(Zce (Zba x.pattern t.binding)).1])) else some (.inl row)):Zn body fin r.cond 0 []=fin (Zqu r t):=by
 rw [Yk (g:=fun x:Zr=>if (x.kind==2)=true then some (Zce (Zba x.pattern t.binding)).1 else none)]
 ·rw [Aw]
  congr 1
  unfold Zqu
  induction r.cond with
  | nil=>rfl
  | cons x l ih=>
   by_cases hx:(x.kind==2)=true
   ·simp only[BB,BQ,hx,if_true,Ah,ih]
   ·simp only[BB,BQ,hx,if_false,ih]
    simp
 ·intro j x s mx hs
  rw [hb _ _ _ (by simp at hs;omega)]
  by_cases hx:(x.kind==2)=true
  ·rw [if_pos hx,if_pos hx]
   rfl
  ·rw [if_neg hx,if_neg hx]
   simp
theorem Zkb (r:Zf) (t:Zt):(Zqu r t).length≤r.cond.length:=by
 rw [Zqu,AX]
 exact BN _ _
theorem ZjS {F:List Zd} {r:Zf} {t:Zt} (hr:r.cond.length≤4) (ht:ZtD F t) {j:Nat} {a:Zx} (ha:r.thn[j]?=some a):ZaD r ((j:Nat):Int) t F=some (Z6 F r t a):=by
 have hb:=ht.bind
 have hl:=ht.len
 have e1:∀p,Y2 p t.binding=some (Zce (Zba p t.binding)):=fun p=>ZgM p t.binding yE
 unfold ZaD
 rw [Zby,ha,A0,e1,A0,Zo4 (t:=t) yE (fun i x row hrow=>by rw [e1,A0,Zi _ yE])]
 have:=Zkb r t
 rw [Zbw,A0,ZgD _ _ yE,A0,ZgD _ _ yE,A0]
 rfl
noncomputable def ZiI (l:List Zg) (r:Zg):List Zg:=if r∈l then l else l++[r]
theorem ZtN (l:List Zg) (r:Zg):l.length≤(ZiI l r).length∧(ZiI l r).length≤l.length+1:=by
 unfold ZiI
 split<;>simp
theorem Zmu:∀(c l:List Zg),l.length≤(c.foldl ZiI l).length∧(c.foldl ZiI l).length≤l.length+c.length
 | [],l=>by simp
 | r::c,l=>by
  have h1:=Zmu c (ZiI l r)
  have h2:=ZtN l r
  simp only[AB,AE]
  omega
theorem Zld {α β:Type} {g:α→List β} {N:Nat}:∀{l:List α},(∀x∈l,(g x).length≤N)→(l.flatMap g).length≤N * l.length
 | [],_=>by simp
 | x::l,h=>by
  have h1:=h x yG
  have h2:=Zld (l:=l) fun y my=>h y (by simp [my])
  rw [Al,A8,AE,Nat.mul_add]
  omega
noncomputable def Qh {β:Type} (s:List Zg × List β) (p:Zg × β):List Zg × List β:=if p.1∈s.1 then s else (s.1++[p.1],s.2++[p.2])
theorem Zc3 {β:Type}:∀(c:List (Zg × β)) (s:List Zg × List β),(c.foldl Qh s).1=(c.map BC).foldl ZiI s.1∧(s.2.length=s.1.length→(c.foldl Qh s).2.length=(c.foldl Qh s).1.length)
 | [],s=>⟨rfl,fun h=>h⟩
 | p::c,s=>by
  obtain ⟨h1,h2⟩:=Zc3 c (Qh s p)
  have e:(Qh s p).1=ZiI s.1 p.1:=by unfold Qh ZiI;split<;>rfl
  refine ⟨by rw [AB,h1,e];rfl,fun h=>h2 ?_⟩
  unfold Qh
  split
  ·exact h
  ·simp [h]
theorem ZhW {β:Type} (c:List (Zg × β)) (s:List Zg × List β):s.1.length≤(c.foldl Qh s).1.length∧(c.foldl Qh s).1.length≤s.1.length+c.length:=by
 have:=Zmu (c.map BC) s.1
 rw [(Zc3 c s).1]
 simpa using this
section
variable {β:Type} (o:Zf→Zt→β) (F:List Zd)
noncomputable def ZlN (r:Zf) (t:Zt):List (Zg × β):=r.thn.map fun a=>(Z6 F r t a,o r t)
noncomputable def Zkd (r:Zf):List (Zg × β):=(ZM (QZ r) F).flatMap (ZlN o F r)
noncomputable def ZcB (base:List Zd):List Zg:=base.map fun f=>{ for_:=Z9 F f,inn:=[],outs:=[] }
noncomputable def Zad (z:β) (R:List Zf) (base:List Zd):List Zg × List β:=(R.flatMap (Zkd o F)).foldl Qh (ZcB F base,base.map fun _=>z)
theorem Zom (r:Zf) (t:Zt):(ZlN o F r t).length=r.thn.length:=by simp [ZlN]
end
noncomputable def ZBu (F:List Zd) (r:Zf) (t:Zt):List Zg:=r.thn.map (Z6 F r t)
noncomputable def Zul (F:List Zd) (r:Zf):List Zg:=(ZM (QZ r) F).flatMap (ZBu F r)
noncomputable def YJ (R:List Zf) (F base:List Zd):List Zg:=(R.flatMap (Zul F)).foldl ZiI (ZcB F base)
theorem Zi7 {β:Type} (o:Zf→Zt→β) (F:List Zd) (z:β) (R:List Zf) (base:List Zd):(Zad o F z R base).1=YJ R F base∧(Zad o F z R base).2.length=(YJ R F base).length:=by
 obtain ⟨h1,h2⟩:=Zc3 (R.flatMap (Zkd o F)) (ZcB F base,base.map fun _=>z)
 have e:(R.flatMap (Zkd o F)).map BC=R.flatMap (Zul F):=by
  rw [At]
  congr 1
  funext r
  rw [Zkd,Zul,At]
  congr 1
  funext t
  simp [ZlN,ZBu]
 have h3:(Zad o F z R base).1=YJ R F base:=by unfold Zad YJ;rw [h1,e]
 refine ⟨h3,?_⟩
 rw [←h3]
 exact h2 (by simp [ZcB])
section
variable {β ρ:Type} {o:Zf→Zt→β} {F:List Zd}
theorem ZmP {base:List Zd} (hl:base.length≤1000000) {z:β} {fin:List Zg × List β→Option ρ} {body:Nat→Zd→List Zg × List β→Option ((List Zg × List β) ⊕ ρ)}
  (hb:∀i f a b,a.length≤1000000→b.length≤1000000→body i f (a,b)=some (.inl (a++[{ for_:=Z9 F f,inn:=[],outs:=[] }],b++[z]))):Zn body fin base 0 ([],[])=fin (ZcB F base,base.map fun _=>z):=by
 have h0:(([],[]):List Zg × List β)=(ZcB F [],([]:List Zd).map fun _=>z):=rfl
 rw [h0,QL (fun p=>(ZcB F p,p.map fun _=>z)) base]
 intro p f q e
 have hp:p.length≤base.length:=by rw [e];simp
 rw [hb _ _ _ _ (by rw [ZcB,AX];omega) (by rw [AX];omega)]
 simp [ZcB]
theorem ZwL {r:Zf} {t:Zt} (hr2:r.thn.length≤2) {fin:List Zg × List β→Option ρ} {body:Nat→Zx→List Zg × List β→Option ((List Zg × List β) ⊕ ρ)} {s:List Zg × List β} (hl:s.1.length≤99999998) (hs:s.2.length=s.1.length)
  (hb:∀i a c d,c.length≤100000000→d.length≤100000000→body i a (c,d)=if decide (Z6 F r t a∈c)=true then some (.inl (c,d)) else some (.inl (c++[Z6 F r t a],d++[o r t]))):Zn body fin r.thn 0 s=fin ((ZlN o F r t).foldl Qh s):=by
 have h0:s=((([]:List Zx).map fun a=>(Z6 F r t a,o r t))).foldl Qh s:=rfl
 conv=>lhs;rw [h0]
 rw [QL (fun p:List Zx=>(p.map fun a=>(Z6 F r t a,o r t)).foldl Qh s) r.thn]
 ·rfl
 ·intro p a q e
  have hp:p.length≤r.thn.length:=by rw [e];simp
  have h1:=ZhW (p.map fun a=>(Z6 F r t a,o r t)) s
  have h2:=(Zc3 (p.map fun a=>(Z6 F r t a,o r t)) s).2 hs
  rw [AX] at h1
  rw [Au,AM]
  generalize (p.map fun a=>(Z6 F r t a,o r t)).foldl Qh s=u at h1 h2 ⊢
  obtain ⟨c,d⟩:=u
  simp only at h1 h2
  rw [hb _ _ _ _ yE yE]
  show _=some (Sum.inl (Qh (c,d) (Z6 F r t a,o r t)))
  unfold Qh
  by_cases hm:Z6 F r t a∈c
  ·rw [if_pos (decide_eq_true hm),if_pos hm]
  ·rw [if_neg (by simpa using hm),if_neg hm]
theorem Ztu {α:Type} {g:α→List (Zg × β)} {L:List α} {M N:Nat} (hg:∀x∈L,(g x).length≤N) {fin:List Zg × List β→Option ρ} {body:Nat→α→List Zg × List β→Option ((List Zg × List β) ⊕ ρ)} {s:List Zg × List β} (hl:s.1.length+N * L.length≤M) (hs:s.2.length=s.1.length)
  (hb:∀i x u,x∈L→u.1.length≤M→u.2.length=u.1.length→body i x u=some (.inl ((g x).foldl Qh u))):Zn body fin L 0 s=fin ((L.flatMap g).foldl Qh s):=by
 have h0:s=(([]:List α).flatMap g).foldl Qh s:=rfl
 conv=>lhs;rw [h0]
 rw [QL (fun p=>(p.flatMap g).foldl Qh s) L]
 intro p x q e
 have hp:p.length≤L.length:=by rw [e];simp
 have h1:=ZhW (p.flatMap g) s
 have h2:=(Zc3 (p.flatMap g) s).2 hs
 have h3:=Zld (l:=p) (g:=g) (N:=N) fun y my=>hg y (by rw [e];simp [my])
 have h4:=Nat.mul_le_mul_left N hp
 rw [hb _ _ _ (by rw [e];simp) yE h2,Ap,AM]
 simp
theorem ZyC {r:Zf} {t:Zt} {q:ρ} {fin:List Zg × List β→Option ρ} {body:Nat→Zx→List Zg × List β→Option ((List Zg × List β) ⊕ ρ)} {s:List Zg × List β} (hl:s.1.length≤60) (hs:s.2.length=s.1.length)
  (hb:∀j a c d,r.thn[j]?=some a→c.length≤60→d.length≤60→body j a (c,d)=if Z6 F r t a∈c then some (.inl (c,d)) else if 60≤c.length then some (.inr q) else some (.inl (c++[Z6 F r t a],d++[o r t]))):Zn body fin r.thn 0 s=if ((ZlN o F r t).foldl Qh s).1.length≤60 then fin ((ZlN o F r t).foldl Qh s) else some q:=by
 have h0:s=((([]:List Zx).map fun a=>(Z6 F r t a,o r t))).foldl Qh s:=rfl
 conv=>lhs;rw [h0]
 rw [Zka (fun p:List Zx=>(p.map fun a=>(Z6 F r t a,o r t)).foldl Qh s) (fun p=>((p.map fun a=>(Z6 F r t a,o r t)).foldl Qh s).1.length≤60) q r.thn (by simpa using hl) (fun p c e h=>by
  rw [e,Au,AM] at h
  exact AW (ZhW _ _).1 h)]
 ·rfl
 ·intro p a c e b
  have h2:=(Zc3 (p.map fun a=>(Z6 F r t a,o r t)) s).2 hs
  rw [Au,AM]
  generalize (p.map fun a=>(Z6 F r t a,o r t)).foldl Qh s=u at b h2 ⊢
  obtain ⟨x,y⟩:=u
  simp only at b h2
  rw [hb _ _ _ _ (by rw [e];simp) b yE]
  show _=if (Qh (x,y) (Z6 F r t a,o r t)).1.length≤60 then some (Sum.inl (Qh (x,y) (Z6 F r t a,o r t))) else some (Sum.inr q)
  unfold Qh
  by_cases hm:Z6 F r t a∈x
  ·rw [if_pos hm,if_pos hm,if_pos b]
  ·rw [if_neg hm,if_neg hm]
   by_cases h1:60≤x.length
   ·rw [if_pos h1,if_neg (by simp;omega)]
   ·rw [if_neg h1,if_pos (by simp;omega)]
theorem Zte {α:Type} {g:α→List (Zg × β)} {L:List α} {q:ρ} {fin:List Zg × List β→Option ρ} {body:Nat→α→List Zg × List β→Option ((List Zg × List β) ⊕ ρ)} {s:List Zg × List β} (hl:s.1.length≤60) (hs:s.2.length=s.1.length)
  (hb:∀i x u,x∈L→u.1.length≤60→u.2.length=u.1.length→body i x u=if ((g x).foldl Qh u).1.length≤60 then some (.inl ((g x).foldl Qh u)) else some (.inr q)):Zn body fin L 0 s=if ((L.flatMap g).foldl Qh s).1.length≤60 then fin ((L.flatMap g).foldl Qh s) else some q:=by
 have h0:s=(([]:List α).flatMap g).foldl Qh s:=rfl
 conv=>lhs;rw [h0]
 rw [Zka (fun p=>(p.flatMap g).foldl Qh s) (fun p=>((p.flatMap g).foldl Qh s).1.length≤60) q L (by simpa using hl) (fun p c e h=>by
  rw [e,Ap,AM] at h
  exact AW (ZhW _ _).1 h)]
 intro p x c e a
 have h2:=(Zc3 (p.flatMap g) s).2 hs
 rw [hb _ _ _ (by rw [e];simp) a h2,Ap,AM]
 simp
end
def noB:Zu:={ nodes:=0,reasons:=[] }
def ZnY (r:Zf) (t:Zt):Zac:={ rule:=r.name,facts:=t.facts }
def Zo5 (r:Zf) (t:Zt):Xd:={ rule:=r.name,token:=t }
def noI:Zac:={ rule:=⟨#[]⟩,facts:=[] }
def noS:Xd:={ rule:=⟨#[]⟩,token:={ facts:=[],binding:=[] } }
def Zqe {β:Type} (F:List Zd) (g:List Zg × List β):List Zd × Zu × List β × Bool:=if 60<g.1.length then ([],noB,[],false) else (F,{ nodes:=((F.length:Nat):Int),reasons:=g.1 },g.2,true)
structure Yu (R:List Zf) (base F:List Zd):Prop where
 logical:(Yn R&&R.all (YN R))=true
 facts:Yw base=true
 good:Zer R base F
 len:F.length≤24
 closed:Zhq R F
theorem Yu.rule {R:List Zf} {base F:List Zd} (h:Yu R base F) {r:Zf} (mr:r∈R):ZU r=true∧r.cond.length≤4∧r.thn.length≤2:=by
 have h1:=h.logical
 rw [A3] at h1
 have h2:=AA.1 h1.2 r mr
 unfold YN at h2
 rw [A3] at h2
 have h3:=h2.1
 unfold ZU at h3
 simp only[A3] at h3
 exact ⟨h2.1,ZbZ h3.1.1⟩
theorem Yu.toks {R:List Zf} {base F:List Zd} (h:Yu R base F) {r:Zf} (mr:r∈R):(ZM (QZ r) F).length≤331776:=ZeI F h.len (QZ r) (by have:=Zc9 r;have:=(h.rule mr).2.1;omega)
theorem Yu.tokS {R:List Zf} {base F:List Zd} (h:Yu R base F) {r:Zf} (mr:r∈R) {t:Zt} (mt:t∈ZM (QZ r) F):ZtD F t:=(Zec F _ t mt).s (by have:=Zc9 r;have:=(h.rule mr).2.1;omega) fun f mf=>Xg (h.good.ok f mf)
theorem Zpu {R:List Zf} {base F:List Zd} (h:Yu R base F) (hp:Yf R base=some (F,true)):ZaJ R base=some (Zqe F (Zad ZnY F noI R base)):=by
 have h6:R.length≤6:=by have:=h.logical;rw [A3] at this;exact (ZhO this.1).1
 have hb24:=(Zds h.facts).1
 unfold ZaJ
 rw [hp,A0,if_pos rfl,ZmP (F:=F) (z:=noI) yE]
 ·show Zn _ _ R 0 (ZcB F base,base.map fun _=>noI)=_
  rw [Ztu (g:=Zkd ZnY F) (N:=663552) (M:=90000000)]
  ·show (if decide (60<(((Zad ZnY F noI R base).1.length:Nat):Int))=true then _ else _)=_
   unfold Zqe
   by_cases e:60<(Zad ZnY F noI R base).1.length
   ·rw [if_pos (decide_eq_true yE),if_pos e]
    rfl
   ·rw [if_neg (fun h=>e (by have:=of_decide_eq_true h;omega)),if_neg e]
    rfl
  ·intro r mr
   obtain ⟨_,_,h2⟩:=h.rule mr
   have h3:=h.toks mr
   have:=Zld (l:=ZM (QZ r) F) (g:=ZlN ZnY F r) (N:=2) fun x _=>by rw [Zom];omega
   unfold Zkd
   omega
  ·simp only[ZcB,AX];omega
  ·simp [ZcB]
  ·intro i r u mr hu m
   obtain ⟨c,d⟩:=u
   obtain ⟨_,h1,h2⟩:=h.rule mr
   have h3:=h.toks mr
   simp only at hu m
   show (YA r).bind _=_
   rw [Zbd r yE,A0,ZgN _ _ (by have:=Zc9 r;omega) h.len (fun f mf=>Xg (h.good.ok f mf)),A0,Ztu (g:=ZlN ZnY F r) (N:=2) (M:=99999998)]
   ·rfl
   ·intro t mt
    rw [Zom]
    exact h2
   ·simp only;omega
   ·exact m
   ·intro j t v mt hv p
    obtain ⟨c2,d2⟩:=v
    simp only at hv p
    have ht:=h.tokS mr mt
    have hl:=ht.len
    have ha:=Zkb r t
    show Zn _ _ r.cond 0 []=_
    rw [Zo4 (t:=t) yE (fun i x row hrow=>by rw [ZdQ,A0,Zi _ yE])]
    rw [ZwL (o:=ZnY) (F:=F) (t:=t) h2 (s:=(c2,d2)) hv p]
    ·intro k a x y hx hy
     show (XZ a.pattern t.binding).bind _=_
     rw [ZdQ,A0,ZbE,A0,Zhr _ _ yE,A0,Zhr _ _ yE,A0]
     show (ZaA x (Z6 F r t a)).bind _=_
     rw [Zkv,A0]
     by_cases hm:Z6 F r t a∈x
     ·rw [if_pos (decide_eq_true hm),if_pos (decide_eq_true hm)]
     ·rw [if_neg (by simpa using hm),if_neg (by simpa using hm),Zi _ yE,Zi _ yE]
      rfl
 ·intro i f a b ha hb
  show (Z8 F f).bind _=_
  rw [ZbE,A0,Zi _ yE,Zi _ yE]
  rfl
theorem Zpt {R:List Zf} {base F:List Zd} (h:Yu R base F) (hp:Yg R base=some (F,true)):Xl R base=some (Zqe F (Zad Zo5 F noS R base)):=by
 have h6:R.length≤6:=by have:=h.logical;rw [A3] at this;exact (ZhO this.1).1
 have hb24:=(Zds h.facts).1
 unfold Xl
 rw [hp,A0,if_pos rfl,ZmP (F:=F) (z:=noS) yE]
 ·show Zn _ _ R 0 (ZcB F base,base.map fun _=>noS)=_
  rw [Zte (g:=Zkd Zo5 F) (q:=([],noB,[],false))]
  ·show (if (Zad Zo5 F noS R base).1.length≤60 then _ else _)=_
   unfold Zqe
   by_cases e:60<(Zad Zo5 F noS R base).1.length
   ·rw [if_neg yE,if_pos e]
   ·rw [if_pos yE,if_neg e]
    rfl
  ·simp only[ZcB,AX];omega
  ·simp [ZcB]
  ·intro i r u mr hu l
   obtain ⟨c,d⟩:=u
   obtain ⟨_,h1,h2⟩:=h.rule mr
   simp only at hu l
   show (Xv r).bind _=_
   rw [Zef r yE,A0,ZgX _ _ (by have:=Zc9 r;omega) h.len (fun f mf=>Xg (h.good.ok f mf)),A0,Zte (g:=ZlN Zo5 F r) (q:=.inr ([],noB,[],false)) (s:=(c,d)) hu l]
   ·rfl
   ·intro j t v mt hv m
    obtain ⟨c2,d2⟩:=v
    simp only at hv m
    have ht:=h.tokS mr mt
    show Zn _ _ r.thn 0 (c2,d2)=_
    rw [ZyC (o:=Zo5) (F:=F) (t:=t) (q:=.inr (.inr ([],noB,[],false))) (s:=(c2,d2)) hv m]
    ·intro k a x y ha hx hy
     show (ZaD r ((k:Nat):Int) t F).bind _=_
     rw [ZjS h1 ht ha,A0]
     obtain ⟨z,hz,p⟩:=Znu x (Z6 F r t a)
     rw [hz,A0]
     by_cases hm:Z6 F r t a∈x
     ·rw [if_pos (by simpa using p.2 hm),if_pos hm]
     ·rw [if_neg (by simpa using fun h0=>hm (p.1 h0)),if_neg hm]
      by_cases e:60≤x.length
      ·rw [if_pos (by simp;omega),if_pos e]
       rfl
      ·rw [if_neg (by simp;omega),if_neg e,Zi _ yE,Zi _ yE]
       rfl
 ·intro i f a b ha hb
  show (Ql F f).bind _=_
  rw [Zbw,A0,Zi _ yE,Zi _ yE]
  rfl
theorem ZpC {R:List Zf} (hR:ZbC R) (base:List Zd) (a:base.length≤1048576):(ZaJ R base=some ([],noB,[],false)∧Xl R base=some ([],noB,[],false))∨∃F,Yu R base F∧ZaJ R base=some (Zqe F (Zad ZnY F noI R base))∧Xl R base=some (Zqe F (Zad Zo5 F noS R base)):=by
 obtain ⟨⟨F,b⟩,h1,h2,h3⟩:=Zhe hR base a
 have no:b=false→(ZaJ R base=some ([],noB,[],false)∧Xl R base=some ([],noB,[],false)):=fun e=>by
  subst e
  unfold ZaJ Xl
  rw [h1,h2]
  exact ⟨rfl,rfl⟩
 rcases h3 with h3 | ⟨h3,h4,⟨h5,h6,h7,h8⟩ | ⟨h5,_⟩⟩
 ·simp only[Prod.mk.injEq] at h3
  exact .inl (no h3.2)
 ·simp only at h5
  subst h5
  have hG:Yu R base F:=⟨h3,h4,h6,h7,h8⟩
  exact .inr ⟨F,hG,Zpu hG h2,Zpt hG h1⟩
 ·exact .inl (no h5)
theorem Zpe {r:Zg}:∀{c l:List Zg},r∈c.foldl ZiI l↔r∈l∨r∈c
 | [],l=>by simp
 | x::c,l=>by
  rw [AB,Zpe]
  have:r∈ZiI l x↔r∈l∨r=x:=by
   unfold ZiI
   split
   ·rename_i h
    exact ⟨.inl,fun h'=>h'.elim id fun e=>e ▸ h⟩
   ·simp
  rw [this,A6,or_assoc]
theorem ZjN {R:List Zf} {F base:List Zd} {x:Zg}:x∈YJ R F base↔(∃f∈base,x={ for_:=Z9 F f,inn:=[],outs:=[] })∨∃r∈R,∃t∈ZM (QZ r) F,∃a∈r.thn,x=Z6 F r t a:=by
 unfold YJ
 rw [Zpe]
 constructor
 ·rintro (h | h)
  ·obtain ⟨f,mf,e⟩:=Ab.1 h
   exact .inl ⟨f,mf,e.symm⟩
  ·obtain ⟨r,mr,h⟩:=AI.1 h
   obtain ⟨t,mt,h⟩:=AI.1 h
   obtain ⟨a,ma,e⟩:=Ab.1 h
   exact .inr ⟨r,mr,t,mt,a,ma,e.symm⟩
 ·rintro (⟨f,mf,e⟩ | ⟨r,mr,t,mt,a,ma,e⟩)
  ·exact .inl (Ab.2 ⟨f,mf,e.symm⟩)
  ·exact .inr (AI.2 ⟨r,mr,AI.2 ⟨t,mt,Ab.2 ⟨a,ma,e.symm⟩⟩⟩)
theorem ZnG {R:List Zf} {base F:List Zd} (h:Yu R base F) {x:Zg} (mx:x∈YJ R F base):x.inn.length≤4∧x.outs.length≤4:=by
 rcases ZjN.1 mx with ⟨f,_,rfl⟩ | ⟨r,mr,t,mt,a,_,rfl⟩
 ·exact ⟨Ay _,Ay _⟩
 ·have h1:=(h.tokS mr mt).len
  have h2:=Zkb r t
  have h3:=(h.rule mr).2.1
  exact ⟨AW (XN F t.facts).2.2 h1,AW (XN F (Zqu r t)).2.2 yE⟩
end
section
open Classical
def mx (a b:Int):Int:=if a<b then b else a
theorem ZvW (a b:Int):a≤mx a b∧b≤mx a b:=by unfold mx;split<;>omega
theorem ZvU {a b c:Int} (h1:a≤c) (h2:b≤c):mx a b≤c:=by unfold mx;split<;>omega
theorem Zqf (g:Int→Int):∀(l:List Int) (m:Int),m≤l.foldl (fun m y=>mx m (g y)) m∧∀y∈l,g y≤l.foldl (fun m y=>mx m (g y)) m
 | [],m=>⟨AG _,yG⟩
 | x::l,m=>by
  obtain ⟨h1,h2⟩:=Zqf g l (mx m (g x))
  have h3:=ZvW m (g x)
  refine ⟨by rw [AB];omega,fun y my=>?_⟩
  rw [AB]
  rcases A6.1 my with rfl | my
  ·omega
  ·exact h2 y my
theorem Zqs {g:Int→Int} {T:Int}:∀{l:List Int} {m:Int},m≤T→(∀y∈l,g y≤T)→l.foldl (fun m y=>mx m (g y)) m≤T
 | [],_,h,_=>h
 | x::l,m,h,hl=>Zqs (l:=l) (ZvU h (hl x yG)) fun y my=>hl y (by simp [my])
def OkN (n:Nat) (r:Zg):Prop:=(0≤r.for_∧r.for_.toNat<n)∧(∀y∈r.inn,0≤y∧y.toNat<n)∧∀y∈r.outs,0≤y∧y.toNat<n
def lvN (row:List Int) (i:Nat):Int:=(row[i]?).getD 0
theorem Zh1 (row:List Int) (i j:Nat) (v:Int):lvN (row.set i v) j=if j=i∧i<row.length then v else lvN row j:=by
 unfold lvN
 rw [Ad]
 by_cases h:i=j
 ·subst h
  by_cases h2:i<row.length
  ·simp [h2]
  ·simp [h2]
 ·have:¬j=i:=fun e=>h e.symm
  simp [h,this]
theorem ZjC {a b:List Int} (hl:a.length=b.length) (h:∀i,i<a.length→lvN a i=lvN b i):a=b:=by
 apply As
 intro i
 by_cases hi:i<a.length
 ·have:=h i hi
  unfold lvN at this
  rw [A5 hi,A5 yE] at this ⊢
  simpa using this
 ·rw [AF yE,AF yE]
def Zg9 (row:List Int) (r:Zg):Int:=r.outs.foldl (fun m y=>mx m (lvN row y.toNat+1)) (r.inn.foldl (fun m y=>mx m (lvN row y.toNat)) (lvN row r.for_.toNat))
theorem Znq (row:List Int) (r:Zg):lvN row r.for_.toNat≤Zg9 row r∧(∀y∈r.inn,lvN row y.toNat≤Zg9 row r)∧∀y∈r.outs,lvN row y.toNat+1≤Zg9 row r:=by
 obtain ⟨h1,h2⟩:=Zqf (fun y=>lvN row y.toNat) r.inn (lvN row r.for_.toNat)
 obtain ⟨h3,h4⟩:=Zqf (fun y=>lvN row y.toNat+1) r.outs (r.inn.foldl (fun m y=>mx m (lvN row y.toNat)) (lvN row r.for_.toNat))
 exact ⟨AC h1 h3,fun y my=>AC (h2 y my) h3,h4⟩
theorem ZuL {row:List Int} {r:Zg} {T:Int} (h1:lvN row r.for_.toNat≤T) (h2:∀y∈r.inn,lvN row y.toNat≤T) (h3:∀y∈r.outs,lvN row y.toNat+1≤T):Zg9 row r≤T:=
 Zqs (g:=fun y=>lvN row y.toNat+1) (Zqs (g:=fun y=>lvN row y.toNat) h1 h2) h3
def X2 (row:List Int) (r:Zg):List Int:=row.set r.for_.toNat (Zg9 row r)
def X9 (R:List Zg) (row:List Int):List Int:=R.foldl X2 row
theorem Zd7 (row:List Int) (r:Zg):(X2 row r).length=row.length:=by simp [X2]
theorem Zii:∀(R:List Zg) (row:List Int),(X9 R row).length=row.length
 | [],_=>rfl
 | r::R,row=>(Zii R (X2 row r)).trans (Zd7 row r)
theorem Zif (row:List Int) (r:Zg) (i:Nat):lvN row i≤lvN (X2 row r) i:=by
 unfold X2
 rw [Zh1]
 split
 ·rename_i h
  rw [h.1]
  exact (Znq row r).1
 ·exact AG _
theorem ZdY:∀(R:List Zg) (row:List Int) (i:Nat),lvN row i≤lvN (X9 R row) i
 | [],_,_=>AG _
 | r::R,row,i=>AC (Zif row r i) (ZdY R (X2 row r) i)
theorem Zlb {row:List Int} {r:Zg} (h:¬lvN row r.for_.toNat<Zg9 row r):X2 row r=row:=by
 have e:Zg9 row r=lvN row r.for_.toNat:=by have:=(Znq row r).1;omega
 refine ZjC (Zd7 row r) fun i _=>?_
 unfold X2
 rw [Zh1]
 split
 ·rename_i h;rw [h.1,e]
 ·rfl
structure Zjk (R:List Zg) (t:Nat→Int):Prop where
 pos:∀i,0≤t i
 inn:∀r∈R,∀y∈r.inn,t y.toNat≤t r.for_.toNat
 outs:∀r∈R,∀y∈r.outs,t y.toNat+1≤t r.for_.toNat
theorem ZoI {R:List Zg} {t:Nat→Int} (ht:Zjk R t) {r:Zg} (mr:r∈R) {row:List Int} (h:∀i,lvN row i≤t i) (i:Nat):lvN (X2 row r) i≤t i:=by
 unfold X2
 rw [Zh1]
 split
 ·rename_i hi
  rw [hi.1]
  exact ZuL (h _) (fun y my=>AC (h _) (ht.inn r mr y my)) fun y my=>by have:=h y.toNat;have:=ht.outs r mr y my;omega
 ·exact h i
theorem Zh5 {R:List Zg} {t:Nat→Int} (ht:Zjk R t):∀{l:List Zg},(∀r∈l,r∈R)→∀{row:List Int},(∀i,lvN row i≤t i)→∀i,lvN (X9 l row) i≤t i
 | [],_,_,h=>h
 | r::l,hl,row,h=>Zh5 ht (l:=l) (fun x mx=>hl x (by simp [mx])) (ZoI ht (hl r yG) h)
theorem Zgt {n:Nat}:∀{R:List Zg} {row:List Int},row.length=n→(∀r∈R,OkN n r)→∀r∈R,(∀y∈r.inn,lvN row y.toNat≤lvN (X9 R row) r.for_.toNat)∧∀y∈r.outs,lvN row y.toNat+1≤lvN (X9 R row) r.for_.toNat
 | [],_,_,_,r,mr=>by simp at mr
 | q::R,row,hl,hR,r,mr=>by
  have hs:=ZdY R (X2 row q)
  show (∀y∈r.inn,lvN row y.toNat≤lvN (X9 R (X2 row q)) r.for_.toNat)∧∀y∈r.outs,lvN row y.toNat+1≤lvN (X9 R (X2 row q)) r.for_.toNat
  rcases A6.1 mr with rfl | mr
  ·have h0:=(hR r yG).1.2
   have e:lvN (X2 row r) r.for_.toNat=Zg9 row r:=by
    unfold X2
    rw [Zh1,if_pos ⟨rfl,yE⟩]
   have h1:=hs r.for_.toNat
   rw [e] at h1
   obtain ⟨_,h2,h3⟩:=Znq row r
   exact ⟨fun y my=>AC (h2 y my) h1,fun y my=>AC (h3 y my) h1⟩
  ·obtain ⟨h2,h3⟩:=Zgt (n:=n) (R:=R) (row:=X2 row q) (by rw [Zd7,hl]) (fun x mx=>hR x (by simp [mx])) r mr
   refine ⟨fun y my=>AC (Zif row q _) (h2 y my),fun y my=>?_⟩
   have:=Zif row q y.toNat
   have:=h3 y my
   omega
structure ZaZ (n:Nat) (R:List Zg) (L:List Int):Prop where
 len:L.length=n
 sol:Zjk R (lvN L)
 least:∀t,Zjk R t→∀i,lvN L i≤t i
theorem ZaZ.uniq {n:Nat} {R:List Zg} {L M:List Int} (h:ZaZ n R L) (k:ZaZ n R M):L=M:=
 ZjC (h.len.trans k.len.symm) fun i _=>BR (h.least _ k.sol i) (k.least _ h.sol i)
theorem ZrO {n:Nat} {R:List Zg} {row:List Int} (hl:row.length=n) (hR:∀r∈R,OkN n r) (h0:∀i,0≤lvN row i) (a:∀t,Zjk R t→∀i,lvN row i≤t i) (h:X9 R row=row):ZaZ n R row:=by
 have:=Zgt hl hR
 rw [h] at this
 exact ⟨hl,⟨h0,fun r mr=>(this r mr).1,fun r mr=>(this r mr).2⟩,a⟩
noncomputable def ZnE (n:Nat) (L row:List Int):Nat:=(AD n).countP fun i=>decide (¬lvN row i=lvN L i)
theorem ZpY {n:Nat} {R:List Zg} {L row:List Int} (hL:ZaZ n R L) (hl:row.length=n) (hR:∀r∈R,OkN n r) (h0:∀i,0≤lvN row i) (a:∀i,lvN row i≤lvN L i):ZnE n L row=0∨ZnE n L (X9 R row)+1≤ZnE n L row:=by
 have hs:=Zh5 hL.sol (l:=R) (fun _ h=>h) a
 have b:=ZdY R row
 by_cases hz:∃i,i<n∧¬lvN row i=lvN L i∧lvN (X9 R row) i=lvN L i
 ·right
  obtain ⟨i,hi,h1,h2⟩:=hz
  refine Zeb (fun j _ hj=>?_) i (AY.2 hi) (by simpa using h2) (by simpa using h1)
  simp only[decide_eq_true_eq] at hj ⊢
  intro e
  have:=hs j
  have:=b j
  omega
 ·left
  have c:∀i,i<n→¬lvN row i=lvN L i→lvN (X9 R row) i≤lvN L i - 1:=fun i hi h1=>by
   have h2:¬lvN (X9 R row) i=lvN L i:=fun h=>hz ⟨i,hi,h1,h⟩
   have:=hs i
   omega
  let t:Nat→Int:=fun i=>if i<n∧¬lvN row i=lvN L i then lvN L i - 1 else lvN L i
  have f:∀i,t i≤lvN L i:=fun i=>by simp only[t];split<;>omega
  have key:∀(x y:Nat) (d:Int),0≤d→x<n→lvN L y+d≤lvN L x→lvN row y+d≤lvN (X9 R row) x→t y+d≤t x:=fun x y d hd hx h1 h2=>by
   by_cases hA:x<n∧¬lvN row x=lvN L x
   ·have e:t x=lvN L x - 1:=if_pos hA
    have h3:=c x hA.1 hA.2
    by_cases hB:y<n∧¬lvN row y=lvN L y
    ·have e2:t y=lvN L y - 1:=if_pos hB
     omega
    ·have e2:t y=lvN L y:=if_neg hB
     by_cases hy:y<n
     ·have h4:lvN row y=lvN L y:=Classical.byContradiction fun h=>hB ⟨hy,h⟩
      omega
     ·have h4:lvN row y=0:=by unfold lvN;rw [AF yE];rfl
      have h5:lvN L y=0:=by unfold lvN;rw [AF (by rw [hL.len];omega)];rfl
      omega
   ·have e:t x=lvN L x:=if_neg hA
    have:=f y
    omega
  have ht:Zjk R t:=⟨fun i=>by
   simp only[t]
   split
   ·rename_i h
    have:=h0 i;have:=a i;have:=h.2
    omega
   ·exact hL.sol.pos i,fun r mr y my=>by
    have h1:=hL.sol.inn r mr y my
    have h2:=(Zgt hl hR r mr).1 y my
    have:=key r.for_.toNat y.toNat 0 (AG _) (hR r mr).1.2 yE yE
    omega,fun r mr y my=>key r.for_.toNat y.toNat 1 yE (hR r mr).1.2 (hL.sol.outs r mr y my) ((Zgt hl hR r mr).2 y my)⟩
  unfold ZnE
  rw [Ak]
  intro i hi
  simp only[decide_eq_true_eq,Classical.not_not]
  refine Classical.byContradiction fun h=>?_
  have h1:=hL.least t ht i
  have e:t i=lvN L i - 1:=if_pos ⟨AY.1 hi,h⟩
  omega
noncomputable def ZH8 (R:List Zg):Nat→List Int→List Int
 | 0,row=>row
 | k+1,row=>ZH8 R k (X9 R row)
theorem ZGc {n:Nat} {R:List Zg} {L:List Int} (hL:ZaZ n R L) (hR:∀r∈R,OkN n r):∀(k:Nat) (row:List Int),row.length=n→(∀i,0≤lvN row i)→(∀i,lvN row i≤lvN L i)→ZnE n L row≤k→ZH8 R k row=L
 | 0,row,hl,h0,a,hk=>by
  show row=L
  refine ZjC (hl.trans hL.len.symm) fun i hi=>?_
  have:ZnE n L row=0:=by omega
  unfold ZnE at this
  rw [Ak] at this
  simpa using this i (AY.2 yE)
 | k+1,row,hl,h0,a,hk=>by
  refine ZGc hL hR k (X9 R row) (by rw [Zii,hl]) (fun i=>AC (h0 i) (ZdY R row i)) (Zh5 hL.sol (fun _ h=>h) a) ?_
  rcases ZpY hL hl hR h0 a with h | h
  ·have:ZnE n L (X9 R row)=0:=by
    have e:row=L:=by
     refine ZjC (hl.trans hL.len.symm) fun i hi=>?_
     unfold ZnE at h
     rw [Ak] at h
     simpa using h i (AY.2 yE)
    unfold ZnE
    rw [Ak]
    intro i hi
    have h1:=Zh5 hL.sol (l:=R) (fun _ h=>h) a i
    have h2:=ZdY R row i
    rw [e] at h1 h2 ⊢
    simp only[decide_eq_true_eq,Classical.not_not]
    omega
   omega
  ·omega
def Zr8 (R:List Zg) (x y:Int):Prop:=∃r∈R,r.for_=x∧(y∈r.inn∨y∈r.outs)
inductive ZdN (R:List Zg) (x:Int):Int→Prop
 | one {y:Int}:Zr8 R x y→ZdN R x y
 | step {y z:Int}:ZdN R x y→Zr8 R y z→ZdN R x z
theorem ZdN.head {R:List Zg} {x y z:Int} (h:Zr8 R x y) (k:ZdN R y z):ZdN R x z:=by
 induction k with
 | one h1=>exact .step (.one h) h1
 | step _ h1 ih=>exact .step ih h1
def Zni (R:List Zg):Prop:=∀r∈R,∀y∈r.outs,y≠r.for_∧¬ZdN R y r.for_
noncomputable def Zgr (n:Nat) (R:List Zg) (i:Nat):Int:=if i<n then (((AD n).countP fun j=>decide (j=i∨ZdN R ((i:Nat):Int) ((j:Nat):Int)):Nat):Int) - 1 else 0
theorem Zmo {α:Type} {p q:α→Bool}:∀{l:List α},(∀x∈l,p x=true→q x=true)→l.countP p≤l.countP q
 | [],_=>Aa _
 | x::l,h=>by
  have ih:=Zmo (l:=l) fun y my=>h y (by simp [my])
  have hx:=h x yG
  simp only[Ac]
  cases hp:p x with
  | true=>rw [hx hp];simpa using ih
  | false=>simp;omega
theorem Zp9 {n:Nat} {R:List Zg} (hR:∀r∈R,OkN n r) (hS:Zni R):Zjk R (Zgr n R)∧∀i,Zgr n R i<n∨Zgr n R i=0:=by
 have hx:∀i,i<n→Zgr n R i=(((AD n).countP fun j=>decide (j=i∨ZdN R ((i:Nat):Int) ((j:Nat):Int)):Nat):Int) - 1:=fun i hi=>if_pos hi
 refine ⟨⟨fun i=>?_,fun r mr y my=>?_,fun r mr y my=>?_⟩,fun i=>?_⟩
 ·by_cases hi:i<n
  ·rw [hx i hi]
   have:0<(AD n).countP fun j=>decide (j=i∨ZdN R ((i:Nat):Int) ((j:Nat):Int)):=List.countP_pos_iff.2 ⟨i,AY.2 hi,yG⟩
   omega
  ·unfold Zgr;rw [if_neg hi];exact AG _
 ·obtain ⟨⟨f0,f1⟩,f2,_⟩:=hR r mr
  obtain ⟨y0,y1⟩:=f2 y my
  rw [hx _ y1,hx _ f1]
  have ey:((y.toNat:Nat):Int)=y:=AZ y0
  have ef:((r.for_.toNat:Nat):Int)=r.for_:=AZ f0
  have hd:Zr8 R r.for_ y:=⟨r,mr,rfl,.inl my⟩
  have:=Zmo (l:=AD n) (p:=fun j=>decide (j=y.toNat∨ZdN R ((y.toNat:Nat):Int) ((j:Nat):Int))) (q:=fun j=>decide (j=r.for_.toNat∨ZdN R ((r.for_.toNat:Nat):Int) ((j:Nat):Int))) (fun j _ hj=>by
   simp only[decide_eq_true_eq,ey,ef] at hj ⊢
   rcases hj with rfl | hj
   ·exact .inr (by rw [ey];exact .one hd)
   ·exact .inr (.head hd hj))
  omega
 ·obtain ⟨⟨f0,f1⟩,_,f3⟩:=hR r mr
  obtain ⟨y0,y1⟩:=f3 y my
  rw [hx _ y1,hx _ f1]
  have ey:((y.toNat:Nat):Int)=y:=AZ y0
  have ef:((r.for_.toNat:Nat):Int)=r.for_:=AZ f0
  have hd:Zr8 R r.for_ y:=⟨r,mr,rfl,.inr my⟩
  obtain ⟨s1,s2⟩:=hS r mr y my
  have:=Zeb (l:=AD n) (p:=fun j=>decide (j=y.toNat∨ZdN R ((y.toNat:Nat):Int) ((j:Nat):Int))) (q:=fun j=>decide (j=r.for_.toNat∨ZdN R ((r.for_.toNat:Nat):Int) ((j:Nat):Int))) (fun j _ hj=>by
   simp only[decide_eq_true_eq,ey,ef] at hj ⊢
   rcases hj with rfl | hj
   ·exact .inr (by rw [ey];exact .one hd)
   ·exact .inr (.head hd hj)) r.for_.toNat (AY.2 f1) (by
    simp only[decide_eq_false_iff_not,ey,ef,not_or]
    exact ⟨fun e=>s1 (by rw [←ey,←ef,e]),s2⟩) yG
  omega
 ·by_cases hi:i<n
  ·left
   rw [hx i hi]
   have:=Ae (p:=fun j=>decide (j=i∨ZdN R ((i:Nat):Int) ((j:Nat):Int))) (l:=AD n)
   rw [BS] at this
   omega
  ·right;unfold Zgr;rw [if_neg hi]
end
section
open Classical
def rdN (row:List Int) (y:Int):Int:=(row[y.toNat]?).getD (-1)
def Zmr (row:List Int) (k:Nat) (r:Zg):Prop:=(∀y∈r.inn,0≤rdN row y∧rdN row y<((k:Nat):Int))∧∀y∈r.outs,rdN row y<0
def ZjJ (row l:List Int) (k:Int):List Int:=l.foldl (fun s x=>s.set x.toNat k) row
theorem Zpl (k:Int):∀(l row:List Int),(ZjJ row l k).length=row.length
 | [],_=>rfl
 | x::l,row=>(Zpl k l (row.set x.toNat k)).trans yG
theorem Zq7 (k:Int):∀(l row:List Int) (i:Nat),(ZjJ row l k)[i]?=if (∃x∈l,x.toNat=i)∧i<row.length then some k else row[i]?
 | [],row,i=>by simp [ZjJ]
 | x::l,row,i=>by
  have ih:=Zq7 k l (row.set x.toNat k) i
  show (ZjJ (row.set x.toNat k) l k)[i]?=_
  rw [ih,BT,Ad]
  by_cases h2:i<row.length
  ·by_cases h1:∃y∈l,y.toNat=i
   ·have:∃y∈x::l,y.toNat=i:=by obtain ⟨y,m,e⟩:=h1;exact ⟨y,by simp [m],e⟩
    rw [if_pos ⟨h1,h2⟩,if_pos ⟨this,h2⟩]
   ·rw [if_neg (fun h=>h1 h.1)]
    by_cases h3:x.toNat=i
    ·rw [if_pos h3,if_pos yE,if_pos ⟨⟨x,yG,h3⟩,h2⟩]
    ·rw [if_neg h3,if_neg]
     rintro ⟨⟨y,m,e⟩,_⟩
     rcases A6.1 m with rfl | m
     ·exact h3 e
     ·exact h1 ⟨y,m,e⟩
  ·have e:row[i]?=none:=AF yE
   by_cases h3:x.toNat=i
   ·have:¬x.toNat<row.length:=by omega
    simp [h2,e,h3]
   ·simp [h2,e,h3]
theorem ZH9 {row l m:List Int} {k:Int} (h:∀i,(∃x∈l,x.toNat=i)↔∃x∈m,x.toNat=i):ZjJ row l k=ZjJ row m k:=by
 apply As
 intro i
 rw [Zq7,Zq7]
 by_cases hc:(∃x∈l,x.toNat=i)∧i<row.length
 ·rw [if_pos hc,if_pos ⟨(h i).1 hc.1,hc.2⟩]
 ·rw [if_neg hc,if_neg fun h'=>hc ⟨(h i).2 h'.1,h'.2⟩]
def Ze8 (row:List Int):Nat:=row.countP fun v=>decide (v<0)
theorem Zk6 {k:Int} (hk:0≤k):∀(row:List Int) (i:Nat),Ze8 (row.set i k)≤Ze8 row∧(∀v,row[i]?=some v→v<0→Ze8 (row.set i k)+1≤Ze8 row)
 | [],i=>by simp [Ze8]
 | v::row,0=>by
  simp only[List.set_cons_zero,Ze8,Ac]
  have:¬k<0:=by omega
  refine ⟨by simp [this],fun u hu hn=>?_⟩
  simp at hu;subst hu
  simp [this,hn]
 | v::row,i+1=>by
  obtain ⟨h1,h2⟩:=Zk6 hk row i
  simp only[BU,Ze8,Ac] at *
  refine ⟨yE,fun u hu hn=>?_⟩
  have:=h2 u (by simpa using hu) hn
  omega
theorem ZmI {k:Int} (hk:0≤k):∀(l row:List Int),Ze8 (ZjJ row l k)≤Ze8 row
 | [],_=>Aa _
 | x::l,row=>AW (ZmI hk l (row.set x.toNat k)) (Zk6 hk row _).1
noncomputable def comeR (R:List Zg) (L:List Int) (s:Int) (row:List Int) (k:Nat):List Int:=R.filterMap fun r=>if lvN L r.for_.toNat=s∧rdN row r.for_<0∧Zmr row k r then some r.for_ else none
theorem ZiD {R:List Zg} {L:List Int} {s:Int} {row:List Int} {k:Nat} {x:Int}:x∈comeR R L s row k↔∃r∈R,r.for_=x∧lvN L x.toNat=s∧rdN row x<0∧Zmr row k r:=by
 unfold comeR
 rw [AU]
 constructor
 ·rintro ⟨r,mr,h⟩
  split at h
  ·rename_i hc
   obtain rfl:=AS h
   exact ⟨r,mr,rfl,hc⟩
  ·simp at h
 ·rintro ⟨r,mr,rfl,h⟩
  exact ⟨r,mr,by rw [if_pos h]⟩
structure RIn (n:Nat) (row:List Int) (k:Nat):Prop where
 len:row.length=n
 val:∀i,i<n→∃v,row[i]?=some v∧(v=-1∨(0≤v∧v<((k:Nat):Int)))
 few:k+Ze8 row≤n
theorem RIn.next {n:Nat} {R:List Zg} {L row:List Int} {s:Int} {k:Nat} (hR:∀r∈R,OkN n r) (h:RIn n row k) (hc:comeR R L s row k≠[]):RIn n (ZjJ row (comeR R L s row k) ((k:Nat):Int)) (k+1)∧Ze8 (ZjJ row (comeR R L s row k) ((k:Nat):Int))+1≤Ze8 row:=by
 have hd:Ze8 (ZjJ row (comeR R L s row k) ((k:Nat):Int))+1≤Ze8 row:=by
  cases e:comeR R L s row k with
  | nil=>exact absurd e hc
  | cons x l=>
   have mx:x∈comeR R L s row k:=by rw [e];simp
   obtain ⟨r,mr,rfl,_,h2,_⟩:=ZiD.1 mx
   obtain ⟨v,hv,_⟩:=h.val r.for_.toNat (hR r mr).1.2
   have h3:v<0:=by unfold rdN at h2;rw [hv] at h2;exact h2
   have h4:=(Zk6 (k:=((k:Nat):Int)) yE row r.for_.toNat).2 v hv h3
   have h5:=ZmI (k:=((k:Nat):Int)) yE l (row.set r.for_.toNat ((k:Nat):Int))
   exact AW (Nat.succ_le_succ h5) h4
 refine ⟨⟨by rw [Zpl,h.len],fun i hi=>?_,by have:=h.few;omega⟩,hd⟩
 rw [Zq7]
 obtain ⟨v,hv,a⟩:=h.val i hi
 split
 ·exact ⟨_,rfl,.inr ⟨yE,yE⟩⟩
 ·refine ⟨v,hv,?_⟩
  rcases a with a | ⟨h1,h2⟩
  ·exact .inl a
  ·exact .inr ⟨h1,yE⟩
noncomputable def Zbr (R:List Zg) (L:List Int) (s:Int):Nat→List Int→Nat→List Int × Nat
 | 0,row,k=>(row,k)
 | f+1,row,k=>if comeR R L s row k=[] then (row,k) else Zbr R L s f (ZjJ row (comeR R L s row k) ((k:Nat):Int)) (k+1)
theorem Zhk {n:Nat} {R:List Zg} {L:List Int} {s:Int} (hR:∀r∈R,OkN n r):∀(f:Nat) (row:List Int) (k:Nat),RIn n row k→Ze8 row≤f→RIn n (Zbr R L s f row k).1 (Zbr R L s f row k).2∧comeR R L s (Zbr R L s f row k).1 (Zbr R L s f row k).2=[]
 | 0,row,k,h,hf=>by
  refine ⟨h,Classical.byContradiction fun hc=>?_⟩
  have:=(h.next hR hc).2
  omega
 | f+1,row,k,h,hf=>by
  unfold Zbr
  by_cases hc:comeR R L s row k=[]
  ·rw [if_pos hc];exact ⟨h,hc⟩
  ·rw [if_neg hc]
   obtain ⟨h1,h2⟩:=h.next hR hc
   exact Zhk hR f _ _ h1 yE
theorem ZsG {R:List Zg} {L:List Int} {s:Int} (hs:∀r∈R,¬lvN L r.for_.toNat=s) (f:Nat) (row:List Int) (k:Nat):Zbr R L s f row k=(row,k):=by
 cases f with
 | zero=>rfl
 | succ f=>
  unfold Zbr
  rw [if_pos]
  rw [BE]
  intro x mx
  obtain ⟨r,mr,rfl,h,_⟩:=ZiD.1 mx
  exact hs r mr h
noncomputable def QM (R:List Zg) (L:List Int) (n:Nat) (l:List Nat) (st:List Int × Nat):List Int × Nat:=l.foldl (fun st s=>Zbr R L ((s:Nat):Int) n st.1 st.2) st
theorem ZkX {n:Nat} {R:List Zg} {L:List Int} (hR:∀r∈R,OkN n r):∀(l:List Nat) (st:List Int × Nat),RIn n st.1 st.2→RIn n (QM R L n l st).1 (QM R L n l st).2
 | [],_,h=>h
 | s::l,st,h=>ZkX hR l _ (Zhk hR n st.1 st.2 h (by have:=h.few;omega)).1
theorem ZnW (R:List Zg) (L:List Int) (n:Nat) (l:List Nat) (s:Nat) (st:List Int × Nat):QM R L n (l++[s]) st=Zbr R L ((s:Nat):Int) n (QM R L n l st).1 (QM R L n l st).2:=by
 unfold QM
 rw [AM]
 rfl
theorem Zps {n:Nat} {R:List Zg} {L:List Int} {a b:Nat} (h1:∀r∈R,lvN L r.for_.toNat<((a:Nat):Int)) (h2:∀r∈R,lvN L r.for_.toNat<((b:Nat):Int)) (st:List Int × Nat):QM R L n (AD a) st=QM R L n (AD b) st:=by
 have key:∀(a d:Nat),(∀r∈R,lvN L r.for_.toNat<((a:Nat):Int))→QM R L n (AD (a+d)) st=QM R L n (AD a) st:=by
  intro a d ha
  induction d with
  | zero=>rfl
  | succ d ih=>
   rw [show a+(d+1)=(a+d)+1 by omega,List.range_succ,ZnW,ih,ZsG]
   intro r mr e
   have:=ha r mr
   omega
 rcases Nat.le_total a b with h | h
 ·have:=key a (b - a) h1
  rw [show a+(b - a)=b by omega] at this
  exact this.symm
 ·have:=key b (a - b) h2
  rw [show b+(a - b)=a by omega] at this
  exact this
end
section
open Classical
theorem ZuC (F:List Zd):∀n (l:List Zr),l.length=n→∀t∈ZM l F,∀f∈t.facts,∃x∈l,x.kind=1∧x.pattern.rel=f.rel:=by
 intro n
 induction n with
 | zero=>
  intro l h t mt f mf
  rw [AR h] at mt
  simp [ZM] at mt
  subst mt
  simp [Zt3] at mf
 | succ n ih=>
  intro l h
  obtain ⟨p,x,rfl⟩:∃p x,l=p++[x]:=⟨l.dropLast,l.getLast (by intro e;simp [e] at h),(Aq _).symm⟩
  intro t mt f mf
  rw [ZaR] at mt
  obtain ⟨s,ms,mt⟩:=AI.1 mt
  have old:f∈s.facts→∃y∈p++[x],y.kind=1∧y.pattern.rel=f.rel:=fun hf=>by
   obtain ⟨y,my,hy⟩:=ih p (by simpa using h) s ms f hf
   exact ⟨y,by simp [my],hy⟩
  unfold ZgR at mt
  by_cases hk:x.kind=1
  ·rw [if_pos hk] at mt
   obtain ⟨g,mg,hg⟩:=AU.1 mt
   obtain ⟨b,hb,rfl⟩:=Aj.1 hg
   simp only[A4,AK] at mf
   rcases mf with mf | rfl
   ·exact old mf
   ·refine ⟨x,by simp,hk,?_⟩
    unfold Zan at hb
    split at hb
    ·rename_i hc
     unfold Zfh at hc
     simp only[A3,decide_eq_true_eq,ZN] at hc
     first | exact hc.1.2 | exact hc.2 | exact hc.1.1.2 | exact hc.2.1 | exact hc.1.2.1
    ·simp at hb
  ·rw [if_neg hk] at mt
   split at mt
   ·simp at mt;subst mt;exact old mf
   ·simp at mt
def Zfa (F:List Zd) (x:Int):ByteArray:=match F[x.toNat]? with | some f=>f.rel | none=>⟨#[]⟩
theorem Zis {F:List Zd} {f:Zd} {x:Int} (e:Z9 F f=x) (h0:0≤x):(0≤x∧x.toNat<F.length)∧Zfa F x=f.rel∧f∈F:=by
 rcases Zhd F f with ⟨_,h2⟩ | ⟨j,h1,h2⟩
 ·omega
 ·have ej:x.toNat=j:=by omega
  refine ⟨⟨h0,?_⟩,?_,AJ h2⟩
  ·rw [ej];exact (AH.1 h2).1
  ·unfold Zfa;rw [ej,h2]
structure ZCs (R:List Zf) (F:List Zd) (x:Zg):Prop where
 node:0≤x.for_∧x.for_.toNat<F.length
 inn:∀y∈x.inn,(0≤y∧y.toNat<F.length)∧Ze3 R (Zfa F x.for_) (Zfa F y)
 outs:∀y∈x.outs,(0≤y∧y.toNat<F.length)∧Ze3 R (Zfa F x.for_) (Zfa F y)∧Zfa F y≠Zfa F x.for_∧¬YY R (Zfa F y) (Zfa F x.for_)
 up:x.inn.Pairwise (·<·)∧x.outs.Pairwise (·<·)
theorem ZdA {R:List Zf} {base F:List Zd} (h:Yu R base F) {x:Zg} (mx:x∈YJ R F base):ZCs R F x:=by
 rcases ZjN.1 mx with ⟨f,mf,rfl⟩ | ⟨r,mr,t,mt,a,ma,rfl⟩
 ·obtain ⟨j,h1,h2⟩:=Zgc (h.good.inc f mf)
  have:=(AH.1 h2).1
  exact ⟨⟨by simp only;omega,by simp only;omega⟩,yG,yG,Ar,Ar⟩
 ·have q:Z7 a t∈F:=h.closed r mr t mt a ma
  obtain ⟨j,h1,h2⟩:=Zgc q
  have hr:=(h.rule mr).1
  have m:=hr
  unfold ZU at m
  simp only[A3] at m
  have hk:a.kind=1:=by
   have:=AA.1 m.2 a ma
   simpa using this
  obtain ⟨hn,u,_⟩:=Zis (F:=F) (f:=Z7 a t) rfl (by rw [h1];omega)
  have v:=h.good.ok _ q
  have i:∀p b,YH (Zce (Zba p b)).1=true→(Zce (Zba p b)).1.rel=p.rel:=fun p b hf=>by
   cases hi:Zba p b with
   | none=>
    rw [hi] at hf
    exact absurd hf yF
   | some g=>
    unfold Zba at hi
    split at hi
    ·obtain ⟨l,_,rfl⟩:=Aj.1 hi
     rfl
    ·simp at hi
  have k:Zfa F (Z9 F (Z7 a t))=a.pattern.rel:=u.trans (i a.pattern t.binding v)
  have hw:a.pattern.rel∈Y6 r:=AU.2 ⟨a,ma,by rw [if_pos (.inl hk)]⟩
  refine ⟨hn,fun y my=>?_,fun y my=>?_,(XN F _).1,(XN F _).1⟩
  ·obtain ⟨f,mf,e,e0⟩:=((XN F t.facts).2.1 y).1 my
   obtain ⟨k1,k2,_⟩:=Zis e e0
   obtain ⟨c,mc,ck,cr⟩:=ZuC F _ (QZ r) rfl t mt f mf
   refine ⟨k1,r,mr,?_,?_⟩
   ·show Zfa F (Z9 F (Z7 a t))∈_
    rw [k];exact hw
   ·rw [k2,←cr]
    exact AU.2 ⟨c,(Az.1 mc).1,by rw [if_pos (.inl ck)]⟩
  ·obtain ⟨f,mf,e,e0⟩:=((XN F (Zqu r t)).2.1 y).1 my
   obtain ⟨k1,k2,k3⟩:=Zis e e0
   obtain ⟨c,mc,rfl⟩:=Ab.1 mf
   obtain ⟨mc,ck⟩:=Az.1 mc
   have cr:=i c.pattern t.binding (h.good.ok _ k3)
   have hy:Zfa F y=c.pattern.rel:=k2.trans cr
   have o:Zfa F (Z6 F r t a).for_=a.pattern.rel:=k
   have d:Zih R c.pattern.rel a.pattern.rel=true:=by
    have h1:=h.logical
    rw [A3] at h1
    have h2:=AA.1 h1.2 r mr
    unfold YN at h2
    rw [A3] at h2
    have h3:=AA.1 h2.2 c mc
    unfold Zfd at h3
    rw [ck] at h3
    simp only[Bool.not_true,Ax] at h3
    exact AA.1 h3 _ (ZS.2 hw)
   unfold Zih at d
   simp only[A3,Bool.not_eq_true',decide_eq_false_iff_not] at d
   rw [o,hy]
   refine ⟨k1,⟨r,mr,hw,AU.2 ⟨c,mc,by rw [if_pos (.inr (by simpa using ck))]⟩⟩,fun e=>?_,d.2⟩
   have:=ZrS.1 d.1
   exact this e.symm
theorem Zr9 {R:List Zf} {base F:List Zd} (h:Yu R base F):∀x∈YJ R F base,OkN F.length x:=fun x mx=>by
 have hf:=ZdA h mx
 exact ⟨hf.node,fun y my=>(hf.inn y my).1,fun y my=>(hf.outs y my).1⟩
theorem Znl {R:List Zf} {base F:List Zd} (h:Yu R base F):Zni (YJ R F base):=by
 have a:∀x y,Zr8 (YJ R F base) x y→Ze3 R (Zfa F x) (Zfa F y):=fun x y ⟨r,mr,e,hy⟩=>by
  have hf:=ZdA h mr
  subst e
  rcases hy with hy | hy
  ·exact (hf.inn y hy).2
  ·exact (hf.outs y hy).2.1
 have b:∀x y,ZdN (YJ R F base) x y→YY R (Zfa F x) (Zfa F y):=fun x y hd=>by
  induction hd with
  | one h1=>exact .one (a _ _ h1)
  | step _ h1 ih=>exact .next ih (a _ _ h1)
 intro r mr y my
 obtain ⟨_,_,h2,h3⟩:=(ZdA h mr).outs y my
 exact ⟨fun e=>h2 (by rw [e]),fun hd=>h3 (b _ _ hd)⟩
end
theorem ZFi (x a b:Int):Za5 x a b=some (decide (a≤x)&&decide (x≤b)):=by
 unfold Za5
 cases decide (a≤x)<;>simp
def Zsq (l:List Int) (n:Int) (i:Nat) (x:Int):Bool:=decide (0≤x)&&(decide (x<n)&&(decide (i=0)||(match l[i - 1]? with | some y=>decide (y<x) | none=>false)))
def Zqm (l:List Int) (n:Int):Bool:=Zar (Zsq l n) l 0
theorem Zuz {l:List Int} {j:Nat} {x:Int} (hl:l.length≤1000000000) (hj:l[j]?=some x) (h0:0<j):∃y,l[j - 1]?=some y∧atI l (IntKind.i64.wrap (((j:Nat):Int) - 1))=some y:=by
 have hlt:=(AH.1 hj).1
 have hg:l[j - 1]?=some l[j - 1]:=A5 yE
 refine ⟨l[j - 1],hg,?_⟩
 have hw:IntKind.i64.wrap (((j:Nat):Int) - 1)=((j - 1:Nat):Int):=by rw [Xn yE yE];omega
 rw [hw]
 unfold atI
 rw [if_pos yE,Af,hg]
theorem Zpq (l:List Int) (n:Int) (hl:l.length≤1000000000):YW l n=some (Zqm l n):=by
 unfold YW Zqm
 rw [Xh (p:=Zsq l n) (r:=false)]
 ·cases Zar (Zsq l n) l 0<;>rfl
 ·intro j x hj
  rw [AL]
  unfold Zsq
  by_cases h1:x<0
  ·rw [if_pos (by simpa using h1),show decide (0≤x)=false by simp;omega];rfl
  ·rw [if_neg (by simpa using h1),show decide (0≤x)=true by simp;omega]
   by_cases h2:n≤x
   ·rw [if_pos (by simpa using h2),show decide (x<n)=false by simp;omega];rfl
   ·rw [if_neg (by simpa using h2),show decide (x<n)=true by simp;omega]
    by_cases h3:j=0
    ·subst h3;rfl
    ·obtain ⟨y,e1,e2⟩:=Zuz hl hj yE
     rw [if_pos (by simp;omega),e2,A0,e1]
     by_cases h4:x≤y
     ·rw [if_pos (by simpa using h4)]
      simp [h3,show ¬y<x by omega]
     ·rw [if_neg (by simpa using h4)]
      simp [h3,show y<x by omega]
theorem ZFf (l:List Int) (n:Int) (hl:l.length≤1000000000):ZD4 l n=some (Zqm l (IntKind.i64.wrap (n - 1)+1)):=by
 unfold ZD4 Zqm
 generalize IntKind.i64.wrap (n - 1)=m
 rw [Xh (p:=Zsq l (m+1)) (r:=false)]
 ·cases Zar (Zsq l (m+1)) l 0<;>rfl
 ·intro j x hj
  rw [AL,ZFi,A0]
  unfold Zsq
  by_cases h1:x<0
  ·rw [show decide (0≤x)=false by simp;omega];rfl
  ·rw [show decide (0≤x)=true by simp;omega]
   by_cases h2:m<x
   ·rw [show decide (x≤m)=false by simp;omega,show decide (x<m+1)=false by simp;omega];rfl
   ·rw [show decide (x≤m)=true by simp;omega,show decide (x<m+1)=true by simp;omega]
    by_cases h3:j=0
    ·subst h3;rfl
    ·obtain ⟨y,e1,e2⟩:=Zuz hl hj yE
     rw [show (true&&true)=true from rfl,if_pos rfl,if_pos (by simp;omega),e2,A0,e1]
     by_cases h4:x≤y
     ·rw [if_pos (by simpa using h4)]
      simp [h3,show ¬y<x by omega]
     ·rw [if_neg (by simpa using h4)]
      simp [h3,show y<x by omega]
theorem ZGD (l:List Int) (n:Int) (hl:l.length≤1000000000) (h0:0≤n) (h1:n≤1000000000):ZD4 l n=some (Zqm l n):=by
 rw [ZFf l n hl,Xn yE yE]
 congr 2
 omega
theorem Ztz {l:List Int} {n:Int} (h1:∀x∈l,0≤x∧x<n) (h2:l.Pairwise (·<·)):Zqm l n=true:=by
 have key:∀(q a:List Int),l=a++q→Zar (Zsq l n) q a.length=true:=by
  intro q
  induction q with
  | nil=>intro _ _;rfl
  | cons x q ih=>
   intro a e
   simp only[Zar,A3]
   refine ⟨?_,?_⟩
   ·have hx:=h1 x (by rw [e];simp)
    simp only[Zsq,A3,decide_eq_true_eq,BV]
    refine ⟨hx.1,hx.2,?_⟩
    by_cases h0:a.length=0
    ·exact .inl h0
    ·right
     have b:a.length - 1<a.length:=by omega
     have hg:l[a.length - 1]?=some a[a.length - 1]:=by rw [e,AO b,A5 b]
     rw [hg]
     rw [e,List.pairwise_append] at h2
     simpa using h2.2.2 _ (BX b) x yG
   ·have:=ih (a++[x]) (by rw [e];simp)
    simpa using this
 exact key l [] rfl
def Zs3 (n:Int) (r:Zg):Bool:=decide (0≤r.for_)&&(decide (r.for_<n)&&(Zqm r.inn n&&Zqm r.outs n))
def ZeV (b:Zu):Bool:=decide (0≤b.nodes)&&(decide (b.nodes≤24)&&(decide (b.reasons.length≤60)&&b.reasons.all (Zs3 b.nodes)))
def Ztd (b:Zu):Prop:=∀r∈b.reasons,r.inn.length≤1000000000∧r.outs.length≤1000000000
theorem Zli {b:Zu} (h:Ztd b) (hl:b.reasons.length≤1000000000):ZbW b=some (ZeV b):=by
 unfold ZbW ZeV
 by_cases h0:b.nodes<0
 ·rw [if_pos (by simpa using h0),show decide (0≤b.nodes)=false by simp;omega];rfl
 rw [if_neg (by simpa using h0),show decide (0≤b.nodes)=true by simp;omega]
 by_cases h1:24<b.nodes
 ·rw [if_pos (by simpa using h1),show decide (b.nodes≤24)=false by simp;omega];rfl
 rw [if_neg (by simpa using h1),show decide (b.nodes≤24)=true by simp;omega]
 by_cases h2:60<b.reasons.length
 ·rw [if_pos (by simp;omega),show decide (b.reasons.length≤60)=false by simp;omega];rfl
 rw [if_neg (by simp;omega),show decide (b.reasons.length≤60)=true by simp;omega]
 simp only[Am]
 rw [ZW (p:=Zs3 b.nodes) (r:=false)]
 ·cases b.reasons.all (Zs3 b.nodes)<;>rfl
 ·intro i r mr
  obtain ⟨s1,s2⟩:=h r mr
  unfold Zs3
  by_cases q1:r.for_<0
  ·rw [if_pos (by simpa using q1),show decide (0≤r.for_)=false by simp;omega];rfl
  rw [if_neg (by simpa using q1),show decide (0≤r.for_)=true by simp;omega]
  by_cases q2:b.nodes≤r.for_
  ·rw [if_pos (by simpa using q2),show decide (r.for_<b.nodes)=false by simp;omega];rfl
  rw [if_neg (by simpa using q2),show decide (r.for_<b.nodes)=true by simp;omega,Zpq _ _ s1,Zpq _ _ s2]
  simp only[A0,Am]
  cases Zqm r.inn b.nodes<;>cases Zqm r.outs b.nodes<;>rfl
theorem ZF5 {b:Zu} (h:Ztd b) (hl:b.reasons.length≤1000000000):ZEb b=some (ZeV b):=by
 unfold ZEb ZeV
 by_cases hn:0≤b.nodes∧b.nodes≤24
 ·have hw:IntKind.i64.wrap (b.nodes - 1)=b.nodes - 1:=Xn yE yE
  rw [ZW (p:=Zs3 b.nodes) (r:=false)]
  ·rw [ZFi,show decide (0≤b.nodes)=true by simp;omega,show decide (b.nodes≤24)=true by simp;omega]
   simp only[A0,Bool.and_self,if_true,Am]
   have hc:decide (((b.reasons.length:Nat):Int)≤60)=decide (b.reasons.length≤60):=by rw [AP];simp;omega
   rw [hc]
   cases b.reasons.all (Zs3 b.nodes)<;>cases decide (b.reasons.length≤60)<;>rfl
  ·intro i r mr
   obtain ⟨s1,s2⟩:=h r mr
   rw [ZFi,hw,ZGD _ _ s1 hn.1 yE,ZGD _ _ s2 hn.1 yE]
   unfold Zs3
   have hc:decide (r.for_≤b.nodes - 1)=decide (r.for_<b.nodes):=by rw [AP];simp;omega
   rw [hc]
   simp only[A0]
   cases decide (0≤r.for_)<;>cases decide (r.for_<b.nodes)<;>cases Zqm r.inn b.nodes<;>cases Zqm r.outs b.nodes<;>rfl
 ·have hf:(decide (0≤b.nodes)&&(decide (b.nodes≤24)&&(decide (b.reasons.length≤60)&&b.reasons.all (Zs3 b.nodes))))=false:=by
   by_cases h0:0≤b.nodes
   ·have:decide (b.nodes≤24)=false:=by simp;omega
    rw [this];simp
   ·have:decide (0≤b.nodes)=false:=by simp;omega
    rw [this];simp
  rw [hf,ZW (p:=fun r=>decide (0≤r.for_)&&(decide (r.for_≤IntKind.i64.wrap (b.nodes - 1))&&(Zqm r.inn (IntKind.i64.wrap (b.nodes - 1)+1)&&Zqm r.outs (IntKind.i64.wrap (b.nodes - 1)+1)))) (r:=false)]
  ·rw [ZFi]
   have:(decide (0≤b.nodes)&&decide (b.nodes≤24))=false:=by
    cases h1:decide (0≤b.nodes)<;>cases h2:decide (b.nodes≤24)<;>simp at h1 h2 ⊢
    omega
   rw [this]
   split<;>rfl
  ·intro i r mr
   obtain ⟨s1,s2⟩:=h r mr
   rw [ZFi,ZFf _ _ s1,ZFf _ _ s2]
   simp only[A0]
   cases decide (0≤r.for_)<;>cases decide (r.for_≤IntKind.i64.wrap (b.nodes - 1))<;>cases Zqm r.inn (IntKind.i64.wrap (b.nodes - 1)+1)<;>cases Zqm r.outs (IntKind.i64.wrap (b.nodes - 1)+1)<;>rfl
section
open Classical
def ZIl (row:List Bool):Nat:=row.countP fun v=>!v
theorem ZHo:∀(row:List Bool) (i:Nat),row[i]?=some false→ZIl (row.set i true)+1=ZIl row
 | [],i,h=>by simp at h
 | v::row,0,h=>by
  simp at h;subst h
  simp [ZIl]
 | v::row,i+1,h=>by
  have ih:=ZHo row i (by simpa using h)
  simp only[ZIl,BU,Ac] at *
  omega
def ZEz (s:List Bool × List Int) (y:Int):List Bool × List Int:=if s.1[y.toNat]?=some true then s else (s.1.set y.toNat true,s.2++[y])
structure ZDJ (n:Nat) (R:List Zg) (x:Int) (s:List Bool × List Int):Prop where
 len:s.1.length=n
 row:∃t,s.2=x::t∧(∀y∈t,(0≤y∧y.toNat<n)∧ZdN R x y∧s.1[y.toNat]?=some true)∧(∀y:Int,0≤y→s.1[y.toNat]?=some true→y∈t)∧t.length+ZIl s.1=n
structure ZER (s u:List Bool × List Int):Prop where
 mono:∀i:Nat,s.1[i]?=some true→u.1[i]?=some true
 more:∃v,u.2=s.2++v
theorem ZER.refl (s:List Bool × List Int):ZER s s:=⟨fun _ h=>h,[],by simp⟩
theorem ZER.trans {s t u:List Bool × List Int} (h:ZER s t) (k:ZER t u):ZER s u:=⟨fun i hi=>k.mono i (h.mono i hi),by
 obtain ⟨a,ha⟩:=h.more
 obtain ⟨b,hb⟩:=k.more
 exact ⟨a++b,by rw [hb,ha,List.append_assoc]⟩⟩
theorem ZIw {row:List Bool} {j:Nat} (hj:j<row.length) (i:Nat):(row.set j true)[i]?=if j=i then some true else row[i]?:=by
 rw [Ad]
 by_cases e:j=i
 ·rw [if_pos e,if_pos e,if_pos hj]
 ·rw [if_neg e,if_neg e]
theorem ZIe {n:Nat} {R:List Zg} {x y:Int} {s:List Bool × List Int} (h:ZDJ n R x s) (hy:0≤y∧y.toNat<n) (hd:ZdN R x y):ZDJ n R x (ZEz s y)∧ZER s (ZEz s y)∧(ZEz s y).1[y.toNat]?=some true:=by
 unfold ZEz
 by_cases hs:s.1[y.toNat]?=some true
 ·rw [if_pos hs];exact ⟨h,.refl s,hs⟩
 ·rw [if_neg hs]
  have hl:y.toNat<s.1.length:=by rw [h.len];exact hy.2
  have hf:s.1[y.toNat]?=some false:=by
   rw [A5 hl] at hs ⊢
   cases hv:s.1[y.toNat] with
   | true=>rw [hv] at hs;exact absurd rfl hs
   | false=>rfl
  have d:=ZIw hl
  obtain ⟨t,t1,t2,t3,t4⟩:=h.row
  have f:∀i:Nat,s.1[i]?=some true→(s.1.set y.toNat true)[i]?=some true:=fun i hi=>by
   rw [d]
   split
   ·rfl
   ·exact hi
  refine ⟨⟨by simp [h.len],t++[y],by simp [t1],fun z mz=>?_,fun z z0 hz=>?_,?_⟩,⟨f,[y],rfl⟩,by rw [d,if_pos rfl]⟩
  ·rcases A4.1 mz with mz | mz
   ·obtain ⟨a,b,c⟩:=t2 z mz
    exact ⟨a,b,f _ c⟩
   ·simp at mz;subst mz
    exact ⟨hy,hd,by rw [d,if_pos rfl]⟩
  ·rw [d] at hz
   by_cases e:y.toNat=z.toNat
   ·have:z=y:=by omega
    simp [this]
   ·rw [if_neg e] at hz
    exact A4.2 (.inl (t3 z z0 hz))
  ·have:=ZHo s.1 y.toNat hf
   simp only[A8,Ag]
   omega
theorem ZGv {n:Nat} {R:List Zg} {x:Int}:∀{l:List Int} {s:List Bool × List Int},ZDJ n R x s→(∀y∈l,(0≤y∧y.toNat<n)∧ZdN R x y)→ZDJ n R x (l.foldl ZEz s)∧ZER s (l.foldl ZEz s)∧∀y∈l,(l.foldl ZEz s).1[y.toNat]?=some true
 | [],s,h,_=>⟨h,.refl s,yG⟩
 | y::l,s,h,hl=>by
  obtain ⟨a1,a2,a3⟩:=ZIe h (hl y yG).1 (hl y yG).2
  obtain ⟨b1,b2,b3⟩:=ZGv (l:=l) a1 fun z mz=>hl z (by simp [mz])
  exact ⟨b1,a2.trans b2,fun z mz=>by
   rcases A6.1 mz with rfl | mz
   ·exact b2.mono _ a3
   ·exact b3 z mz⟩
noncomputable def ZES (z:Int) (s:List Bool × List Int) (r:Zg):List Bool × List Int:=if r.for_=z then (r.inn++r.outs).foldl ZEz s else s
theorem ZIv {n:Nat} {R:List Zg} {x z:Int} (hR:∀r∈R,OkN n r) (hz:z=x∨ZdN R x z) {r:Zg} (mr:r∈R) (e:r.for_=z):∀y∈r.inn++r.outs,(0≤y∧y.toNat<n)∧ZdN R x y:=fun y my=>by
 have hy:=A4.1 my
 have hd:Zr8 R z y:=⟨r,mr,e,hy⟩
 refine ⟨hy.elim ((hR r mr).2.1 y) ((hR r mr).2.2 y),?_⟩
 rcases hz with rfl | hz
 ·exact .one hd
 ·exact .step hz hd
theorem ZIi {n:Nat} {R:List Zg} {x z:Int} (hR:∀r∈R,OkN n r) (hz:z=x∨ZdN R x z) {s:List Bool × List Int} (h:ZDJ n R x s) {r:Zg} (mr:r∈R):ZDJ n R x (ZES z s r)∧ZER s (ZES z s r)∧(r.for_=z→∀y∈r.inn++r.outs,(ZES z s r).1[y.toNat]?=some true):=by
 unfold ZES
 by_cases e:r.for_=z
 ·rw [if_pos e]
  obtain ⟨a1,a2,a3⟩:=ZGv h (ZIv hR hz mr e)
  exact ⟨a1,a2,fun _=>a3⟩
 ·rw [if_neg e]
  exact ⟨h,.refl s,fun h=>absurd h e⟩
theorem ZHv {n:Nat} {R:List Zg} {x z:Int} (hR:∀r∈R,OkN n r) (hz:z=x∨ZdN R x z):∀{l:List Zg} {s:List Bool × List Int},(∀r∈l,r∈R)→ZDJ n R x s→ZDJ n R x (l.foldl (ZES z) s)∧ZER s (l.foldl (ZES z) s)∧∀r∈l,r.for_=z→∀y∈r.inn++r.outs,(l.foldl (ZES z) s).1[y.toNat]?=some true
 | [],s,_,h=>⟨h,.refl s,yG⟩
 | r::l,s,hl,h=>by
  obtain ⟨a1,a2,a3⟩:=ZIi hR hz h (hl r yG)
  obtain ⟨b1,b2,b3⟩:=ZHv hR hz (l:=l) (fun q mq=>hl q (by simp [mq])) a1
  exact ⟨b1,a2.trans b2,fun q mq e y my=>by
   rcases A6.1 mq with rfl | mq
   ·exact b2.mono _ (a3 e y my)
   ·exact b3 q mq e y my⟩
theorem ZDJ.at {n:Nat} {R:List Zg} {x:Int} {s:List Bool × List Int} (h:ZDJ n R x s) {i:Nat} {z:Int} (hi:s.2[i]?=some z):z=x∨ZdN R x z:=by
 obtain ⟨t,t1,t2,_⟩:=h.row
 have:=AJ hi
 rw [t1] at this
 exact (A6.1 this).imp id fun m=>(t2 z m).2.1
theorem ZDJ.fin {n:Nat} {R:List Zg} {x:Int} (hR:∀r∈R,OkN n r) {d:List Bool} {c:List Int} (hI:ZDJ n R x (d,c)) (hC:∀j z,j<c.length→c[j]?=some z→∀y,Zr8 R z y→d[y.toNat]?=some true):d.length=n∧∀y:Int,0≤y→(d[y.toNat]?=some true↔ZdN R x y):=by
 obtain ⟨t,t1,t2,t3,t4⟩:=hI.row
 simp only at t1 t4
 refine ⟨hI.len,fun y y0=>⟨fun hy=>(t2 y (t3 y y0 hy)).2.1,fun hy=>?_⟩⟩
 have f:∀z∈c,∀y,Zr8 R z y→d[y.toNat]?=some true:=fun z mz=>by
  obtain ⟨j,hj,e⟩:=List.getElem_of_mem mz
  exact hC j z hj (by rw [A5 hj,e])
 have h0:∀a b,Zr8 R a b→0≤b:=fun a b ⟨r,mr,_,hb⟩=>hb.elim (fun h=>((hR r mr).2.1 b h).1) fun h=>((hR r mr).2.2 b h).1
 have:∀y,ZdN R x y→0≤y∧d[y.toNat]?=some true:=fun y hd=>by
  induction hd with
  | one h=>exact ⟨h0 _ _ h,f x (by rw [t1];simp) _ h⟩
  | step _ h ih=>exact ⟨h0 _ _ h,f _ (by rw [t1];exact List.mem_cons_of_mem _ (t3 _ ih.1 ih.2)) _ h⟩
 exact (this y hy).2
theorem ZHS {σ ρ:Type} {n:Nat} {R:List Zg} {x:Int} (hR:∀r∈R,OkN n r) (st:List Bool→List Int→Nat→σ) (g:List Bool→ρ) {body:σ→Option (σ ⊕ ρ)}
  (h1:∀b a i z,ZDJ n R x (b,a)→i<n+1→a[i]?=some z→(z=x∨ZdN R x z)→body (st b a i)=some (.inl (st (R.foldl (ZES z) (b,a)).1 (R.foldl (ZES z) (b,a)).2 (i+1))))
  (h2:∀b a,ZDJ n R x (b,a)→body (st b a a.length)=some (.inr (g b))):
  ∀m b a i,ZDJ n R x (b,a)→i≤a.length→n+1 - i≤m→(∀j z,j<i→a[j]?=some z→∀y,Zr8 R z y→b[y.toNat]?=some true)→∃row,Y5 body (st b a i)=some (g row)∧row.length=n∧∀y:Int,0≤y→(row[y.toNat]?=some true↔ZdN R x y):=by
 intro m
 induction m with
 | zero=>
  intro b a i hI hi hm hC
  obtain ⟨t,t1,t2,t3,t4⟩:=hI.row
  simp only at t1 t4
  have:a.length=t.length+1:=by rw [t1];simp
  have c:i=a.length:=by omega
  subst c
  exact ⟨b,YG (h2 b a hI),hI.fin hR hC⟩
 | succ m ih=>
  intro b a i hI hi hm hC
  by_cases c:i=a.length
  ·subst c
   exact ⟨b,YG (h2 b a hI),hI.fin hR hC⟩
  ·have f:i<a.length:=by omega
   obtain ⟨z,hz⟩:∃z,a[i]?=some z:=⟨_,A5 f⟩
   have d:=hI.at (i:=i) (z:=z) hz
   obtain ⟨t,t1,t2,t3,t4⟩:=hI.row
   simp only at t1 t4
   have htl:a.length=t.length+1:=by rw [t1];simp
   have k:i<n+1:=by omega
   rw [YU (h1 b a i z hI k hz d)]
   obtain ⟨b1,b2,b3⟩:=ZHv hR d (l:=R) (fun _ h=>h) hI
   obtain ⟨v,hv⟩:=b2.more
   simp only at hv
   refine ih _ _ (i+1) b1 (by rw [hv,A8];omega) yE fun j u hj hu y hd=>?_
   rw [hv] at hu
   rw [AO yE] at hu
   by_cases o:j<i
   ·exact b2.mono _ (hC j u o hu y hd)
   ·obtain rfl:j=i:=by omega
    rw [hz] at hu
    obtain rfl:=AS hu
    obtain ⟨r,mr,e,hy⟩:=hd
    exact b3 r mr e y (A4.2 hy)
end
section
open Classical
theorem ZyX {P:Nat→Prop}:∀v,P v→∃v,P v∧∀u,P u→v≤u:=by
 intro v
 induction v using Nat.strongRecOn with
 | ind v ih=>
  intro hv
  by_cases h:∃u,P u∧u<v
  ·obtain ⟨u,hu,hl⟩:=h
   exact ih u hl hu
  ·exact ⟨v,hv,fun u hu=>by
    by_cases hl:u<v
    ·exact absurd ⟨u,hu,hl⟩ h
    ·omega⟩
theorem Ztx {n:Nat} {R:List Zg} (hR:∀r∈R,OkN n r) {t0:Nat→Int} (h0:Zjk R t0):∃L,ZaZ n R L:=by
 have hm:∀i:Nat,∃v:Nat,(∃t,Zjk R t∧(t i).toNat=v)∧∀u,(∃t,Zjk R t∧(t i).toNat=u)→v≤u:=fun i=>ZyX _ ⟨t0,h0,rfl⟩
 let m:Nat→Nat:=fun i=>Classical.choose (hm i)
 have m1:∀i,∃t,Zjk R t∧(t i).toNat=m i:=fun i=>(Classical.choose_spec (hm i)).1
 have m2:∀i t,Zjk R t→((m i:Nat):Int)≤t i:=fun i t ht=>by
  have:=(Classical.choose_spec (hm i)).2 _ ⟨t,ht,rfl⟩
  have:=ht.pos i
  show ((Classical.choose (hm i):Nat):Int)≤t i
  omega
 let L:List Int:=(AD n).map fun i=>((m i:Nat):Int)
 have hL:∀i,i<n→lvN L i=((m i:Nat):Int):=fun i hi=>by
  have:L[i]?=some ((m i:Nat):Int):=by simp [L,hi]
  unfold lvN;rw [this];rfl
 have a:∀i,¬i<n→lvN L i=0:=fun i hi=>by
  unfold lvN;rw [AF (by simp [L];omega)];rfl
 refine ⟨L,by simp [L],⟨fun i=>?_,fun r mr y my=>?_,fun r mr y my=>?_⟩,fun t ht i=>?_⟩
 ·by_cases hi:i<n
  ·rw [hL i hi];omega
  ·rw [a i hi];exact AG _
 ·obtain ⟨f1,f2,_⟩:=hR r mr
  rw [hL _ f1.2,hL _ (f2 y my).2]
  obtain ⟨t,ht,e⟩:=m1 r.for_.toNat
  have:=m2 y.toNat t ht
  have:=ht.inn r mr y my
  have:=ht.pos r.for_.toNat
  omega
 ·obtain ⟨f1,_,f3⟩:=hR r mr
  rw [hL _ f1.2,hL _ (f3 y my).2]
  obtain ⟨t,ht,e⟩:=m1 r.for_.toNat
  have:=m2 y.toNat t ht
  have:=ht.outs r mr y my
  have:=ht.pos r.for_.toNat
  omega
 ·by_cases hi:i<n
  ·rw [hL i hi];exact m2 i t ht
  ·rw [a i hi];exact ht.pos i
theorem ZsR {n:Nat} {R:List Zg} (hR:∀r∈R,OkN n r) (hS:Zni R):∃L,ZaZ n R L∧∀i,lvN L i<n∨lvN L i=0:=by
 obtain ⟨h1,h2⟩:=Zp9 hR hS
 obtain ⟨L,hL⟩:=Ztx hR h1
 refine ⟨L,hL,fun i=>?_⟩
 have:=hL.least _ h1 i
 have:=hL.sol.pos i
 rcases h2 i with h | h<;>omega
noncomputable def Zb8 (s:List Int × Bool) (r:Zg):List Int × Bool:=if lvN s.1 r.for_.toNat<Zg9 s.1 r then (X2 s.1 r,true) else s
theorem Zgj {n:Nat}:∀{R:List Zg} {s:List Int × Bool},s.1.length=n→(∀r∈R,OkN n r)→(R.foldl Zb8 s).1=X9 R s.1∧((R.foldl Zb8 s).2=true↔s.2=true∨X9 R s.1≠s.1)
 | [],s,_,_=>by simp [X9]
 | r::R,s,hl,hR=>by
  have a:∀q∈R,OkN n q:=fun q mq=>hR q (by simp [mq])
  rw [AB]
  show _∧(_↔s.2=true∨X9 R (X2 s.1 r)≠s.1)
  by_cases hc:lvN s.1 r.for_.toNat<Zg9 s.1 r
  ·have e:Zb8 s r=(X2 s.1 r,true):=if_pos hc
   rw [e]
   obtain ⟨h1,h2⟩:=Zgj (R:=R) (s:=(X2 s.1 r,true)) (by rw [Zd7];exact hl) a
   refine ⟨h1,iff_of_true (h2.2 (.inl rfl)) (.inr fun he=>?_)⟩
   have h3:=ZdY R (X2 s.1 r) r.for_.toNat
   rw [he] at h3
   have:lvN (X2 s.1 r) r.for_.toNat=Zg9 s.1 r:=by
    unfold X2
    rw [Zh1,if_pos ⟨rfl,by have:=(hR r yG).1.2;omega⟩]
   omega
  ·have e:Zb8 s r=s:=if_neg hc
   rw [e,Zlb hc]
   obtain ⟨h1,h2⟩:=Zgj hl a
   refine ⟨h1.trans ?_,h2⟩
   show X9 R s.1=X9 R (X2 s.1 r)
   rw [Zlb hc]
theorem Zje {n:Nat} {R:List Zg} {L:List Int} (hL:ZaZ n R L):X9 R L=L:=
 ZjC (Zii R L) fun i _=>BR (Zh5 hL.sol (fun _ h=>h) (fun _=>AG _) i) (ZdY R L i)
theorem ZmB {n:Nat} {L row:List Int} (hl:row.length=n) (hL:L.length=n) (h:ZnE n L row=0):row=L:=by
 refine ZjC (hl.trans hL.symm) fun i hi=>?_
 unfold ZnE at h
 rw [Ak] at h
 simpa using h i (AY.2 yE)
theorem ZvJ (n:Nat) (L row:List Int):ZnE n L row≤n:=by
 have:=Ae (p:=fun i=>decide (¬lvN row i=lvN L i)) (l:=AD n)
 rw [BS] at this
 exact this
theorem Zoy {σ ρ:Type} {n:Nat} {R:List Zg} {L:List Int} (hL:ZaZ n R L) (hR:∀r∈R,OkN n r) (st:List Int→Bool→σ) (g:List Int→ρ) {body:σ→Option (σ ⊕ ρ)}
  (h1:∀row,row.length=n→(∀i,0≤lvN row i∧lvN row i≤lvN L i)→body (st row true)=some (.inl (st (R.foldl Zb8 (row,false)).1 (R.foldl Zb8 (row,false)).2)))
  (h2:∀row,body (st row false)=some (.inr (g row))):
  ∀k row,row.length=n→(∀i,0≤lvN row i∧lvN row i≤lvN L i)→ZnE n L row≤k→Y5 body (st row true)=some (g L):=by
 have a:∀row,row.length=n→(∀i,0≤lvN row i∧lvN row i≤lvN L i)→X9 R row=row→Y5 body (st row true)=some (g L):=fun row hl h0 e=>by
  obtain ⟨e1,e2⟩:=Zgj (s:=(row,false)) hl hR
  have e3:(R.foldl Zb8 (row,false)).2=false:=by
   cases hb:(R.foldl Zb8 (row,false)).2 with
   | false=>rfl
   | true=>
    rcases e2.1 hb with h | h
    ·simp at h
    ·exact absurd e h
  rw [YU (h1 row hl h0),e3,e1]
  have b:ZaZ n R row:=ZrO hl hR (fun i=>(h0 i).1) (fun t ht i=>AC (h0 i).2 (hL.least t ht i)) e
  show Y5 body (st (X9 R row) false)=_
  rw [e,YG (h2 row),b.uniq hL]
 intro k
 induction k with
 | zero=>
  intro row hl h0 hk
  have e:row=L:=ZmB hl hL.len yE
  exact a row hl h0 (by rw [e];exact Zje hL)
 | succ k ih=>
  intro row hl h0 hk
  by_cases e:X9 R row=row
  ·exact a row hl h0 e
  ·obtain ⟨e1,e2⟩:=Zgj (s:=(row,false)) hl hR
   rw [YU (h1 row hl h0),e2.2 (.inr e),e1]
   refine ih _ (by rw [Zii];exact hl) (fun i=>⟨AC (h0 i).1 (ZdY R row i),Zh5 hL.sol (fun _ h=>h) (fun i=>(h0 i).2) i⟩) ?_
   rcases ZpY hL hl hR (fun i=>(h0 i).1) (fun i=>(h0 i).2) with h | h
   ·exact absurd (by rw [ZmB hl hL.len h];exact Zje hL) e
   ·show ZnE n L (X9 R row)≤k
    omega
/- the reference writes each greater level at once -/
theorem ZIA {row:List Int} {f:Nat} (hf:f<row.length):row.set f (lvN row f)=row:=ZjC (by simp) fun i _=>by
 rw [Zh1]
 split
 ·rename_i h;rw [h.1]
 ·rfl
theorem ZGQ {row:List Int} {f:Nat} (hf:f<row.length):∀(l:List Int) (v:Int),lvN row f≤v→l.foldl (fun s y=>s.set f (mx (lvN s f) (lvN s y.toNat))) (row.set f v)=row.set f (l.foldl (fun m y=>mx m (lvN row y.toNat)) v)
 | [],_,_=>rfl
 | y::l,v,hv=>by
  have e1:lvN (row.set f v) f=v:=by rw [Zh1,if_pos ⟨rfl,hf⟩]
  have e2:mx v (lvN (row.set f v) y.toNat)=mx v (lvN row y.toNat):=by
   rw [Zh1]
   split
   ·rename_i h
    rw [h.1]
    unfold mx
    split<;>split<;>omega
   ·rfl
  rw [AB,AB,e1,e2,BY]
  exact ZGQ hf l _ (AC hv (ZvW v _).1)
theorem ZHk {row:List Int} {f:Nat} (hf:f<row.length):∀(l:List Int) (v:Int),(∀y∈l,y.toNat≠f)→l.foldl (fun s y=>s.set f (mx (lvN s f) (lvN s y.toNat+1))) (row.set f v)=row.set f (l.foldl (fun m y=>mx m (lvN row y.toNat+1)) v)
 | [],_,_=>rfl
 | y::l,v,hl=>by
  have e1:lvN (row.set f v) f=v:=by rw [Zh1,if_pos ⟨rfl,hf⟩]
  have e2:lvN (row.set f v) y.toNat=lvN row y.toNat:=by
   rw [Zh1,if_neg fun h=>hl y yG h.1]
  rw [AB,AB,e1,e2,BY]
  exact ZHk hf l _ fun z mz=>hl z (by simp [mz])
theorem ZH6 {row:List Int} {r:Zg} (hf:r.for_.toNat<row.length) (hS:∀y∈r.outs,y.toNat≠r.for_.toNat):r.outs.foldl (fun s y=>s.set r.for_.toNat (mx (lvN s r.for_.toNat) (lvN s y.toNat+1))) (r.inn.foldl (fun s y=>s.set r.for_.toNat (mx (lvN s r.for_.toNat) (lvN s y.toNat))) row)=X2 row r:=by
 have e:=ZGQ hf r.inn (lvN row r.for_.toNat) (AG _)
 rw [ZIA hf] at e
 rw [e,ZHk hf _ _ hS]
 rfl
/- rounds -/
theorem ZoQ {σ ρ:Type} {n top:Nat} {R:List Zg} {L:List Int} (hR:∀r∈R,OkN n r) (st:List Int→Nat→Nat→σ) (g:List Int→ρ) {body:σ→Option (σ ⊕ ρ)}
  (h1:∀row k s,RIn n row k→s≤top→comeR R L ((s:Nat):Int) row k≠[]→body (st row k s)=some (.inl (st (ZjJ row (comeR R L ((s:Nat):Int) row k) ((k:Nat):Int)) (k+1) s)))
  (h2:∀row k s,RIn n row k→s≤top→comeR R L ((s:Nat):Int) row k=[]→body (st row k s)=some (.inl (st row k (s+1))))
  (h3:∀row k,RIn n row k→body (st row k (top+1))=some (.inr (g row))):
  ∀d s row k,s+d=top+1→RIn n row k→Y5 body (st row k s)=some (g (QM R L n (AN s d) (row,k)).1):=by
 have level:∀f s row k,s≤top→RIn n row k→Ze8 row≤f→Y5 body (st row k s)=Y5 body (st (Zbr R L ((s:Nat):Int) f row k).1 (Zbr R L ((s:Nat):Int) f row k).2 (s+1)):=by
  intro f
  induction f with
  | zero=>
   intro s row k hs hI hf
   have hc:comeR R L ((s:Nat):Int) row k=[]:=Classical.byContradiction fun hc=>by have:=(hI.next hR hc).2;omega
   exact YU (h2 row k s hI hs hc)
  | succ f ih=>
   intro s row k hs hI hf
   unfold Zbr
   by_cases hc:comeR R L ((s:Nat):Int) row k=[]
   ·rw [if_pos hc]
    exact YU (h2 row k s hI hs hc)
   ·rw [if_neg hc,YU (h1 row k s hI hs hc)]
    obtain ⟨a,b⟩:=hI.next hR hc
    exact ih s _ _ hs a (by omega)
 intro d
 induction d with
 | zero=>
  intro s row k hs hI
  obtain rfl:s=top+1:=by omega
  exact YG (h3 row k hI)
 | succ d ih=>
  intro s row k hs hI
  have hu:Ze8 row≤n:=by have:=hI.few;omega
  rw [level n s row k (by omega) hI hu]
  exact ih (s+1) _ _ (by omega) (Zhk hR n row k hI hu).1
theorem ZFB {row:List Int} {R:List Zg} {L:List Int} {s:Int} {k:Nat} {l:List Int} (h:∀x,x∈l↔x∈comeR R L s row k):ZjJ row l ((k:Nat):Int)=ZjJ row (comeR R L s row k) ((k:Nat):Int)∧(l=[]↔comeR R L s row k=[]):=by
 refine ⟨ZH9 fun i=>?_,?_⟩
 ·constructor
  ·rintro ⟨x,mx,e⟩;exact ⟨x,(h x).1 mx,e⟩
  ·rintro ⟨x,mx,e⟩;exact ⟨x,(h x).2 mx,e⟩
 ·rw [BE,BE]
  exact forall_congr' fun x=>not_congr (h x)
theorem ZHT {σ ρ:Type} {n:Nat} {R:List Zg} {L:List Int} {s:Int} (hR:∀r∈R,OkN n r) (st:List Int→Nat→List Int→σ) (g:List Int→Nat→ρ) (cm:List Int→Nat→List Int) (a:∀row k x,RIn n row k→(x∈cm row k↔x∈comeR R L s row k)) {body:σ→Option (σ ⊕ ρ)}
  (h1:∀row k,RIn n row k→cm row k≠[]→RIn n (ZjJ row (cm row k) ((k:Nat):Int)) (k+1)→body (st row k (cm row k))=some (.inl (st (ZjJ row (cm row k) ((k:Nat):Int)) (k+1) (cm (ZjJ row (cm row k) ((k:Nat):Int)) (k+1)))))
  (h2:∀row k,RIn n row k→body (st row k [])=some (.inr (g row k))):
  ∀f row k,RIn n row k→Ze8 row≤f→Y5 body (st row k (cm row k))=some (g (Zbr R L s f row k).1 (Zbr R L s f row k).2):=by
 intro f
 induction f with
 | zero=>
  intro row k hI hf
  have hc:comeR R L s row k=[]:=Classical.byContradiction fun hc=>by have:=(hI.next hR hc).2;omega
  rw [(ZFB fun x=>a row k x hI).2.2 hc,YG (h2 row k hI)]
  rfl
 | succ f ih=>
  intro row k hI hf
  unfold Zbr
  by_cases hc:comeR R L s row k=[]
  ·rw [if_pos hc,(ZFB fun x=>a row k x hI).2.2 hc,YG (h2 row k hI)]
  ·obtain ⟨e1,e2⟩:=ZFB fun x=>a row k x hI
   rw [if_neg hc,YU (h1 row k hI (fun h=>hc (e2.1 h)) (by rw [e1];exact (hI.next hR hc).1)),e1]
   exact ih _ _ (hI.next hR hc).1 (by have:=(hI.next hR hc).2;omega)
end
section
open Classical
structure ZdS (b:Zu):Prop where
 n0:0≤b.nodes
 n1:b.nodes≤24
 len:b.reasons.length≤60
 ok:∀r∈b.reasons,OkN b.nodes.toNat r
 up:∀r∈b.reasons,r.inn.Pairwise (·<·)∧r.outs.Pairwise (·<·)
 few:∀r∈b.reasons,r.inn.length≤4∧r.outs.length≤4
 strat:Zni b.reasons
theorem ZdS.of {R:List Zf} {base F:List Zd} (h:Yu R base F) (a:(YJ R F base).length≤60):ZdS { nodes:=((F.length:Nat):Int),reasons:=YJ R F base }:=by
 have:=h.len
 exact ⟨by simp only;omega,by simp only;omega,a,fun r mr=>by simpa using Zr9 h r mr,fun r mr=>(ZdA h mr).up,fun r mr=>ZnG h mr,Znl h⟩
theorem ZdS.valid {b:Zu} (h:ZdS b):ZeV b=true:=by
 unfold ZeV
 have h0:=h.n0
 have h1:=h.n1
 simp only[A3,decide_eq_true_eq]
 refine ⟨h.n0,h.n1,h.len,AA.2 fun r mr=>?_⟩
 obtain ⟨⟨f0,f1⟩,f2,f3⟩:=h.ok r mr
 obtain ⟨u1,u2⟩:=h.up r mr
 unfold Zs3
 simp only[A3,decide_eq_true_eq]
 exact ⟨f0,yE,Ztz (fun y my=>by have:=f2 y my;omega) u1,Ztz (fun y my=>by have:=f3 y my;omega) u2⟩
theorem ZdS.small {b:Zu} (h:ZdS b):Ztd b:=fun r mr=>by have:=h.few r mr;omega
noncomputable def lvB (b:Zu):List Int:=if h:∃L,ZaZ b.nodes.toNat b.reasons L then Classical.choose h else []
noncomputable def rdB (b:Zu):List Int:=(QM b.reasons (lvB b) b.nodes.toNat (AD b.nodes.toNat) (A9 b.nodes.toNat (-1),0)).1
theorem ZdS.lv {b:Zu} (h:ZdS b):ZaZ b.nodes.toNat b.reasons (lvB b)∧∀i,0≤lvN (lvB b) i∧(lvN (lvB b) i<b.nodes.toNat∨lvN (lvB b) i=0):=by
 obtain ⟨L,hL,h2⟩:=ZsR h.ok h.strat
 have a:∃L,ZaZ b.nodes.toNat b.reasons L:=⟨L,hL⟩
 have e:lvB b=Classical.choose a:=dif_pos a
 have h1:ZaZ b.nodes.toNat b.reasons (lvB b):=by rw [e];exact Classical.choose_spec a
 refine ⟨h1,fun i=>⟨h1.sol.pos i,?_⟩⟩
 rw [h1.uniq hL]
 exact h2 i
theorem Zl5 (n:Nat):RIn n (A9 n (-1)) 0:=⟨by simp,fun i hi=>⟨-1,by simp [hi],.inl rfl⟩,by
 have:=Ae (p:=fun v:Int=>decide (v<0)) (l:=A9 n (-1))
 rw [List.length_replicate] at this
 unfold Ze8
 omega⟩
theorem ZdS.rd {b:Zu} (h:ZdS b):(rdB b).length=b.nodes.toNat:=(ZkX h.ok _ _ (Zl5 _)).len
end
section
open Classical
theorem ZoC {row:List Int} {i:Nat} (h:i<row.length):row[i]?=some (lvN row i):=by
 unfold lvN
 rw [A5 h]
 rfl
theorem ZuV {x:Int} (h1:-1000000≤x) (h2:x≤1000000):IntKind.i64.wrap x=x:=Xn (by omega) (by omega)
theorem ZsY {k:Nat} (h:k<1000000000):IntKind.i64.wrap (((k:Nat):Int)+1)=((k+1:Nat):Int):=Zj (n:=k+1) (by omega) (by omega)
theorem ZIo (l:List Int) (h:l.length≤1073741824):ZFr l=some l:=Zi _ h
/- what a node depends on -/
theorem ZGC {ρ:Type} {n:Nat} {R:List Zg} {x:Int} {l:List Int} {body:List Bool × List Int × Int→Option ((List Bool × List Int × Int) ⊕ ρ)} (g:List Bool × List Int→ρ)
  (h1:∀s i y,ZDJ n R x s→i<l.length→l[i]?=some y→(0≤y∧y.toNat<n)→body (s.1,s.2,((i:Nat):Int))=some (.inl ((ZEz s y).1,(ZEz s y).2,((i+1:Nat):Int))))
  (h2:∀s,body (s.1,s.2,((l.length:Nat):Int))=some (.inr (g s))) (hl:∀y∈l,(0≤y∧y.toNat<n)∧ZdN R x y):
  ∀(b a:List Int) (s:List Bool × List Int),l=a++b→ZDJ n R x s→Y5 body (s.1,s.2,((a.length:Nat):Int))=some (g (b.foldl ZEz s))
 | [],a,s,e,_=>by
  rw [BP] at e
  subst e
  exact YG (h2 s)
 | y::b,a,s,e,hI=>by
  have hy:l[a.length]?=some y:=by rw [e];simp
  have my:y∈l:=AJ hy
  have c:=(AH.1 hy).1
  rw [YU (h1 s a.length y hI c hy (hl y my).1)]
  have:=ZGC g h1 h2 hl b (a++[y]) (ZEz s y) (by rw [e];simp) (ZIe hI (hl y my).1 (hl y my).2).1
  simpa using this
theorem ZGe {b:Zu} (h:ZdS b) (x:Int):∃row,ZEk b x=some row∧row.length=b.nodes.toNat∧∀y:Int,0≤y→(row[y.toNat]?=some true↔ZdN b.reasons x y):=by
 have h0:=h.n0
 have h1:=h.n1
 have hn:b.nodes.toNat≤24:=by omega
 unfold ZEk
 rw [Zi _ ⟨h0,yE⟩]
 have k:ZDJ b.nodes.toNat b.reasons x (A9 b.nodes.toNat false,[x]):=⟨yG,[],rfl,yG,fun y _ hy=>by
  by_cases hl:y.toNat<b.nodes.toNat
  ·simp [hl] at hy
  ·rw [AF (by simp;omega)] at hy;simp at hy,by simp [ZIl,List.countP_replicate]⟩
 refine ZHS h.ok (fun g d i=>(g,d,((i:Nat):Int))) (fun r=>r) ?_ ?_ (b.nodes.toNat+1) _ _ 0 k yG yE (fun j z hj=>by omega)
 ·intro g d i z hI hi hz o
  have D:=(AH.1 hz).1
  have ht:decide (((i:Nat):Int)<((d.length:Nat):Int))=true:=decide_eq_true yE
  simp only[ht,if_true]
  rw [XE (f:=ZES z) (fun _ s=>ZDJ b.nodes.toNat b.reasons x s∧ZER (g,d) s) ⟨hI,.refl _⟩]
  ·rw [ZsY yE]
  ·intro j r s mr _ _ hs
   obtain ⟨p,q⟩:=hs
   obtain ⟨k1,k2,_⟩:=ZIi h.ok o p mr
   refine ⟨?_,k1,q.trans k2⟩
   obtain ⟨a,c⟩:=s
   obtain ⟨v,hv⟩:=q.more
   simp only at hv
   have w:c[i]?=some z:=by rw [hv,AO D];exact hz
   have hcl:i<c.length:=(AH.1 w).1
   simp only[Af]
   rw [Zi _ ⟨yE,yE⟩,w,A0]
   unfold ZES
   by_cases e:r.for_=z
   ·obtain ⟨f1,f2⟩:=h.few r mr
    have e2:(r.for_ != z)=false:=by simp [e]
    rw [if_pos e,e2]
    simp only[A7,if_false]
    rw [ZIo _ yE,A0,Zi _ yE]
    have hd:=ZIv h.ok o mr e
    refine ZGC (n:=b.nodes.toNat) (R:=b.reasons) (x:=x) (l:=r.inn++r.outs) (fun s=>Sum.inl s) ?_ ?_ hd (r.inn++r.outs) [] (a,c) rfl p
    ·intro s u y hu A hy B
     have C:decide (((u:Nat):Int)<((r.inn.length+r.outs.length:Nat):Int))=true:=decide_eq_true (by rw [A8] at A;omega)
     simp only[C,if_true,Af]
     rw [A8] at A
     rw [Zi _ ⟨yE,yE⟩,hy,A0]
     have m:y.toNat<s.1.length:=by rw [hu.len];exact B.2
     rw [Zi _ ⟨B.1,yE⟩,A5 m,A0,ZsY yE]
     unfold ZEz
     obtain ⟨t,t1,_,_,t4⟩:=hu.row
     have hlen:s.2.length=t.length+1:=by rw [t1];simp
     by_cases hb:s.1[y.toNat]=true
     ·rw [if_pos hb,if_pos (by rw [A5 m,hb])]
     ·rw [if_neg hb,if_neg (by rw [A5 m];simpa using hb),Zi _ yE]
    ·intro s
     have hf:decide ((((r.inn++r.outs).length:Nat):Int)<((r.inn.length+r.outs.length:Nat):Int))=false:=decide_eq_false (by rw [A8];omega)
     simp only[hf,A7,if_false]
   ·have e2:(r.for_ != z)=true:=by simp [e]
    rw [if_neg e,e2,if_pos rfl]
 ·intro g d hI
  simp only[Zz,A7,if_false]
theorem ZEI {b:Zu} (h:ZdS b):ZDG b=some true:=by
 unfold ZDG
 have h60:=h.len
 rw [ZF5 h.small yE,h.valid,A0,if_pos rfl,ZW (p:=fun _=>true) (r:=true)]
 ·simp
 ·intro i r mr
  rw [ZW (p:=fun _=>true) (r:=.inl ())]
  ·simp
  ·intro j y my
   obtain ⟨k1,k2⟩:=h.strat r mr y my
   obtain ⟨row,e,hl,hd⟩:=ZGe h y
   obtain ⟨⟨f0,f1⟩,_,_⟩:=h.ok r mr
   have ey:(y==r.for_)=false:=by simpa using k1
   have a:r.for_.toNat<row.length:=by omega
   have hv:row[r.for_.toNat]=false:=by
    cases hb:row[r.for_.toNat] with
    | false=>rfl
    | true=>exact absurd ((hd r.for_ f0).1 (by rw [A5 a,hb])) k2
   rw [ey]
   simp only[A7,if_false]
   rw [e,A0,Zi _ ⟨f0,yE⟩,A5 a,A0,hv]
   rfl
/- strata -/
theorem ZvN (n i:Nat):lvN (A9 n 0) i=0:=by
 unfold lvN
 by_cases hi:i<n
 ·simp [hi]
 ·rw [AF (by simp;omega)];rfl
theorem ZHj {b:Zu} (h:ZdS b):ZEq b=some (lvB b):=by
 obtain ⟨hL,hv⟩:=h.lv
 have h0:=h.n0
 have h1:=h.n1
 unfold ZEq
 rw [ZEI h,A0,if_pos rfl,Zi _ ⟨h0,yE⟩]
 generalize hn:b.nodes.toNat=n at *
 have k:∀(body:List Int × Int→Option ((List Int × Int) ⊕ List Int)),(∀row (i:Nat),i≤n→row.length=n→(∀j,0≤lvN row j∧lvN row j≤lvN (lvB b) j)→body (row,((i:Nat):Int))=some (.inl (X9 b.reasons row,((i+1:Nat):Int))))→(∀row,body (row,((n+1:Nat):Int))=some (.inr row))→
   ∀d i row,i+d=n+1→row.length=n→(∀j,0≤lvN row j∧lvN row j≤lvN (lvB b) j)→Y5 body (row,((i:Nat):Int))=some (ZH8 b.reasons d row):=by
  intro body b1 b2 d
  induction d with
  | zero=>
   intro i row hi hl hb
   obtain rfl:i=n+1:=by omega
   exact YG (b2 row)
  | succ d ih=>
   intro i row hi hl hb
   rw [YU (b1 row i yE hl hb)]
   exact ih (i+1) _ yE (by rw [Zii];exact hl) fun j=>⟨AC (hb j).1 (ZdY b.reasons row j),Zh5 hL.sol (fun _ h=>h) (fun j=>(hb j).2) j⟩
 rw [←ZGc hL (by have:=h.ok;rw [hn] at this;exact this) (n+1) (A9 n 0) yG (fun j=>by rw [ZvN];exact AG _) (fun j=>by rw [ZvN];exact (hv j).1) (by have:=ZvJ n (lvB b) (A9 n 0);omega)]
 refine k _ ?_ ?_ (n+1) 0 _ yE yG (fun j=>by rw [ZvN];exact ⟨AG _,(hv j).1⟩)
 ·intro row i hi hl hb
  have ht:decide (((i:Nat):Int)≤b.nodes)=true:=decide_eq_true yE
  simp only[ht,if_true]
  rw [XE (f:=X2) (fun _ s=>s.length=n∧∀j,0≤lvN s j∧lvN s j≤lvN (lvB b) j) ⟨hl,hb⟩]
  ·rw [ZsY yE]
   rfl
  ·intro j r s mr _ _ hs
   obtain ⟨c,g⟩:=hs
   have l:=h.ok r mr
   rw [hn] at l
   obtain ⟨⟨f0,f1⟩,f2,f3⟩:=l
   refine ⟨?_,by rw [Zd7];exact c,fun j=>⟨AC (g j).1 (Zif s r j),ZoI hL.sol mr (fun j=>(g j).2) j⟩⟩
   have a:∀y∈r.outs,y.toNat≠r.for_.toNat:=fun y my e=>(h.strat r mr y my).1 (by have:=f3 y my;omega)
   rw [XE (f:=fun u y=>u.set r.for_.toNat (mx (lvN u r.for_.toNat) (lvN u y.toNat))) (fun _ u=>u.length=n∧∀j,j≠r.for_.toNat→lvN u j=lvN s j) ⟨c,fun _ _=>rfl⟩]
   ·rw [XE (f:=fun u y=>u.set r.for_.toNat (mx (lvN u r.for_.toNat) (lvN u y.toNat+1))) (fun _ u=>u.length=n∧∀j,j≠r.for_.toNat→lvN u j=lvN s j)]
    ·rw [ZH6 yE a]
    ·have e:=ZGQ (row:=s) (f:=r.for_.toNat) yE r.inn (lvN s r.for_.toNat) (AG _)
     rw [ZIA yE] at e
     rw [e]
     exact ⟨by simp [c],fun j hj=>by rw [Zh1,if_neg fun hh=>hj hh.1]⟩
    ·intro j y u my _ _ hu
     obtain ⟨y0,y1⟩:=f3 y my
     have hy:=a y my
     have hyv:=hu.2 y.toNat hy
     have hb1:=g y.toNat
     have hb2:=hv y.toNat
     refine ⟨?_,by simp [hu.1],fun j hj=>by rw [Zh1,if_neg fun hh=>hj hh.1];exact hu.2 j hj⟩
     rw [Zi _ ⟨f0,yE⟩,ZoC yE,A0,Zi _ ⟨y0,yE⟩,ZoC yE,A0,ZuV yE yE]
     rfl
   ·intro j y u my _ _ hu
    obtain ⟨y0,y1⟩:=f2 y my
    refine ⟨?_,by simp [hu.1],fun j hj=>by rw [Zh1,if_neg fun hh=>hj hh.1];exact hu.2 j hj⟩
    rw [Zi _ ⟨f0,yE⟩,ZoC yE,A0,Zi _ ⟨y0,yE⟩,ZoC yE,A0]
    rfl
 ·intro row
  have hf:decide (((n+1:Nat):Int)≤b.nodes)=false:=decide_eq_false yE
  simp only[hf,A7,if_false]
theorem Zry {b:Zu} (h:ZdS b):ZfS b=some (lvB b):=by
 obtain ⟨hL,hv⟩:=h.lv
 have h0:=h.n0
 have h1:=h.n1
 unfold ZfS
 rw [Zi _ ⟨h0,yE⟩]
 refine Zoy hL h.ok (fun row m=>(row,m)) (fun row=>row) ?_ ?_ b.nodes.toNat _ yG (fun j=>by rw [ZvN];exact ⟨AG _,(hv j).1⟩) (ZvJ _ _ _)
 ·intro row hl hb
  simp only[if_true]
  rw [XE (f:=Zb8) (fun _ s=>s.1.length=b.nodes.toNat∧∀j,0≤lvN s.1 j∧lvN s.1 j≤lvN (lvB b) j) ⟨hl,hb⟩]
  intro j r s mr _ _ hs
  obtain ⟨c,a⟩:=hs
  obtain ⟨⟨f0,f1⟩,f2,f3⟩:=h.ok r mr
  obtain ⟨row,m⟩:=s
  simp only at c a
  refine ⟨?_,?_⟩
  ·dsimp only
   rw [Zi _ ⟨f0,yE⟩,ZoC yE,A0]
   rw [Zke (f:=fun u y=>mx u (lvN row y.toNat)) fun j y u my=>by
    obtain ⟨y0,y1⟩:=f2 y my
    rw [Zi _ ⟨y0,yE⟩,ZoC yE,A0]
    rfl]
   rw [Zke (f:=fun u y=>mx u (lvN row y.toNat+1)) fun j y u my=>by
    obtain ⟨y0,y1⟩:=f3 y my
    have hb1:=a y.toNat
    have hb2:=hv y.toNat
    rw [Zi _ ⟨y0,yE⟩,ZoC yE,A0,ZuV yE yE]
    rfl]
   show (if decide (lvN row r.for_.toNat<Zg9 row r)=true then some (Sum.inl (row.set r.for_.toNat (Zg9 row r),true)) else some (Sum.inl (row,m)))=some (Sum.inl (Zb8 (row,m) r))
   unfold Zb8
   by_cases hc:lvN row r.for_.toNat<Zg9 row r
   ·rw [if_pos (decide_eq_true hc),if_pos hc]
    rfl
   ·rw [if_neg (by simpa using hc),if_neg hc]
  ·unfold Zb8
   by_cases hc:lvN row r.for_.toNat<Zg9 row r
   ·rw [if_pos hc]
    exact ⟨by rw [Zd7];exact c,fun j=>⟨AC (a j).1 (Zif row r j),ZoI hL.sol mr (fun j=>(a j).2) j⟩⟩
   ·rw [if_neg hc]
    exact ⟨c,a⟩
 ·intro row
  rfl
end
section
open Classical
theorem ZsS {n k:Nat} {row:List Int} (h:RIn n row k) {y:Int} (h0:0≤y) (hy:y.toNat<n):atI row y=some (rdN row y)∧row[y.toNat]?=some (rdN row y):=by
 obtain ⟨v,hv,_⟩:=h.val y.toNat hy
 have e:row[y.toNat]?=some (rdN row y):=by unfold rdN;rw [hv];rfl
 refine ⟨?_,e⟩
 unfold atI
 rw [if_pos h0,e]
noncomputable def ZsE (row:List Int) (k:Nat) (y:Int):Bool:=decide (0≤rdN row y∧rdN row y<((k:Nat):Int))
noncomputable def ZrW (row:List Int) (y:Int):Bool:=decide (rdN row y<0)
theorem Zue {ρ:Type} {n k:Nat} {row:List Int} (h:RIn n row k) {l:List Int} (hl:∀y∈l,0≤y∧y.toNat<n) {fin:Unit→Option ρ} {z:ρ} {body:Nat→Int→Unit→Option (Unit ⊕ ρ)}
  (hb:∀i y u,body i y u=(atI row y).bind fun x=>if decide (x<0)=true then some (.inr z) else if decide (((k:Nat):Int)≤x)=true then some (.inr z) else some (.inl ())):Zn body fin l 0 ()=if l.all (ZsE row k)=true then fin () else some z:=by
 rw [ZW (p:=ZsE row k) (r:=z)]
 intro i y my
 obtain ⟨y0,y1⟩:=hl y my
 rw [hb,(ZsS h y0 y1).1,A0]
 unfold ZsE
 by_cases h1:rdN row y<0
 ·rw [if_pos (decide_eq_true h1),decide_eq_false yE];rfl
 ·rw [if_neg (by simpa using h1)]
  by_cases h2:((k:Nat):Int)≤rdN row y
  ·rw [if_pos (decide_eq_true h2),decide_eq_false yE];rfl
  ·rw [if_neg (by simpa using h2),decide_eq_true yE];rfl
theorem Zs2 {ρ:Type} {n k:Nat} {row:List Int} (h:RIn n row k) {l:List Int} (hl:∀y∈l,0≤y∧y.toNat<n) {fin:Unit→Option ρ} {z:ρ} {body:Nat→Int→Unit→Option (Unit ⊕ ρ)}
  (hb:∀i y u,body i y u=(atI row y).bind fun x=>if decide (0≤x)=true then some (.inr z) else some (.inl ())):Zn body fin l 0 ()=if l.all (ZrW row)=true then fin () else some z:=by
 rw [ZW (p:=ZrW row) (r:=z)]
 intro i y my
 obtain ⟨y0,y1⟩:=hl y my
 rw [hb,(ZsS h y0 y1).1,A0]
 unfold ZrW
 by_cases h1:0≤rdN row y
 ·rw [if_pos (decide_eq_true h1),decide_eq_false yE];rfl
 ·rw [if_neg (by simpa using h1),decide_eq_true yE];rfl
theorem Zll {row:List Int} {k:Nat} {r:Zg}:(r.inn.all (ZsE row k)=true∧r.outs.all (ZrW row)=true)↔Zmr row k r:=by
 simp only[AA,ZsE,ZrW,decide_eq_true_eq]
 exact Iff.rfl
theorem ZnH {n k:Nat} {row:List Int} (h:RIn n row k) {r:Zg} (hr:OkN n r):Zas r row ((k:Nat):Int)=some (decide (Zmr row k r)):=by
 unfold Zas
 rw [Zue h hr.2.1 fun i y u=>rfl,Zs2 h hr.2.2 fun i y u=>rfl]
 by_cases h1:r.inn.all (ZsE row k)=true
 ·rw [if_pos h1]
  by_cases h2:r.outs.all (ZrW row)=true
  ·rw [if_pos h2,decide_eq_true (Zll.1 ⟨h1,h2⟩)]
  ·rw [if_neg h2,decide_eq_false fun h=>h2 (Zll.2 h).2]
 ·rw [if_neg h1,decide_eq_false fun h=>h1 (Zll.2 h).1]
theorem ZGR {n k:Nat} {row:List Int} (h:RIn n row k) {l:List Int} (hl:∀y∈l,0≤y∧y.toNat<n):ZDx l row ((k:Nat):Int)=some (l.all (ZsE row k)):=by
 unfold ZDx
 rw [Zue h hl fun i y u=>rfl]
 cases l.all (ZsE row k)<;>rfl
theorem ZH7 {n k:Nat} {row:List Int} (h:RIn n row k) {l:List Int} (hl:∀y∈l,0≤y∧y.toNat<n):ZDR l row=some (l.all (ZrW row)):=by
 unfold ZDR
 rw [Zs2 h hl fun i y u=>rfl]
 cases l.all (ZrW row)<;>rfl
/- the program's rounds -/
theorem ZsU {n:Nat} {L:List Int} {ρ:Type} {body:List Int × Int × Int→Option ((List Int × Int × Int) ⊕ ρ)} {r:ρ} (hv:∀i,0≤lvN L i∧lvN L i≤((n:Nat):Int))
  (h1:∀k row u,k<n→row.length=n→body (row,((k:Nat):Int),u)=some (.inl (row.set k (-1),((k+1:Nat):Int),mx u (lvN L k))))
  (h2:∀u,0≤u→u≤((n:Nat):Int)→(∀i,i<n→lvN L i≤u)→body (A9 n (-1),((n:Nat):Int),u)=some (.inr r)):
  ∀m k row u,k+m=n→row.length=n→(∀i,i<k→row[i]?=some (-1))→0≤u→u≤((n:Nat):Int)→(∀i,i<k→lvN L i≤u)→Y5 body (row,((k:Nat):Int),u)=some r:=by
 intro m
 induction m with
 | zero=>
  intro k row u hk hl hr h0 hu hm
  obtain rfl:k=n:=by omega
  have:row=A9 k (-1):=by
   apply As
   intro i
   by_cases hi:i<k
   ·rw [hr i hi];simp [hi]
   ·rw [AF yE,AF (by simp;omega)]
  rw [this]
  exact YG (h2 u h0 hu hm)
 | succ m ih=>
  intro k row u hk hl hr h0 hu hm
  rw [YU (h1 k row u yE hl)]
  have hx:=ZvW u (lvN L k)
  refine ih (k+1) _ _ yE (by simp [hl]) (fun i hi=>?_) yE (ZvU hu (hv k).2) fun i hi=>?_
  ·rw [Ad]
   by_cases e:k=i
   ·rw [if_pos e,if_pos yE]
   ·rw [if_neg e];exact hr i yE
  ·by_cases e:i=k
   ·rw [e];exact hx.2
   ·exact AC (hm i yE) hx.1
theorem Zvf {b:Zu} (h:ZdS b) {t:Nat} (ht:∀i,i<b.nodes.toNat→lvN (lvB b) i≤((t:Nat):Int)):(QM b.reasons (lvB b) b.nodes.toNat (AN 0 (t+1)) (A9 b.nodes.toNat (-1),0)).1=rdB b:=by
 unfold rdB
 rw [←BZ,Zps (a:=t+1) (b:=b.nodes.toNat)]
 ·intro r mr
  have:=ht r.for_.toNat (h.ok r mr).1.2
  omega
 ·intro r mr
  have:=(h.lv.2 r.for_.toNat).2
  have:=(h.ok r mr).1.2
  omega
theorem Zsu {ρ:Type} {n k:Nat} {row:List Int} (hl:row.length=n) {l:List Int} (hx:∀x∈l,0≤x∧x.toNat<n) {fin:List Int→Option ρ} {body:Nat→Int→List Int→Option (List Int ⊕ ρ)}
  (hb:∀i x s,body i x s=chk (0≤x∧x<((s.length:Nat):Int)) ((s[AQ x]?).bind fun _=>some (.inl (List.set s (AQ x) ((k:Nat):Int))))):Zn body fin l 0 row=fin (ZjJ row l ((k:Nat):Int)):=by
 rw [XE (f:=fun s x=>s.set x.toNat ((k:Nat):Int)) (fun _ s=>s.length=n) hl]
 ·rfl
 ·intro j x s mx _ _ hs
  obtain ⟨x0,x1⟩:=hx x mx
  refine ⟨?_,by simp [hs]⟩
  rw [hb,Zi _ ⟨x0,yE⟩,A5 (show x.toNat<s.length by omega),A0]
theorem Zr2 {n:Nat} {R:List Zg} (hR:∀r∈R,OkN n r) {L:List Int} {s:Int} {row:List Int} {k:Nat}:∀x∈comeR R L s row k,0≤x∧x.toNat<n:=fun x mx=>by
 obtain ⟨r,mr,rfl,_⟩:=ZiD.1 mx
 exact (hR r mr).1
theorem Zln {b:Zu} (h:ZdS b) {ρ:Type} {row:List Int} {k s:Nat} (hI:RIn b.nodes.toNat row k) {fin:List Int→Option ρ} {body:Nat→Zg→List Int→Option (List Int ⊕ ρ)}
  (hb:∀i r a,body i r a=chk (0≤r.for_∧r.for_<(((lvB b).length:Nat):Int)) (((lvB b)[(AQ r.for_)]?).bind fun c=>
         if (c==((s:Nat):Int))=true then
          chk (r.for_<((row.length:Nat):Int)) <|
          (row[(AQ r.for_)]?).bind fun d=>
          if (decide (d<0))=true then
           (Zas r row ((k:Nat):Int)).bind fun e=>
           if e=true then
            chk (a.length+1≤1073741824) <|
            some (.inl (a++[r.for_]))
           else
            some (.inl a)
          else
           some (.inl a)
         else
          some (.inl a))):Zn body fin b.reasons 0 []=fin (comeR b.reasons (lvB b) ((s:Nat):Int) row k):=by
 have hLl:=h.lv.1.len
 have h60:=h.len
 rw [Yk (g:=fun r=>if lvN (lvB b) r.for_.toNat=((s:Nat):Int)∧rdN row r.for_<0∧Zmr row k r then some r.for_ else none)]
 ·rfl
 ·intro j r a mr ha
  simp only[List.length_nil,AL] at ha
  have f:=h.ok r mr
  obtain ⟨f0,f1⟩:=f.1
  rw [hb,Zi _ ⟨f0,yE⟩,ZoC yE,A0]
  by_cases c1:lvN (lvB b) r.for_.toNat=((s:Nat):Int)
  ·rw [if_pos (by simpa using c1),Zi _ (by rw [hI.len];omega),(ZsS hI f0 f1).2,A0]
   by_cases c2:rdN row r.for_<0
   ·rw [if_pos (decide_eq_true c2),ZnH hI f,A0]
    by_cases c3:Zmr row k r
    ·rw [if_pos (decide_eq_true c3),Zi _ yE,if_pos ⟨c1,c2,c3⟩];rfl
    ·rw [if_neg (by simpa using c3),if_neg fun hh=>c3 hh.2.2];simp
   ·rw [if_neg (by simpa using c2),if_neg fun hh=>c2 hh.2.1];simp
  ·rw [if_neg (by simpa using c1),if_neg fun hh=>c1 hh.1];simp
theorem ZrH {b:Zu} (h:ZdS b):ZfP b=some (rdB b):=by
 obtain ⟨hL,hv⟩:=h.lv
 have h0:=h.n0
 have h1:=h.n1
 have h60:=h.len
 unfold ZfP
 rw [Zry h,A0,Zi _ ⟨h0,yE⟩]
 have a:∀i,0≤lvN (lvB b) i∧lvN (lvB b) i≤((b.nodes.toNat:Nat):Int):=fun i=>by have:=hv i;omega
 refine ZsU (n:=b.nodes.toNat) (L:=lvB b) a ?_ ?_ b.nodes.toNat 0 _ 0 yE yG (fun i hi=>by omega) (AG _) yE (fun i hi=>by omega)
 ·intro k row u hk hl
  have ht:decide (((k:Nat):Int)<((b.nodes.toNat:Nat):Int))=true:=decide_eq_true yE
  simp only[ht,if_true,Af]
  have:=hL.len
  rw [Zi _ ⟨yE,yE⟩,A5 (show k<row.length by omega),A0,Zi _ yE,ZoC yE,A0,ZsY yE]
  rfl
 ·intro u u0 un um
  simp only[Zz,A7,if_false]
  obtain ⟨t,rfl⟩:∃t:Nat,u=((t:Nat):Int):=⟨u.toNat,yE⟩
  rw [←Zvf h um]
  refine ZoQ (top:=t) h.ok (fun row k s=>(row,((k:Nat):Int),((s:Nat):Int))) (fun row=>Sum.inr row) ?_ ?_ ?_ (t+1) 0 _ 0 yE (Zl5 _)
  ·intro row k s hI hs hc
   have ht:decide (((s:Nat):Int)≤((t:Nat):Int))=true:=decide_eq_true yE
   simp only[ht,if_true]
   rw [Zln h hI fun i r c=>rfl]
   have d:((((comeR b.reasons (lvB b) ((s:Nat):Int) row k).length:Nat):Int)==0)=false:=by
    have:(comeR b.reasons (lvB b) ((s:Nat):Int) row k).length≠0:=fun e=>hc (AR e)
    simpa using this
   simp only[d,A7,if_false]
   rw [Zsu hI.len (Zr2 h.ok) fun i x s=>rfl,ZsY (by have:=hI.few;omega)]
  ·intro row k s hI hs hc
   have ht:decide (((s:Nat):Int)≤((t:Nat):Int))=true:=decide_eq_true yE
   simp only[ht,if_true]
   rw [Zln h hI fun i r c=>rfl,hc,ZsY yE]
   rfl
  ·intro row k hI
   have hf:decide (((t+1:Nat):Int)≤((t:Nat):Int))=false:=decide_eq_false yE
   simp only[hf,A7,if_false]
/- the reference's rounds -/
noncomputable def ZFA (n:Nat) (R:List Zg) (L:List Int) (s:Int) (row:List Int) (k x:Nat):Option Int:=if lvN L x=s∧rdN row ((x:Nat):Int)<0∧R.any (fun r=>decide (r.for_=((x:Nat):Int)∧Zmr row k r))=true then some ((x:Nat):Int) else none
theorem ZGx {n:Nat} {R:List Zg} (hR:∀r∈R,OkN n r) {L:List Int} {s:Int} {row:List Int} {k:Nat} {x:Int}:x∈(AN 0 n).filterMap (ZFA n R L s row k)↔x∈comeR R L s row k:=by
 rw [ZiD,AU]
 constructor
 ·rintro ⟨i,mi,hi⟩
  unfold ZFA at hi
  split at hi
  ·rename_i hc
   obtain rfl:=AS hi
   obtain ⟨h1,h2,h3⟩:=hc
   obtain ⟨r,mr,hr⟩:=BA.1 h3
   rw [decide_eq_true_iff] at hr
   exact ⟨r,mr,hr.1,by simpa using h1,h2,hr.2⟩
  ·simp at hi
 ·rintro ⟨r,mr,rfl,h1,h2,h3⟩
  obtain ⟨f0,f1⟩:=(hR r mr).1
  have e:((r.for_.toNat:Nat):Int)=r.for_:=AZ f0
  refine ⟨r.for_.toNat,List.mem_range'.2 ⟨r.for_.toNat,f1,yE⟩,?_⟩
  unfold ZFA
  rw [if_pos ⟨h1,by rw [e];exact h2,BA.2 ⟨r,mr,by rw [decide_eq_true_iff,e];exact ⟨rfl,h3⟩⟩⟩,e]
theorem ZFM {b:Zu} (h:ZdS b) {row:List Int} {k s:Nat} (hI:RIn b.nodes.toNat row k):ZD5 b (lvB b) ((s:Nat):Int) row ((k:Nat):Int)=some ((AN 0 b.nodes.toNat).filterMap (ZFA b.nodes.toNat b.reasons (lvB b) ((s:Nat):Int) row k)):=by
 obtain ⟨hL,hv⟩:=h.lv
 have h0:=h.n0
 have h1:=h.n1
 unfold ZD5
 have c:∀(body:List Int × Int→Option ((List Int × Int) ⊕ List Int)) (G:Nat→Option Int),(∀a (i:Nat),i<b.nodes.toNat→a.length≤24→body (a,((i:Nat):Int))=some (.inl (a++(G i).toList,((i+1:Nat):Int))))→(∀a,body (a,((b.nodes.toNat:Nat):Int))=some (.inr a))→
   ∀d i a,i+d=b.nodes.toNat→a.length≤i→Y5 body (a,((i:Nat):Int))=some (a++(AN i d).filterMap G):=by
  intro body G b1 b2 d
  induction d with
  | zero=>
   intro i a hi ha
   obtain rfl:i=b.nodes.toNat:=by omega
   rw [YG (b2 a)]
   simp
  | succ d ih=>
   intro i a hi ha
   rw [YU (b1 a i yE yE),ih (i+1) _ yE (by rw [A8];cases G i<;>simp<;>omega),List.range'_succ,BB]
   cases G i<;>simp
 refine c _ (ZFA b.nodes.toNat b.reasons (lvB b) ((s:Nat):Int) row k) ?_ ?_ b.nodes.toNat 0 [] yE yG
 ·intro a i hi ha
  have ht:decide (((i:Nat):Int)<b.nodes)=true:=decide_eq_true yE
  have hLl:=hL.len
  have e1:atI (lvB b) ((i:Nat):Int)=some (lvN (lvB b) i):=by rw [Zby];exact ZoC yE
  have e2:=(ZsS hI (y:=((i:Nat):Int)) yE (by simpa using hi)).1
  simp only[ht,if_true]
  rw [e1,A0,e2,ZsY yE]
  unfold ZFA
  by_cases c1:lvN (lvB b) i=((s:Nat):Int)
  ·have d1:(lvN (lvB b) i != ((s:Nat):Int))=false:=by simp [c1]
   simp only[d1,A7,if_false,A0]
   by_cases c2:rdN row ((i:Nat):Int)<0
   ·have d2:decide (0≤rdN row ((i:Nat):Int))=false:=decide_eq_false yE
    simp only[d2,A7,if_false]
    rw [Zc7 (p:=fun r=>decide (r.for_=((i:Nat):Int)∧Zmr row k r)) (r:=.inl (a++[((i:Nat):Int)],((i+1:Nat):Int)))]
    ·by_cases c3:b.reasons.any (fun r=>decide (r.for_=((i:Nat):Int)∧Zmr row k r))=true
     ·rw [if_pos c3,if_pos ⟨c1,c2,c3⟩];rfl
     ·rw [if_neg c3,if_neg fun hh=>c3 hh.2.2];simp
    ·intro j r mr
     obtain ⟨f1,f2,f3⟩:=h.ok r mr
     by_cases c3:r.for_=((i:Nat):Int)
     ·rw [if_pos (by simpa using c3),ZGR hI f2,A0]
      by_cases c4:r.inn.all (ZsE row k)=true
      ·rw [if_pos c4,ZH7 hI f3,A0]
       by_cases c5:r.outs.all (ZrW row)=true
       ·rw [if_pos c5,Zi _ yE,decide_eq_true ⟨c3,Zll.1 ⟨c4,c5⟩⟩];rfl
       ·rw [if_neg c5,decide_eq_false fun hh=>c5 (Zll.2 hh.2).2];rfl
      ·rw [if_neg c4,decide_eq_false fun hh=>c4 (Zll.2 hh.2).1];rfl
     ·rw [if_neg (by simpa using c3),decide_eq_false fun hh=>c3 hh.1];rfl
   ·have d2:decide (0≤rdN row ((i:Nat):Int))=true:=decide_eq_true yE
    simp only[d2,if_true]
    rw [if_neg fun hh=>c2 hh.2.1];simp
  ·have d1:(lvN (lvB b) i != ((s:Nat):Int))=true:=by simp [c1]
   simp only[d1,if_true]
   rw [if_neg fun hh=>c1 hh.1];simp
 ·intro a
  have hf:decide (((b.nodes.toNat:Nat):Int)<b.nodes)=false:=decide_eq_false yE
  simp only[hf,A7,if_false]
theorem ZFN {b:Zu} (h:ZdS b):ZD6 b=some (rdB b):=by
 have h0:=h.n0
 have h1:=h.n1
 unfold ZD6
 rw [ZEI h,A0,if_pos rfl,ZHj h,A0]
 have walk:∀(body:List Int × Int→Option ((List Int × Int) ⊕ List Int)),(∀(i:Nat),i<b.nodes.toNat→body (A9 i (-1),((i:Nat):Int))=some (.inl (A9 i (-1)++[-1],((i+1:Nat):Int))))→body (A9 b.nodes.toNat (-1),((b.nodes.toNat:Nat):Int))=some (.inr (rdB b))→
   ∀d i,i+d=b.nodes.toNat→Y5 body (A9 i (-1),((i:Nat):Int))=some (rdB b):=by
  intro body b1 b2 d
  induction d with
  | zero=>
   intro i hi
   obtain rfl:i=b.nodes.toNat:=by omega
   exact YG b2
  | succ d ih=>
   intro i hi
   rw [YU (b1 i (by omega)),←ih (i+1) (by omega),List.replicate_succ']
 refine walk _ ?_ ?_ b.nodes.toNat 0 (by omega)
 ·intro i hi
  have ht:decide (((i:Nat):Int)<b.nodes)=true:=decide_eq_true (by omega)
  simp only[ht,if_true]
  rw [Zi _ (by simp;omega),ZsY (by omega)]
 ·have hf:decide (((b.nodes.toNat:Nat):Int)<b.nodes)=false:=decide_eq_false (by omega)
  simp only[hf,A7,if_false]
  have walk2:∀(body:List Int × Int × Int→Option ((List Int × Int × Int) ⊕ ((List Int × Int) ⊕ List Int))),(∀row (k s:Nat),RIn b.nodes.toNat row k→s<b.nodes.toNat→body (row,((k:Nat):Int),((s:Nat):Int))=some (.inl ((Zbr b.reasons (lvB b) ((s:Nat):Int) b.nodes.toNat row k).1,(((Zbr b.reasons (lvB b) ((s:Nat):Int) b.nodes.toNat row k).2:Nat):Int),((s+1:Nat):Int))))→(∀row (k:Nat),body (row,((k:Nat):Int),((b.nodes.toNat:Nat):Int))=some (.inr (.inr row)))→
    ∀d s row k,s+d=b.nodes.toNat→RIn b.nodes.toNat row k→Y5 body (row,((k:Nat):Int),((s:Nat):Int))=some (.inr (QM b.reasons (lvB b) b.nodes.toNat (AN s d) (row,k)).1):=by
   intro body b1 b2 d
   induction d with
   | zero=>
    intro s row k hs hI
    obtain rfl:s=b.nodes.toNat:=by omega
    exact YG (b2 row k)
   | succ d ih=>
    intro s row k hs hI
    rw [YU (b1 row k s hI (by omega))]
    exact ih (s+1) _ _ (by omega) (Zhk h.ok b.nodes.toNat row k hI (by have:=hI.few;omega)).1
  have e:rdB b=(QM b.reasons (lvB b) b.nodes.toNat (AN 0 b.nodes.toNat) (A9 b.nodes.toNat (-1),0)).1:=by unfold rdB;rw [BZ]
  rw [e]
  refine walk2 _ ?_ ?_ b.nodes.toNat 0 _ 0 (by omega) (Zl5 _)
  ·intro row k s hI hs
   have ht:decide (((s:Nat):Int)<b.nodes)=true:=decide_eq_true (by omega)
   simp only[ht,if_true]
   rw [ZFM h hI,A0,ZsY (by omega)]
   refine ZHT (s:=((s:Nat):Int)) h.ok (fun row k l=>(row,l,((k:Nat):Int))) (fun row k=>Sum.inl (row,((k:Nat):Int),((s+1:Nat):Int))) (fun row k=>(AN 0 b.nodes.toNat).filterMap (ZFA b.nodes.toNat b.reasons (lvB b) ((s:Nat):Int) row k)) (fun row k x _=>ZGx h.ok) ?_ ?_ b.nodes.toNat row k hI (by have:=hI.few;omega)
   ·intro row k hI hc hN
    have hlt:decide (0<((((AN 0 b.nodes.toNat).filterMap (ZFA b.nodes.toNat b.reasons (lvB b) ((s:Nat):Int) row k)).length:Nat):Int))=true:=by
     have:((AN 0 b.nodes.toNat).filterMap (ZFA b.nodes.toNat b.reasons (lvB b) ((s:Nat):Int) row k)).length≠0:=fun e=>hc (AR e)
     exact decide_eq_true (by omega)
    simp only[hlt,if_true]
    rw [Zsu hI.len (fun x mx=>Zr2 h.ok x (ZGx h.ok |>.1 mx)) fun i x s=>rfl,ZsY (by have:=hI.few;omega),ZFM h hN,A0]
   ·intro row k hI
    rfl
  ·intro row k
   simp only[hf,A7,if_false]
end
section
open Classical
noncomputable def ZEr {α:Type} (p:α→Bool):List α→Nat→Int
 | [],_=>-1
 | x::l,i=>if p x=true then ((i:Nat):Int) else ZEr p l (i+1)
theorem ZFK {α:Type} {p:α→Bool}:∀{l:List α} {i:Nat},0≤ZEr p l i→∃j x,ZEr p l i=((i+j:Nat):Int)∧l[j]?=some x∧p x=true
 | [],_,h=>by simp [ZEr] at h
 | x::l,i,h=>by
  by_cases hp:p x=true
  ·exact ⟨0,x,by simp [ZEr,hp],rfl,hp⟩
  ·rw [ZEr,if_neg hp] at h ⊢
   obtain ⟨j,y,h1,h2,h3⟩:=ZFK h
   exact ⟨j+1,y,by rw [h1];omega,by simpa using h2,h3⟩
theorem ZEd {α σ:Type} {p:α→Bool} {s:σ} {body:Nat→α→σ→Option (σ ⊕ Int)} {fin:σ→Option Int} (hf:fin s=some (-1)):∀{l:List α} {i:Nat},(∀i x,x∈l→body i x s=some (bif p x then .inr ((i:Nat):Int) else .inl s))→Zn body fin l i s=some (ZEr p l i)
 | [],_,_=>by rw [ZkA,hf];rfl
 | x::l,i,h=>by
  have hx:=h i x yG
  by_cases hp:p x=true
  ·rw [hp] at hx
   rw [Ya hx,ZEr,if_pos hp]
  ·rw [Bool.not_eq_true] at hp
   rw [hp] at hx
   rw [ZV hx,ZEr,if_neg (by simp [hp])]
   exact ZEd hf (fun i y hy=>h i y (by simp [hy]))
/- the same as S22's for any row of the right length (its numbers may be any) -/
theorem ZG4 {n:Nat} {row:List Int} (h:row.length=n) {y:Int} (h0:0≤y) (hy:y.toNat<n):atI row y=some (rdN row y):=by
 obtain ⟨v,hv⟩:∃v,row[y.toNat]?=some v:=⟨_,A5 yE⟩
 unfold atI rdN
 rw [if_pos h0,hv];rfl
theorem ZGE {ρ:Type} {n k:Nat} {row:List Int} (h:row.length=n) {l:List Int} (hl:∀y∈l,0≤y∧y.toNat<n) {fin:Unit→Option ρ} {z:ρ} {body:Nat→Int→Unit→Option (Unit ⊕ ρ)}
  (hb:∀i y u,body i y u=(atI row y).bind fun x=>if decide (x<0)=true then some (.inr z) else if decide (((k:Nat):Int)≤x)=true then some (.inr z) else some (.inl ())):Zn body fin l 0 ()=if l.all (ZsE row k)=true then fin () else some z:=by
 rw [ZW (p:=ZsE row k) (r:=z)]
 intro i y my
 obtain ⟨y0,y1⟩:=hl y my
 rw [hb,ZG4 h y0 y1,A0]
 unfold ZsE
 by_cases h1:rdN row y<0
 ·rw [if_pos (decide_eq_true h1),decide_eq_false yE];rfl
 ·rw [if_neg (by simpa using h1)]
  by_cases h2:((k:Nat):Int)≤rdN row y
  ·rw [if_pos (decide_eq_true h2),decide_eq_false yE];rfl
  ·rw [if_neg (by simpa using h2),decide_eq_true yE];rfl
theorem ZGt {ρ:Type} {n:Nat} {row:List Int} (h:row.length=n) {l:List Int} (hl:∀y∈l,0≤y∧y.toNat<n) {fin:Unit→Option ρ} {z:ρ} {body:Nat→Int→Unit→Option (Unit ⊕ ρ)}
  (hb:∀i y u,body i y u=(atI row y).bind fun x=>if decide (0≤x)=true then some (.inr z) else some (.inl ())):Zn body fin l 0 ()=if l.all (ZrW row)=true then fin () else some z:=by
 rw [ZW (p:=ZrW row) (r:=z)]
 intro i y my
 obtain ⟨y0,y1⟩:=hl y my
 rw [hb,ZG4 h y0 y1,A0]
 unfold ZrW
 by_cases h1:0≤rdN row y
 ·rw [if_pos (decide_eq_true h1),decide_eq_false yE];rfl
 ·rw [if_neg (by simpa using h1),decide_eq_true yE];rfl
theorem ZG8 {n k:Nat} {row:List Int} (h:row.length=n) {r:Zg} (hr:OkN n r):Zas r row ((k:Nat):Int)=some (decide (Zmr row k r)):=by
 unfold Zas
 rw [ZGE h hr.2.1 fun i y u=>rfl,ZGt h hr.2.2 fun i y u=>rfl]
 by_cases h1:r.inn.all (ZsE row k)=true
 ·rw [if_pos h1]
  by_cases h2:r.outs.all (ZrW row)=true
  ·rw [if_pos h2,decide_eq_true (Zll.1 ⟨h1,h2⟩)]
  ·rw [if_neg h2,decide_eq_false fun h=>h2 (Zll.2 h).2]
 ·rw [if_neg h1,decide_eq_false fun h=>h1 (Zll.2 h).1]
theorem ZG1 {n k:Nat} {row:List Int} (h:row.length=n) {l:List Int} (hl:∀y∈l,0≤y∧y.toNat<n):ZDx l row ((k:Nat):Int)=some (l.all (ZsE row k)):=by
 unfold ZDx
 rw [ZGE h hl fun i y u=>rfl]
 cases l.all (ZsE row k)<;>rfl
theorem ZHR {n:Nat} {row:List Int} (h:row.length=n) {l:List Int} (hl:∀y∈l,0≤y∧y.toNat<n):ZDR l row=some (l.all (ZrW row)):=by
 unfold ZDR
 rw [ZGt h hl fun i y u=>rfl]
 cases l.all (ZrW row)<;>rfl
noncomputable def ZHe (b:Zu) (s:Int):List Int:=((b.reasons[s.toNat]?).map (·.inn)).getD []
noncomputable def ZIB (b:Zu) (s:Int):Int:=((b.reasons[s.toNat]?).map (·.for_)).getD 0
noncomputable def ZHm (b:Zu) (x:Int) (r:Zg):Bool:=decide (r.for_=x∧Zmr (rdB b) (rdN (rdB b) x).toNat r)
noncomputable def ZDU (b:Zu) (x:Int):Int:=if 0≤x∧x<b.nodes∧0≤rdN (rdB b) x then ZEr (ZHm b x) b.reasons 0 else -1
theorem ZEA {b:Zu} {x:Int} (h:0≤ZDU b x):0≤x∧x<b.nodes∧0≤rdN (rdB b) x∧∃r,b.reasons[(ZDU b x).toNat]?=some r∧r.for_=x∧Zmr (rdB b) (rdN (rdB b) x).toNat r:=by
 unfold ZDU at h ⊢
 by_cases hc:0≤x∧x<b.nodes∧0≤rdN (rdB b) x
 ·rw [if_pos hc] at h ⊢
  obtain ⟨j,r,h1,h2,h3⟩:=ZFK h
  refine ⟨hc.1,hc.2.1,hc.2.2,r,?_,of_decide_eq_true h3⟩
  rw [h1];simpa using h2
 ·rw [if_neg hc] at h;omega
theorem ZHq {b:Zu} {x:Int} (h:0≤ZDU b x):∀y∈ZHe b (ZDU b x),(rdN (rdB b) y).toNat<(rdN (rdB b) x).toNat:=by
 obtain ⟨_,_,h0,r,h1,_,h2⟩:=ZEA h
 intro y hy
 unfold ZHe at hy
 rw [h1] at hy
 have:=h2.1 y (by simpa using hy)
 omega
theorem ZIp {b:Zu} {x:Int} (h:0≤ZDU b x):ZIB b (ZDU b x)=x:=by
 obtain ⟨_,_,h0,r,h1,h2,_⟩:=ZEA h
 unfold ZIB
 rw [h1];simpa using h2
theorem ZF6 {b:Zu} (h:ZdS b) {r:Zg} (mr:r∈b.reasons) {x:Int} (h0:0≤rdN (rdB b) x):Zas r (rdB b) (rdN (rdB b) x)=some (decide (Zmr (rdB b) (rdN (rdB b) x).toNat r)):=by
 have e:(((rdN (rdB b) x).toNat:Nat):Int)=rdN (rdB b) x:=by omega
 have:=ZG8 (k:=(rdN (rdB b) x).toNat) h.rd (h.ok r mr)
 rwa [e] at this
theorem ZHu {b:Zu} (h:ZdS b) {r:Zg} (mr:r∈b.reasons) {x:Int} (h0:0≤rdN (rdB b) x):ZDx r.inn (rdB b) (rdN (rdB b) x)=some (r.inn.all (ZsE (rdB b) (rdN (rdB b) x).toNat)):=by
 have e:(((rdN (rdB b) x).toNat:Nat):Int)=rdN (rdB b) x:=by omega
 have:=ZG1 (k:=(rdN (rdB b) x).toNat) h.rd (h.ok r mr).2.1
 rwa [e] at this
theorem ZIm {b:Zu} (h:ZdS b) {r:Zg} (mr:r∈b.reasons):ZDR r.outs (rdB b)=some (r.outs.all (ZrW (rdB b))):=ZHR h.rd (h.ok r mr).2.2
noncomputable def ZFC (b:Zu) (n:Nat) (x:Int) (l:List Int):Option (List Int):=ZED (ZDU b) (ZHe b) n x l
theorem ZFo (b:Zu) (n:Nat) (x:Int) (l:List Int) (h:(rdN (rdB b) x).toNat<n):
  ∃r,ZFC b n x l=some r∧ZD8 (ZDU b) (ZHe b) (fun y=>(rdN (rdB b) y).toNat) ((rdN (rdB b) x).toNat+1) l r∧(0≤ZDU b x→ZDU b x∈r)∧(0≤ZDU b x→ZDU b x∉l→∃t,r=t++[ZDU b x]):=
 ZFg (back:=ZIB b) (fun _ hx=>ZHq hx) (fun _ hx=>ZIp hx) n x l h
theorem ZIu {b:Zu} {r:List Int} (hn:r.Nodup) (h:∀s∈r,∃y,s=ZDU b y∧0≤ZDU b y):r.length≤b.reasons.length:=by
 have hs:∀s∈r,s∈(AD b.reasons.length).map (fun i=>((i:Nat):Int)):=fun s hs=>by
  obtain ⟨y,e1,e2⟩:=h s hs
  obtain ⟨_,_,_,q,h1,_⟩:=ZEA e2
  rw [←e1] at h1 e2
  exact Ab.2 ⟨s.toNat,AY.2 (AH.1 h1).1,yE⟩
 have:=Zcs hn hs
 simpa using this
end
section
open Go.RowKit
structure SqM (n:Nat) (d:List (List Bool)):Prop where
 len:d.length=n
 row:∀r∈d,r.length=n
theorem SqM.new (n:Nat):SqM n (A9 n (A9 n false)):=⟨by simp,fun r mr=>by rw [(List.mem_replicate.1 mr).2];simp⟩
theorem SqM.get {n:Nat} {d:List (List Bool)} (h:SqM n d) {i j:Nat} (hi:i<n) (hj:j<n):∃(h1:i<d.length) (h2:j<d[i].length),Zb9 d i j=d[i][j]∧∀v,Zjq d i j v=d.set i (d[i].set j v):=by
 have h1:i<d.length:=by rw [h.len];exact hi
 have h2:j<d[i].length:=by rw [h.row _ (BX h1)];exact hj
 refine ⟨h1,h2,?_,fun v=>?_⟩
 ·unfold Zb9;rw [A5 h1];simp only;rw [A5 h2]
 ·unfold Zjq;rw [A5 h1]
theorem SqM.set {n:Nat} {d:List (List Bool)} (h:SqM n d) (i j:Nat) (v:Bool):SqM n (Zjq d i j v):=by
 unfold Zjq
 cases hd:d[i]? with
 | none=>exact h
 | some r=>
  refine ⟨by simp [h.len],fun q mq=>?_⟩
  rcases List.mem_or_eq_of_mem_set mq with mq | rfl
  ·exact h.row q mq
  ·rw [BT];exact h.row r (AJ hd)
theorem Zny {n:Nat} {d:List (List Bool)} (h:SqM n d) {i j:Nat} {v:Bool} (hi:i<n) (hj:j<n) (a b:Nat):Zb9 (Zjq d i j v) a b=if a=i∧b=j then v else Zb9 d a b:=by
 obtain ⟨h1,h2,_,h4⟩:=h.get hi hj
 rw [h4]
 unfold Zb9
 rw [Ad]
 by_cases e:i=a
 ·subst e
  rw [if_pos rfl,if_pos h1]
  simp only
  rw [Ad,A5 h1]
  by_cases e2:j=b
  ·subst e2;rw [if_pos rfl,if_pos h2];simp
  ·rw [if_neg e2,if_neg (fun hh=>e2 hh.2.symm)]
 ·rw [if_neg e,if_neg (fun hh=>e hh.1.symm)]
theorem Zbl {α β:Type} {P:β→Prop} {f:β→α→β}:∀{l:List α} {b:β},P b→(∀b x,x∈l→P b→P (f b x))→P (l.foldl f b)
 | [],_,h,_=>h
 | x::l,b,h,hs=>Zbl (l:=l) (hs b x yG h) fun b y my=>hs b y (by simp [my])
theorem Zty {n:Nat} {R:List Zg} {D:Nat→Nat→Prop} (hR:∀r∈R,r.for_.toNat<n∧(∀y∈r.inn,y.toNat<n)∧∀y∈r.outs,y.toNat<n) (h1:∀r∈R,∀y,y∈r.inn∨y∈r.outs→D r.for_.toNat y.toNat) (h2:∀i k j,D i k→D k j→D i j):SqM n (Zfc n R)∧∀i j,Zb9 (Zfc n R) i j=true→D i j:=by
 have f:∀{d:List (List Bool)} {i j:Nat} {v:Bool},i<n→j<n→(v=true→D i j)→(SqM n d∧∀i j,Zb9 d i j=true→D i j)→SqM n (Zjq d i j v)∧∀a b,Zb9 (Zjq d i j v) a b=true→D a b:=fun {d i j v} hi hj hv ⟨s,g⟩=>by
  refine ⟨s.set _ _ _,fun a b c=>?_⟩
  rw [Zny s hi hj] at c
  split at c
  ·rename_i e;obtain ⟨rfl,rfl⟩:=e;exact hv c
  ·exact g a b c
 unfold Zfc
 refine Zbl (P:=fun d=>SqM n d∧∀i j,Zb9 d i j=true→D i j) ?_ fun d k mk h=>?_
 ·refine Zbl (P:=fun d=>SqM n d∧∀i j,Zb9 d i j=true→D i j) ⟨SqM.new n,fun i j h=>?_⟩ fun d r mr h=>?_
  ·exfalso
   unfold Zb9 at h
   rw [Ba] at h
   split at h
   ·rename_i r e
    split at e
    ·simp at e;subst e
     rw [Ba] at h
     split at h
     ·rename_i e;split at e
      ·simp at e;subst e;simp at h
      ·simp at e
     ·simp at h
    ·simp at e
   ·simp at h
  ·obtain ⟨q1,q2,q3⟩:=hR r mr
   unfold Zic
   refine Zbl (P:=fun d=>SqM n d∧∀i j,Zb9 d i j=true→D i j) (Zbl (P:=fun d=>SqM n d∧∀i j,Zb9 d i j=true→D i j) h fun d y my h=>f q1 (q2 y my) (fun _=>h1 r mr y (.inl my)) h) fun d y my h=>f q1 (q3 y my) (fun _=>h1 r mr y (.inr my)) h
 ·have hk:k<n:=by rw [BF] at mk;omega
  unfold ZmX
  refine Zbl (P:=fun d=>SqM n d∧∀i j,Zb9 d i j=true→D i j) h fun d i mi h=>?_
  have hi:i<n:=by rw [BF] at mi;omega
  unfold Zm6
  refine Zbl (P:=fun d=>SqM n d∧∀i j,Zb9 d i j=true→D i j) h fun d j mj h=>?_
  have hj:j<n:=by rw [BF] at mj;omega
  refine f hi hj (fun hv=>?_) h
  rw [BV,A3] at hv
  rcases hv with hv | ⟨l,m⟩
  ·exact h.2 i j hv
  ·exact h2 i k j (h.2 i k l) (h.2 k j m)
end
section
open Classical
theorem Yu.args {R:List Zf} {base F:List Zd} (h:Yu R base F):∀f∈F,f.args.length≤1048576:=fun f mf=>by
 have:=Xg (h.good.ok f mf)
 omega
theorem ZIx (l:List Int) (x:Int):ZEh l x=some (ZvD l x):=Zpi l x
end
section
open Classical
theorem ZH4 {b:Zu} (h:ZdS b) (x:Int):ZDN b (rdB b) x=some (ZDU b x):=by
 unfold ZDN ZDU
 have h0:=h.n0
 have a:=h.rd
 by_cases c1:x<0
 ·rw [if_pos (decide_eq_true c1),if_neg yE]
 ·rw [if_neg (by simpa using c1)]
  by_cases c2:b.nodes≤x
  ·rw [if_pos (decide_eq_true c2),if_neg yE]
  ·rw [if_neg (by simpa using c2),ZG4 a yE yE,A0]
   by_cases c3:rdN (rdB b) x<0
   ·rw [if_pos (decide_eq_true c3),if_neg yE]
   ·rw [if_neg (by simpa using c3),if_pos ⟨yE,yE,yE⟩]
    refine ZEd (s:=()) (fin:=fun _=>some (-1)) (p:=ZHm b x) rfl fun i r mr=>?_
    unfold ZHm
    by_cases c4:r.for_=x
    ·rw [if_pos (by simpa using c4),ZF6 h mr yE,A0]
     by_cases c5:Zmr (rdB b) (rdN (rdB b) x).toNat r
     ·rw [if_pos (decide_eq_true c5),decide_eq_true (show r.for_=x∧_ from ⟨c4,c5⟩)];rfl
     ·rw [if_neg (by simpa using c5),decide_eq_false (fun hh:r.for_=x∧_=>c5 hh.2)];rfl
    ·rw [if_neg (by simpa using c4),decide_eq_false (fun hh:r.for_=x∧_=>c4 hh.1)];rfl
theorem ZHa {b:Zu} (h:ZdS b) (x:Int):ZDr b x=some (ZDU b x):=by
 unfold ZDr ZDU
 have h0:=h.n0
 have h1:=h.n1
 have a:=h.rd
 rw [ZFN h,A0,ZuV yE yE,Zgf,A0]
 by_cases c1:0≤x∧x<b.nodes
 ·rw [if_pos (by simp;omega),Zi _ ⟨yE,yE⟩]
  have hg:=ZG4 a c1.1 yE
  unfold atI at hg
  rw [if_pos c1.1] at hg
  rw [hg,A0]
  by_cases c3:rdN (rdB b) x<0
  ·rw [if_pos (decide_eq_true c3),if_neg yE]
  ·rw [if_neg (by simpa using c3),if_pos ⟨c1.1,c1.2,yE⟩]
   refine ZEd (s:=()) (fin:=fun _=>some (-1)) (p:=ZHm b x) rfl fun i r mr=>?_
   unfold ZHm
   by_cases c4:r.for_=x
   ·rw [if_pos (by simpa using c4),ZHu h mr yE,A0]
    by_cases c6:r.inn.all (ZsE (rdB b) (rdN (rdB b) x).toNat)=true
    ·rw [if_pos c6,ZIm h mr,A0]
     by_cases c7:r.outs.all (ZrW (rdB b))=true
     ·rw [if_pos c7,decide_eq_true (show r.for_=x∧_ from ⟨c4,Zll.1 ⟨c6,c7⟩⟩)];rfl
     ·rw [if_neg c7,decide_eq_false (fun hh:r.for_=x∧_=>c7 (Zll.2 hh.2).2)];rfl
    ·rw [if_neg c6,decide_eq_false (fun hh:r.for_=x∧_=>c6 (Zll.2 hh.2).1)];rfl
   ·rw [if_neg (by simpa using c4),decide_eq_false (fun hh:r.for_=x∧_=>c4 hh.1)];rfl
 ·rw [if_neg (by simp;omega),if_neg yE]
theorem ZdN.join {R:List Zg} {x y z:Int} (h:ZdN R x y) (k:ZdN R y z):ZdN R x z:=by
 induction k with
 | one h1=>exact .step h h1
 | step _ h1 ih=>exact .step ih h1
theorem ZdS.depOk {b:Zu} (h:ZdS b):Zl9 b=true:=by
 have h0:=h.n0
 unfold Zl9
 rw [A3,decide_eq_true_iff]
 refine ⟨⟨h.n0,h.n1,h.len⟩,AA.2 fun r mr=>?_⟩
 obtain ⟨⟨f0,f1⟩,f2,f3⟩:=h.ok r mr
 rw [A3,A3,decide_eq_true_iff]
 refine ⟨⟨⟨f0,yE⟩,AA.2 fun y my=>?_⟩,AA.2 fun y my=>?_⟩
 ·have:=f2 y my
  rw [decide_eq_true_iff];omega
 ·have:=f3 y my
  rw [decide_eq_true_iff];omega
theorem Ze1 {b:Zu} (h:ZdS b):XI b=some true:=by
 unfold XI
 have h0:=h.n0
 have h60:=h.len
 rw [Zli h.small yE,h.valid,A0,if_pos rfl]
 unfold ZaL
 rw [if_pos h.depOk,A0]
 obtain ⟨hS,hD⟩:=Zty (n:=b.nodes.toNat) (R:=b.reasons) (D:=fun i j=>ZdN b.reasons ((i:Nat):Int) ((j:Nat):Int)) (fun r mr=>by
   obtain ⟨⟨f0,f1⟩,f2,f3⟩:=h.ok r mr
   exact ⟨f1,fun y my=>(f2 y my).2,fun y my=>(f3 y my).2⟩) (fun r mr y my=>by
   obtain ⟨⟨f0,f1⟩,f2,f3⟩:=h.ok r mr
   have hy:0≤y:=by
    rcases my with my | my
    ·exact (f2 y my).1
    ·exact (f3 y my).1
   exact .one ⟨r,mr,yE,by rw [AZ hy];exact my⟩) (fun i k j h1 h2=>h1.join h2)
 rw [ZW (p:=fun _=>true) (r:=true)]
 ·simp
 ·intro i r mr
  rw [ZW (p:=fun _=>true) (r:=.inl ())]
  ·simp
  ·intro j y my
   obtain ⟨k1,k2⟩:=h.strat r mr y my
   obtain ⟨⟨f0,f1⟩,_,f3⟩:=h.ok r mr
   obtain ⟨y0,y1⟩:=f3 y my
   have ey:(y==r.for_)=false:=by simpa using k1
   obtain ⟨q1,q2,q3,_⟩:=hS.get y1 f1
   have hv:(Zfc b.nodes.toNat b.reasons)[y.toNat][r.for_.toNat]=false:=by
    cases hb:(Zfc b.nodes.toNat b.reasons)[y.toNat][r.for_.toNat] with
    | false=>rfl
    | true=>
     have:=hD y.toNat r.for_.toNat (by rw [q3,hb])
     rw [AZ y0,AZ f0] at this
     exact absurd this k2
   rw [ey]
   simp only[A7,if_false]
   have a1:atI (Zfc b.nodes.toNat b.reasons) y=some (Zfc b.nodes.toNat b.reasons)[y.toNat]:=by
    unfold atI
    rw [if_pos y0,A5 q1]
   have a2:atI (Zfc b.nodes.toNat b.reasons)[y.toNat] r.for_=some false:=by
    unfold atI
    rw [if_pos f0,A5 q2,hv]
   rw [a1,A0,a2,A0]
   rfl
end
section
open Classical
structure ZFl (b:Zu) (l:List Int):Prop where
 nodup:l.Nodup
 sup:∀s∈l,∃y,s=ZDU b y∧0≤ZDU b y
theorem ZIt (b:Zu):ZFl b []:=⟨List.nodup_nil,by simp⟩
theorem ZFl.len {b:Zu} (h:ZdS b) {l:List Int} (g:ZFl b l):l.length≤60:=AW (ZIu g.nodup g.sup) h.len
theorem ZGy {b:Zu} (h:ZdS b) {sup:Int→Option Int} {d:List Int→Int→Option Bool} (hs:∀x,sup x=some (ZDU b x)) (hh:∀l s,d l s=some (ZvD l s)):
  ∀(n:Nat) (x:Int) (l:List Int),(rdN (rdB b) x).toNat<n→ZFl b l→∃r,ZDY sup d b n x l=some r∧ZFC b n x l=some r∧ZFl b r
 | 0,_,_,hx,_=>by omega
 | n+1,x,l,hx,hg=>by
  obtain ⟨r,e1,e2,e3,e4⟩:=ZFo b (n+1) x l hx
  have hr:ZFl b r:=⟨e2.nodup hg.nodup,fun s ms=>(e2.new s ms).elim (hg.sup s) (fun ⟨y,a,c,_⟩=>⟨y,a,c⟩)⟩
  refine ⟨r,?_,e1,hr⟩
  rw [ZDY,hs,A0]
  unfold ZFC at e1
  rw [ZED] at e1
  by_cases h1:ZDU b x<0
  ·rw [if_pos (decide_eq_true h1)]
   rw [if_pos (.inl h1)] at e1
   exact e1
  ·rw [if_neg (by simpa using h1),hh,A0]
   by_cases h2:ZDU b x∈l
   ·rw [if_pos (Zoz.2 h2)]
    rw [if_pos (.inr h2)] at e1
    exact e1
   ·rw [if_neg (by rw [Zoz];exact h2)]
    rw [if_neg (fun a=>a.elim h1 h2)] at e1
    have h0:0≤ZDU b x:=by omega
    obtain ⟨_,_,_,q,hq,_,_⟩:=ZEA h0
    have hi:ZHe b (ZDU b x)=q.inn:=by unfold ZHe;rw [hq];rfl
    have e:∀(ys l:List Int),(∀y∈ys,(rdN (rdB b) y).toNat<n)→ZFl b l→∃t,goO (ZDY sup d b n) ys l=some t∧goP (ZED (ZDU b) (ZHe b) n) ys l=some t∧ZFl b t:=by
     intro ys
     induction ys with
     | nil=>intro l _ g;exact ⟨l,rfl,rfl,g⟩
     | cons y ys ih=>
      intro l hy g
      obtain ⟨u,u1,u2,u3⟩:=ZGy h hs hh n y l (hy y yG) g
      obtain ⟨t,t1,t2,t3⟩:=ih u (fun z hz=>hy z (by simp [hz])) u3
      unfold ZFC at u2
      exact ⟨t,by rw [goO,u1,A0,t1],by rw [goP,u2,A0,t2],t3⟩
    rw [hq,A0]
    rw [hi] at e1
    obtain ⟨t,t1,t2,t3⟩:=e q.inn l (fun y my=>by have:=ZHq h0 y (by rw [hi];exact my);omega) hg
    rw [t2] at e1
    rw [t1,A0,if_pos (by have:=t3.len h;omega)]
    exact e1
structure ZFZ (b:Zu) (x:Int) (l:List Int):Prop where
 good:ZFl b l
 ord:ZGJ (ZDU b) (ZHe b) l
 none:ZDU b x<0→l=[]
 last:0≤ZDU b x→∃t,l=t++[ZDU b x]
theorem ZGw {b:Zu} (h:ZdS b) {sup:Int→Option Int} {a:List Int→Int→Option Bool} (hs:∀x,sup x=some (ZDU b x)) (hh:∀l s,a l s=some (ZvD l s)) (x:Int):
  ∃r,ZDY sup a b ((((rdB b)[x.toNat]?).getD 0).toNat+1) x []=some r∧ZFC b ((((rdB b)[x.toNat]?).getD 0).toNat+1) x []=some r∧ZFZ b x r:=by
 have hx:(rdN (rdB b) x).toNat<(((rdB b)[x.toNat]?).getD 0).toNat+1:=by
  unfold rdN
  cases (rdB b)[x.toNat]? with
  | none=>simp
  | some v=>simp
 obtain ⟨r,r1,r2,r3⟩:=ZGy h hs hh _ x [] hx (ZIt b)
 obtain ⟨r',e1,e2,e3,e4⟩:=ZFo b _ x [] hx
 obtain rfl:r=r':=by rw [r2] at e1;exact AS e1
 refine ⟨r,r1,r2,r3,e2.ord (ZGJ.nil _ _),fun hn=>?_,fun h0=>e4 h0 yG⟩
 unfold ZFC at r2
 rw [ZED,if_pos (.inl hn)] at r2
 exact (AS r2).symm
theorem ZFn {b:Zu} (h:ZdS b) (x:Int):∃l,ZDD b x=some l∧ZDF b x=some l∧ZFZ b x l:=by
 obtain ⟨r,r1,r2,r3⟩:=ZGw h (ZH4 h) Zpi x
 obtain ⟨r',q1,q2,_⟩:=ZGw h (ZHa h) ZIx x
 obtain rfl:r=r':=by rw [r2] at q2;exact AS q2
 refine ⟨r,?_,?_,r3⟩
 ·unfold ZDD
  rw [Ze1 h,A0,if_pos rfl,ZrH h,A0]
  exact r1
 ·unfold ZDF
  rw [ZFN h,A0]
  exact q1
end
section
open Classical
/- reasons, of the smaller set -/
def ZIh (F:List Zd) (y:Int):Zd:=match F[y.toNat]? with | some f=>f | none=>{ rel:=⟨#[]⟩,args:=[] }
end
section
open Classical
noncomputable def givesB (t:Zt) (f:Zd) (a:Zx):Bool:=(Zce (Zba a.pattern t.binding)).2&&decide ((Zce (Zba a.pattern t.binding)).1=f)
end
section
open Classical
theorem ZHp {β:Type} {P:Zg→β→Prop}:∀(c:List (Zg × β)) (s:List Zg × List β),(∀x∈c,P x.1 x.2)→s.2.length=s.1.length→(∀(k:Nat) (q:Zg) (o:β),s.1[k]?=some q→s.2[k]?=some o→P q o)→∀(k:Nat) (q:Zg) (o:β),(c.foldl Qh s).1[k]?=some q→(c.foldl Qh s).2[k]?=some o→P q o
 | [],s,_,_,h=>h
 | x::c,s,hc,hl,h=>by
  rw [AB]
  refine ZHp c (Qh s x) (fun y my=>hc y (by simp [my])) ?_ ?_
  ·unfold Qh
   split
   ·exact hl
   ·simp [hl]
  ·intro k q o hq ho
   unfold Qh at hq ho
   split at hq
   ·rename_i hm
    rw [if_pos hm] at ho
    exact h k q o hq ho
   ·rename_i hm
    rw [if_neg hm] at ho
    rcases Nat.lt_trichotomy k s.1.length with hk | hk | hk
    ·rw [AO hk] at hq
     rw [AO yE] at ho
     exact h k q o hq ho
    ·subst hk
     rw [BG (Aa _)] at hq
     rw [←hl,BG (Aa _)] at ho
     simp at hq ho
     subst hq ho
     exact hc x yG
    ·rw [AF (by simp;omega)] at hq
     simp at hq
def ZIE {β:Type} (oF:Zf→Zt→β) (z:β) (R:List Zf) (base F:List Zd) (q:Zg) (o:β):Prop:=
 (∃f∈base,q={ for_:=Z9 F f,inn:=[],outs:=[] }∧o=z)∨∃r∈R,∃t∈ZM (QZ r) F,∃a∈r.thn,q=Z6 F r t a∧o=oF r t
theorem ZHt {β:Type} (oF:Zf→Zt→β) (z:β) (R:List Zf) (base F:List Zd) (k:Nat) (q:Zg) (o:β) (hq:(Zad oF F z R base).1[k]?=some q) (ho:(Zad oF F z R base).2[k]?=some o):ZIE oF z R base F q o:=by
 refine ZHp (P:=ZIE oF z R base F) (R.flatMap (Zkd oF F)) (ZcB F base,base.map fun _=>z) ?_ (by simp [ZcB]) ?_ k q o hq ho
 ·intro x mx
  obtain ⟨r,mr,mx⟩:=AI.1 mx
  obtain ⟨t,mt,mx⟩:=AI.1 mx
  obtain ⟨a,ma,rfl⟩:=Ab.1 mx
  exact .inr ⟨r,mr,t,mt,a,ma,rfl,rfl⟩
 ·intro k q o hq ho
  simp only[ZcB,Bb,Aj] at hq ho
  obtain ⟨f,hf,rfl⟩:=hq
  obtain ⟨_,_,rfl⟩:=ho
  exact .inl ⟨f,AJ hf,rfl,rfl⟩
noncomputable def ZEx (out:List ZvY) (x:Zd):Int:=ZEr (fun s:ZvY=>decide (s.fact=x)) out 0
noncomputable def mkS (F:List Zd) (Q:List Zg) (O:List Zac) (out:List ZvY) (k:Int):ZvY:=
 { fact:=ZIh F (((Q[k.toNat]?).map (·.for_)).getD 0),rule:=((O[k.toNat]?).map (·.rule)).getD ⟨#[]⟩,uses:=(((O[k.toNat]?).map (·.facts)).getD []).map (ZEx out) }
noncomputable def ZDn (F:List Zd) (Q:List Zg) (O:List Zac) (l:List Int):List ZvY:=l.foldl (fun out k=>out++[mkS F Q O out k]) []
theorem ZEK (F:List Zd) (Q:List Zg) (O:List Zac) (l:List Int) (k:Int):ZDn F Q O (l++[k])=ZDn F Q O l++[mkS F Q O (ZDn F Q O l) k]:=by
 unfold ZDn
 rw [AM]
 rfl
theorem ZHx {α:Type} {P:List α→Prop} (h0:P []) (h:∀p x,P p→P (p++[x])) (l:List α):P l:=by
 have:∀n (l:List α),l.length=n→P l:=by
  intro n
  induction n with
  | zero=>intro l hl;rw [AR hl];exact h0
  | succ n ih=>
   intro l hl
   obtain ⟨p,x,rfl⟩:∃p x,l=p++[x]:=⟨l.dropLast,l.getLast (by intro e;simp [e] at hl),(Aq _).symm⟩
   exact h p x (ih p (by simpa using hl))
 exact this _ l rfl
theorem ZEG (F:List Zd) (Q:List Zg) (O:List Zac) (l:List Int):(ZDn F Q O l).length=l.length:=
 ZHx (P:=fun l=>(ZDn F Q O l).length=l.length) rfl (fun p x ih=>by rw [ZEK,A8,A8,ih];rfl) l
theorem ZIq {F:List Zd} {Q:List Zg} {O:List Zac}:∀{l:List Int} {i:Nat} {s:ZvY},(ZDn F Q O l)[i]?=some s→∃p k q,l=p++k::q∧p.length=i∧s=mkS F Q O (ZDn F Q O p) k∧(ZDn F Q O l).take i=ZDn F Q O p:=by
 intro l
 refine ZHx (P:=fun l=>∀{i:Nat} {s:ZvY},(ZDn F Q O l)[i]?=some s→∃p k q,l=p++k::q∧p.length=i∧s=mkS F Q O (ZDn F Q O p) k∧(ZDn F Q O l).take i=ZDn F Q O p) ?_ ?_ l
 ·intro i s h;simp [ZDn] at h
 ·intro p x ih i s h
  have hl:=ZEG F Q O p
  rw [ZEK] at h ⊢
  by_cases hi:i<p.length
  ·rw [AO yE] at h
   obtain ⟨p',k,q,e1,e2,e3,e4⟩:=ih h
   refine ⟨p',k,q++[x],by rw [e1];simp,e2,e3,?_⟩
   rw [Bc yE,e4]
  ·have a:i<(ZDn F Q O p++[mkS F Q O (ZDn F Q O p) x]).length:=(AH.1 h).1
   have b:i=p.length:=by simp at a;omega
   subst b
   rw [←hl,BG (Aa _)] at h
   simp at h
   exact ⟨p,x,[],rfl,rfl,h.symm,by rw [←hl,Bc (Aa _),BL]⟩
section
variable {R:List Zf} {base F:List Zd}
end
end
section
open Classical
theorem ZGb (a:List ZvY) (x:Zd):ZEa a x=some (ZEx a x):=by
 unfold ZEa ZEx
 refine ZEd (s:=()) (fin:=fun _=>some (-1)) (p:=fun s:ZvY=>decide (s.fact=x)) rfl fun i s _=>?_
 rw [ZbI,A0]
 cases decide (s.fact=x)<;>rfl
theorem ZGo (a:List ZvY) (x:Zd):ZEo a x=some (ZEx a x):=by
 unfold ZEo ZEx
 refine ZEd (s:=()) (fin:=fun _=>some (-1)) (p:=fun s:ZvY=>decide (s.fact=x)) rfl fun i s _=>?_
 rw [ZHw,A0]
 cases decide (s.fact=x)<;>rfl
def toI (c:Xd):Zac:={ rule:=c.rule,facts:=c.token.facts }
theorem ZHi {β γ:Type} (g:β→γ):∀(c:List (Zg × β)) (s:List Zg × List β),((c.map fun p=>(p.1,g p.2)).foldl Qh (s.1,s.2.map g))=((c.foldl Qh s).1,(c.foldl Qh s).2.map g)
 | [],_=>rfl
 | x::c,s=>by
  have e:Qh (s.1,s.2.map g) (x.1,g x.2)=((Qh s x).1,(Qh s x).2.map g):=by
   unfold Qh
   by_cases h:x.1∈s.1
   ·simp only[h,if_true]
   ·simp only[h,if_false,Au,Ah,List.map_nil]
  rw [Ah,AB,AB,e]
  exact ZHi g c (Qh s x)
theorem ZG6 (R:List Zf) (base F:List Zd):(Zad ZnY F noI R base).2=(Zad Zo5 F noS R base).2.map toI:=by
 have h:=ZHi toI (R.flatMap (Zkd Zo5 F)) (ZcB F base,base.map fun _=>noS)
 have e1:(R.flatMap (Zkd Zo5 F)).map (fun p=>(p.1,toI p.2))=R.flatMap (Zkd ZnY F):=by
  rw [At]
  congr 1
  funext r
  rw [Zkd,Zkd,At]
  congr 1
  funext t
  simp [ZlN,toI,Zo5,ZnY]
 have e2:(base.map fun _=>noS).map toI=base.map fun _=>noI:=by
  rw [List.map_map];rfl
 rw [e1,e2] at h
 unfold Zad
 rw [h]
theorem ZGa {ρ:Type} {F:List Zd} {Q:List Zg} {O:List Zac} {l:List Int} {fin:List ZvY→Option ρ} {body:Nat→Int→List ZvY→Option (List ZvY ⊕ ρ)} (hl:l.length≤60) (hb:∀i k a,k∈l→a.length≤60→body i k a=some (.inl (a++[mkS F Q O a k]))):Zn body fin l 0 []=fin (ZDn F Q O l):=by
 have h0:([]:List ZvY)=ZDn F Q O []:=rfl
 rw [h0,QL (fun p=>ZDn F Q O p) l]
 intro p k q e
 have:p.length+(q.length+1)=l.length:=by rw [e,A8,AE]
 rw [hb _ _ _ (by rw [e];simp) (by rw [ZEG];omega),ZEK]
section
variable {R:List Zf} {base F:List Zd}
theorem ZF0 (hG:Yu R base F) (a:(YJ R F base).length≤60) {x:Int} {l:List Int} (hl:ZFZ { nodes:=((F.length:Nat):Int),reasons:=YJ R F base } x l) {k:Int} (mk:k∈l):
  ∃c o,0≤k∧k.toNat<(YJ R F base).length∧(YJ R F base)[k.toNat]?=some c∧(Zad ZnY F noI R base).2[k.toNat]?=some o∧ZIE ZnY noI R base F c o∧0≤c.for_∧c.for_.toNat<F.length:=by
 have hB:=ZdS.of hG a
 obtain ⟨y,e1,e2⟩:=hl.good.sup k mk
 obtain ⟨y0,y1,y2,c,c1,c2,c3⟩:=ZEA e2
 rw [←e1] at c1 e2
 simp only at c1 y1
 obtain ⟨g1,g2⟩:=Zi7 ZnY F noI R base
 have b:k.toNat<(YJ R F base).length:=(AH.1 c1).1
 have ho:(Zad ZnY F noI R base).2[k.toNat]?=some _:=A5 yE
 exact ⟨c,_,e2,b,c1,ho,ZHt ZnY noI R base F k.toNat c _ (by rw [g1];exact c1) ho,yE,yE⟩
theorem ZFb (hG:Yu R base F) {c:Zg} {o:Zac} (h:ZIE ZnY noI R base F c o):o.rule.size≤8∧o.facts.length≤4:=by
 rcases h with ⟨f,_,_,rfl⟩ | ⟨r,mr,t,mt,a,_,_,rfl⟩
 ·exact ⟨yF,yF⟩
 ·have h1:=(hG.tokS mr mt).len
  refine ⟨?_,by show t.facts.length≤4;omega⟩
  have hl:=(hG.rule mr).1
  unfold ZU at hl
  simp only[A3] at hl
  have hv:=hl.1.1
  unfold XX at hv
  simp only[A3] at hv
  have hn:=hv.1.1.1.1.1.1.1.1.1
  unfold Qc at hn
  rw [A3] at hn
  exact (ZeH hn.1).2
theorem ZH1 {O:List Zac} {Q:List Zg} {a:List ZvY} {k:Int} {c:Zg} {o:Zac} (h1:Q[k.toNat]?=some c) (h2:O[k.toNat]?=some o):mkS F Q O a k={ fact:=ZIh F c.for_,rule:=o.rule,uses:=o.facts.map (ZEx a) }:=by unfold mkS;rw [h1,h2];rfl
theorem ZFW {y:Int} {f:Zd} (h:F[y.toNat]?=some f):ZIh F y=f:=by unfold ZIh;rw [h]
theorem ZHV (hG:Yu R base F) (d:(YJ R F base).length≤60) (hi:ZEB R base=some (F,{ nodes:=((F.length:Nat):Int),reasons:=YJ R F base },(Zad ZnY F noI R base).2,true)) (hs:ZD0 R base=some (F,{ nodes:=((F.length:Nat):Int),reasons:=YJ R F base },(Zad Zo5 F noS R base).2,true)) (f:Zd):
  ∃l,ZFZ { nodes:=((F.length:Nat):Int),reasons:=YJ R F base } (Z9 F f) l∧ZDQ R base f=some (ZDn F (YJ R F base) (Zad ZnY F noI R base).2 l,decide (0<l.length))∧ZDT R base f=some (ZDn F (YJ R F base) (Zad ZnY F noI R base).2 l,decide (0<l.length)):=by
 have hB:=ZdS.of hG d
 obtain ⟨l,f1,f2,f3⟩:=ZFn hB (Z9 F f)
 have b:=f3.good.len hB
 have a:=hG.args
 refine ⟨l,f3,?_,?_⟩
 ·unfold ZDQ
  rw [hi,A0,if_pos rfl,ZbE,A0,f1,A0]
  by_cases h0:l.length=0
  ·rw [if_pos (by simpa using h0)]
   rw [AR h0]
   rfl
  ·rw [if_neg (by simpa using h0),ZGa (F:=F) (Q:=YJ R F base) (O:=(Zad ZnY F noI R base).2) b]
   ·rw [decide_eq_true (show 0<l.length by omega)]
   ·intro i k e mk p
    obtain ⟨c,o,k0,k1,hc,ho,hm,c0,c1⟩:=ZF0 hG d f3 mk
    obtain ⟨_,q⟩:=ZFb hG hm
    obtain ⟨g,hg⟩:∃g,F[c.for_.toNat]?=some g:=⟨_,A5 c1⟩
    have a1:atI F c.for_=some g:=by unfold atI;rw [if_pos c0,hg]
    have a2:atI (Zad ZnY F noI R base).2 k=some o:=by unfold atI;rw [if_pos k0,ho]
    dsimp only
    rw [Zi _ ⟨k0,yE⟩,hc,A0,a1,A0,YB _ (a g (AJ hg)),A0,a2,A0,Zk3 (g:=ZEx e)]
    ·rw [Zi _ yE,ZH1 hc ho,ZFW hg]
     rfl
    ·intro j y s _ m
     rw [ZGb,A0,Zi _ (by simp at m;omega)]
 ·unfold ZDT
  rw [hs,A0,if_pos rfl,Zbw,A0,f2,A0,ZGa (F:=F) (Q:=YJ R F base) (O:=(Zad ZnY F noI R base).2) b]
  ·rw [ZEG]
   congr 2
   exact decide_eq_decide.2 yE
  ·intro i k e mk p
   obtain ⟨c,o,k0,k1,hc,ho,hm,c0,c1⟩:=ZF0 hG d f3 mk
   obtain ⟨_,q⟩:=ZFb hG hm
   obtain ⟨g,hg⟩:∃g,F[c.for_.toNat]?=some g:=⟨_,A5 c1⟩
   obtain ⟨u,hu,t⟩:∃u,(Zad Zo5 F noS R base).2[k.toNat]?=some u∧toI u=o:=by
    rw [ZG6,Bb] at ho
    exact Aj.1 ho
   subst t
   have a2:atI (Zad Zo5 F noS R base).2 k=some u:=by unfold atI;rw [if_pos k0,hu]
   have hof2:u.token.facts.length≤4:=q
   dsimp only
   rw [Zi _ ⟨k0,yE⟩,hc,A0,Zi _ ⟨c0,yE⟩,hg,A0,Xo _ (a g (AJ hg)),A0,a2,A0,Zk3 (g:=ZEx e)]
   ·rw [Zi _ yE,ZH1 hc ho,ZFW hg]
    rfl
   ·intro j y s _ m
    rw [ZGo,A0,Zi _ (by simp at m;omega)]
end
theorem ZHW {R:List Zf} {base F:List Zd} (hG:Yu R base F) (a:(YJ R F base).length≤60) {x:Int} {l:List Int} (hl:ZFZ { nodes:=((F.length:Nat):Int),reasons:=YJ R F base } x l):(ZDn F (YJ R F base) (Zad ZnY F noI R base).2 l).length≤60∧∀s∈ZDn F (YJ R F base) (Zad ZnY F noI R base).2 l,ZEm s≤80∧s.uses.length≤4:=by
 have hB:=ZdS.of hG a
 refine ⟨by rw [ZEG];exact hl.good.len hB,fun s ms=>?_⟩
 obtain ⟨i,hi⟩:=BI.1 ms
 obtain ⟨p,k,q,e1,_,rfl,_⟩:=ZIq hi
 obtain ⟨c,o,k0,k1,hc,ho,hm,c0,c1⟩:=ZF0 hG a hl (k:=k) (by rw [e1];simp)
 obtain ⟨h8,h4⟩:=ZFb hG hm
 obtain ⟨g,hg⟩:∃g,F[c.for_.toNat]?=some g:=⟨_,A5 c1⟩
 rw [ZH1 hc ho,ZFW hg]
 have hgc:=ZIr (hG.good.ok g (AJ hg))
 have e:ZEm { fact:=g,rule:=o.rule,uses:=o.facts.map (ZEx (ZDn F (YJ R F base) (Zad ZnY F noI R base).2 p)) }=ZC2 g+o.rule.size+(o.facts.map (ZEx (ZDn F (YJ R F base) (Zad ZnY F noI R base).2 p))).length:=rfl
 rw [AX] at e
 refine ⟨by rw [e];omega,?_⟩
 show (o.facts.map _).length≤4
 rw [AX]
 exact h4
theorem ZHd (R:List Zf) (base:List Zd):ZEB R base=ZaJ R base∧ZD0 R base=Xl R base:=⟨rfl,rfl⟩
theorem ZId {β:Type} {F:List Zd} {g:List Zg × List β} (h:g.1.length≤60):Zqe F g=(F,{ nodes:=((F.length:Nat):Int),reasons:=g.1 },g.2,true):=by
 unfold Zqe
 rw [if_neg yE]
theorem ZGW {R:List Zf} (hR:ZbC R) (base:List Zd) (b:base.length≤1048576) (f:Zd):∃s ok,ZDQ R base f=some (s,ok)∧ZDT R base f=some (s,ok)∧(s.length≤60∧∀x∈s,ZEm x≤80):=by
 obtain ⟨q1,q2⟩:=ZHd R base
 rcases ZpC hR base b with ⟨h1,h2⟩ | ⟨F,hG,h1,h2⟩
 ·refine ⟨[],false,?_,?_,yG⟩
  ·unfold ZDQ
   rw [q1,h1];rfl
  ·unfold ZDT
   rw [q2,h2];rfl
 ·obtain ⟨e1,_⟩:=Zi7 ZnY F noI R base
  obtain ⟨e2,_⟩:=Zi7 Zo5 F noS R base
  by_cases a:(YJ R F base).length≤60
  ·rw [ZId (by rw [e1];exact a),e1,←q1] at h1
   rw [ZId (by rw [e2];exact a),e2,←q2] at h2
   obtain ⟨l,f3,p1,p2⟩:=ZHV hG a h1 h2 f
   obtain ⟨c1,c2⟩:=ZHW hG a f3
   exact ⟨_,_,p1,p2,c1,fun x mx=>(c2 x mx).1⟩
  ·unfold Zqe at h1 h2
   rw [e1,if_pos yE] at h1
   rw [e2,if_pos yE] at h2
   refine ⟨[],false,?_,?_,yG⟩
   ·unfold ZDQ
    rw [q1,h1];rfl
   ·unfold ZDT
    rw [q2,h2];rfl
theorem ZGi (b:List Zf) (cz:ZC4 b≤1048576) (_:(fun ds=>∀d∈ds,ZIa d) b) (a:List Zd) (cf:ZDa a≤1048576) (_:(fun ds=>∀d∈ds,ZF3 d) a) (aF:Zd) (_:ZC2 aF≤1048576) (_:ZF3 aF):∃r k,ZDT b a aF=some (r,k)∧ZDQ b a aF=some (r,k)∧(r.length≤1048576∧ZEy r≤1048576):=by
 have hF:a.length≤1048576:=by unfold ZDa at cf;omega
 obtain ⟨s,ok,h1,h2,h3,h4⟩:=ZGW (ZHG cz) a hF aF
 refine ⟨s,ok,h2,h1,yE,?_⟩
 have:(s.map ZEm).sum≤s.length * 80:=ZGX h4
 unfold ZEy
 omega
end
end Go.Proofs.YtekbmedphidcgaaGreatDoor
