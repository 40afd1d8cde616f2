/- Texts of this proof, joined: R14, S14, F6, F7, P13, F8, S15, S16, S17, R11, S19, S20, S21, S22, G1, S23, S25, N2, N5, S24, D1, D2, D3, D4, N9, D5, D9, BInv, BRun. What each holds is said at its theorems. -/
import Derived.Test.YtekbmedphidcgaaGreatDoorGroundQ2
import Derived.Test.YtekbmedphidcgaaGreatDoorGroundQ1
import Derived.Laws.CopyRow
import Derived.Laws.OwnMore
import Derived.Laws.StructEq
set_option linter.unusedSimpArgs false
set_option linter.unusedVariables false
open Array renaming getElem?_eq_some_iff→B2
open Bool renaming and_eq_true→A3,false_eq_true→AB,eq_iff_iff→AR,true_and→As,false_or→At,or_eq_true→BF
open ByteArray renaming size_extract→Ap
open Go.ByteArray renaming toList_eq→BL
open Int renaming toNat→A7,le_refl→AF,le_trans→AG,toNat_natCast→AK,toNat_of_nonneg→AW,le_antisymm→BB
open List renaming mem_append→A4,mem_cons→A5,getElem?_eq_getElem→A6,all_eq_true→A8,length_cons→A9,range→AA,length_append→AD,getElem?_eq_none→AE,mem_singleton→AH,getElem?_eq_some_iff→AI,mem_of_getElem?→AJ,mem_flatMap→AL,foldl_append→AO,replicate→AP,foldl_cons→AQ,pairwise_cons→AS,mem_filterMap→AT,length_map→AU,countP_cons→AX,eq_nil_of_length_eq_zero→AY,countP_le_length→AZ,length_singleton→Aa,mem_filter→Ab,mem_map→Ac,getElem?_set→Ad,mem_range→Ae,getElem_mem→Af,getElem?_cons_succ→Ag,getElem?_cons_zero→Ah,getElem?_append_left→Aj,flatMap_append→Ak,flatMap_cons→Am,nil_append→Aq,length_filter_le→Au,dropLast_concat_getLast→Av,ext_getElem?→Ax,map_append→Az,mem_range'_1→B1,length_filterMap_le→B3,nodup_cons→B5,mergeSort_perm→B6,filterMap_cons→B7,filter_cons→B8,map_cons→B9,map_flatMap→BA,countP_eq_zero→BC,length_range→BD,length_set→BE,getElem?_replicate→BG,pairwise_iff_getElem→BH,take_append_drop→BJ
open List.Nodup renaming sublist→BK
open List.Pairwise renaming nil→An
open Nat renaming le_refl→AC,zero_add→AM,le_trans→AN,zero_le→Al,and_le_right→BI
open Option renaming bind_some→A0,map_eq_some_iff→Aw,isSome_some→B4
open Option.some renaming inj→Ar
open Prod renaming fst→Ay
namespace Go.Proofs.YtekbmedphidcgaaGreatDoor
section
section
variable {α σ ρ:Type} {body:Nat→α→σ→Option (σ ⊕ ρ)}
theorem Zm8 (I:List α→σ→Prop) (Q:ρ→Prop):∀(l pre:List α) (s:σ),I pre s→(∀p x s,x∈l→p.length<pre.length+l.length→I p s→(∃s',body p.length x s=some (.inl s')∧I (p++[x]) s')∨∃r,body p.length x s=some (.inr r)∧Q r)→
  (∃s',(∀fin:σ→Option ρ,Zn body fin l pre.length s=fin s')∧I (pre++l) s')∨∃r,(∀fin:σ→Option ρ,Zn body fin l pre.length s=some r)∧Q r
 | [],pre,s,h,_=>.inl ⟨s,fun _=>rfl,by simpa using h⟩
 | x::l,pre,s,h,hs=>by
  rcases hs pre x s (by simp) (by simp) h with ⟨s',e,h'⟩ | ⟨r,e,h'⟩
  ·rcases Zm8 I Q l (pre++[x]) s' h' fun p y s m hp hI=>hs p y s (by simp [m]) (by simp at hp ⊢;omega) hI with ⟨s2,e2,h2⟩ | ⟨r,e2,h2⟩
   ·refine .inl ⟨s2,fun fin=>?_,by simpa using h2⟩
    rw [ZV e]
    simpa using e2 fin
   ·refine .inr ⟨r,fun fin=>?_,h2⟩
    rw [ZV e]
    simpa using e2 fin
  ·exact .inr ⟨r,fun fin=>Ya e,h'⟩
theorem Zbj (I:List α→σ→Prop) (Q:ρ→Prop) (l:List α) (s:σ) (h:I [] s) (hs:∀p x s,x∈l→p.length<l.length→I p s→(∃s',body p.length x s=some (.inl s')∧I (p++[x]) s')∨∃r,body p.length x s=some (.inr r)∧Q r):
  (∃s',(∀fin:σ→Option ρ,Zn body fin l 0 s=fin s')∧I l s')∨∃r,(∀fin:σ→Option ρ,Zn body fin l 0 s=some r)∧Q r:=by
 have:=Zm8 I Q l [] s h fun p x s m hp hI=>hs p x s m (by simpa using hp) hI
 simpa using this
theorem Zd4 (I:List α→σ→Prop) (l:List α) (s:σ) (h:I [] s) (hs:∀p x s,x∈l→p.length<l.length→I p s→∃s',body p.length x s=some (.inl s')∧I (p++[x]) s'):∃s',(∀fin:σ→Option ρ,Zn body fin l 0 s=fin s')∧I l s':=by
 rcases Zbj I (fun _=>False) l s h fun p x s m hp hI=>.inl (hs p x s m hp hI) with h | ⟨_,_,h⟩
 ·exact h
 ·exact h.elim
end
def Y6 (r:Zf):List ByteArray:=r.thn.filterMap fun x=>if x.kind=1∨x.kind=2 then some x.pattern.rel else none
def Yc (r:Zf):List ByteArray:=r.cond.filterMap fun x=>if x.kind=1∨x.kind=2 then some x.pattern.rel else none
theorem Zpj (r:Zf):(Y6 r).length≤r.thn.length:=B3 _ _
theorem ZkR (r:Zf):(Yc r).length≤r.cond.length:=B3 _ _
theorem ZgB (r:Zf) (h:r.thn.length≤1048576):XY r=some (ZQ (Y6 r)):=by
 unfold XY
 rw [Yk (g:=fun x:Zx=>if x.kind=1∨x.kind=2 then some x.pattern.rel else none)]
 ·have:=Zpj r
  simp only[Aq]
  show (Yb (Y6 r)).bind _=_
  rw [XG _ (by omega)]
  rfl
 ·intro j x s _ hs
  simp at hs
  by_cases h1:x.kind=1
  ·simp only[h1,beq_self_eq_true,if_true];rw [Zi _ (by omega)];rfl
  ·by_cases h2:x.kind=2
   ·have:((2:Int)==1)=false:=by decide
    simp only[h2,this,AB,if_false,beq_self_eq_true,if_true];rw [Zi _ (by omega)];rfl
   ·simp [h1,h2]
theorem ZnJ (r:Zf) (h:r.cond.length≤1048576):Zbm r=some (ZQ (Yc r)):=by
 unfold Zbm
 rw [Yk (g:=fun x:Zr=>if x.kind=1∨x.kind=2 then some x.pattern.rel else none)]
 ·have:=ZkR r
  simp only[Aq]
  show (Yb (Yc r)).bind _=_
  rw [XG _ (by omega)]
  rfl
 ·intro j x s _ hs
  simp at hs
  by_cases h1:x.kind=1
  ·simp only[h1,beq_self_eq_true,if_true];rw [Zi _ (by omega)];rfl
  ·by_cases h2:x.kind=2
   ·have:((2:Int)==1)=false:=by decide
    simp only[h2,this,AB,if_false,beq_self_eq_true,if_true];rw [Zi _ (by omega)];rfl
   ·simp [h1,h2]
theorem Zio {α:Type} (kd:α→Int) (f:α→ByteArray):∀(l:List α) (acc:List ByteArray),l.foldl (fun s x=>if kd x=1∨kd x=2 then XW s (f x) else s) acc=(l.filterMap fun x=>if kd x=1∨kd x=2 then some (f x) else none).foldl XW acc
 | [],_=>rfl
 | x::l,acc=>by
  rw [AQ,Zio kd f l]
  by_cases h:kd x=1∨kd x=2<;>simp [h]
theorem ZgH (r:Zf) (h:r.thn.length≤1048576):QI r=some (ZQ (Y6 r)):=by
 unfold QI
 rw [XE (f:=fun s (x:Zx)=>if x.kind=1∨x.kind=2 then XW s x.pattern.rel else s) (fun j s=>s.length≤j) (by simp)]
 ·congr 1
  exact Zio (fun x:Zx=>x.kind) (fun x=>x.pattern.rel) r.thn []
 ·intro j x s _ _ hl hI
  have:=Zc6 x.pattern.rel s
  by_cases h1:x.kind=1
  ·simp only[h1,beq_self_eq_true,if_true,true_or];rw [XV _ _ (by omega)];exact ⟨rfl,by omega⟩
  ·by_cases h2:x.kind=2
   ·have:((2:Int)==1)=false:=by decide
    simp only[h2,this,AB,if_false,beq_self_eq_true,if_true,or_true];rw [XV _ _ (by omega)];exact ⟨rfl,by omega⟩
   ·simp [h1,h2];omega
theorem Zne (r:Zf) (h:r.cond.length≤1048576):Zbt r=some (ZQ (Yc r)):=by
 unfold Zbt
 rw [XE (f:=fun s (x:Zr)=>if x.kind=1∨x.kind=2 then XW s x.pattern.rel else s) (fun j s=>s.length≤j) (by simp)]
 ·congr 1
  exact Zio (fun x:Zr=>x.kind) (fun x=>x.pattern.rel) r.cond []
 ·intro j x s _ _ hl hI
  have:=Zc6 x.pattern.rel s
  by_cases h1:x.kind=1
  ·simp only[h1,beq_self_eq_true,if_true,true_or];rw [XV _ _ (by omega)];exact ⟨rfl,by omega⟩
  ·by_cases h2:x.kind=2
   ·have:((2:Int)==1)=false:=by decide
    simp only[h2,this,AB,if_false,beq_self_eq_true,if_true,or_true];rw [XV _ _ (by omega)];exact ⟨rfl,by omega⟩
   ·simp [h1,h2];omega
def Ze3 (R:List Zf) (x y:ByteArray):Prop:=∃r∈R,x∈Y6 r∧y∈Yc r
inductive YY (R:List Zf) (a:ByteArray):ByteArray→Prop
 | one {y:ByteArray}:Ze3 R a y→YY R a y
 | next {x y:ByteArray}:YY R a x→Ze3 R x y→YY R a y
theorem YY.step {R:List Zf} {a x y:ByteArray} (hx:x=a∨YY R a x) (h:Ze3 R x y):YY R a y:=by
 rcases hx with rfl | hx
 ·exact .one h
 ·exact .next hx h
structure ZbC (R:List Zf):Prop where
 s:∀r∈R,Za6 r
 n:(R.flatMap Yc).length≤1048576
theorem ZfD {m:List (ByteArray × Bool)} {k y:ByteArray}:QU (Zeu m k true) y false=if y=k then true else QU m y false:=by
 unfold QU
 induction m with
 | nil=>
  by_cases h:y=k<;>simp [Zeu,Ze9,h]
 | cons p r ih=>
  simp only[Zeu]
  by_cases h:k=p.1
  ·subst h
   rw [if_pos rfl]
   by_cases h2:y=p.1
   ·simp [Ze9,h2]
   ·simp [Ze9,h2]
  ·rw [if_neg h]
   by_cases h2:y=p.1
   ·subst h2
    have:¬p.1=k:=fun e=>h e.symm
    simp [Ze9,this]
   ·simp only[Ze9,if_neg h2];exact ih
def Zb6 (m:List (ByteArray × Bool)) (y:ByteArray):Prop:=QU m y false=true
def Zf2 (U:List ByteArray) (m:List (ByteArray × Bool)):Nat:=U.countP fun y=>!QU m y false
theorem Zeb {α:Type} {p q:α→Bool}:∀{l:List α},(∀x∈l,p x=true→q x=true)→∀y∈l,p y=false→q y=true→l.countP p+1≤l.countP q
 | x::l,h,y,hy,h1,h2=>by
  rw [AX,AX]
  have hle:l.countP p≤l.countP q:=List.countP_mono_left fun z mz=>h z (by simp [mz])
  have hx:=h x (by simp)
  rcases A5.1 hy with rfl | hy
  ·simp [h1,h2];omega
  ·have ih:=Zeb (p:=p) (q:=q) (l:=l) (fun z mz=>h z (by simp [mz])) y hy h1 h2
   cases hp:p x with
   | true=>simp [hx hp];omega
   | false=>cases q x<;>simp<;>omega
structure ZoV (U:List ByteArray) (P:ByteArray→Prop) (s0 s:List (ByteArray × Bool) × List ByteArray):Prop where
 mono:∀y,Zb6 s0.1 y→Zb6 s.1 y
 fresh:∀y,Zb6 s.1 y→Zb6 s0.1 y∨(P y∧y∈s.2)
 sub:∀y∈s0.2,y∈s.2
 row:∀y∈s.2,y∈s0.2∨Zb6 s.1 y
 cnt:Zf2 U s.1+s.2.length≤Zf2 U s0.1+s0.2.length
theorem ZoV.refl (U:List ByteArray) (P:ByteArray→Prop) (s:List (ByteArray × Bool) × List ByteArray):ZoV U P s s:=⟨fun _ h=>h,fun _ h=>.inl h,fun _ h=>h,fun _ h=>.inl h,AC _⟩
theorem ZoV.push {U:List ByteArray} {P:ByteArray→Prop} {s0:List (ByteArray × Bool) × List ByteArray} {m:List (ByteArray × Bool)} {row:List ByteArray} (h:ZoV U P s0 (m,row)) {y:ByteArray} (hy:QU m y false=false) (hU:y∈U) (hP:P y):ZoV U P s0 (Zeu m y true,row++[y]):=by
 have hS:∀z,Zb6 (Zeu m y true) z↔z=y∨Zb6 m z:=fun z=>by
  unfold Zb6
  rw [ZfD]
  by_cases e:z=y<;>simp [e]
 refine ⟨fun z hz=>(hS z).2 (.inr (h.mono z hz)),fun z hz=>?_,fun z hz=>A4.2 (.inl (h.sub z hz)),fun z hz=>?_,?_⟩
 ·rcases (hS z).1 hz with rfl | hz
  ·exact .inr ⟨hP,by simp⟩
  ·exact (h.fresh z hz).imp id fun ⟨a,b⟩=>⟨a,A4.2 (.inl b)⟩
 ·rcases A4.1 hz with hz | hz
  ·exact (h.row z hz).imp id fun hh=>(hS z).2 (.inr hh)
  ·exact .inr ((hS z).2 (.inl (by simpa using hz)))
 ·have h1:=h.cnt
  have h2:Zf2 U (Zeu m y true)+1≤Zf2 U m:=Zeb (fun z _ hz=>by
   rw [ZfD] at hz
   by_cases e:z=y
   ·simp [e] at hz
   ·simpa [e] using hz) y hU (by rw [ZfD];simp) (by simp [hy])
  show _+(row++[y]).length≤_
  rw [AD]
  simp only at h1 ⊢
  simp
  omega
theorem YU {σ ρ:Type} {body:σ→Option (σ ⊕ ρ)} {s s':σ} (h:body s=some (.inl s')):Y5 body s=Y5 body s':=by rw [Zig,h]
theorem YG {σ ρ:Type} {body:σ→Option (σ ⊕ ρ)} {s:σ} {r:ρ} (h:body s=some (.inr r)):Y5 body s=some r:=by rw [Zig,h]
theorem Zlq {R:List Zf} (hR:ZbC R) (a:ByteArray):∃m,ZcF R a=some m∧∀y,Zb6 m y↔YY R a y:=by
 have hU:∀r∈R,∀y∈Yc r,y∈R.flatMap Yc:=fun r mr y my=>AL.2 ⟨r,mr,my⟩
 have key:∀(n:Nat) (m:List (ByteArray × Bool)) (row:List ByteArray),Zf2 (R.flatMap Yc) m+row.length≤n→n≤1048577→(∀y,Zb6 m y→YY R a y)→(∀y∈row,y=a∨Zb6 m y)→(∀z,(z=a∨Zb6 m z)→z∈row∨∀y,Ze3 R z y→Zb6 m y)→
   ∃m',Y5 (σ:=(List (ByteArray × Bool)) × (List ByteArray)) (fun s=>
   match s with
   | (mp_42,row_43)=>
   if (decide (0<((row_43.length:Nat):Int)))=true then
    chk (0≤0∧0<((row_43.length:Nat):Int)) <|
    (row_43[(A7 0)]?).bind fun x44=>
    chk (0≤1∧1≤((row_43.length:Nat):Int)) <|
    Zn (σ:=(List (ByteArray × Bool)) × (List ByteArray))
     (fun (i72:Nat) (x73:Zf) s=>
      match s with
      | (mp_57,row_58)=>
      (XY x73).bind fun v74=>
      (YV v74 x44).bind fun v75=>
      if v75=true then
       (Zbm x73).bind fun v76=>
       Zn (σ:=(List (ByteArray × Bool)) × (List ByteArray))
        (fun (i83:Nat) (x84:ByteArray) s=>
         match s with
         | (mp_80,row_81)=>
         if (QU mp_80 x84 false)=true then
          some (.inl (mp_80,row_81))
         else
          chk (row_81.length+1≤1073741824) <|
          some (.inl ((Zeu mp_80 x84 true),(row_81++[x84]))))
        (fun s=>
         match s with
         | (mp_80,row_81)=>
         some (.inl (mp_80,row_81)))
        v76 0 (mp_57,row_58)
      else
       some (.inl (mp_57,row_58)))
     (fun s=>
      match s with
      | (mp_57,row_58)=>
      some (.inl (mp_57,row_58)))
     R 0 (mp_42,(List.drop (A7 1) row_43))
   else
    some (.inr mp_42)) (m,row)=some m'∧∀y,Zb6 m' y↔YY R a y:=by
  intro n
  induction n with
  | zero=>
   intro m row hn _ h1 h2 h3
   have hr:row=[]:=AY (by omega)
   subst hr
   refine ⟨m,by rw [Zig];rfl,fun y=>⟨h1 y,fun hy=>?_⟩⟩
   induction hy with
   | one h=>exact ((h3 _ (.inl rfl)).resolve_left (by simp)) _ h
   | next _ h ih=>exact ((h3 _ (.inr ih)).resolve_left (by simp)) _ h
  | succ n ih=>
   intro m row hn hN h1 h2 h3
   cases row with
   | nil=>
    refine ⟨m,by rw [Zig];rfl,fun y=>⟨h1 y,fun hy=>?_⟩⟩
    induction hy with
    | one h=>exact ((h3 _ (.inl rfl)).resolve_left (by simp)) _ h
    | next _ h ih=>exact ((h3 _ (.inr ih)).resolve_left (by simp)) _ h
   | cons x rest=>
    have hx:x=a∨YY R a x:=(h2 x (by simp)).imp id (h1 x)
    have hn':Zf2 (R.flatMap Yc) m+rest.length≤n:=by simp at hn;omega
    obtain ⟨s',e,hg,hd⟩:=Zd4 (ρ:=((List (ByteArray × Bool)) × (List ByteArray)) ⊕ (List (ByteArray × Bool))) (body:=fun (i72:Nat) (x73:Zf) (s:(List (ByteArray × Bool)) × (List ByteArray))=>
      match s with
      | (mp_57,row_58)=>
      (XY x73).bind fun v74=>
      (YV v74 x).bind fun v75=>
      if v75=true then
       (Zbm x73).bind fun v76=>
       Zn (σ:=(List (ByteArray × Bool)) × (List ByteArray))
        (fun (i83:Nat) (x84:ByteArray) s=>
         match s with
         | (mp_80,row_81)=>
         if (QU mp_80 x84 false)=true then
          some (.inl (mp_80,row_81))
         else
          chk (row_81.length+1≤1073741824) <|
          some (.inl ((Zeu mp_80 x84 true),(row_81++[x84]))))
        (fun s=>
         match s with
         | (mp_80,row_81)=>
         some (.inl (mp_80,row_81)))
        v76 0 (mp_57,row_58)
      else
       some (.inl (mp_57,row_58))) (fun pre s=>ZoV (R.flatMap Yc) (YY R a) (m,rest) s∧∀r∈pre,x∈Y6 r→∀y∈Yc r,Zb6 s.1 y) R (m,rest) ⟨ZoV.refl _ _ _,by simp⟩ fun p r s mr hp hI=>by
     obtain ⟨mp,rw_⟩:=s
     obtain ⟨hg,hd⟩:=hI
     have hsm:=hR.s r mr
     show ∃s',(XY r).bind _=_∧_
     rw [ZgB r hsm.tl]
     simp only[A0]
     rw [QO]
     simp only[A0]
     by_cases hw:x∈Y6 r
     ·have hh:Yj (ZQ (Y6 r)) x=true:=by rw [XD,ZS];exact hw
      rw [if_pos hh,ZnJ r hsm.cl]
      simp only[A0]
      obtain ⟨s2,e2,hg2,hd2⟩:=Zd4 (ρ:=((List (ByteArray × Bool)) × (List ByteArray)) ⊕ (((List (ByteArray × Bool)) × (List ByteArray)) ⊕ (List (ByteArray × Bool)))) (body:=fun (i83:Nat) (x84:ByteArray) (s:(List (ByteArray × Bool)) × (List ByteArray))=>
         match s with
         | (mp_80,row_81)=>
         if (QU mp_80 x84 false)=true then
          some (.inl (mp_80,row_81))
         else
          chk (row_81.length+1≤1073741824) <|
          some (.inl ((Zeu mp_80 x84 true),(row_81++[x84])))) (fun pre s=>ZoV (R.flatMap Yc) (YY R a) (m,rest) s∧(∀y,Zb6 mp y→Zb6 s.1 y)∧∀y∈pre,Zb6 s.1 y) (ZQ (Yc r)) (mp,rw_) ⟨hg,fun _ h=>h,by simp⟩ fun p y s my hp hI=>by
       obtain ⟨m2,row2⟩:=s
       obtain ⟨g2,g3,g4⟩:=hI
       have hyr:y∈Yc r:=ZS.1 my
       by_cases hs:QU m2 y false=true
       ·refine ⟨(m2,row2),by simp only[hs,if_true],g2,g3,fun z mz=>?_⟩
        rcases A4.1 mz with mz | mz
        ·exact g4 z mz
        ·rw [AH.1 mz];exact hs
       ·have hf:QU m2 y false=false:=by simpa using hs
        have hc:=g2.cnt
        have hG:=g2.push hf (hU r mr y hyr) (YY.step hx ⟨r,mr,hw,hyr⟩)
        have hmono:∀z,Zb6 m2 z→Zb6 (Zeu m2 y true) z:=fun z hz=>by
         unfold Zb6 at *;rw [ZfD];by_cases e:z=y<;>simp [e,hz]
        refine ⟨(Zeu m2 y true,row2++[y]),?_,hG,fun z hz=>hmono z (g3 z hz),fun z mz=>?_⟩
        ·simp only[hf,AB,if_false]
         rw [Zi _ (by simp only at hc;omega)]
        ·rcases A4.1 mz with mz | mz
         ·exact hmono z (g4 z mz)
         ·rw [AH.1 mz];unfold Zb6;rw [ZfD];simp
      refine ⟨s2,by rw [e2],hg2,fun q mq hq y my=>?_⟩
      rcases A4.1 mq with mq | mq
      ·exact hd2.1 y (hd q mq hq y my)
      ·rw [AH.1 mq] at my
       exact hd2.2 y (ZS.2 my)
     ·have hh:Yj (ZQ (Y6 r)) x=false:=by
       cases hq:Yj (ZQ (Y6 r)) x with
       | false=>rfl
       | true=>rw [XD,ZS] at hq;exact absurd hq hw
      refine ⟨(mp,rw_),by rw [if_neg (by rw [hh];simp)],hg,fun q mq hq=>?_⟩
      rcases A4.1 mq with mq | mq
      ·exact hd q mq hq
      ·rw [AH.1 mq] at hq;exact absurd hq hw
    obtain ⟨m',row'⟩:=s'
    obtain ⟨m2,r1,r2⟩:=ih m' row' (by have:=hg.cnt;simp only at this;omega) (by omega)
     (fun y hy=>(hg.fresh y hy).elim (h1 y) fun h=>h.1)
     (fun y hy=>by
      rcases hg.row y hy with h | h
      ·exact (h2 y (by simp [show y∈rest from h])).imp id (hg.mono y)
      ·exact .inr h)
     (fun z hz=>by
      have old:(z=a∨Zb6 m z)→z∈row'∨∀y,Ze3 R z y→Zb6 m' y:=fun hz=>by
       rcases h3 z hz with h | h
       ·rcases A5.1 h with rfl | h
        ·exact .inr fun y ⟨r,mr,hw,hy⟩=>hd r mr hw y hy
        ·exact .inl (hg.sub z h)
       ·exact .inr fun y hy=>hg.mono y (h y hy)
      rcases hz with hz | hz
      ·exact old (.inl hz)
      ·rcases hg.fresh z hz with h | ⟨_,h⟩
       ·exact old (.inr h)
       ·exact .inl h)
    refine ⟨m2,(YU ?_).trans r1,r2⟩
    show (if decide (0<(((x::rest).length:Nat):Int))=true then _ else _)=_
    rw [if_pos (decide_eq_true (by simp only[A9];omega)),Zi _ (by simp only[A9];omega)]
    show chk _ (Zn _ _ R 0 (m,rest))=_
    rw [Zi _ (by simp only[A9];omega)]
    exact e _
 unfold ZcF
 refine key (Zf2 (R.flatMap Yc) []+1) [] [a] (by simp) ?_ (fun y hy=>by simp [Zb6,QU,Ze9] at hy) (fun y hy=>.inl (by simpa using hy)) (fun z hz=>.inl ?_)
 ·have:=hR.n
  have h2:Zf2 (R.flatMap Yc) []≤(R.flatMap Yc).length:=AZ
  omega
 ·rcases hz with rfl | hz
  ·simp
  ·simp [Zb6,QU,Ze9] at hz
def Ziv (U row:List ByteArray):Nat:=U.countP fun y=>!Yj row y
theorem ZmD {row:List ByteArray} {y z:ByteArray}:Yj (row++[y]) z=true↔Yj row z=true∨z=y:=by
 rw [XD,XD,A4,AH]
theorem Zpd {U row:List ByteArray} {y:ByteArray} (hU:y∈U) (hy:Yj row y=false):Ziv U (row++[y])+1≤Ziv U row:=
 Zeb (fun z _ hz=>by
  cases h:Yj row z with
  | false=>rfl
  | true=>have:=ZmD (y:=y).2 (.inl h);rw [this] at hz;simp at hz) y hU (by have:=ZmD (row:=row) (y:=y) (z:=y).2 (.inr rfl);rw [this];rfl) (by rw [hy];rfl)
open Classical
theorem Zjy {R:List Zf} (hR:ZbC R) (a b:ByteArray):ZaO R a b=some (decide (YY R a b)):=by
 have hU:∀r∈R,∀y∈Yc r,y∈R.flatMap Yc:=fun r mr y my=>AL.2 ⟨r,mr,my⟩
 unfold ZaO
 have key:∀(n u:Nat) (row:List ByteArray),Ziv (R.flatMap Yc) row+row.length≤n+u→n+u≤1048577→u≤row.length→(∀y∈row,y=a∨YY R a y)→a∈row→(∀i x,i<u→row[i]?=some x→∀y,Ze3 R x y→y∈row∧y≠b)→
   Y5 (σ:=(List ByteArray) × Int)
  (fun s=>
   match s with
   | (row_55,u_56)=>
   if (decide (u_56<((row_55.length:Nat):Int)))=true then
    Zn (σ:=(List ByteArray))
     (fun (i93:Nat) (x94:Zf) row_74=>
      (QI x94).bind fun v95=>
      chk (0≤u_56∧u_56<((row_74.length:Nat):Int)) <|
      (row_74[(A7 u_56)]?).bind fun x96=>
      (ZR v95 x96).bind fun v97=>
      if v97=true then
       (Zbt x94).bind fun v98=>
       (ZR v98 b).bind fun v99=>
       if v99=true then
        some (.inr (.inr true))
       else
        Zn (σ:=(List ByteArray))
         (fun (i108:Nat) (x109:ByteArray) row_105=>
          (ZR row_105 x109).bind fun v110=>
          if v110=true then
           some (.inl row_105)
          else
           chk (row_105.length+1≤1073741824) <|
           some (.inl (row_105++[x109])))
         (fun row_105=>
          some (.inl row_105))
         v98 0 row_74
      else
       some (.inl row_74))
     (fun row_74=>
      some (.inl (row_74,(IntKind.i64.wrap (u_56+1)))))
     R 0 row_55
   else
    some (.inr false))
  (row,((u:Nat):Int))=some (decide (YY R a b)):=by
  intro n
  have fin:∀(u:Nat) (row:List ByteArray),u=row.length→a∈row→(∀i x,i<u→row[i]?=some x→∀y,Ze3 R x y→y∈row∧y≠b)→¬YY R a b:=fun u row hu ha hc hb=>by
   have all:∀y,YY R a y→y∈row∧y≠b:=fun y hy=>by
    have one:∀x,x∈row→∀y,Ze3 R x y→y∈row∧y≠b:=fun x mx y h=>by
     obtain ⟨i,hi⟩:=List.mem_iff_getElem?.1 mx
     exact hc i x (by rw [hu];exact (AI.1 hi).1) hi y h
    induction hy with
    | one h=>exact one a ha _ h
    | next _ h ih=>exact one _ ih.1 _ h
   exact (all b hb).2 rfl
  have stop:∀(u:Nat) (row:List ByteArray),u=row.length→a∈row→(∀i x,i<u→row[i]?=some x→∀y,Ze3 R x y→y∈row∧y≠b)→decide (YY R a b)=false:=fun u row h1 h2 h3=>decide_eq_false (fin u row h1 h2 h3)
  induction n with
  | zero=>
   intro u row hn _ hu h1 ha hc
   have hu':u=row.length:=by omega
   rw [stop u row hu' ha hc]
   refine YG ?_
   show (if decide (((u:Nat):Int)<((row.length:Nat):Int))=true then _ else _)=_
   rw [if_neg (by rw [decide_eq_true_iff];omega)]
  | succ n ih=>
   intro u row hn hN hu h1 ha hc
   by_cases hlt:u<row.length
   ·have hx:row[u]?=some row[u]:=A6 hlt
    generalize row[u]=x at hx
    have hxr:x=a∨YY R a x:=h1 x (AJ hx)
    rcases Zbj (ρ:=((List ByteArray) × Int) ⊕ Bool) (body:=fun (i93:Nat) (x94:Zf) (row_74:List ByteArray)=>
      (QI x94).bind fun v95=>
      chk (0≤((u:Nat):Int)∧((u:Nat):Int)<((row_74.length:Nat):Int)) <|
      (row_74[(A7 ((u:Nat):Int))]?).bind fun x96=>
      (ZR v95 x96).bind fun v97=>
      if v97=true then
       (Zbt x94).bind fun v98=>
       (ZR v98 b).bind fun v99=>
       if v99=true then
        some (.inr (.inr true))
       else
        Zn (σ:=(List ByteArray))
         (fun (i108:Nat) (x109:ByteArray) row_105=>
          (ZR row_105 x109).bind fun v110=>
          if v110=true then
           some (.inl row_105)
          else
           chk (row_105.length+1≤1073741824) <|
           some (.inl (row_105++[x109])))
         (fun row_105=>
          some (.inl row_105))
         v98 0 row_74
      else
       some (.inl row_74)) (fun pre r2=>(∃q,r2=row++q)∧Ziv (R.flatMap Yc) r2+r2.length≤n+1+u∧(∀y∈r2,y=a∨YY R a y)∧∀r∈pre,x∈Y6 r→∀y∈Yc r,y∈r2∧y≠b) (fun z=>z=.inr true∧YY R a b) R row ⟨⟨[],by simp⟩,hn,h1,by simp⟩ fun p r r2 mr hp hI=>by
     obtain ⟨⟨q,rfl⟩,g1,g2,g3⟩:=hI
     have hsm:=hR.s r mr
     have hxq:(row++q)[u]?=some x:=by rw [Aj hlt];exact hx
     rw [ZgH r hsm.tl,A0,Zi _ (by simp;omega),AK,hxq,A0,YF,A0]
     by_cases hw:x∈Y6 r
     ·have hh:Yj (ZQ (Y6 r)) x=true:=by rw [XD,ZS];exact hw
      rw [if_pos hh,Zne r hsm.cl,A0,YF,A0]
      by_cases hb:b∈Yc r
      ·have hh:Yj (ZQ (Yc r)) b=true:=by rw [XD,ZS];exact hb
       rw [if_pos hh]
       exact .inr ⟨_,rfl,rfl,YY.step hxr ⟨r,mr,hw,hb⟩⟩
      ·have hh:¬Yj (ZQ (Yc r)) b=true:=by rw [XD,ZS];exact hb
       rw [if_neg hh]
       obtain ⟨r3,e3,⟨q3,hq3⟩,k1,k2,k3⟩:=Zd4 (ρ:=(List ByteArray) ⊕ (((List ByteArray) × Int) ⊕ Bool)) (body:=fun (i108:Nat) (x109:ByteArray) (row_105:List ByteArray)=>
          (ZR row_105 x109).bind fun v110=>
          if v110=true then
           some (.inl row_105)
          else
           chk (row_105.length+1≤1073741824) <|
           some (.inl (row_105++[x109]))) (fun pre r3=>(∃q',r3=(row++q)++q')∧Ziv (R.flatMap Yc) r3+r3.length≤n+1+u∧(∀y∈r3,y=a∨YY R a y)∧∀y∈pre,y∈r3) (ZQ (Yc r)) (row++q) ⟨⟨[],by simp⟩,g1,g2,by simp⟩ fun p y r3 my hp hI=>by
        obtain ⟨⟨q',rfl⟩,k1,k2,k3⟩:=hI
        have hyr:y∈Yc r:=ZS.1 my
        rw [YF,A0]
        by_cases hh:Yj (row++q++q') y=true
        ·rw [if_pos hh]
         refine ⟨_,rfl,⟨q',rfl⟩,k1,k2,fun z mz=>?_⟩
         rcases A4.1 mz with mz | mz
         ·exact k3 z mz
         ·rw [AH.1 mz];exact XD.1 hh
        ·have hf:Yj (row++q++q') y=false:=by simpa using hh
         have hab:=Zpd (hU r mr y hyr) hf
         rw [if_neg hh,Zi _ (by omega)]
         refine ⟨_,rfl,⟨q'++[y],by simp⟩,by rw [AD];simp only[Aa];omega,fun z mz=>?_,fun z mz=>?_⟩
         ·rcases A4.1 mz with mz | mz
          ·exact k2 z mz
          ·rw [AH.1 mz];exact .inr (YY.step hxr ⟨r,mr,hw,hyr⟩)
         ·rcases A4.1 mz with mz | mz
          ·exact A4.2 (.inl (k3 z mz))
          ·exact A4.2 (.inr mz)
       refine .inl ⟨r3,e3 _,⟨q++q3,by rw [hq3];simp⟩,k1,k2,fun r' mr' hw' y my=>?_⟩
       rcases A4.1 mr' with mr' | mr'
       ·have:=g3 r' mr' hw' y my
        exact ⟨by rw [hq3];exact A4.2 (.inl this.1),this.2⟩
       ·rw [AH.1 mr'] at my
        exact ⟨k3 y (ZS.2 my),fun e=>hb (e ▸ my)⟩
     ·have hh:¬Yj (ZQ (Y6 r)) x=true:=by rw [XD,ZS];exact hw
      rw [if_neg hh]
      refine .inl ⟨_,rfl,⟨q,rfl⟩,g1,g2,fun r' mr' hw'=>?_⟩
      rcases A4.1 mr' with mr' | mr'
      ·exact g3 r' mr' hw'
      ·rw [AH.1 mr'] at hw';exact absurd hw' hw
    with ⟨r2,e,⟨q,rfl⟩,k1,k2,k3⟩ | ⟨z,e,rfl,hb⟩
    ·refine (YU ?_).trans (ih (u+1) (row++q) (by omega) (by omega) (by rw [AD];omega) k2 (A4.2 (.inl ha)) fun i y hi hy z hz=>?_)
     ·show (if decide (((u:Nat):Int)<((row.length:Nat):Int))=true then _ else _)=_
      rw [if_pos (decide_eq_true (by omega)),e,Xn (by omega) (by omega)]
      rfl
     ·by_cases hiu:i<u
      ·rw [Aj (by omega)] at hy
       have:=hc i y hiu hy z hz
       exact ⟨A4.2 (.inl this.1),this.2⟩
      ·have:i=u:=by omega
       subst this
       rw [Aj hlt,hx] at hy
       obtain rfl:=Ar hy
       obtain ⟨r,mr,hw,hr⟩:=hz
       exact k3 r mr hw z hr
    ·rw [decide_eq_true hb]
     refine YG ?_
     show (if decide (((u:Nat):Int)<((row.length:Nat):Int))=true then _ else _)=_
     rw [if_pos (decide_eq_true (by omega)),e]
   ·have hu':u=row.length:=by omega
    rw [stop u row hu' ha hc]
    refine YG ?_
    show (if decide (((u:Nat):Int)<((row.length:Nat):Int))=true then _ else _)=_
    rw [if_neg (by rw [decide_eq_true_iff];omega)]
 refine key 1048577 0 [a] ?_ (by omega) (by simp) (fun y hy=>.inl (by simpa using hy)) (by simp) (fun i x hi=>by omega)
 have h1:=hR.n
 have h2:Ziv (R.flatMap Yc) [a]≤(R.flatMap Yc).length:=AZ
 simp only[Aa]
 omega
end
section
theorem Zsc (l:List Zf) (n:ByteArray):∃z,Zao l n=some z:=by
 unfold Zao
 rcases Zbj (ρ:=Int) (body:=fun (i4:Nat) (x5:Zf) (_:Unit)=>
   if (sEq x5.name n)=true then
    some (.inr ((i4:Nat):Int))
   else
    some (.inl ())) (fun _ _=>True) (fun _=>True) l () trivial (fun p x s mx hp _=>by
  cases h:sEq x.name n with
  | true=>exact .inr ⟨_,by rw [if_pos rfl],trivial⟩
  | false=>exact .inl ⟨(),by rw [if_neg (by simp)],trivial⟩) with ⟨s,e,_⟩ | ⟨z,e,_⟩
 ·exact ⟨-1,e _⟩
 ·exact ⟨z,e _⟩
noncomputable def Zi2 (l:List Zf) (n:ByteArray):Int:=(Zao l n).getD 0
theorem ZgE (l:List Zf) (n:ByteArray):Zao l n=some (Zi2 l n):=by
 obtain ⟨z,h⟩:=Zsc l n
 unfold Zi2
 rw [h];rfl
theorem ZlB (l:List Zf) (n:ByteArray):Zev l n=some (Zi2 l n):=ZgE l n
noncomputable def ZfF (R:List Zf) (j:Nat) (r:Zf):Bool:=XX r&&(Zi2 R r.name==((j:Nat):Int))
noncomputable def Yn (R:List Zf):Bool:=decide (R.length≤6)&&Zar (ZfF R) R 0
theorem ZlE {R:List Zf} (h:∀r∈R,Za6 r):ZcN R=some (Yn R):=by
 unfold ZcN Yn
 by_cases h6:R.length≤6
 ·rw [if_neg (by simp;omega),decide_eq_true h6,As,Xh (p:=ZfF R) (r:=false)]
  ·cases Zar (ZfF R) R 0<;>rfl
  ·intro j r hj
   rw [ZiV r (h r (AJ hj)),A0,ZgE]
   unfold ZfF
   simp only[A0,AM]
   cases XX r with
   | false=>rfl
   | true=>
    by_cases hf:Zi2 R r.name=((j:Nat):Int)
    ·simp [hf]
    ·have e:(Zi2 R r.name==((j:Nat):Int))=false:=by simpa using hf
     simp [e,hf]
 ·rw [if_pos (by simp;omega),decide_eq_false h6];rfl
theorem ZlJ {R:List Zf} (h:∀r∈R,Za6 r):Zcz R=some (Yn R):=by
 unfold Zcz Yn
 rw [Xh (p:=ZfF R) (r:=false)]
 ·have:decide (((R.length:Nat):Int)≤6)=decide (R.length≤6):=by rw [AR];simp;omega
  rw [this]
  cases Zar (ZfF R) R 0<;>simp
 ·intro j r hj
  rw [Zfr r (h r (AJ hj)),A0,ZlB]
  unfold ZfF
  simp only[A0,AM]
  cases XX r with
  | false=>rfl
  | true=>
   by_cases hf:Zi2 R r.name=((j:Nat):Int)
   ·simp [hf]
   ·have e:(Zi2 R r.name==((j:Nat):Int))=false:=by simpa using hf
    simp [e,hf]
open Classical
noncomputable def Zih (R:List Zf) (rel w:ByteArray):Bool:=!sEq w rel&&!decide (YY R rel w)
noncomputable def Zfd (R:List Zf) (r:Zf) (x:Zr):Bool:=!(x.kind==2)||(ZQ (Y6 r)).all (Zih R x.pattern.rel)
noncomputable def YN (R:List Zf) (r:Zf):Bool:=ZU r&&r.cond.all (Zfd R r)
theorem ZeY {R:List Zf} (hR:ZbC R):ZaP R=some (Yn R&&R.all (YN R)):=by
 unfold ZaP
 rw [ZlE hR.s,A0]
 cases Yn R with
 | false=>rfl
 | true=>
  rw [if_pos rfl,ZW (p:=YN R) (r:=false)]
  ·cases R.all (YN R)<;>rfl
  ·intro i r mr
   have hsm:=hR.s r mr
   rw [Zj9 r hsm,A0]
   unfold YN
   cases ZU r with
   | false=>rfl
   | true=>
    rw [if_pos rfl,ZW (p:=Zfd R r) (r:=.inr false)]
    ·cases r.cond.all (Zfd R r)<;>rfl
    ·intro i x mx
     unfold Zfd
     by_cases hk:x.kind=2
     ·obtain ⟨m,e,hm⟩:=Zlq hR x.pattern.rel
      rw [if_neg (by simp [hk]),e,A0,ZgB r hsm.tl,A0,ZW (p:=Zih R x.pattern.rel) (r:=.inr (.inr false))]
      ·rw [show (!(x.kind==2))=false by simp [hk],At]
       cases (ZQ (Y6 r)).all (Zih R x.pattern.rel)<;>rfl
      ·intro i w mw
       unfold Zih
       have:QU m w false=decide (YY R x.pattern.rel w):=by
        rw [AR,decide_eq_true_iff];exact hm w
       rw [this]
       cases sEq w x.pattern.rel<;>cases decide (YY R x.pattern.rel w)<;>rfl
     ·rw [if_pos (by simp [hk]),show (!(x.kind==2))=true by simp [hk]];rfl
theorem Zr4 {α ρ:Type} {r:ρ}:∀(l:List α),Zn (σ:=Unit) (fun (_:Nat) (_:α) _=>some (.inr r)) (fun _=>some r) l 0 ()=some r
 | []=>rfl
 | _::_=>rfl
theorem Zum (x y:ByteArray):sEq x y=sEq y x:=by
 rw [AR,ZN,ZN]
 exact eq_comm
theorem Ze4 {R:List Zf} (hR:ZbC R):ZaM R=some (Yn R&&R.all (YN R)):=by
 unfold ZaM
 rw [ZW (p:=YN R) (r:=false)]
 ·rw [ZlJ hR.s,A0]
  cases R.all (YN R)<;>simp
 ·intro i r mr
  have hsm:=hR.s r mr
  rw [ZkB r hsm,A0]
  unfold YN
  cases ZU r with
  | false=>rfl
  | true=>
   rw [if_pos rfl,ZgH r hsm.tl,A0,ZW (p:=Zfd R r) (r:=.inr false)]
   ·cases r.cond.all (Zfd R r)<;>rfl
   ·intro i x mx
    unfold Zfd
    by_cases hk:x.kind=2
    ·rw [ZW (p:=Zih R x.pattern.rel) (r:=.inr (.inr false))]
     ·rw [show (!(x.kind==2))=false by simp [hk],At]
      cases (ZQ (Y6 r)).all (Zih R x.pattern.rel)<;>rfl
     ·intro i w mw
      rw [if_pos (by simp [hk]),Zjy hR,Zum]
      unfold Zih
      cases sEq w x.pattern.rel<;>cases decide (YY R x.pattern.rel w)<;>rfl
    ·have hf:(x.kind==2)=false:=by simp [hk]
     simp only[hf,AB,if_false]
     rw [Zr4]
     rfl
end
section
open Classical
noncomputable def ZeN (F:List Zd) (i:Nat) (x:Zd):Bool:=YH x&&(if i=0 then true else match F[i - 1]? with | some y=>decide (Zdl y x<0) | none=>true)
noncomputable def Yw (F:List Zd):Bool:=decide (F.length≤24)&&Zar (ZeN F) F 0
theorem ZjU {α:Type} {p:Nat→α→Bool} {q:α→Bool} (h:∀i x,p i x=true→q x=true):∀{l:List α} {i:Nat},Zar p l i=true→∀x∈l,q x=true
 | [],_,_=>by simp
 | y::l,i,ha=>by
  simp only[Zar,A3] at ha
  intro x mx
  rcases A5.1 mx with rfl | mx
  ·exact h i _ ha.1
  ·exact ZjU h ha.2 x mx
theorem Zds {F:List Zd} (h:Yw F=true):F.length≤24∧∀f∈F,YH f=true:=by
 unfold Yw at h
 rw [A3,decide_eq_true_iff] at h
 refine ⟨h.1,ZjU (fun i x hx=>?_) h.2⟩
 unfold ZeN at hx
 rw [A3] at hx
 exact hx.1
theorem Xg {f:Zd} (h:YH f=true):f.args.length≤3:=by
 unfold YH at h
 simp only[A3,decide_eq_true_iff] at h
 exact h.1.2
theorem ZmV {F:List Zd} (hl:F.length≤1048576) {i:Nat} {x:Zd} (hx:F[i]?=some x):
  (if YH x=true then (if (decide (0<((i:Nat):Int)))=true then (atI F (IntKind.i64.wrap (((i:Nat):Int) - 1))).bind fun x11=>(some (Zdl x11 x)).bind fun v12=>if (decide (0≤v12))=true then some (.inr false) else some (.inl ()) else some (.inl ())) else some (.inr false):Option (Unit ⊕ Bool))
   = some (bif ZeN F i x then .inl () else .inr false):=by
 have hi:=(AI.1 hx).1
 unfold ZeN
 cases YH x with
 | false=>rfl
 | true=>
  rw [if_pos rfl]
  by_cases h0:i=0
  ·subst h0
   rw [if_neg (by simp)]
   simp
  ·have hg:F[i - 1]?=some F[i - 1]:=A6 (by omega)
   rw [if_pos (by simp;omega),show ((i:Nat):Int) - 1=((i - 1:Nat):Int) by omega,Zdu (by omega) (by omega),Zby,hg,A0,A0,if_neg h0]
   by_cases hc:Zdl F[i - 1] x<0
   ·rw [if_neg (by simpa using hc)]
    simp [hc]
   ·rw [if_pos (by simpa using hc)]
    simp [hc]
theorem ZgU (F:List Zd):ZcA F=some (Yw F):=by
 unfold ZcA Yw
 by_cases h:F.length≤24
 ·rw [if_neg (by simp;omega),decide_eq_true h,Xh (p:=ZeN F) (r:=false)]
  ·cases Zar (ZeN F) F 0<;>rfl
  ·intro j x hx
   rw [AM,ZiS,A0]
   simp only[Zdo]
   exact ZmV (by omega) hx
 ·rw [if_pos (by simp;omega),decide_eq_false h]
  rfl
theorem ZgI (F:List Zd) (hl:F.length≤1048576):Zdd F=some (Yw F):=by
 unfold Zdd Yw
 rw [Xh (p:=ZeN F) (r:=false)]
 ·have:decide (((F.length:Nat):Int)≤24)=decide (F.length≤24):=by rw [AR];simp;omega
  rw [this]
  cases Zar (ZeN F) F 0<;>simp
 ·intro j x hx
  rw [AM,ZiZ,A0]
  simp only[ZdC]
  exact ZmV hl hx
theorem ZfZ (l:List Zd) (hl:l.length≤1048576) (h:∀f∈l,f.args.length≤1048576):ZaG l=some l:=by
 unfold ZaG
 rw [Zk3 (g:=fun y=>y)]
 ·simp
 ·intro j y s my hs
  rw [YB y (h y my),A0,Zi _ (by simp at hs;omega)]
theorem ZdJ (l:List Zd) (hl:l.length≤1048576) (h:∀f∈l,f.args.length≤1048576):Zak l=some l:=by
 unfold Zak
 rw [Zk3 (g:=fun y=>y)]
 ·simp
 ·intro j y s my hs
  rw [Xo y (h y my),A0,Zi _ (by simp at hs;omega)]
structure ZtD (F:List Zd) (t:Zt):Prop where
 bind:t.binding.length≤6
 len:t.facts.length≤4
 args:∀f∈t.facts,f.args.length≤3
theorem Zkk.s {p:List Zr} {F:List Zd} {t:Zt} (h:Zkk p F t) (hp:p.length≤4) (hF:∀f∈F,f.args.length≤3):ZtD F t:=
 ⟨Qr h.bind,by have:=h.len;omega,fun f mf=>hF f (h.sub f mf)⟩
theorem Zm4 {ρ:Type} {x:Zr} {F:List Zd} {body:Nat→Zt→List Zt→Option (List Zt ⊕ ρ)} {fin:List Zt→Option ρ} (hF:F.length≤24) (ts:List Zt) (hts:ts.length≤331776)
  (hb:∀i t row,t∈ts→row.length≤10000000→body i t row=some (.inl (row++ZgR x F t))):Zn body fin ts 0 []=fin (ZfX x F ts):=by
 have hst:ZfX x F []=[]:=rfl
 rw [←hst,QL (fun p=>ZfX x F p) ts]
 intro p t q e
 have hl:=ZkV x F hF p
 have hp:p.length≤ts.length:=by rw [e];simp
 rw [hb _ _ _ (by rw [e];simp) (by omega)]
 unfold ZfX
 rw [Ak]
 simp
theorem ZgN (l:List Zr) (F:List Zd) (hl:l.length≤4) (hF:F.length≤24) (hA:∀f∈F,f.args.length≤3):Zam l F=some (ZM l F):=by
 unfold Zam
 have h0:ZM [] F=[({ facts:=[],binding:=[] }:Zt)]:=rfl
 rw [←h0,QL (fun p=>ZM p F) l]
 intro p x q e
 have hpl:p.length+(q.length+1)=l.length:=by rw [e,AD,A9]
 rw [ZaR]
 refine Zm4 (fin:=fun r=>(some (Sum.inl r):Option (List Zt ⊕ List Zt))) hF (ZM p F) (ZeI F hF p (by omega)) (fun i t row mt hr=>?_)
 have ht:=(Zec F p t mt).s (by omega) hA
 unfold ZgR
 by_cases hk:x.kind=1
 ·rw [if_neg (by simpa using hk),if_pos hk,Yk (g:=fun f=>(Zan x.pattern f t.binding).map fun b=>({ facts:=t.facts++[f],binding:=b }:Zt))]
  intro j f s mf hs
  rw [Zf9,A0,ZeQ]
  cases hm:Zan x.pattern f t.binding with
  | none=>simp
  | some b=>
   simp only[B4,if_true]
   rw [ZfZ _ (by have:=ht.len;omega) (fun g mg=>by have:=ht.args g mg;omega),A0,YB f (by have:=hA f mf;omega),A0,Zi _ (by have:=ht.len;omega),Zi _ (by omega)]
   rfl
 ·rw [if_pos (by simpa using hk),if_neg hk,ZjZ _ _ _ (by omega) (fun f mf=>by have:=hA f mf;omega),A0]
  split
  ·rw [Zi _ (by omega)]
  ·simp
theorem ZpP {F:List Zd} {t:Zt} (ht:ZtD F t):ZfQ t=some t:=by
 unfold ZfQ Zb7
 rw [ZdJ _ (by have:=ht.len;omega) (fun g mg=>by have:=ht.args g mg;omega),A0,Zi _ (by have:=ht.bind;omega)]
 rfl
theorem ZpG (ts:List Zt) (x:Zr) (F:List Zd) (hts:ts.length≤331776) (hF:F.length≤24) (hA:∀f∈F,f.args.length≤3) (ht:∀t∈ts,ZtD F t):Zfi ts x F=some (ZfX x F ts):=by
 unfold Zfi
 refine Zm4 (fin:=fun r=>some r) hF ts hts (fun i t row mt hr=>?_)
 have ht:=ht t mt
 have htb:=ht.bind
 unfold ZgR
 by_cases hk:x.kind=1
 ·rw [if_neg (by simpa using hk),if_pos hk,Yk (g:=fun f=>(Zan x.pattern f t.binding).map fun b=>({ facts:=t.facts++[f],binding:=b }:Zt))]
  intro j f s mf hs
  rw [Zf3 _ _ _ (by omega),A0,ZeQ]
  cases hm:Zan x.pattern f t.binding with
  | none=>simp
  | some b=>
   simp only[B4,if_true]
   rw [ZdJ _ (by have:=ht.len;omega) (fun g mg=>by have:=ht.args g mg;omega),A0,Xo f (by have:=hA f mf;omega),A0,Zi _ (by have:=ht.len;omega),Zi _ (by omega)]
   rfl
 ·rw [if_pos (by simpa using hk),if_neg hk,ZkS _ _ _ (by omega) (by omega) (fun f mf=>by have:=hA f mf;omega),A0]
  split
  ·rw [ZpP ht,A0,Zi _ (by omega)]
  ·simp
theorem ZgX (l:List Zr) (F:List Zd) (hl:l.length≤4) (hF:F.length≤24) (hA:∀f∈F,f.args.length≤3):Zai l F=some (ZM l F):=by
 unfold Zai
 have h0:ZM [] F=[({ facts:=[],binding:=[] }:Zt)]:=rfl
 rw [←h0,QL (fun p=>ZM p F) l]
 intro p x q e
 have hpl:p.length+(q.length+1)=l.length:=by rw [e,AD,A9]
 rw [ZaR,ZpG _ _ _ (ZeI F hF p (by omega)) hF hA (fun t mt=>(Zec F p t mt).s (by omega) hA)]
 rfl
theorem ZhO {R:List Zf} (h:Yn R=true):R.length≤6∧∀r∈R,XX r=true:=by
 unfold Yn at h
 rw [A3,decide_eq_true_iff] at h
 refine ⟨h.1,ZjU (fun i x hx=>?_) h.2⟩
 unfold ZfF at hx
 rw [A3] at hx
 exact hx.1
theorem ZrY {r:Zf} (h:XX r=true):∀a∈r.thn,a.kind=1→Z0 a.pattern=true∧∀v∈a.pattern.args,Ye v=true→v∈Ys r.cond:=by
 intro a ma hk
 unfold XX at h
 simp only[A3] at h
 have ha:=A8.1 h.1.2 a ma
 rw [A3] at ha
 obtain ⟨h1,h2⟩:=ha
 unfold Xa at h1
 rw [if_pos (.inl hk)] at h1
 refine ⟨h1,fun v mv hv=>?_⟩
 have:=A8.1 h2 v (Zbo.2 ⟨mv,hv⟩)
 rw [XD] at this
 unfold Yr at this
 rw [ZS,List.take_length] at this
 exact this
end
section
open Classical
theorem Zcs {α:Type}:∀{l m:List α},l.Nodup→(∀x∈l,x∈m)→l.length≤m.length
 | [],_,_,_=>Al _
 | x::l,m,h,hs=>by
  rw [B5] at h
  have hx:x∈m:=hs x (by simp)
  have h2:=Zcs (m:=m.erase x) h.2 (fun y my=>(List.mem_erase_of_ne (fun e=>h.1 (by rw [←e];exact my))).2 (hs y (by simp [my])))
  rw [List.length_erase_of_mem hx] at h2
  have:=List.length_pos_of_mem hx
  simp only[A9]
  omega
theorem ZqP {α:Type} {l m:List α} (hl:l.Nodup) (hs:∀x∈l,x∈m) (hm:m.length≤l.length):∀x∈m,x∈l:=fun x mx=>by
 refine Classical.byContradiction fun hn=>?_
 have:=Zcs (l:=x::l) (m:=m) (B5.2 ⟨hn,hl⟩) (fun y my=>by
  rcases A5.1 my with rfl | my
  ·exact mx
  ·exact hs y my)
 simp only[A9] at this
 omega
theorem Zh2 (x:Zd):¬Zdl x x<0:=by rw [(Zdq.eq x x).2 rfl];omega
theorem Zg2 {l:List Zd} (h:ZiF l):l.Nodup:=List.Pairwise.imp (fun {a b} hab e=>by subst e;exact Zh2 a hab) h
theorem Zkc:∀{a b:List Zd},ZiF a→ZiF b→(∀x,x∈a↔x∈b)→a=b
 | [],[],_,_,_=>rfl
 | [],y::b,_,_,h=>by have:=(h y).2 (by simp);simp at this
 | x::a,[],_,_,h=>by have:=(h x).1 (by simp);simp at this
 | x::a,y::b,ha,hb,h=>by
  unfold ZiF at ha hb
  rw [AS] at ha hb
  have e:x=y:=by
   rcases A5.1 ((h x).1 (by simp)) with e | h1
   ·exact e
   ·rcases A5.1 ((h y).2 (by simp)) with e | h2
    ·exact e.symm
    ·exact absurd (Zdq.tr _ _ _ (ha.1 y h2) (hb.1 x h1)) (Zh2 x)
  subst e
  rw [Zkc ha.2 hb.2 fun z=>?_]
  constructor
  ·intro hz
   rcases A5.1 ((h z).1 (by simp [hz])) with e | hz2
   ·subst e;exact absurd (ha.1 z hz) (Zh2 z)
   ·exact hz2
  ·intro hz
   rcases A5.1 ((h z).2 (by simp [hz])) with e | hz2
   ·subst e;exact absurd (hb.1 z hz) (Zh2 z)
   ·exact hz2
theorem ZhK {f:Zd}:∀{l:List Zd},f∉l→(Zdn l f).length=l.length+1
 | [],_=>rfl
 | x::l,h=>by
  simp only[A5,not_or] at h
  simp only[Zdn]
  split
  ·rw [A9,ZhK h.2];rfl
  ·rw [if_neg (fun e=>h.1 ((Zdq.eq _ _).1 e).symm)]
   rfl
def QZ (r:Zf):List Zr:=r.cond.filter fun x=>x.kind != 2
theorem Zsm {r:Zf}:∀x∈QZ r,¬x.kind=2:=fun x mx=>by
 have:=(Ab.1 mx).2
 simpa using this
theorem Zc9 (r:Zf):(QZ r).length≤r.cond.length:=Au _ _
theorem Zob (l:List Zr):Ys (l.filter fun x=>x.kind != 2)=Ys l:=by
 induction l with
 | nil=>rfl
 | cons x l ih=>
  by_cases hx:x.kind=2
  ·rw [List.filter_cons_of_neg (by simpa using hx),ih]
   simp [Ys,hx]
  ·rw [List.filter_cons_of_pos (by simpa using hx)]
   unfold Ys at ih ⊢
   rw [Am,Am,ih]
theorem Zbd (r:Zf) (h:r.cond.length≤1048576):YA r=some (QZ r):=by
 unfold YA QZ
 rw [ZdF (p:=fun x:Zr=>x.kind != 2)]
 ·simp
 ·intro j x s mx hs
  split
  ·rw [Zi _ (by simp at hs;omega)]
  ·rfl
theorem Zef (r:Zf) (h:r.cond.length≤1048576):Xv r=some (QZ r):=Zbd r h
theorem ZoW {F G:List Zd} (h:∀f∈F,f∈G):∀{l:List Zr},(∀x∈l,¬x.kind=2)→∀t∈ZM l F,t∈ZM l G:=by
 have:∀n (l:List Zr),l.length=n→(∀x∈l,¬x.kind=2)→∀t∈ZM l F,t∈ZM l G:=by
  intro n
  induction n with
  | zero=>intro l hl _ t mt;rw [AY hl] at mt ⊢;exact mt
  | succ n ih=>
   intro l hl hk
   obtain ⟨p,x,rfl⟩:∃p x,l=p++[x]:=⟨l.dropLast,l.getLast (by intro e;simp [e] at hl),(Av _).symm⟩
   intro t mt
   rw [ZaR] at mt ⊢
   obtain ⟨s,ms,mt⟩:=AL.1 mt
   refine AL.2 ⟨s,ih p (by simpa using hl) (fun y my=>hk y (by simp [my])) s ms,?_⟩
   unfold ZgR at mt ⊢
   by_cases h1:x.kind=1
   ·rw [if_pos h1] at mt ⊢
    obtain ⟨f,mf,e⟩:=AT.1 mt
    exact AT.2 ⟨f,h f mf,e⟩
   ·have h2:=hk x (by simp)
    have e:ZfV x s.binding G=ZfV x s.binding F:=by unfold ZfV;simp only[if_neg h1,if_neg h2]
    rw [if_neg h1] at mt ⊢
    rw [e]
    exact mt
 intro l hk
 exact this _ l rfl hk
theorem ZhD {F:List Zd} (h:Yw F=true):ZiF F:=by
 unfold Yw at h
 rw [A3] at h
 have hadj:∀i y x,F[i]?=some y→F[i+1]?=some x→Zdl y x<0:=fun i y x hy hx=>by
  have:=ZnB h.2 (i+1) x hx
  unfold ZeN at this
  rw [A3,AM,if_neg (by omega),Nat.add_sub_cancel,hy] at this
  simpa using this.2
 have key:∀(l:List Zd),(∀i y x,l[i]?=some y→l[i+1]?=some x→Zdl y x<0)→ZiF l:=by
  intro l
  induction l with
  | nil=>intro _;exact An
  | cons a l ih=>
   intro hl
   have hp:=ih (fun i y x hy hx=>hl (i+1) y x (by simpa using hy) (by simpa using hx))
   unfold ZiF at hp ⊢
   rw [AS]
   refine ⟨fun x mx=>?_,hp⟩
   cases l with
   | nil=>simp at mx
   | cons b l=>
    have hab:=hl 0 a b rfl rfl
    rcases A5.1 mx with rfl | mx
    ·exact hab
    ·rw [AS] at hp
     exact Zdq.tr _ _ _ hab (hp.1 x mx)
 exact key F hadj
def Z7 (a:Zx) (t:Zt):Zd:=(Zce (Zba a.pattern t.binding)).1
def Zhq (R:List Zf) (G:List Zd):Prop:=∀r∈R,∀t∈ZM (QZ r) G,∀a∈r.thn,Z7 a t∈G
structure Cl (R:List Zf) (base G:List Zd):Prop where
 asc:ZiF G
 base:∀f∈base,f∈G
 closed:Zhq R G
structure Zer (R:List Zf) (base F:List Zd):Prop where
 asc:ZiF F
 ok:∀f∈F,YH f=true
 inc:∀f∈base,f∈F
 low:∀G,Cl R base G→∀f∈F,f∈G
def Zlu (R:List Zf) (base:List Zd):Prop:=∀G,Cl R base G→25≤G.length
theorem Zer.over {R:List Zf} {base F:List Zd} (h:Zer R base F) (hl:25≤F.length):Zlu R base:=fun G hG=>AN hl (Zcs (Zg2 h.asc) (h.low G hG))
theorem Zer.add {R:List Zf} {base F:List Zd} (h:Zer R base F) {f:Zd} (hf:YH f=true) (hin:∀G,Cl R base G→f∈G):Zer R base (Zdn F f) where
 asc:=Zoj h.asc
 ok:=fun g mg=>by
  rcases Qm.1 mg with rfl | mg
  ·exact hf
  ·exact h.ok g mg
 inc:=fun g mg=>Qm.2 (.inr (h.inc g mg))
 low:=fun G hG g mg=>by
  rcases Qm.1 mg with rfl | mg
  ·exact hin G hG
  ·exact h.low G hG g mg
theorem ZiR {b:List Zp} (hb:ZX b=true):∀{p l:List ByteArray},Zd0 p b=some l→l.all ZP=true∧l.length=p.length
 | [],l,h=>by
  simp only[Zd0,Option.some.injEq] at h
  subst h
  simp
 | a::p,l,h=>by
  simp only[Zd0] at h
  obtain ⟨v,hv,h⟩:=Option.bind_eq_some_iff.1 h
  obtain ⟨l',hl',rfl⟩:=Aw.1 h
  obtain ⟨h1,h2⟩:=ZiR hb hl'
  have ha:ZP v=true:=by
   unfold Xx at hv
   split at hv
   ·rename_i ha
    obtain rfl:=Ar hv
    exact ha
   ·split at hv
    ·obtain ⟨x,mx,_,rfl⟩:=Zsh hv
     unfold ZX at hb
     rw [A3] at hb
     have:=(Zr3 hb.2 x mx).1
     unfold ZeA at this
     rw [A3] at this
     exact this.2
    ·simp at hv
  simp [ha,h1,h2]
theorem Zq4 {r:Zf} {F:List Zd} {t:Zt} (hr:ZU r=true) (ht:t∈ZM (QZ r) F) {a:Zx} (ma:a∈r.thn):YH (Z7 a t)=true:=by
 unfold ZU at hr
 simp only[A3] at hr
 have hk:a.kind=1:=by
  have:=A8.1 hr.2 a ma
  simpa using this
 have htk:=Zec F _ t ht
 obtain ⟨h1,h2⟩:=ZrY hr.1.1 a ma hk
 have hp:=h1
 unfold Z0 at hp
 simp only[A3,decide_eq_true_iff] at hp
 obtain ⟨l,e,_⟩:=ZkQ (b:=t.binding) hp.2 (fun v mv hv=>htk.vars v (by
  unfold QZ
  rw [Zob]
  exact h2 v mv hv))
 obtain ⟨h3,h4⟩:=ZiR htk.bind e
 have:Zba a.pattern t.binding=some { rel:=a.pattern.rel,args:=l }:=by
  unfold Zba
  rw [if_pos ⟨h1,htk.bind⟩,e]
  rfl
 unfold Z7
 rw [this]
 show YH { rel:=a.pattern.rel,args:=l }=true
 unfold YH
 simp only[A3,decide_eq_true_iff]
 exact ⟨⟨hp.1.1,by omega⟩,h3⟩
theorem Zer.derived {R:List Zf} {base F:List Zd} (h:Zer R base F) {r:Zf} (mr:r∈R) {t:Zt} (mt:t∈ZM (QZ r) F) {a:Zx} (ma:a∈r.thn):∀G,Cl R base G→Z7 a t∈G:=
 fun G hG=>hG.closed r mr t (ZoW (h.low G hG) Zsm t mt) a ma
def Res (R:List Zf) (base:List Zd) (x:List Zd × Bool):Prop:=
 (x.2=true∧Zer R base x.1∧x.1.length≤24∧Zhq R x.1)∨(x.2=false∧x.1=[]∧Zlu R base)
theorem Res.uniq {R:List Zf} {base:List Zd} {x y:List Zd × Bool} (hx:Res R base x) (hy:Res R base y):x=y:=by
 obtain ⟨F,b⟩:=x
 obtain ⟨G,c⟩:=y
 rcases hx with ⟨h1,h2,h3,h4⟩ | ⟨h1,h2,h3⟩<;>rcases hy with ⟨k1,k2,k3,k4⟩ | ⟨k1,k2,k3⟩<;>simp only at h1 h2 h3 k1 k2 k3<;>subst h1<;>subst k1
 ·have e:F=G:=Zkc h2.asc k2.asc fun f=>⟨fun hf=>h2.low G ⟨k2.asc,k2.inc,k4⟩ f hf,fun hf=>k2.low F ⟨h2.asc,h2.inc,h4⟩ f hf⟩
  rw [e]
 ·have:=k3 F ⟨h2.asc,h2.inc,h4⟩
  omega
 ·have:=h3 G ⟨k2.asc,k2.inc,k4⟩
  omega
 ·rw [h2,k2]
structure ZhZ (R:List Zf) (base row0:List Zd) (s:List Zd × Bool):Prop where
 good:Zer R base s.1
 len:s.1.length≤24
 sub:∀f∈row0,f∈s.1
 grow:s.2=true→row0.length<s.1.length
 same:s.2=false→s.1=row0
theorem ZsD {ρ:Type} {R:List Zf} {base row0:List Zd} {r:Zf} (mr:r∈R) (hr:ZU r=true) {rowS:List Zd} (hS:Zer R base rowS) {t:Zt} (mt:t∈ZM (QZ r) rowS) {q:ρ}
  {body:Nat→Zx→(List Zd × Bool)→Option ((List Zd × Bool) ⊕ ρ)}
  (hb:∀i a s,body i a s=(Z8 s.1 (Z7 a t)).bind fun v836=>if (decide (0≤v836))=true then some (.inl s) else if (decide (24≤((s.1.length:Nat):Int)))=true then some (.inr q) else (XF s.1 (Z7 a t)).bind fun v837=>some (.inl (v837,true)))
  (s:List Zd × Bool) (h:ZhZ R base row0 s):
  (∃s',(∀fin:(List Zd × Bool)→Option ρ,Zn body fin r.thn 0 s=fin s')∧ZhZ R base row0 s'∧(s'.2=false→s.2=false∧∀a∈r.thn,Z7 a t∈row0))∨((∀fin:(List Zd × Bool)→Option ρ,Zn body fin r.thn 0 s=some q)∧Zlu R base):=by
 rcases Zbj (body:=body) (fun p s'=>ZhZ R base row0 s'∧(s'.2=false→s.2=false∧∀a∈p,Z7 a t∈row0)) (fun x=>x=q∧Zlu R base) r.thn s ⟨h,fun hs=>⟨hs,by simp⟩⟩ (fun p a s' ma hp hI=>by
  obtain ⟨hP,hC⟩:=hI
  rw [hb]
  obtain ⟨z,hz,hz2⟩:=ZlY s'.1 (Z7 a t)
  rw [hz,A0]
  have hok:=Zq4 hr mt ma
  have hin:=hS.derived mr mt ma
  by_cases hm:Z7 a t∈s'.1
  ·left
   have hz3:¬z<0:=fun h=>hz2.1 h hm
   rw [if_pos (by simp;omega)]
   refine ⟨s',rfl,hP,fun hs=>⟨(hC hs).1,fun b mb=>?_⟩⟩
   rcases A4.1 mb with mb | mb
   ·exact (hC hs).2 b mb
   ·simp at mb
    subst mb
    rw [←hP.same hs]
    exact hm
  ·have hz3:=hz2.2 hm
   rw [if_neg (by simp;omega)]
   by_cases h24:24≤s'.1.length
   ·right
    rw [if_pos (by simp;omega)]
    refine ⟨q,rfl,rfl,(hP.good.add hok hin).over ?_⟩
    rw [ZhK hm]
    omega
   ·left
    rw [if_neg (by simp;omega),ZnZ _ _ hm (by omega) (fun f mf=>by have:=Xg (hP.good.ok f mf);omega) (by have:=Xg hok;omega),A0]
    refine ⟨_,rfl,⟨hP.good.add hok hin,by rw [ZhK hm];omega,fun f mf=>Qm.2 (.inr (hP.sub f mf)),fun _=>?_,fun h=>by simp at h⟩,fun h=>by simp at h⟩
    rw [ZhK hm]
    have:=Zcs (l:=row0) (m:=s'.1)
    cases hs:s'.2 with
    | true=>have:=hP.grow hs;omega
    | false=>rw [hP.same hs];omega) with ⟨s',e,h'⟩ | ⟨x,e,rfl,h'⟩
 ·exact .inl ⟨s',e,h'⟩
 ·exact .inr ⟨e,h'⟩
theorem ZrI {ρ:Type} {R:List Zf} {base row0:List Zd} {r:Zf} (mr:r∈R) (hr:ZU r=true) {q:ρ}
  {ab:Zt→Nat→Zx→(List Zd × Bool)→Option ((List Zd × Bool) ⊕ ((List Zd × Bool) ⊕ ρ))} {body:Nat→Zt→(List Zd × Bool)→Option ((List Zd × Bool) ⊕ ρ)}
  (hab:∀t i a s,ab t i a s=(Z8 s.1 (Z7 a t)).bind fun v836=>if (decide (0≤v836))=true then some (.inl s) else if (decide (24≤((s.1.length:Nat):Int)))=true then some (.inr (.inr q)) else (XF s.1 (Z7 a t)).bind fun v837=>some (.inl (v837,true)))
  (hb:∀i t s,body i t s=Zn (ab t) (fun s=>some (.inl s)) r.thn 0 s)
  (s:List Zd × Bool) (h:ZhZ R base row0 s):
  (∃s',(∀fin:(List Zd × Bool)→Option ρ,Zn body fin (ZM (QZ r) s.1) 0 s=fin s')∧ZhZ R base row0 s'∧(s'.2=false→s.2=false∧∀t∈ZM (QZ r) row0,∀a∈r.thn,Z7 a t∈row0))∨((∀fin:(List Zd × Bool)→Option ρ,Zn body fin (ZM (QZ r) s.1) 0 s=some q)∧Zlu R base):=by
 rcases Zbj (body:=body) (fun p s'=>ZhZ R base row0 s'∧(s'.2=false→s.2=false∧∀t∈p,∀a∈r.thn,Z7 a t∈row0)) (fun x=>x=q∧Zlu R base) (ZM (QZ r) s.1) s ⟨h,fun hs=>⟨hs,by simp⟩⟩ (fun p t s' mt hp hI=>by
  obtain ⟨hP,hC⟩:=hI
  rw [hb]
  rcases ZsD mr hr h.good mt (hab t) s' hP with ⟨s2,e2,hP2,hC2⟩ | ⟨e2,ho⟩
  ·left
   refine ⟨s2,e2 _,hP2,fun hs=>?_⟩
   obtain ⟨k1,k2⟩:=hC2 hs
   obtain ⟨k3,k4⟩:=hC k1
   refine ⟨k3,fun u mu=>?_⟩
   rcases A4.1 mu with mu | mu
   ·exact k4 u mu
   ·simp at mu
    subst mu
    exact k2
  ·exact .inr ⟨q,e2 _,rfl,ho⟩) with ⟨s',e,hP,hC⟩ | ⟨x,e,rfl,h'⟩
 ·refine .inl ⟨s',e,hP,fun hs=>?_⟩
  obtain ⟨k1,k2⟩:=hC hs
  exact ⟨k1,by rw [h.same k1] at k2;exact k2⟩
 ·exact .inr ⟨e,h'⟩
theorem ZwX {ρ:Type} {R:List Zf} {base row0:List Zd} (hL:∀r∈R,ZU r=true) (h0:Zer R base row0) (hl0:row0.length≤24) {q:ρ}
  {ab:Zt→Nat→Zx→(List Zd × Bool)→Option ((List Zd × Bool) ⊕ ((List Zd × Bool) ⊕ ((List Zd × Bool) ⊕ ρ)))} {tb:Zf→Nat→Zt→(List Zd × Bool)→Option ((List Zd × Bool) ⊕ ((List Zd × Bool) ⊕ ρ))} {body:Nat→Zf→(List Zd × Bool)→Option ((List Zd × Bool) ⊕ ρ)}
  (hab:∀t i a s,ab t i a s=(Z8 s.1 (Z7 a t)).bind fun v836=>if (decide (0≤v836))=true then some (.inl s) else if (decide (24≤((s.1.length:Nat):Int)))=true then some (.inr (.inr (.inr q))) else (XF s.1 (Z7 a t)).bind fun v837=>some (.inl (v837,true)))
  (htb:∀r i t s,tb r i t s=Zn (ab t) (fun s=>some (.inl s)) r.thn 0 s)
  (hb:∀i r s,r∈R→s.1.length≤24→(∀f∈s.1,YH f=true)→body i r s=Zn (tb r) (fun s=>some (.inl s)) (ZM (QZ r) s.1) 0 s):
  (∃s',(∀fin:(List Zd × Bool)→Option ρ,Zn body fin R 0 (row0,false)=fin s')∧ZhZ R base row0 s'∧(s'.2=false→Zhq R row0))∨((∀fin:(List Zd × Bool)→Option ρ,Zn body fin R 0 (row0,false)=some q)∧Zlu R base):=by
 rcases Zbj (body:=body) (fun p s'=>ZhZ R base row0 s'∧(s'.2=false→∀r∈p,∀t∈ZM (QZ r) row0,∀a∈r.thn,Z7 a t∈row0)) (fun x=>x=q∧Zlu R base) R (row0,false) ⟨⟨h0,hl0,fun f mf=>mf,fun h=>by simp at h,fun _=>rfl⟩,by simp⟩ (fun p r s' mr hp hI=>by
  obtain ⟨hP,hC⟩:=hI
  rw [hb _ _ _ mr hP.len hP.good.ok]
  rcases ZrI (q:=.inr q) mr (hL r mr) (hab) (htb r) s' hP with ⟨s2,e2,hP2,hC2⟩ | ⟨e2,ho⟩
  ·left
   refine ⟨s2,e2 _,hP2,fun hs=>?_⟩
   obtain ⟨k1,k2⟩:=hC2 hs
   intro u mu
   rcases A4.1 mu with mu | mu
   ·exact hC k1 u mu
   ·simp at mu
    subst mu
    exact k2
  ·exact .inr ⟨q,e2 _,rfl,ho⟩) with ⟨s',e,hP,hC⟩ | ⟨x,e,rfl,h'⟩
 ·exact .inl ⟨s',e,hP,hC⟩
 ·exact .inr ⟨e,h'⟩
theorem ZsQ {R:List Zf} {base:List Zd} {body:(List Zd × Bool)→Option ((List Zd × Bool) ⊕ (List Zd × Bool))} (stop:∀row,body (row,false)=some (.inr (row,true)))
  (pass:∀row,Zer R base row→row.length≤24→(∃s',body (row,true)=some (.inl s')∧ZhZ R base row s'∧(s'.2=false→Zhq R row))∨(body (row,true)=some (.inr ([],false))∧Zlu R base)) (hbase:Zer R base base) (hF24:base.length≤24):∃x,Y5 body (base,true)=some x∧Res R base x:=by
 have key:∀n row,Zer R base row→row.length≤24→25≤row.length+n→∃x,Y5 body (row,true)=some x∧Res R base x:=by
  intro n
  induction n with
  | zero=>intro row _ h3 h4;omega
  | succ n ih=>
   intro row hg hl hn
   rcases pass row hg hl with ⟨⟨row',u⟩,e,hP,hC⟩ | ⟨e,ho⟩
   ·rw [YU e]
    cases u with
    | true=>
     have:=hP.grow rfl
     exact ih row' hP.good hP.len (by simp only at this;omega)
    | false=>
     have hs:=hP.same rfl
     simp only at hs
     subst hs
     exact ⟨_,YG (stop _),.inl ⟨rfl,hP.good,hP.len,hC rfl⟩⟩
   ·exact ⟨_,YG e,.inr ⟨rfl,rfl,ho⟩⟩
 exact key 25 base hbase hF24 (by omega)
theorem Zgx {R:List Zf} (hR:ZbC R) (base:List Zd):(¬(Yn R&&R.all (YN R))=true∨¬Yw base=true→Yf R base=some ([],false))∧((Yn R&&R.all (YN R))=true→Yw base=true→∃x,Yf R base=some x∧Res R base x):=by
 constructor
 ·intro h
  unfold Yf
  rw [ZeY hR,A0]
  split
  ·rename_i h1
   rw [ZgU,A0,if_neg (h.resolve_left (fun h=>h h1))]
  ·rfl
 ·intro h1 h2
  have hL:∀r∈R,ZU r=true:=fun r mr=>by
   rw [A3] at h1
   have:=A8.1 h1.2 r mr
   unfold YN at this
   rw [A3] at this
   exact this.1
  have hrl:∀r∈R,r.cond.length≤4:=fun r mr=>by
   have:=hL r mr
   unfold ZU at this
   simp only[A3] at this
   exact (ZbZ this.1.1).1
  obtain ⟨hF24,hFF⟩:=Zds h2
  have hbase:Zer R base base:=⟨ZhD h2,hFF,fun f mf=>mf,fun G hG f mf=>hG.base f mf⟩
  unfold Yf
  rw [ZeY hR,A0,if_pos h1,ZgU,A0,if_pos h2,ZfZ _ (by omega) (fun f mf=>by have:=Xg (hFF f mf);omega),A0]
  refine ZsQ (fun row=>rfl) (fun row hg hl=>?_) hbase hF24
  have hgen:=ZwX (ρ:=(List Zd × Bool) ⊕ (List Zd × Bool)) (q:=.inr ([],false)) hL hg hl
   (ab:=fun t _ a s=>(Z8 s.1 (Z7 a t)).bind fun v836=>if (decide (0≤v836))=true then some (.inl s) else if (decide (24≤((s.1.length:Nat):Int)))=true then some (.inr (.inr (.inr (.inr ([],false))))) else (XF s.1 (Z7 a t)).bind fun v837=>some (.inl (v837,true)))
   (tb:=fun r _ t s=>Zn (fun _ a s=>(Z8 s.1 (Z7 a t)).bind fun v836=>if (decide (0≤v836))=true then some (.inl s) else if (decide (24≤((s.1.length:Nat):Int)))=true then some (.inr (.inr (.inr (.inr ([],false))))) else (XF s.1 (Z7 a t)).bind fun v837=>some (.inl (v837,true))) (fun s=>some (.inl s)) r.thn 0 s)
   (body:=fun _ r s=>(YA r).bind fun v757=>(Zam v757 s.1).bind fun v758=>Zn (fun _ t s=>Zn (fun _ a s=>(XZ a.pattern t.binding).bind fun v835=>(Z8 s.1 v835.1).bind fun v836=>if (decide (0≤v836))=true then some (.inl s) else if (decide (24≤((s.1.length:Nat):Int)))=true then some (.inr (.inr (.inr (.inr ([],false))))) else (XF s.1 v835.1).bind fun v837=>some (.inl (v837,true))) (fun s=>some (.inl s)) r.thn 0 s) (fun s=>some (.inl s)) v758 0 s)
   (fun _ _ _ _=>rfl) (fun _ _ _ _=>rfl) (fun i r s mr hs hok=>by
    show (YA r).bind _=_
    rw [Zbd r (by have:=hrl r mr;omega),A0,ZgN _ _ (by have:=Zc9 r;have:=hrl r mr;omega) hs (fun f mf=>Xg (hok f mf)),A0]
    simp only[ZdQ,A0]
    rfl)
  rcases hgen with ⟨s',e,hP,hC⟩ | ⟨e,ho⟩
  ·exact .inl ⟨s',e (fun s=>some (.inl s)),hP,hC⟩
  ·exact .inr ⟨e (fun s=>some (.inl s)),ho⟩
structure Zlk (R:List Zf) (base l:List Zd) (row:List Zd):Prop where
 good:Zer R base row
 sub:∀f∈l,f∈row
theorem Zzl {ρ:Type} {R:List Zf} {base l:List Zd} {r:Zf} (mr:r∈R) (hr:ZU r=true) (hS:Zer R base l) {t:Zt} (mt:t∈ZM (QZ r) l) {N:Nat} (hN:N≤1000000) (ht2:r.thn.length≤2)
  {body:Nat→Zx→List Zd→Option (List Zd ⊕ ρ)} (hb:∀i a row,body i a row=(YI row (Z7 a t)).bind fun v=>some (.inl v)) (row:List Zd) (h:Zlk R base l row) (hlen:row.length≤N):
  ∃row',(∀fin:List Zd→Option ρ,Zn body fin r.thn 0 row=fin row')∧Zlk R base l row'∧row'.length≤N+2∧(∀f∈row,f∈row')∧∀a∈r.thn,Z7 a t∈row':=by
 obtain ⟨row',e,h1,h2,h3,h4⟩:=Zd4 (body:=body) (fun p row'=>Zlk R base l row'∧row'.length≤N+p.length∧(∀f∈row,f∈row')∧∀a∈p,Z7 a t∈row') r.thn row ⟨h,by simpa using hlen,fun f mf=>mf,by simp⟩ (fun p a row' ma hp hI=>by
  obtain ⟨h1,h2,h3,h4⟩:=hI
  have hok:=Zq4 hr mt ma
  rw [hb,Zk2 _ _ (by omega) (fun f mf=>by have:=Xg (h1.good.ok f mf);omega) (by have:=Xg hok;omega),A0]
  refine ⟨_,rfl,⟨h1.good.add hok (hS.derived mr mt ma),fun f mf=>Qm.2 (.inr (h1.sub f mf))⟩,?_,fun f mf=>Qm.2 (.inr (h3 f mf)),fun b mb=>?_⟩
  ·have:=ZjK (Z7 a t) row'
   simp only[AD,Aa]
   omega
  ·rcases A4.1 mb with mb | mb
   ·exact Qm.2 (.inr (h4 b mb))
   ·simp at mb
    subst mb
    exact Qm.2 (.inl rfl))
 exact ⟨row',e,h1,by omega,h3,h4⟩
theorem ZyE {ρ:Type} {R:List Zf} {base l:List Zd} {r:Zf} (mr:r∈R) (hr:ZU r=true) (hS:Zer R base l) (hl24:l.length≤24) (hc4:r.cond.length≤4) (ht2:r.thn.length≤2)
  {body:Nat→Zt→List Zd→Option (List Zd ⊕ ρ)} (hb:∀i t row,t∈ZM (QZ r) l→body i t row=Zn (fun (_:Nat) (a:Zx) row=>(YI row (Z7 a t)).bind fun v=>(some (.inl v):Option (List Zd ⊕ (List Zd ⊕ ρ)))) (fun row=>some (.inl row)) r.thn 0 row) (row:List Zd) (h:Zlk R base l row) (hlen:row.length≤24):
  ∃row',(∀fin:List Zd→Option ρ,Zn body fin (ZM (QZ r) l) 0 row=fin row')∧Zlk R base l row'∧(∀f∈row,f∈row')∧∀t∈ZM (QZ r) l,∀a∈r.thn,Z7 a t∈row':=by
 have hn:=ZeI l hl24 (QZ r) (by have:=Zc9 r;omega)
 obtain ⟨row',e,h1,h2,h3,h4⟩:=Zd4 (body:=body) (fun p row'=>Zlk R base l row'∧row'.length≤24+2 * p.length∧(∀f∈row,f∈row')∧∀t∈p,∀a∈r.thn,Z7 a t∈row') (ZM (QZ r) l) row ⟨h,by simpa using hlen,fun f mf=>mf,by simp⟩ (fun p t row' mt hp hI=>by
  obtain ⟨h1,h2,h3,h4⟩:=hI
  rw [hb _ _ _ mt]
  obtain ⟨row2,e2,k1,k2,k3,k4⟩:=Zzl (ρ:=List Zd ⊕ ρ) (body:=fun (_:Nat) (a:Zx) row=>(YI row (Z7 a t)).bind fun v=>some (.inl v)) mr hr hS mt (N:=24+2 * p.length) (by omega) ht2 (fun _ _ _=>rfl) row' h1 h2
  refine ⟨row2,e2 _,k1,by simp only[AD,Aa];omega,fun f mf=>k3 f (h3 f mf),fun u mu a ma=>?_⟩
  rcases A4.1 mu with mu | mu
  ·exact k3 _ (h4 u mu a ma)
  ·simp at mu
   subst mu
   exact k4 a ma)
 exact ⟨row',e,h1,h3,h4⟩
theorem Zgz {R:List Zf} (hR:ZbC R) (base:List Zd) (hb20:base.length≤1048576):(¬(Yn R&&R.all (YN R))=true∨¬Yw base=true→Yg R base=some ([],false))∧((Yn R&&R.all (YN R))=true→Yw base=true→∃x,Yg R base=some x∧Res R base x):=by
 constructor
 ·intro h
  unfold Yg
  rw [Ze4 hR,A0]
  split
  ·rename_i h1
   rw [ZgI _ hb20,A0,if_neg (h.resolve_left (fun h=>h h1))]
  ·rfl
 ·intro h1 h2
  have hL:∀r∈R,ZU r=true:=fun r mr=>by
   rw [A3] at h1
   have:=A8.1 h1.2 r mr
   unfold YN at this
   rw [A3] at this
   exact this.1
  have hrl:∀r∈R,r.cond.length≤4∧r.thn.length≤2:=fun r mr=>by
   have:=hL r mr
   unfold ZU at this
   simp only[A3] at this
   exact ZbZ this.1.1
  obtain ⟨hF24,hFF⟩:=Zds h2
  have hbase:Zer R base base:=⟨ZhD h2,hFF,fun f mf=>mf,fun G hG f mf=>hG.base f mf⟩
  unfold Yg
  rw [Ze4 hR,A0,if_pos h1,ZgI _ hb20,A0,if_pos h2,ZdJ _ (by omega) (fun f mf=>by have:=Xg (hFF f mf);omega),A0]
  refine ZsQ (fun row=>rfl) (fun l hg hl=>?_) hbase hF24
  rcases Zbj (σ:=List Zd) (ρ:=(List Zd × Bool) ⊕ (List Zd × Bool)) (body:=fun (_:Nat) (r:Zf) row=>(Xv r).bind fun v745=>(Zai v745 l).bind fun v746=>Zn (fun _ t row=>Zn (fun _ a row=>(Y2 a.pattern t.binding).bind fun v802=>(YI row v802.1).bind fun v803=>some (.inl v803)) (fun row=>some (.inl row)) r.thn 0 row) (fun row=>if (decide (24<((row.length:Nat):Int)))=true then some (.inr (.inr ([],false))) else some (.inl row)) v746 0 row)
   (fun p row=>Zlk R base l row∧row.length≤24∧∀r∈p,∀t∈ZM (QZ r) l,∀a∈r.thn,Z7 a t∈row) (fun x=>x=.inr ([],false)∧Zlu R base) R l ⟨⟨hg,fun f mf=>mf⟩,hl,by simp⟩ (fun p r row mr hp hI=>by
    obtain ⟨i1,i2,i3⟩:=hI
    obtain ⟨hc4,ht2⟩:=hrl r mr
    obtain ⟨row',e,k1,k3,k4⟩:=ZyE (ρ:=List Zd ⊕ ((List Zd × Bool) ⊕ (List Zd × Bool))) (body:=fun (_:Nat) (t:Zt) row=>Zn (fun _ a row=>(Y2 a.pattern t.binding).bind fun v802=>(YI row v802.1).bind fun v803=>some (.inl v803)) (fun row=>some (.inl row)) r.thn 0 row) mr (hL r mr) hg hl hc4 ht2 (fun i t row mt=>by
     have hb6:=Qr (Zec l _ t mt).bind
     have e1:∀p,Y2 p t.binding=some (Zce (Zba p t.binding)):=fun p=>ZgM p t.binding (by omega)
     simp only[e1,A0]
     rfl) row i1 i2
    simp only[Zef r (by omega),A0,ZgX (QZ r) l (by have:=Zc9 r;omega) hl (fun f mf=>Xg (hg.ok f mf)),e]
    by_cases h24:24<row'.length
    ·rw [if_pos (by simp;omega)]
     exact .inr ⟨_,rfl,rfl,k1.good.over (by omega)⟩
    ·rw [if_neg (by simp;omega)]
     refine .inl ⟨_,rfl,k1,by omega,fun u mu t mt a ma=>?_⟩
     rcases A4.1 mu with mu | mu
     ·exact k3 _ (i3 u mu t mt a ma)
     ·simp at mu
      subst mu
      exact k4 t mt a ma) with ⟨row,e,hP,hlen,hC⟩ | ⟨x,e,rfl,ho⟩
  ·left
   refine ⟨_,e (fun row=>some (.inl (row,decide (((l.length:Nat):Int)<((row.length:Nat):Int))))),?_⟩
   by_cases hlt:l.length<row.length
   ·have hd:decide (((l.length:Nat):Int)<((row.length:Nat):Int))=true:=by simpa using hlt
    rw [hd]
    exact ⟨⟨hP.good,hlen,hP.sub,fun _=>hlt,fun h=>by simp at h⟩,fun h=>by simp at h⟩
   ·have hd:decide (((l.length:Nat):Int)<((row.length:Nat):Int))=false:=by simpa using hlt
    have hback:=ZqP (Zg2 hg.asc) hP.sub (by omega)
    have heq:row=l:=Zkc hP.good.asc hg.asc fun f=>⟨hback f,hP.sub f⟩
    rw [hd]
    exact ⟨⟨hP.good,hlen,hP.sub,fun h=>by simp at h,fun _=>heq⟩,fun _ r mr t mt a ma=>hback _ (hC r mr t mt a ma)⟩
  ·exact .inr ⟨e (fun row=>some (.inl (row,decide (((l.length:Nat):Int)<((row.length:Nat):Int))))),ho⟩
theorem Zhe {R:List Zf} (hR:ZbC R) (base:List Zd) (hb20:base.length≤1048576):∃x,Yg R base=some x∧Yf R base=some x∧(x=([],false)∨(Yn R&&R.all (YN R))=true∧Yw base=true∧Res R base x):=by
 obtain ⟨s1,s2⟩:=Zgz hR base hb20
 obtain ⟨i1,i2⟩:=Zgx hR base
 by_cases h1:(Yn R&&R.all (YN R))=true
 ·by_cases h2:Yw base=true
  ·obtain ⟨x,e1,r1⟩:=s2 h1 h2
   obtain ⟨y,e2,r2⟩:=i2 h1 h2
   rw [←r1.uniq r2] at e2
   exact ⟨x,e1,e2,.inr ⟨h1,h2,r1⟩⟩
  ·exact ⟨_,s1 (.inr h2),i1 (.inr h2),.inl rfl⟩
 ·exact ⟨_,s1 (.inl h1),i1 (.inl h1),.inl rfl⟩
end
def ZvD (l:List Int) (x:Int):Bool:=l.any fun y=>y==x
theorem Zoz {l:List Int} {x:Int}:ZvD l x=true↔x∈l:=by simp [ZvD]
theorem Zpi (l:List Int) (x:Int):ZfM l x=some (ZvD l x):=by
 unfold ZfM ZvD
 rw [Zc7 (p:=fun y=>y==x) (r:=true)]
 ·cases l.any fun y=>y==x<;>simp
 ·intro i y _
  cases y==x<;>simp
theorem Zr0 {l:List Int} {x:Int}:x∈Zjh l↔x∈l:=(B6 l _).mem_iff
theorem ZrU {l:List Int} (h:l.Nodup):(Zjh l).Pairwise (·<·):=by
 have h1:(Zjh l).Pairwise fun x y=>decide (x≤y)=true:=List.pairwise_mergeSort (fun a b c h1 h2=>by simp at *;omega) (fun a b=>by simp;omega) l
 have h2:(Zjh l).Nodup:=(B6 l _).nodup_iff.2 h
 have h3:(Zjh l).Pairwise (·≠·):=h2
 exact (h1.and h3).imp fun ⟨a,b⟩=>by simp at a;omega
def Zdm:List Int→Int→List Int
 | [],x=>[x]
 | y::l,x=>if y<x then y::Zdm l x else if y=x then y::l else x::y::l
theorem ZpO (l:List Int) (x:Int) (h:l.length+1≤1073741824):Zga l x=some (Zdm l x):=by
 unfold Zga
 refine (Q6 (fun l _ (st:List Int × Bool)=>some (if st.2=true then st.1++l else st.1++Zdm l x)) (fun l _ (st:List Int × Bool)=>st.1.length+l.length+(if st.2=true then 0 else 1)≤1073741824) ?_ ?_ l 0 ([],false) (by simpa using h)).trans (by simp)
 ·rintro i ⟨row,d⟩ hI
  cases d with
  | true=>simp
  | false=>simp only[AB,if_false,Zdm];simp at hI;rw [Zi _ (by omega)]
 ·rintro y l i ⟨row,d⟩ hI
  left
  cases d with
  | true=>
   simp at hI
   exact ⟨(row++[y],true),by simp only[if_true];rw [Zi _ (by omega)],by simp;omega,by simp⟩
  | false=>
   simp at hI
   by_cases h1:x≤y
   ·by_cases h2:y=x
    ·subst h2
     exact ⟨(row++[y],true),by simp;rw [Zi _ (by omega)],by simp;omega,by simp [Zdm]⟩
    ·exact ⟨(row++[x]++[y],true),by simp [h1,h2];rw [Zi _ (by omega),Zi _ (by omega)],by simp;omega,by simp [Zdm,h2,show ¬y<x by omega]⟩
   ·exact ⟨(row++[y],false),by simp [h1];rw [Zi _ (by omega)],by simp;omega,by simp [Zdm,show y<x by omega]⟩
theorem Zle {x y:Int}:∀{l:List Int},y∈Zdm l x↔y=x∨y∈l
 | []=>by simp [Zdm]
 | z::l=>by
  simp only[Zdm]
  split
  ·rw [A5,Zle,A5]
   constructor
   ·rintro (h | h | h)<;>simp [h]
   ·rintro (h | h | h)<;>simp [h]
  ·split
   ·rename_i h;subst h;simp
   ·simp
theorem Zpa {x:Int}:∀{l:List Int},l.Pairwise (·<·)→(Zdm l x).Pairwise (·<·)
 | [],_=>by simp [Zdm]
 | z::l,h=>by
  rw [AS] at h
  simp only[Zdm]
  split
  ·rw [AS]
   refine ⟨fun y hy=>?_,Zpa h.2⟩
   rcases Zle.1 hy with rfl | hy
   ·assumption
   ·exact h.1 y hy
  ·split
   ·rw [AS];exact h
   ·rw [AS,AS]
    refine ⟨fun y hy=>?_,h⟩
    rcases A5.1 hy with rfl | hy
    ·omega
    ·have:=h.1 y hy;omega
theorem Zpx (x:Int):∀l:List Int,(Zdm l x).length≤l.length+1
 | []=>by simp [Zdm]
 | z::l=>by
  simp only[Zdm]
  split
  ·have:=Zpx x l;simp;omega
  ·split<;>simp
section
open Classical
section
variable {α σ ρ:Type} {body:Nat→α→σ→Option (σ ⊕ ρ)} {fin:σ→Option ρ}
theorem Zka (st:List α→σ) (ok:List α→Prop) [DecidablePred ok] (q:ρ) (l:List α) (h0:ok []) (mono:∀p r,l=p++r→ok l→ok p)
  (h:∀p x r,l=p++x::r→ok p→body p.length x (st p)=if ok (p++[x]) then some (.inl (st (p++[x]))) else some (.inr q)):Zn body fin l 0 (st [])=if ok l then fin (st l) else some q:=by
 have key:∀(r pre:List α),l=pre++r→ok pre→Zn body fin r pre.length (st pre)=if ok l then fin (st l) else some q:=by
  intro r
  induction r with
  | nil=>intro pre e hp;rw [List.append_nil] at e;subst e;rw [if_pos hp];rfl
  | cons x r ih=>
   intro pre e hp
   have hx:=h pre x r e hp
   have e2:l=(pre++[x])++r:=by rw [e];simp
   by_cases hk:ok (pre++[x])
   ·rw [if_pos hk] at hx
    rw [ZV hx]
    simpa using ih (pre++[x]) e2 hk
   ·rw [if_neg hk] at hx
    rw [Ya hx,if_neg fun hl=>hk (mono _ _ e2 hl)]
 exact key l [] rfl h0
end
noncomputable def Zqa:List Zd→Zd→Nat→Int
 | [],_,_=>-1
 | x::l,f,i=>if x=f then ((i:Nat):Int) else Zqa l f (i+1)
noncomputable def Z9 (l:List Zd) (f:Zd):Int:=Zqa l f 0
theorem ZbE (l:List Zd) (f:Zd):Z8 l f=some (Z9 l f):=by
 unfold Z8 Z9
 generalize 0=i
 induction l generalizing i with
 | nil=>rfl
 | cons x l ih=>
  by_cases hx:x=f
  ·rw [Ya (r:=((i:Nat):Int)) (by rw [ZbI,A0,if_pos (decide_eq_true hx)])]
   simp [Zqa,hx]
  ·rw [ZV (s':=()) (by rw [ZbI,A0,if_neg (by simpa using hx)]),ih (i+1)]
   simp [Zqa,hx]
theorem Zbw (l:List Zd) (f:Zd):Ql l f=some (Z9 l f):=ZbE l f
theorem Zm1 {f:Zd}:∀{l:List Zd} {i:Nat},(f∉l∧Zqa l f i=-1)∨∃j,Zqa l f i=((i+j:Nat):Int)∧l[j]?=some f
 | [],i=>.inl ⟨by simp,rfl⟩
 | x::l,i=>by
  unfold Zqa
  by_cases hx:x=f
  ·rw [if_pos hx];exact .inr ⟨0,by simp,by simp [hx]⟩
  ·rw [if_neg hx]
   rcases Zm1 (f:=f) (l:=l) (i:=i+1) with ⟨h1,h2⟩ | ⟨j,h1,h2⟩
   ·exact .inl ⟨by simp only[A5,not_or];exact ⟨fun e=>hx e.symm,h1⟩,h2⟩
   ·exact .inr ⟨j+1,by rw [h1];congr 1;omega,by simpa using h2⟩
theorem Zhd (l:List Zd) (f:Zd):(f∉l∧Z9 l f=-1)∨∃j,Z9 l f=((j:Nat):Int)∧l[j]?=some f:=by
 have:=Zm1 (f:=f) (l:=l) (i:=0)
 simpa [Z9] using this
theorem Zgc {l:List Zd} {f:Zd} (h:f∈l):∃j,Z9 l f=((j:Nat):Int)∧l[j]?=some f:=(Zhd l f).resolve_left fun h'=>h'.1 h
noncomputable def Zaq (F l:List Zd):List Int:=l.foldl (fun row f=>if 0≤Z9 F f then Zdm row (Z9 F f) else row) []
theorem Zha (F:List Zd):∀(l:List Zd) (row:List Int),row.Pairwise (·<·)→(l.foldl (fun row f=>if 0≤Z9 F f then Zdm row (Z9 F f) else row) row).Pairwise (·<·)∧(∀x,x∈l.foldl (fun row f=>if 0≤Z9 F f then Zdm row (Z9 F f) else row) row↔x∈row∨∃f∈l,Z9 F f=x∧0≤x)∧(l.foldl (fun row f=>if 0≤Z9 F f then Zdm row (Z9 F f) else row) row).length≤row.length+l.length
 | [],row,h=>⟨h,by simp,by simp⟩
 | f::l,row,h=>by
  rw [AQ]
  by_cases h0:0≤Z9 F f
  ·rw [if_pos h0]
   obtain ⟨h1,h2,h3⟩:=Zha F l (Zdm row (Z9 F f)) (Zpa h)
   have:=Zpx (Z9 F f) row
   refine ⟨h1,fun x=>?_,by simp only[A9];omega⟩
   rw [h2,Zle]
   constructor
   ·rintro ((rfl | h) | ⟨g,mg,e⟩)
    ·exact .inr ⟨f,by simp,rfl,h0⟩
    ·exact .inl h
    ·exact .inr ⟨g,by simp [mg],e⟩
   ·rintro (h | ⟨g,mg,e,e0⟩)
    ·exact .inl (.inr h)
    ·rcases A5.1 mg with rfl | mg
     ·exact .inl (.inl e.symm)
     ·exact .inr ⟨g,mg,e,e0⟩
  ·rw [if_neg h0]
   obtain ⟨h1,h2,h3⟩:=Zha F l row h
   refine ⟨h1,fun x=>?_,by simp only[A9];omega⟩
   rw [h2]
   constructor
   ·rintro (h | ⟨g,mg,e⟩)
    ·exact .inl h
    ·exact .inr ⟨g,by simp [mg],e⟩
   ·rintro (h | ⟨g,mg,e,e0⟩)
    ·exact .inl h
    ·rcases A5.1 mg with rfl | mg
     ·rw [e] at h0;exact absurd e0 h0
     ·exact .inr ⟨g,mg,e,e0⟩
theorem XN (F l:List Zd):(Zaq F l).Pairwise (·<·)∧(∀x,x∈Zaq F l↔∃f∈l,Z9 F f=x∧0≤x)∧(Zaq F l).length≤l.length:=by
 obtain ⟨h1,h2,h3⟩:=Zha F l [] An
 exact ⟨h1,fun x=>by rw [Zaq,h2];simp,by simpa [Zaq] using h3⟩
theorem Zpv (F p:List Zd) (f:Zd):Zaq F (p++[f])=if 0≤Z9 F f then Zdm (Zaq F p) (Z9 F f) else Zaq F p:=by rw [Zaq,AO];rfl
theorem ZgD (F l:List Zd) (h:l.length≤1000000):Zbu F l=some (Zaq F l):=by
 unfold Zbu
 have h0:Zaq F []=[]:=rfl
 rw [←h0,QL (fun p=>Zaq F p) l]
 intro p f q e
 have hp:p.length≤l.length:=by rw [e];simp
 have:=(XN F p).2.2
 rw [Zbw,A0,Zpv]
 by_cases h0:0≤Z9 F f
 ·rw [if_pos (by simpa using h0),if_pos h0,ZpO _ _ (by omega)]
  rfl
 ·rw [if_neg (by simpa using h0),if_neg h0]
noncomputable def ZaX (F l:List Zd):List Int:=l.foldl (fun row f=>if 0≤Z9 F f∧Z9 F f∉row then row++[Z9 F f] else row) []
theorem ZiU (F p:List Zd) (f:Zd):ZaX F (p++[f])=if 0≤Z9 F f∧Z9 F f∉ZaX F p then ZaX F p++[Z9 F f] else ZaX F p:=by rw [ZaX,AO];rfl
theorem ZiY (F:List Zd):∀n (l:List Zd),l.length=n→(ZaX F l).Nodup∧(∀x,x∈ZaX F l↔∃f∈l,Z9 F f=x∧0≤x)∧(ZaX F l).length≤l.length:=by
 intro n
 induction n with
 | zero=>intro l hl;rw [AY hl];simp [ZaX]
 | succ n ih=>
  intro l hl
  obtain ⟨p,f,rfl⟩:∃p f,l=p++[f]:=⟨l.dropLast,l.getLast (by intro e;simp [e] at hl),(Av _).symm⟩
  obtain ⟨h1,h2,h3⟩:=ih p (by simpa using hl)
  rw [ZiU]
  by_cases hc:0≤Z9 F f∧Z9 F f∉ZaX F p
  ·rw [if_pos hc]
   refine ⟨by rw [List.nodup_append];exact ⟨h1,by simp,fun a ha b hb e=>by simp at hb;subst hb;subst e;exact hc.2 ha⟩,fun x=>?_,by simp;omega⟩
   rw [A4,h2]
   constructor
   ·rintro (⟨g,mg,e⟩ | h)
    ·exact ⟨g,by simp [mg],e⟩
    ·simp at h;subst h;exact ⟨f,by simp,rfl,hc.1⟩
   ·rintro ⟨g,mg,e,e0⟩
    rcases A4.1 mg with mg | mg
    ·exact .inl ⟨g,mg,e,e0⟩
    ·simp at mg;subst mg;exact .inr (by simp [e])
  ·rw [if_neg hc]
   refine ⟨h1,fun x=>?_,by simp;omega⟩
   rw [h2]
   constructor
   ·rintro ⟨g,mg,e⟩
    exact ⟨g,by simp [mg],e⟩
   ·rintro ⟨g,mg,e,e0⟩
    rcases A4.1 mg with mg | mg
    ·exact ⟨g,mg,e,e0⟩
    ·simp at mg;subst mg
     have:Z9 F g∈ZaX F p:=Classical.byContradiction fun hn=>hc ⟨by rw [e];exact e0,hn⟩
     rw [e] at this
     exact (h2 x).1 this
theorem Zhr (F l:List Zd) (h:l.length≤1000000):Zcr F l=some (Zaq F l):=by
 unfold Zcr
 have h0:ZaX F []=[]:=rfl
 rw [←h0,QL (fun p=>ZaX F p) l]
 ·obtain ⟨h1,h2,h3⟩:=ZiY F _ l rfl
  obtain ⟨k1,k2,_⟩:=XN F l
  simp only[ZeC]
  rw [Zi _ (by omega),A0,Zos (ZrU h1) k1 fun x=>by rw [Zr0,h2,k2]]
 ·intro p f q e
  have hp:p.length≤l.length:=by rw [e];simp
  have h3:=(ZiY F _ p rfl).2.2
  rw [ZbE,A0,ZiU]
  by_cases h0:0≤Z9 F f
  ·rw [if_pos (by simpa using h0),Zpi,A0]
   by_cases hm:Z9 F f∈ZaX F p
   ·rw [if_pos (Zoz.2 hm),if_neg (fun h=>h.2 hm)]
   ·rw [if_neg (by rw [Zoz];exact hm),if_pos ⟨h0,hm⟩,Zi _ (by omega)]
    rfl
  ·rw [if_neg (by simpa using h0),if_neg (fun h=>h0 h.1)]
theorem ZdH (a b:List Int):Zbh a b=some (decide (a=b)):=by
 unfold Zbh
 by_cases h:a.length=b.length
 ·rw [if_neg (by simp;omega),Xh (p:=fun i x=>decide (b[i]?=some x)) (r:=false)]
  ·have:Zar (fun i x=>decide (b[i]?=some x)) a 0=decide (a=b):=by
    rw [AR,decide_eq_true_iff]
    constructor
    ·intro ha
     apply Ax
     intro i
     by_cases hi:i<a.length
     ·have hx:=A6 hi
      have:=ZnB ha i _ hx
      simp only[AM,decide_eq_true_eq] at this
      rw [hx,this]
     ·rw [AE (by omega),AE (by omega)]
    ·rintro rfl
     have:∀(l pre:List Int),Zar (fun i x=>decide ((pre++l)[i]?=some x)) l pre.length=true:=by
      intro l
      induction l with
      | nil=>intro pre;rfl
      | cons x l ih=>
       intro pre
       simp only[Zar,A3,decide_eq_true_eq]
       refine ⟨by simp,?_⟩
       have:=ih (pre++[x])
       simpa using this
     simpa using this a []
   rw [this]
   cases decide (a=b)<;>rfl
  ·intro j x hx
   have hj:=(AI.1 hx).1
   have hb:b[j]?=some b[j]:=A6 (by omega)
   rw [AM,Zby,hb,A0]
   by_cases he:x=b[j]
   ·simp [he]
   ·have:¬b[j]=x:=fun e=>he e.symm
    simp [he,this]
 ·rw [if_pos (by simp;omega),decide_eq_false (fun e=>h (by rw [e]))]
theorem Zag (a b:List Int):ZaN a b=some (decide (a=b)):=ZdH a b
theorem Zk9 {a b:Zg} (h1:a.for_=b.for_) (h2:a.inn=b.inn) (h3:a.outs=b.outs):a=b:=by
 cases a;cases b;simp only at h1 h2 h3;subst h1 h2 h3;rfl
theorem Zjp (a b:Zg):ZaK a b=some (decide (a=b)):=by
 unfold ZaK
 by_cases h1:a.for_=b.for_
 ·rw [if_pos (by simpa using h1),ZdH,A0]
  by_cases h2:a.inn=b.inn
  ·rw [if_pos (decide_eq_true h2),ZdH,A0]
   congr 1
   rw [AR,decide_eq_true_iff,decide_eq_true_iff]
   exact ⟨Zk9 h1 h2,fun e=>by rw [e]⟩
  ·rw [if_neg (by simpa using h2),decide_eq_false (fun e=>h2 (by rw [e]))]
 ·rw [if_neg (by simpa using h1),decide_eq_false (fun e=>h1 (by rw [e]))]
theorem Zkv (l:List Zg) (r:Zg):ZaA l r=some (decide (r∈l)):=by
 unfold ZaA
 rw [Zc7 (p:=fun x=>decide (x=r)) (r:=true)]
 ·have:l.any (fun x=>decide (x=r))=decide (r∈l):=by
   rw [AR,List.any_eq_true,decide_eq_true_iff]
   exact ⟨fun ⟨x,mx,e⟩=>by rw [decide_eq_true_iff] at e;rw [←e];exact mx,fun h=>⟨r,h,by simp⟩⟩
  rw [this]
  cases decide (r∈l)<;>rfl
 ·intro i x mx
  rw [Zjp,A0]
  cases decide (x=r)<;>rfl
theorem Znu (l:List Zg) (r:Zg):∃z,Zd8 l r=some z∧(0≤z↔r∈l):=by
 unfold Zd8
 generalize 0=i
 induction l generalizing i with
 | nil=>exact ⟨-1,rfl,by simp⟩
 | cons x l ih=>
  by_cases hx:x=r
  ·subst hx
   refine ⟨((i:Nat):Int),Ya ?_,by simp⟩
   rw [if_pos (by simp),Zag,A0,if_pos (by simp),Zag,A0,if_pos (by simp)]
  ·obtain ⟨z,e,hz⟩:=ih (i+1)
   refine ⟨z,(ZV ?_).trans e,by rw [hz,A5];exact ⟨.inr,fun h=>h.resolve_left fun e=>hx e.symm⟩⟩
   by_cases h1:x.for_=r.for_
   ·rw [if_pos (by simpa using h1),Zag,A0]
    by_cases h2:x.inn=r.inn
    ·rw [if_pos (decide_eq_true h2),Zag,A0,if_neg (by simpa using fun e=>hx (Zk9 h1 h2 e))]
    ·rw [if_neg (by simpa using h2)]
   ·rw [if_neg (by simpa using h1)]
noncomputable def Zqu (r:Zf) (t:Zt):List Zd:=(r.cond.filter fun x=>x.kind==2).map fun x=>(Zce (Zba x.pattern t.binding)).1
noncomputable def Z6 (F:List Zd) (r:Zf) (t:Zt) (a:Zx):Zg:={ for_:=Z9 F (Z7 a t),inn:=Zaq F t.facts,outs:=Zaq F (Zqu r t) }
theorem Zo4 {ρ:Type} {r:Zf} {t:Zt} (hr:r.cond.length≤1000000) {fin:List Zd→Option ρ} {body:Nat→Zr→List Zd→Option (List Zd ⊕ ρ)}
  (hb:∀i x row,row.length≤1000000→body i x row=if (x.kind==2)=true then some (.inl (row++[(Zce (Zba x.pattern t.binding)).1])) else some (.inl row)):Zn body fin r.cond 0 []=fin (Zqu r t):=by
 rw [Yk (g:=fun x:Zr=>if (x.kind==2)=true then some (Zce (Zba x.pattern t.binding)).1 else none)]
 ·rw [Aq]
  congr 1
  unfold Zqu
  induction r.cond with
  | nil=>rfl
  | cons x l ih=>
   by_cases hx:(x.kind==2)=true
   ·simp only[B7,B8,hx,if_true,B9,ih]
   ·simp only[B7,B8,hx,if_false,ih]
    simp
 ·intro j x s mx hs
  rw [hb _ _ _ (by simp at hs;omega)]
  by_cases hx:(x.kind==2)=true
  ·rw [if_pos hx,if_pos hx]
   rfl
  ·rw [if_neg hx,if_neg hx]
   simp
theorem Zkb (r:Zf) (t:Zt):(Zqu r t).length≤r.cond.length:=by
 rw [Zqu,AU]
 exact Au _ _
theorem ZjS {F:List Zd} {r:Zf} {t:Zt} (hr:r.cond.length≤4) (ht:ZtD F t) {j:Nat} {a:Zx} (ha:r.thn[j]?=some a):ZaD r ((j:Nat):Int) t F=some (Z6 F r t a):=by
 have hb:=ht.bind
 have hl:=ht.len
 have e1:∀p,Y2 p t.binding=some (Zce (Zba p t.binding)):=fun p=>ZgM p t.binding (by omega)
 unfold ZaD
 rw [Zby,ha,A0,e1,A0,Zo4 (t:=t) (by omega) (fun i x row hrow=>by rw [e1,A0,Zi _ (by omega)])]
 have:=Zkb r t
 rw [Zbw,A0,ZgD _ _ (by omega),A0,ZgD _ _ (by omega),A0]
 rfl
noncomputable def ZiI (l:List Zg) (r:Zg):List Zg:=if r∈l then l else l++[r]
theorem ZtN (l:List Zg) (r:Zg):l.length≤(ZiI l r).length∧(ZiI l r).length≤l.length+1:=by
 unfold ZiI
 split<;>simp
theorem Zmu:∀(c l:List Zg),l.length≤(c.foldl ZiI l).length∧(c.foldl ZiI l).length≤l.length+c.length
 | [],l=>by simp
 | r::c,l=>by
  have h1:=Zmu c (ZiI l r)
  have h2:=ZtN l r
  simp only[AQ,A9]
  omega
theorem Zld {α β:Type} {g:α→List β} {N:Nat}:∀{l:List α},(∀x∈l,(g x).length≤N)→(l.flatMap g).length≤N * l.length
 | [],_=>by simp
 | x::l,h=>by
  have h1:=h x (by simp)
  have h2:=Zld (l:=l) fun y my=>h y (by simp [my])
  rw [Am,AD,A9,Nat.mul_add]
  omega
noncomputable def Qh {β:Type} (s:List Zg × List β) (p:Zg × β):List Zg × List β:=if p.1∈s.1 then s else (s.1++[p.1],s.2++[p.2])
theorem Zc3 {β:Type}:∀(c:List (Zg × β)) (s:List Zg × List β),(c.foldl Qh s).1=(c.map Ay).foldl ZiI s.1∧(s.2.length=s.1.length→(c.foldl Qh s).2.length=(c.foldl Qh s).1.length)
 | [],s=>⟨rfl,fun h=>h⟩
 | p::c,s=>by
  obtain ⟨h1,h2⟩:=Zc3 c (Qh s p)
  have e:(Qh s p).1=ZiI s.1 p.1:=by unfold Qh ZiI;split<;>rfl
  refine ⟨by rw [AQ,h1,e];rfl,fun h=>h2 ?_⟩
  unfold Qh
  split
  ·exact h
  ·simp [h]
theorem ZhW {β:Type} (c:List (Zg × β)) (s:List Zg × List β):s.1.length≤(c.foldl Qh s).1.length∧(c.foldl Qh s).1.length≤s.1.length+c.length:=by
 have:=Zmu (c.map Ay) s.1
 rw [(Zc3 c s).1]
 simpa using this
section
variable {β:Type} (o:Zf→Zt→β) (F:List Zd)
noncomputable def ZlN (r:Zf) (t:Zt):List (Zg × β):=r.thn.map fun a=>(Z6 F r t a,o r t)
noncomputable def Zkd (r:Zf):List (Zg × β):=(ZM (QZ r) F).flatMap (ZlN o F r)
noncomputable def ZcB (base:List Zd):List Zg:=base.map fun f=>{ for_:=Z9 F f,inn:=[],outs:=[] }
noncomputable def Zad (z:β) (R:List Zf) (base:List Zd):List Zg × List β:=(R.flatMap (Zkd o F)).foldl Qh (ZcB F base,base.map fun _=>z)
theorem Zom (r:Zf) (t:Zt):(ZlN o F r t).length=r.thn.length:=by simp [ZlN]
end
noncomputable def ZBu (F:List Zd) (r:Zf) (t:Zt):List Zg:=r.thn.map (Z6 F r t)
noncomputable def Zul (F:List Zd) (r:Zf):List Zg:=(ZM (QZ r) F).flatMap (ZBu F r)
noncomputable def YJ (R:List Zf) (F base:List Zd):List Zg:=(R.flatMap (Zul F)).foldl ZiI (ZcB F base)
theorem Zi7 {β:Type} (o:Zf→Zt→β) (F:List Zd) (z:β) (R:List Zf) (base:List Zd):(Zad o F z R base).1=YJ R F base∧(Zad o F z R base).2.length=(YJ R F base).length:=by
 obtain ⟨h1,h2⟩:=Zc3 (R.flatMap (Zkd o F)) (ZcB F base,base.map fun _=>z)
 have e:(R.flatMap (Zkd o F)).map Ay=R.flatMap (Zul F):=by
  rw [BA]
  congr 1
  funext r
  rw [Zkd,Zul,BA]
  congr 1
  funext t
  simp [ZlN,ZBu]
 have h3:(Zad o F z R base).1=YJ R F base:=by unfold Zad YJ;rw [h1,e]
 refine ⟨h3,?_⟩
 rw [←h3]
 exact h2 (by simp [ZcB])
section
variable {β ρ:Type} {o:Zf→Zt→β} {F:List Zd}
theorem ZmP {base:List Zd} (hl:base.length≤1000000) {z:β} {fin:List Zg × List β→Option ρ} {body:Nat→Zd→List Zg × List β→Option ((List Zg × List β) ⊕ ρ)}
  (hb:∀i f a b,a.length≤1000000→b.length≤1000000→body i f (a,b)=some (.inl (a++[{ for_:=Z9 F f,inn:=[],outs:=[] }],b++[z]))):Zn body fin base 0 ([],[])=fin (ZcB F base,base.map fun _=>z):=by
 have h0:(([],[]):List Zg × List β)=(ZcB F [],([]:List Zd).map fun _=>z):=rfl
 rw [h0,QL (fun p=>(ZcB F p,p.map fun _=>z)) base]
 intro p f q e
 have hp:p.length≤base.length:=by rw [e];simp
 rw [hb _ _ _ _ (by rw [ZcB,AU];omega) (by rw [AU];omega)]
 simp [ZcB]
theorem ZwL {r:Zf} {t:Zt} (hr2:r.thn.length≤2) {fin:List Zg × List β→Option ρ} {body:Nat→Zx→List Zg × List β→Option ((List Zg × List β) ⊕ ρ)} {s:List Zg × List β} (hl:s.1.length≤99999998) (hs:s.2.length=s.1.length)
  (hb:∀i a c d,c.length≤100000000→d.length≤100000000→body i a (c,d)=if decide (Z6 F r t a∈c)=true then some (.inl (c,d)) else some (.inl (c++[Z6 F r t a],d++[o r t]))):Zn body fin r.thn 0 s=fin ((ZlN o F r t).foldl Qh s):=by
 have h0:s=((([]:List Zx).map fun a=>(Z6 F r t a,o r t))).foldl Qh s:=rfl
 conv=>lhs;rw [h0]
 rw [QL (fun p:List Zx=>(p.map fun a=>(Z6 F r t a,o r t)).foldl Qh s) r.thn]
 ·rfl
 ·intro p a q e
  have hp:p.length≤r.thn.length:=by rw [e];simp
  have h1:=ZhW (p.map fun a=>(Z6 F r t a,o r t)) s
  have h2:=(Zc3 (p.map fun a=>(Z6 F r t a,o r t)) s).2 hs
  rw [AU] at h1
  rw [Az,AO]
  generalize (p.map fun a=>(Z6 F r t a,o r t)).foldl Qh s=u at h1 h2 ⊢
  obtain ⟨c,d⟩:=u
  simp only at h1 h2
  rw [hb _ _ _ _ (by omega) (by omega)]
  show _=some (Sum.inl (Qh (c,d) (Z6 F r t a,o r t)))
  unfold Qh
  by_cases hm:Z6 F r t a∈c
  ·rw [if_pos (decide_eq_true hm),if_pos hm]
  ·rw [if_neg (by simpa using hm),if_neg hm]
theorem Ztu {α:Type} {g:α→List (Zg × β)} {L:List α} {M N:Nat} (hg:∀x∈L,(g x).length≤N) {fin:List Zg × List β→Option ρ} {body:Nat→α→List Zg × List β→Option ((List Zg × List β) ⊕ ρ)} {s:List Zg × List β} (hl:s.1.length+N * L.length≤M) (hs:s.2.length=s.1.length)
  (hb:∀i x u,x∈L→u.1.length≤M→u.2.length=u.1.length→body i x u=some (.inl ((g x).foldl Qh u))):Zn body fin L 0 s=fin ((L.flatMap g).foldl Qh s):=by
 have h0:s=(([]:List α).flatMap g).foldl Qh s:=rfl
 conv=>lhs;rw [h0]
 rw [QL (fun p=>(p.flatMap g).foldl Qh s) L]
 intro p x q e
 have hp:p.length≤L.length:=by rw [e];simp
 have h1:=ZhW (p.flatMap g) s
 have h2:=(Zc3 (p.flatMap g) s).2 hs
 have h3:=Zld (l:=p) (g:=g) (N:=N) fun y my=>hg y (by rw [e];simp [my])
 have h4:=Nat.mul_le_mul_left N hp
 rw [hb _ _ _ (by rw [e];simp) (by omega) h2,Ak,AO]
 simp
theorem ZyC {r:Zf} {t:Zt} {q:ρ} {fin:List Zg × List β→Option ρ} {body:Nat→Zx→List Zg × List β→Option ((List Zg × List β) ⊕ ρ)} {s:List Zg × List β} (hl:s.1.length≤60) (hs:s.2.length=s.1.length)
  (hb:∀j a c d,r.thn[j]?=some a→c.length≤60→d.length≤60→body j a (c,d)=if Z6 F r t a∈c then some (.inl (c,d)) else if 60≤c.length then some (.inr q) else some (.inl (c++[Z6 F r t a],d++[o r t]))):Zn body fin r.thn 0 s=if ((ZlN o F r t).foldl Qh s).1.length≤60 then fin ((ZlN o F r t).foldl Qh s) else some q:=by
 have h0:s=((([]:List Zx).map fun a=>(Z6 F r t a,o r t))).foldl Qh s:=rfl
 conv=>lhs;rw [h0]
 rw [Zka (fun p:List Zx=>(p.map fun a=>(Z6 F r t a,o r t)).foldl Qh s) (fun p=>((p.map fun a=>(Z6 F r t a,o r t)).foldl Qh s).1.length≤60) q r.thn (by simpa using hl) (fun p c e h=>by
  rw [e,Az,AO] at h
  exact AN (ZhW _ _).1 h)]
 ·rfl
 ·intro p a c e h60
  have h2:=(Zc3 (p.map fun a=>(Z6 F r t a,o r t)) s).2 hs
  rw [Az,AO]
  generalize (p.map fun a=>(Z6 F r t a,o r t)).foldl Qh s=u at h60 h2 ⊢
  obtain ⟨x,y⟩:=u
  simp only at h60 h2
  rw [hb _ _ _ _ (by rw [e];simp) h60 (by omega)]
  show _=if (Qh (x,y) (Z6 F r t a,o r t)).1.length≤60 then some (Sum.inl (Qh (x,y) (Z6 F r t a,o r t))) else some (Sum.inr q)
  unfold Qh
  by_cases hm:Z6 F r t a∈x
  ·rw [if_pos hm,if_pos hm,if_pos h60]
  ·rw [if_neg hm,if_neg hm]
   by_cases h1:60≤x.length
   ·rw [if_pos h1,if_neg (by simp;omega)]
   ·rw [if_neg h1,if_pos (by simp;omega)]
theorem Zte {α:Type} {g:α→List (Zg × β)} {L:List α} {q:ρ} {fin:List Zg × List β→Option ρ} {body:Nat→α→List Zg × List β→Option ((List Zg × List β) ⊕ ρ)} {s:List Zg × List β} (hl:s.1.length≤60) (hs:s.2.length=s.1.length)
  (hb:∀i x u,x∈L→u.1.length≤60→u.2.length=u.1.length→body i x u=if ((g x).foldl Qh u).1.length≤60 then some (.inl ((g x).foldl Qh u)) else some (.inr q)):Zn body fin L 0 s=if ((L.flatMap g).foldl Qh s).1.length≤60 then fin ((L.flatMap g).foldl Qh s) else some q:=by
 have h0:s=(([]:List α).flatMap g).foldl Qh s:=rfl
 conv=>lhs;rw [h0]
 rw [Zka (fun p=>(p.flatMap g).foldl Qh s) (fun p=>((p.flatMap g).foldl Qh s).1.length≤60) q L (by simpa using hl) (fun p c e h=>by
  rw [e,Ak,AO] at h
  exact AN (ZhW _ _).1 h)]
 intro p x c e h60
 have h2:=(Zc3 (p.flatMap g) s).2 hs
 rw [hb _ _ _ (by rw [e];simp) h60 h2,Ak,AO]
 simp
end
def noB:Zu:={ nodes:=0,reasons:=[] }
def ZnY (r:Zf) (t:Zt):Zac:={ rule:=r.name,facts:=t.facts }
def Zo5 (r:Zf) (t:Zt):Xd:={ rule:=r.name,token:=t }
def noI:Zac:={ rule:=⟨#[]⟩,facts:=[] }
def noS:Xd:={ rule:=⟨#[]⟩,token:={ facts:=[],binding:=[] } }
def Zqe {β:Type} (F:List Zd) (g:List Zg × List β):List Zd × Zu × List β × Bool:=if 60<g.1.length then ([],noB,[],false) else (F,{ nodes:=((F.length:Nat):Int),reasons:=g.1 },g.2,true)
structure Yu (R:List Zf) (base F:List Zd):Prop where
 logical:(Yn R&&R.all (YN R))=true
 facts:Yw base=true
 good:Zer R base F
 len:F.length≤24
 closed:Zhq R F
theorem Yu.rule {R:List Zf} {base F:List Zd} (h:Yu R base F) {r:Zf} (mr:r∈R):ZU r=true∧r.cond.length≤4∧r.thn.length≤2:=by
 have h1:=h.logical
 rw [A3] at h1
 have h2:=A8.1 h1.2 r mr
 unfold YN at h2
 rw [A3] at h2
 have h3:=h2.1
 unfold ZU at h3
 simp only[A3] at h3
 exact ⟨h2.1,ZbZ h3.1.1⟩
theorem Yu.toks {R:List Zf} {base F:List Zd} (h:Yu R base F) {r:Zf} (mr:r∈R):(ZM (QZ r) F).length≤331776:=ZeI F h.len (QZ r) (by have:=Zc9 r;have:=(h.rule mr).2.1;omega)
theorem Yu.tokS {R:List Zf} {base F:List Zd} (h:Yu R base F) {r:Zf} (mr:r∈R) {t:Zt} (mt:t∈ZM (QZ r) F):ZtD F t:=(Zec F _ t mt).s (by have:=Zc9 r;have:=(h.rule mr).2.1;omega) fun f mf=>Xg (h.good.ok f mf)
theorem Zpu {R:List Zf} {base F:List Zd} (h:Yu R base F) (hp:Yf R base=some (F,true)):ZaJ R base=some (Zqe F (Zad ZnY F noI R base)):=by
 have h6:R.length≤6:=by have:=h.logical;rw [A3] at this;exact (ZhO this.1).1
 have hb24:=(Zds h.facts).1
 unfold ZaJ
 rw [hp,A0,if_pos rfl,ZmP (F:=F) (z:=noI) (by omega)]
 ·show Zn _ _ R 0 (ZcB F base,base.map fun _=>noI)=_
  rw [Ztu (g:=Zkd ZnY F) (N:=663552) (M:=90000000)]
  ·show (if decide (60<(((Zad ZnY F noI R base).1.length:Nat):Int))=true then _ else _)=_
   unfold Zqe
   by_cases h60:60<(Zad ZnY F noI R base).1.length
   ·rw [if_pos (decide_eq_true (by omega)),if_pos h60]
    rfl
   ·rw [if_neg (fun h=>h60 (by have:=of_decide_eq_true h;omega)),if_neg h60]
    rfl
  ·intro r mr
   obtain ⟨_,_,h2⟩:=h.rule mr
   have h3:=h.toks mr
   have:=Zld (l:=ZM (QZ r) F) (g:=ZlN ZnY F r) (N:=2) fun x _=>by rw [Zom];omega
   unfold Zkd
   omega
  ·simp only[ZcB,AU];omega
  ·simp [ZcB]
  ·intro i r u mr hu hu2
   obtain ⟨c,d⟩:=u
   obtain ⟨_,h1,h2⟩:=h.rule mr
   have h3:=h.toks mr
   simp only at hu hu2
   show (YA r).bind _=_
   rw [Zbd r (by omega),A0,ZgN _ _ (by have:=Zc9 r;omega) h.len (fun f mf=>Xg (h.good.ok f mf)),A0,Ztu (g:=ZlN ZnY F r) (N:=2) (M:=99999998)]
   ·rfl
   ·intro t mt
    rw [Zom]
    exact h2
   ·simp only;omega
   ·exact hu2
   ·intro j t v mt hv hv2
    obtain ⟨c2,d2⟩:=v
    simp only at hv hv2
    have ht:=h.tokS mr mt
    have hl:=ht.len
    have ha:=Zkb r t
    show Zn _ _ r.cond 0 []=_
    rw [Zo4 (t:=t) (by omega) (fun i x row hrow=>by rw [ZdQ,A0,Zi _ (by omega)])]
    rw [ZwL (o:=ZnY) (F:=F) (t:=t) h2 (s:=(c2,d2)) hv hv2]
    ·intro k a x y hx hy
     show (XZ a.pattern t.binding).bind _=_
     rw [ZdQ,A0,ZbE,A0,Zhr _ _ (by omega),A0,Zhr _ _ (by omega),A0]
     show (ZaA x (Z6 F r t a)).bind _=_
     rw [Zkv,A0]
     by_cases hm:Z6 F r t a∈x
     ·rw [if_pos (decide_eq_true hm),if_pos (decide_eq_true hm)]
     ·rw [if_neg (by simpa using hm),if_neg (by simpa using hm),Zi _ (by omega),Zi _ (by omega)]
      rfl
 ·intro i f a b ha hb
  show (Z8 F f).bind _=_
  rw [ZbE,A0,Zi _ (by omega),Zi _ (by omega)]
  rfl
theorem Zpt {R:List Zf} {base F:List Zd} (h:Yu R base F) (hp:Yg R base=some (F,true)):Xl R base=some (Zqe F (Zad Zo5 F noS R base)):=by
 have h6:R.length≤6:=by have:=h.logical;rw [A3] at this;exact (ZhO this.1).1
 have hb24:=(Zds h.facts).1
 unfold Xl
 rw [hp,A0,if_pos rfl,ZmP (F:=F) (z:=noS) (by omega)]
 ·show Zn _ _ R 0 (ZcB F base,base.map fun _=>noS)=_
  rw [Zte (g:=Zkd Zo5 F) (q:=([],noB,[],false))]
  ·show (if (Zad Zo5 F noS R base).1.length≤60 then _ else _)=_
   unfold Zqe
   by_cases h60:60<(Zad Zo5 F noS R base).1.length
   ·rw [if_neg (by omega),if_pos h60]
   ·rw [if_pos (by omega),if_neg h60]
    rfl
  ·simp only[ZcB,AU];omega
  ·simp [ZcB]
  ·intro i r u mr hu hu2
   obtain ⟨c,d⟩:=u
   obtain ⟨_,h1,h2⟩:=h.rule mr
   simp only at hu hu2
   show (Xv r).bind _=_
   rw [Zef r (by omega),A0,ZgX _ _ (by have:=Zc9 r;omega) h.len (fun f mf=>Xg (h.good.ok f mf)),A0,Zte (g:=ZlN Zo5 F r) (q:=.inr ([],noB,[],false)) (s:=(c,d)) hu hu2]
   ·rfl
   ·intro j t v mt hv hv2
    obtain ⟨c2,d2⟩:=v
    simp only at hv hv2
    have ht:=h.tokS mr mt
    show Zn _ _ r.thn 0 (c2,d2)=_
    rw [ZyC (o:=Zo5) (F:=F) (t:=t) (q:=.inr (.inr ([],noB,[],false))) (s:=(c2,d2)) hv hv2]
    ·intro k a x y ha hx hy
     show (ZaD r ((k:Nat):Int) t F).bind _=_
     rw [ZjS h1 ht ha,A0]
     obtain ⟨z,hz,hz2⟩:=Znu x (Z6 F r t a)
     rw [hz,A0]
     by_cases hm:Z6 F r t a∈x
     ·rw [if_pos (by simpa using hz2.2 hm),if_pos hm]
     ·rw [if_neg (by simpa using fun h0=>hm (hz2.1 h0)),if_neg hm]
      by_cases h60:60≤x.length
      ·rw [if_pos (by simp;omega),if_pos h60]
       rfl
      ·rw [if_neg (by simp;omega),if_neg h60,Zi _ (by omega),Zi _ (by omega)]
       rfl
 ·intro i f a b ha hb
  show (Ql F f).bind _=_
  rw [Zbw,A0,Zi _ (by omega),Zi _ (by omega)]
  rfl
theorem ZpC {R:List Zf} (hR:ZbC R) (base:List Zd) (hb20:base.length≤1048576):(ZaJ R base=some ([],noB,[],false)∧Xl R base=some ([],noB,[],false))∨∃F,Yu R base F∧ZaJ R base=some (Zqe F (Zad ZnY F noI R base))∧Xl R base=some (Zqe F (Zad Zo5 F noS R base)):=by
 obtain ⟨⟨F,b⟩,h1,h2,h3⟩:=Zhe hR base hb20
 have no:b=false→(ZaJ R base=some ([],noB,[],false)∧Xl R base=some ([],noB,[],false)):=fun e=>by
  subst e
  unfold ZaJ Xl
  rw [h1,h2]
  exact ⟨rfl,rfl⟩
 rcases h3 with h3 | ⟨h3,h4,⟨h5,h6,h7,h8⟩ | ⟨h5,_⟩⟩
 ·simp only[Prod.mk.injEq] at h3
  exact .inl (no h3.2)
 ·simp only at h5
  subst h5
  have hG:Yu R base F:=⟨h3,h4,h6,h7,h8⟩
  exact .inr ⟨F,hG,Zpu hG h2,Zpt hG h1⟩
 ·exact .inl (no h5)
def Zvz (R:List Zf) (base F:List Zd) (b:Zu) (ok:Bool):Prop:=(ok=false∧F=[]∧b=noB)∨(ok=true∧Yu R base F∧b={ nodes:=((F.length:Nat):Int),reasons:=YJ R F base }∧(YJ R F base).length≤60)
theorem Zhb {R:List Zf} (hR:ZbC R) (base:List Zd) (hb20:base.length≤1048576):∃F b ok,Xe R base=some (F,b,ok)∧X4 R base=some (F,b,ok)∧Zvz R base F b ok:=by
 unfold Xe X4
 rcases ZpC hR base hb20 with ⟨h1,h2⟩ | ⟨F,hG,h1,h2⟩
 ·rw [h1,h2]
  exact ⟨_,_,_,rfl,rfl,.inl ⟨rfl,rfl,rfl⟩⟩
 ·obtain ⟨e1,_⟩:=Zi7 ZnY F noI R base
  obtain ⟨e2,_⟩:=Zi7 Zo5 F noS R base
  rw [h1,h2]
  unfold Zqe
  rw [e1,e2]
  by_cases h60:60<(YJ R F base).length
  ·rw [if_pos h60,if_pos h60]
   exact ⟨_,_,_,rfl,rfl,.inl ⟨rfl,rfl,rfl⟩⟩
  ·rw [if_neg h60,if_neg h60]
   exact ⟨_,_,_,rfl,rfl,.inr ⟨rfl,hG,rfl,Nat.le_of_not_lt h60⟩⟩
theorem Zpe {r:Zg}:∀{c l:List Zg},r∈c.foldl ZiI l↔r∈l∨r∈c
 | [],l=>by simp
 | x::c,l=>by
  rw [AQ,Zpe]
  have:r∈ZiI l x↔r∈l∨r=x:=by
   unfold ZiI
   split
   ·rename_i h
    exact ⟨.inl,fun h'=>h'.elim id fun e=>e ▸ h⟩
   ·simp
  rw [this,A5,or_assoc]
theorem ZjN {R:List Zf} {F base:List Zd} {x:Zg}:x∈YJ R F base↔(∃f∈base,x={ for_:=Z9 F f,inn:=[],outs:=[] })∨∃r∈R,∃t∈ZM (QZ r) F,∃a∈r.thn,x=Z6 F r t a:=by
 unfold YJ
 rw [Zpe]
 constructor
 ·rintro (h | h)
  ·obtain ⟨f,mf,e⟩:=Ac.1 h
   exact .inl ⟨f,mf,e.symm⟩
  ·obtain ⟨r,mr,h⟩:=AL.1 h
   obtain ⟨t,mt,h⟩:=AL.1 h
   obtain ⟨a,ma,e⟩:=Ac.1 h
   exact .inr ⟨r,mr,t,mt,a,ma,e.symm⟩
 ·rintro (⟨f,mf,e⟩ | ⟨r,mr,t,mt,a,ma,e⟩)
  ·exact .inl (Ac.2 ⟨f,mf,e.symm⟩)
  ·exact .inr (AL.2 ⟨r,mr,AL.2 ⟨t,mt,Ac.2 ⟨a,ma,e.symm⟩⟩⟩)
theorem ZnG {R:List Zf} {base F:List Zd} (h:Yu R base F) {x:Zg} (mx:x∈YJ R F base):x.inn.length≤4∧x.outs.length≤4:=by
 rcases ZjN.1 mx with ⟨f,_,rfl⟩ | ⟨r,mr,t,mt,a,_,rfl⟩
 ·exact ⟨Al _,Al _⟩
 ·have h1:=(h.tokS mr mt).len
  have h2:=Zkb r t
  have h3:=(h.rule mr).2.1
  exact ⟨AN (XN F t.facts).2.2 h1,AN (XN F (Zqu r t)).2.2 (by omega)⟩
end
section
open Classical
def mx (a b:Int):Int:=if a<b then b else a
theorem ZvW (a b:Int):a≤mx a b∧b≤mx a b:=by unfold mx;split<;>omega
theorem ZvU {a b c:Int} (h1:a≤c) (h2:b≤c):mx a b≤c:=by unfold mx;split<;>omega
theorem Zqf (g:Int→Int):∀(l:List Int) (m:Int),m≤l.foldl (fun m y=>mx m (g y)) m∧∀y∈l,g y≤l.foldl (fun m y=>mx m (g y)) m
 | [],m=>⟨AF _,by simp⟩
 | x::l,m=>by
  obtain ⟨h1,h2⟩:=Zqf g l (mx m (g x))
  have h3:=ZvW m (g x)
  refine ⟨by rw [AQ];omega,fun y my=>?_⟩
  rw [AQ]
  rcases A5.1 my with rfl | my
  ·omega
  ·exact h2 y my
theorem Zqs {g:Int→Int} {T:Int}:∀{l:List Int} {m:Int},m≤T→(∀y∈l,g y≤T)→l.foldl (fun m y=>mx m (g y)) m≤T
 | [],_,h,_=>h
 | x::l,m,h,hl=>Zqs (l:=l) (ZvU h (hl x (by simp))) fun y my=>hl y (by simp [my])
def OkN (n:Nat) (r:Zg):Prop:=(0≤r.for_∧r.for_.toNat<n)∧(∀y∈r.inn,0≤y∧y.toNat<n)∧∀y∈r.outs,0≤y∧y.toNat<n
def lvN (row:List Int) (i:Nat):Int:=(row[i]?).getD 0
theorem Zh1 (row:List Int) (i j:Nat) (v:Int):lvN (row.set i v) j=if j=i∧i<row.length then v else lvN row j:=by
 unfold lvN
 rw [Ad]
 by_cases h:i=j
 ·subst h
  by_cases h2:i<row.length
  ·simp [h2]
  ·simp [h2]
 ·have:¬j=i:=fun e=>h e.symm
  simp [h,this]
theorem ZjC {a b:List Int} (hl:a.length=b.length) (h:∀i,i<a.length→lvN a i=lvN b i):a=b:=by
 apply Ax
 intro i
 by_cases hi:i<a.length
 ·have:=h i hi
  unfold lvN at this
  rw [A6 hi,A6 (by omega)] at this ⊢
  simpa using this
 ·rw [AE (by omega),AE (by omega)]
def Zg9 (row:List Int) (r:Zg):Int:=r.outs.foldl (fun m y=>mx m (lvN row y.toNat+1)) (r.inn.foldl (fun m y=>mx m (lvN row y.toNat)) (lvN row r.for_.toNat))
theorem Znq (row:List Int) (r:Zg):lvN row r.for_.toNat≤Zg9 row r∧(∀y∈r.inn,lvN row y.toNat≤Zg9 row r)∧∀y∈r.outs,lvN row y.toNat+1≤Zg9 row r:=by
 obtain ⟨h1,h2⟩:=Zqf (fun y=>lvN row y.toNat) r.inn (lvN row r.for_.toNat)
 obtain ⟨h3,h4⟩:=Zqf (fun y=>lvN row y.toNat+1) r.outs (r.inn.foldl (fun m y=>mx m (lvN row y.toNat)) (lvN row r.for_.toNat))
 exact ⟨AG h1 h3,fun y my=>AG (h2 y my) h3,h4⟩
theorem ZuL {row:List Int} {r:Zg} {T:Int} (h1:lvN row r.for_.toNat≤T) (h2:∀y∈r.inn,lvN row y.toNat≤T) (h3:∀y∈r.outs,lvN row y.toNat+1≤T):Zg9 row r≤T:=
 Zqs (g:=fun y=>lvN row y.toNat+1) (Zqs (g:=fun y=>lvN row y.toNat) h1 h2) h3
def X2 (row:List Int) (r:Zg):List Int:=row.set r.for_.toNat (Zg9 row r)
def X9 (R:List Zg) (row:List Int):List Int:=R.foldl X2 row
theorem Zd7 (row:List Int) (r:Zg):(X2 row r).length=row.length:=by simp [X2]
theorem Zii:∀(R:List Zg) (row:List Int),(X9 R row).length=row.length
 | [],_=>rfl
 | r::R,row=>(Zii R (X2 row r)).trans (Zd7 row r)
theorem Zif (row:List Int) (r:Zg) (i:Nat):lvN row i≤lvN (X2 row r) i:=by
 unfold X2
 rw [Zh1]
 split
 ·rename_i h
  rw [h.1]
  exact (Znq row r).1
 ·exact AF _
theorem ZdY:∀(R:List Zg) (row:List Int) (i:Nat),lvN row i≤lvN (X9 R row) i
 | [],_,_=>AF _
 | r::R,row,i=>AG (Zif row r i) (ZdY R (X2 row r) i)
theorem Zlb {row:List Int} {r:Zg} (h:¬lvN row r.for_.toNat<Zg9 row r):X2 row r=row:=by
 have e:Zg9 row r=lvN row r.for_.toNat:=by have:=(Znq row r).1;omega
 refine ZjC (Zd7 row r) fun i _=>?_
 unfold X2
 rw [Zh1]
 split
 ·rename_i h;rw [h.1,e]
 ·rfl
structure Zjk (R:List Zg) (t:Nat→Int):Prop where
 pos:∀i,0≤t i
 inn:∀r∈R,∀y∈r.inn,t y.toNat≤t r.for_.toNat
 outs:∀r∈R,∀y∈r.outs,t y.toNat+1≤t r.for_.toNat
theorem ZoI {R:List Zg} {t:Nat→Int} (ht:Zjk R t) {r:Zg} (mr:r∈R) {row:List Int} (h:∀i,lvN row i≤t i) (i:Nat):lvN (X2 row r) i≤t i:=by
 unfold X2
 rw [Zh1]
 split
 ·rename_i hi
  rw [hi.1]
  exact ZuL (h _) (fun y my=>AG (h _) (ht.inn r mr y my)) fun y my=>by have:=h y.toNat;have:=ht.outs r mr y my;omega
 ·exact h i
theorem Zh5 {R:List Zg} {t:Nat→Int} (ht:Zjk R t):∀{l:List Zg},(∀r∈l,r∈R)→∀{row:List Int},(∀i,lvN row i≤t i)→∀i,lvN (X9 l row) i≤t i
 | [],_,_,h=>h
 | r::l,hl,row,h=>Zh5 ht (l:=l) (fun x mx=>hl x (by simp [mx])) (ZoI ht (hl r (by simp)) h)
theorem Zgt {n:Nat}:∀{R:List Zg} {row:List Int},row.length=n→(∀r∈R,OkN n r)→∀r∈R,(∀y∈r.inn,lvN row y.toNat≤lvN (X9 R row) r.for_.toNat)∧∀y∈r.outs,lvN row y.toNat+1≤lvN (X9 R row) r.for_.toNat
 | [],_,_,_,r,mr=>by simp at mr
 | q::R,row,hl,hR,r,mr=>by
  have hs:=ZdY R (X2 row q)
  show (∀y∈r.inn,lvN row y.toNat≤lvN (X9 R (X2 row q)) r.for_.toNat)∧∀y∈r.outs,lvN row y.toNat+1≤lvN (X9 R (X2 row q)) r.for_.toNat
  rcases A5.1 mr with rfl | mr
  ·have h0:=(hR r (by simp)).1.2
   have e:lvN (X2 row r) r.for_.toNat=Zg9 row r:=by
    unfold X2
    rw [Zh1,if_pos ⟨rfl,by omega⟩]
   have h1:=hs r.for_.toNat
   rw [e] at h1
   obtain ⟨_,h2,h3⟩:=Znq row r
   exact ⟨fun y my=>AG (h2 y my) h1,fun y my=>AG (h3 y my) h1⟩
  ·obtain ⟨h2,h3⟩:=Zgt (n:=n) (R:=R) (row:=X2 row q) (by rw [Zd7,hl]) (fun x mx=>hR x (by simp [mx])) r mr
   refine ⟨fun y my=>AG (Zif row q _) (h2 y my),fun y my=>?_⟩
   have:=Zif row q y.toNat
   have:=h3 y my
   omega
structure ZaZ (n:Nat) (R:List Zg) (L:List Int):Prop where
 len:L.length=n
 sol:Zjk R (lvN L)
 least:∀t,Zjk R t→∀i,lvN L i≤t i
theorem ZaZ.uniq {n:Nat} {R:List Zg} {L M:List Int} (h:ZaZ n R L) (k:ZaZ n R M):L=M:=
 ZjC (h.len.trans k.len.symm) fun i _=>BB (h.least _ k.sol i) (k.least _ h.sol i)
theorem ZrO {n:Nat} {R:List Zg} {row:List Int} (hl:row.length=n) (hR:∀r∈R,OkN n r) (h0:∀i,0≤lvN row i) (hle:∀t,Zjk R t→∀i,lvN row i≤t i) (h:X9 R row=row):ZaZ n R row:=by
 have:=Zgt hl hR
 rw [h] at this
 exact ⟨hl,⟨h0,fun r mr=>(this r mr).1,fun r mr=>(this r mr).2⟩,hle⟩
noncomputable def ZnE (n:Nat) (L row:List Int):Nat:=(AA n).countP fun i=>decide (¬lvN row i=lvN L i)
theorem ZpY {n:Nat} {R:List Zg} {L row:List Int} (hL:ZaZ n R L) (hl:row.length=n) (hR:∀r∈R,OkN n r) (h0:∀i,0≤lvN row i) (hle:∀i,lvN row i≤lvN L i):ZnE n L row=0∨ZnE n L (X9 R row)+1≤ZnE n L row:=by
 have hs:=Zh5 hL.sol (l:=R) (fun _ h=>h) hle
 have hge:=ZdY R row
 by_cases hz:∃i,i<n∧¬lvN row i=lvN L i∧lvN (X9 R row) i=lvN L i
 ·right
  obtain ⟨i,hi,h1,h2⟩:=hz
  refine Zeb (fun j _ hj=>?_) i (Ae.2 hi) (by simpa using h2) (by simpa using h1)
  simp only[decide_eq_true_eq] at hj ⊢
  intro e
  have:=hs j
  have:=hge j
  omega
 ·left
  have hno:∀i,i<n→¬lvN row i=lvN L i→lvN (X9 R row) i≤lvN L i - 1:=fun i hi h1=>by
   have h2:¬lvN (X9 R row) i=lvN L i:=fun h=>hz ⟨i,hi,h1,h⟩
   have:=hs i
   omega
  let t:Nat→Int:=fun i=>if i<n∧¬lvN row i=lvN L i then lvN L i - 1 else lvN L i
  have tle:∀i,t i≤lvN L i:=fun i=>by simp only[t];split<;>omega
  have key:∀(x y:Nat) (d:Int),0≤d→x<n→lvN L y+d≤lvN L x→lvN row y+d≤lvN (X9 R row) x→t y+d≤t x:=fun x y d hd hx h1 h2=>by
   by_cases hA:x<n∧¬lvN row x=lvN L x
   ·have e:t x=lvN L x - 1:=if_pos hA
    have h3:=hno x hA.1 hA.2
    by_cases hB:y<n∧¬lvN row y=lvN L y
    ·have e2:t y=lvN L y - 1:=if_pos hB
     omega
    ·have e2:t y=lvN L y:=if_neg hB
     by_cases hy:y<n
     ·have h4:lvN row y=lvN L y:=Classical.byContradiction fun h=>hB ⟨hy,h⟩
      omega
     ·have h4:lvN row y=0:=by unfold lvN;rw [AE (by omega)];rfl
      have h5:lvN L y=0:=by unfold lvN;rw [AE (by rw [hL.len];omega)];rfl
      omega
   ·have e:t x=lvN L x:=if_neg hA
    have:=tle y
    omega
  have ht:Zjk R t:=⟨fun i=>by
   simp only[t]
   split
   ·rename_i h
    have:=h0 i;have:=hle i;have:=h.2
    omega
   ·exact hL.sol.pos i,fun r mr y my=>by
    have h1:=hL.sol.inn r mr y my
    have h2:=(Zgt hl hR r mr).1 y my
    have:=key r.for_.toNat y.toNat 0 (AF _) (hR r mr).1.2 (by omega) (by omega)
    omega,fun r mr y my=>key r.for_.toNat y.toNat 1 (by omega) (hR r mr).1.2 (hL.sol.outs r mr y my) ((Zgt hl hR r mr).2 y my)⟩
  unfold ZnE
  rw [BC]
  intro i hi
  simp only[decide_eq_true_eq,Classical.not_not]
  refine Classical.byContradiction fun h=>?_
  have h1:=hL.least t ht i
  have e:t i=lvN L i - 1:=if_pos ⟨Ae.1 hi,h⟩
  omega
def Zr8 (R:List Zg) (x y:Int):Prop:=∃r∈R,r.for_=x∧(y∈r.inn∨y∈r.outs)
inductive ZdN (R:List Zg) (x:Int):Int→Prop
 | one {y:Int}:Zr8 R x y→ZdN R x y
 | step {y z:Int}:ZdN R x y→Zr8 R y z→ZdN R x z
theorem ZdN.head {R:List Zg} {x y z:Int} (h:Zr8 R x y) (k:ZdN R y z):ZdN R x z:=by
 induction k with
 | one h1=>exact .step (.one h) h1
 | step _ h1 ih=>exact .step ih h1
def Zni (R:List Zg):Prop:=∀r∈R,∀y∈r.outs,y≠r.for_∧¬ZdN R y r.for_
noncomputable def Zgr (n:Nat) (R:List Zg) (i:Nat):Int:=if i<n then (((AA n).countP fun j=>decide (j=i∨ZdN R ((i:Nat):Int) ((j:Nat):Int)):Nat):Int) - 1 else 0
theorem Zmo {α:Type} {p q:α→Bool}:∀{l:List α},(∀x∈l,p x=true→q x=true)→l.countP p≤l.countP q
 | [],_=>AC _
 | x::l,h=>by
  have ih:=Zmo (l:=l) fun y my=>h y (by simp [my])
  have hx:=h x (by simp)
  simp only[AX]
  cases hp:p x with
  | true=>rw [hx hp];simpa using ih
  | false=>simp;omega
theorem Zp9 {n:Nat} {R:List Zg} (hR:∀r∈R,OkN n r) (hS:Zni R):Zjk R (Zgr n R)∧∀i,Zgr n R i<n∨Zgr n R i=0:=by
 have hx:∀i,i<n→Zgr n R i=(((AA n).countP fun j=>decide (j=i∨ZdN R ((i:Nat):Int) ((j:Nat):Int)):Nat):Int) - 1:=fun i hi=>if_pos hi
 refine ⟨⟨fun i=>?_,fun r mr y my=>?_,fun r mr y my=>?_⟩,fun i=>?_⟩
 ·by_cases hi:i<n
  ·rw [hx i hi]
   have:0<(AA n).countP fun j=>decide (j=i∨ZdN R ((i:Nat):Int) ((j:Nat):Int)):=List.countP_pos_iff.2 ⟨i,Ae.2 hi,by simp⟩
   omega
  ·unfold Zgr;rw [if_neg hi];exact AF _
 ·obtain ⟨⟨f0,f1⟩,f2,_⟩:=hR r mr
  obtain ⟨y0,y1⟩:=f2 y my
  rw [hx _ y1,hx _ f1]
  have ey:((y.toNat:Nat):Int)=y:=AW y0
  have ef:((r.for_.toNat:Nat):Int)=r.for_:=AW f0
  have hd:Zr8 R r.for_ y:=⟨r,mr,rfl,.inl my⟩
  have:=Zmo (l:=AA n) (p:=fun j=>decide (j=y.toNat∨ZdN R ((y.toNat:Nat):Int) ((j:Nat):Int))) (q:=fun j=>decide (j=r.for_.toNat∨ZdN R ((r.for_.toNat:Nat):Int) ((j:Nat):Int))) (fun j _ hj=>by
   simp only[decide_eq_true_eq,ey,ef] at hj ⊢
   rcases hj with rfl | hj
   ·exact .inr (by rw [ey];exact .one hd)
   ·exact .inr (.head hd hj))
  omega
 ·obtain ⟨⟨f0,f1⟩,_,f3⟩:=hR r mr
  obtain ⟨y0,y1⟩:=f3 y my
  rw [hx _ y1,hx _ f1]
  have ey:((y.toNat:Nat):Int)=y:=AW y0
  have ef:((r.for_.toNat:Nat):Int)=r.for_:=AW f0
  have hd:Zr8 R r.for_ y:=⟨r,mr,rfl,.inr my⟩
  obtain ⟨s1,s2⟩:=hS r mr y my
  have:=Zeb (l:=AA n) (p:=fun j=>decide (j=y.toNat∨ZdN R ((y.toNat:Nat):Int) ((j:Nat):Int))) (q:=fun j=>decide (j=r.for_.toNat∨ZdN R ((r.for_.toNat:Nat):Int) ((j:Nat):Int))) (fun j _ hj=>by
   simp only[decide_eq_true_eq,ey,ef] at hj ⊢
   rcases hj with rfl | hj
   ·exact .inr (by rw [ey];exact .one hd)
   ·exact .inr (.head hd hj)) r.for_.toNat (Ae.2 f1) (by
    simp only[decide_eq_false_iff_not,ey,ef,not_or]
    exact ⟨fun e=>s1 (by rw [←ey,←ef,e]),s2⟩) (by simp)
  omega
 ·by_cases hi:i<n
  ·left
   rw [hx i hi]
   have:=AZ (p:=fun j=>decide (j=i∨ZdN R ((i:Nat):Int) ((j:Nat):Int))) (l:=AA n)
   rw [BD] at this
   omega
  ·right;unfold Zgr;rw [if_neg hi]
end
section
open Classical
def rdN (row:List Int) (y:Int):Int:=(row[y.toNat]?).getD (-1)
def Zmr (row:List Int) (k:Nat) (r:Zg):Prop:=(∀y∈r.inn,0≤rdN row y∧rdN row y<((k:Nat):Int))∧∀y∈r.outs,rdN row y<0
def ZjJ (row l:List Int) (k:Int):List Int:=l.foldl (fun s x=>s.set x.toNat k) row
theorem Zpl (k:Int):∀(l row:List Int),(ZjJ row l k).length=row.length
 | [],_=>rfl
 | x::l,row=>(Zpl k l (row.set x.toNat k)).trans (by simp)
theorem Zq7 (k:Int):∀(l row:List Int) (i:Nat),(ZjJ row l k)[i]?=if (∃x∈l,x.toNat=i)∧i<row.length then some k else row[i]?
 | [],row,i=>by simp [ZjJ]
 | x::l,row,i=>by
  have ih:=Zq7 k l (row.set x.toNat k) i
  show (ZjJ (row.set x.toNat k) l k)[i]?=_
  rw [ih,BE,Ad]
  by_cases h2:i<row.length
  ·by_cases h1:∃y∈l,y.toNat=i
   ·have:∃y∈x::l,y.toNat=i:=by obtain ⟨y,m,e⟩:=h1;exact ⟨y,by simp [m],e⟩
    rw [if_pos ⟨h1,h2⟩,if_pos ⟨this,h2⟩]
   ·rw [if_neg (fun h=>h1 h.1)]
    by_cases h3:x.toNat=i
    ·rw [if_pos h3,if_pos (by omega),if_pos ⟨⟨x,by simp,h3⟩,h2⟩]
    ·rw [if_neg h3,if_neg]
     rintro ⟨⟨y,m,e⟩,_⟩
     rcases A5.1 m with rfl | m
     ·exact h3 e
     ·exact h1 ⟨y,m,e⟩
  ·have e:row[i]?=none:=AE (by omega)
   by_cases h3:x.toNat=i
   ·have:¬x.toNat<row.length:=by omega
    simp [h2,e,h3]
   ·simp [h2,e,h3]
def Ze8 (row:List Int):Nat:=row.countP fun v=>decide (v<0)
theorem Zk6 {k:Int} (hk:0≤k):∀(row:List Int) (i:Nat),Ze8 (row.set i k)≤Ze8 row∧(∀v,row[i]?=some v→v<0→Ze8 (row.set i k)+1≤Ze8 row)
 | [],i=>by simp [Ze8]
 | v::row,0=>by
  simp only[List.set_cons_zero,Ze8,AX]
  have:¬k<0:=by omega
  refine ⟨by simp [this],fun u hu hn=>?_⟩
  simp at hu;subst hu
  simp [this,hn]
 | v::row,i+1=>by
  obtain ⟨h1,h2⟩:=Zk6 hk row i
  simp only[List.set_cons_succ,Ze8,AX] at *
  refine ⟨by omega,fun u hu hn=>?_⟩
  have:=h2 u (by simpa using hu) hn
  omega
theorem ZmI {k:Int} (hk:0≤k):∀(l row:List Int),Ze8 (ZjJ row l k)≤Ze8 row
 | [],_=>AC _
 | x::l,row=>AN (ZmI hk l (row.set x.toNat k)) (Zk6 hk row _).1
noncomputable def Q2 (R:List Zg) (L:List Int) (s:Int) (row:List Int) (k:Nat):List Int:=R.filterMap fun r=>if lvN L r.for_.toNat=s∧rdN row r.for_<0∧Zmr row k r then some r.for_ else none
theorem ZiD {R:List Zg} {L:List Int} {s:Int} {row:List Int} {k:Nat} {x:Int}:x∈Q2 R L s row k↔∃r∈R,r.for_=x∧lvN L x.toNat=s∧rdN row x<0∧Zmr row k r:=by
 unfold Q2
 rw [AT]
 constructor
 ·rintro ⟨r,mr,h⟩
  split at h
  ·rename_i hc
   obtain rfl:=Ar h
   exact ⟨r,mr,rfl,hc⟩
  ·simp at h
 ·rintro ⟨r,mr,rfl,h⟩
  exact ⟨r,mr,by rw [if_pos h]⟩
structure RIn (n:Nat) (row:List Int) (k:Nat):Prop where
 len:row.length=n
 val:∀i,i<n→∃v,row[i]?=some v∧(v=-1∨(0≤v∧v<((k:Nat):Int)))
 few:k+Ze8 row≤n
theorem RIn.next {n:Nat} {R:List Zg} {L row:List Int} {s:Int} {k:Nat} (hR:∀r∈R,OkN n r) (h:RIn n row k) (hc:Q2 R L s row k≠[]):RIn n (ZjJ row (Q2 R L s row k) ((k:Nat):Int)) (k+1)∧Ze8 (ZjJ row (Q2 R L s row k) ((k:Nat):Int))+1≤Ze8 row:=by
 have hd:Ze8 (ZjJ row (Q2 R L s row k) ((k:Nat):Int))+1≤Ze8 row:=by
  cases e:Q2 R L s row k with
  | nil=>exact absurd e hc
  | cons x l=>
   have mx:x∈Q2 R L s row k:=by rw [e];simp
   obtain ⟨r,mr,rfl,_,h2,_⟩:=ZiD.1 mx
   obtain ⟨v,hv,_⟩:=h.val r.for_.toNat (hR r mr).1.2
   have h3:v<0:=by unfold rdN at h2;rw [hv] at h2;exact h2
   have h4:=(Zk6 (k:=((k:Nat):Int)) (by omega) row r.for_.toNat).2 v hv h3
   have h5:=ZmI (k:=((k:Nat):Int)) (by omega) l (row.set r.for_.toNat ((k:Nat):Int))
   exact AN (Nat.succ_le_succ h5) h4
 refine ⟨⟨by rw [Zpl,h.len],fun i hi=>?_,by have:=h.few;omega⟩,hd⟩
 rw [Zq7]
 obtain ⟨v,hv,hv2⟩:=h.val i hi
 split
 ·exact ⟨_,rfl,.inr ⟨by omega,by omega⟩⟩
 ·refine ⟨v,hv,?_⟩
  rcases hv2 with hv2 | ⟨h1,h2⟩
  ·exact .inl hv2
  ·exact .inr ⟨h1,by omega⟩
noncomputable def Zbr (R:List Zg) (L:List Int) (s:Int):Nat→List Int→Nat→List Int × Nat
 | 0,row,k=>(row,k)
 | f+1,row,k=>if Q2 R L s row k=[] then (row,k) else Zbr R L s f (ZjJ row (Q2 R L s row k) ((k:Nat):Int)) (k+1)
theorem Zhk {n:Nat} {R:List Zg} {L:List Int} {s:Int} (hR:∀r∈R,OkN n r):∀(f:Nat) (row:List Int) (k:Nat),RIn n row k→Ze8 row≤f→RIn n (Zbr R L s f row k).1 (Zbr R L s f row k).2∧Q2 R L s (Zbr R L s f row k).1 (Zbr R L s f row k).2=[]
 | 0,row,k,h,hf=>by
  refine ⟨h,Classical.byContradiction fun hc=>?_⟩
  have:=(h.next hR hc).2
  omega
 | f+1,row,k,h,hf=>by
  unfold Zbr
  by_cases hc:Q2 R L s row k=[]
  ·rw [if_pos hc];exact ⟨h,hc⟩
  ·rw [if_neg hc]
   obtain ⟨h1,h2⟩:=h.next hR hc
   exact Zhk hR f _ _ h1 (by omega)
theorem ZsG {R:List Zg} {L:List Int} {s:Int} (hs:∀r∈R,¬lvN L r.for_.toNat=s) (f:Nat) (row:List Int) (k:Nat):Zbr R L s f row k=(row,k):=by
 cases f with
 | zero=>rfl
 | succ f=>
  unfold Zbr
  rw [if_pos]
  rw [List.eq_nil_iff_forall_not_mem]
  intro x mx
  obtain ⟨r,mr,rfl,h,_⟩:=ZiD.1 mx
  exact hs r mr h
noncomputable def QM (R:List Zg) (L:List Int) (n:Nat) (l:List Nat) (st:List Int × Nat):List Int × Nat:=l.foldl (fun st s=>Zbr R L ((s:Nat):Int) n st.1 st.2) st
theorem ZkX {n:Nat} {R:List Zg} {L:List Int} (hR:∀r∈R,OkN n r):∀(l:List Nat) (st:List Int × Nat),RIn n st.1 st.2→RIn n (QM R L n l st).1 (QM R L n l st).2
 | [],_,h=>h
 | s::l,st,h=>ZkX hR l _ (Zhk hR n st.1 st.2 h (by have:=h.few;omega)).1
theorem ZnW (R:List Zg) (L:List Int) (n:Nat) (l:List Nat) (s:Nat) (st:List Int × Nat):QM R L n (l++[s]) st=Zbr R L ((s:Nat):Int) n (QM R L n l st).1 (QM R L n l st).2:=by
 unfold QM
 rw [AO]
 rfl
theorem Zps {n:Nat} {R:List Zg} {L:List Int} {a b:Nat} (h1:∀r∈R,lvN L r.for_.toNat<((a:Nat):Int)) (h2:∀r∈R,lvN L r.for_.toNat<((b:Nat):Int)) (st:List Int × Nat):QM R L n (AA a) st=QM R L n (AA b) st:=by
 have key:∀(a d:Nat),(∀r∈R,lvN L r.for_.toNat<((a:Nat):Int))→QM R L n (AA (a+d)) st=QM R L n (AA a) st:=by
  intro a d ha
  induction d with
  | zero=>rfl
  | succ d ih=>
   rw [show a+(d+1)=(a+d)+1 by omega,List.range_succ,ZnW,ih,ZsG]
   intro r mr e
   have:=ha r mr
   omega
 rcases Nat.le_total a b with h | h
 ·have:=key a (b - a) h1
  rw [show a+(b - a)=b by omega] at this
  exact this.symm
 ·have:=key b (a - b) h2
  rw [show b+(a - b)=a by omega] at this
  exact this
end
section
open Classical
theorem ZuC (F:List Zd):∀n (l:List Zr),l.length=n→∀t∈ZM l F,∀f∈t.facts,∃x∈l,x.kind=1∧x.pattern.rel=f.rel:=by
 intro n
 induction n with
 | zero=>
  intro l h t mt f mf
  rw [AY h] at mt
  simp [ZM] at mt
  subst mt
  simp [Zt3] at mf
 | succ n ih=>
  intro l h
  obtain ⟨p,x,rfl⟩:∃p x,l=p++[x]:=⟨l.dropLast,l.getLast (by intro e;simp [e] at h),(Av _).symm⟩
  intro t mt f mf
  rw [ZaR] at mt
  obtain ⟨s,ms,mt⟩:=AL.1 mt
  have old:f∈s.facts→∃y∈p++[x],y.kind=1∧y.pattern.rel=f.rel:=fun hf=>by
   obtain ⟨y,my,hy⟩:=ih p (by simpa using h) s ms f hf
   exact ⟨y,by simp [my],hy⟩
  unfold ZgR at mt
  by_cases hk:x.kind=1
  ·rw [if_pos hk] at mt
   obtain ⟨g,mg,hg⟩:=AT.1 mt
   obtain ⟨b,hb,rfl⟩:=Aw.1 hg
   simp only[A4,AH] at mf
   rcases mf with mf | rfl
   ·exact old mf
   ·refine ⟨x,by simp,hk,?_⟩
    unfold Zan at hb
    split at hb
    ·rename_i hc
     unfold Zfh at hc
     simp only[A3,decide_eq_true_eq,ZN] at hc
     first | exact hc.1.2 | exact hc.2 | exact hc.1.1.2 | exact hc.2.1 | exact hc.1.2.1
    ·simp at hb
  ·rw [if_neg hk] at mt
   split at mt
   ·simp at mt;subst mt;exact old mf
   ·simp at mt
def Zfa (F:List Zd) (x:Int):ByteArray:=match F[x.toNat]? with | some f=>f.rel | none=>⟨#[]⟩
theorem Zis {F:List Zd} {f:Zd} {x:Int} (e:Z9 F f=x) (h0:0≤x):(0≤x∧x.toNat<F.length)∧Zfa F x=f.rel∧f∈F:=by
 rcases Zhd F f with ⟨_,h2⟩ | ⟨j,h1,h2⟩
 ·omega
 ·have ej:x.toNat=j:=by omega
  refine ⟨⟨h0,?_⟩,?_,AJ h2⟩
  ·rw [ej];exact (AI.1 h2).1
  ·unfold Zfa;rw [ej,h2]
structure ZCs (R:List Zf) (F:List Zd) (x:Zg):Prop where
 node:0≤x.for_∧x.for_.toNat<F.length
 inn:∀y∈x.inn,(0≤y∧y.toNat<F.length)∧Ze3 R (Zfa F x.for_) (Zfa F y)
 outs:∀y∈x.outs,(0≤y∧y.toNat<F.length)∧Ze3 R (Zfa F x.for_) (Zfa F y)∧Zfa F y≠Zfa F x.for_∧¬YY R (Zfa F y) (Zfa F x.for_)
 up:x.inn.Pairwise (·<·)∧x.outs.Pairwise (·<·)
theorem ZdA {R:List Zf} {base F:List Zd} (h:Yu R base F) {x:Zg} (mx:x∈YJ R F base):ZCs R F x:=by
 rcases ZjN.1 mx with ⟨f,mf,rfl⟩ | ⟨r,mr,t,mt,a,ma,rfl⟩
 ·obtain ⟨j,h1,h2⟩:=Zgc (h.good.inc f mf)
  have:=(AI.1 h2).1
  exact ⟨⟨by simp only;omega,by simp only;omega⟩,by simp,by simp,An,An⟩
 ·have hin:Z7 a t∈F:=h.closed r mr t mt a ma
  obtain ⟨j,h1,h2⟩:=Zgc hin
  have hr:=(h.rule mr).1
  have hr2:=hr
  unfold ZU at hr2
  simp only[A3] at hr2
  have hk:a.kind=1:=by
   have:=A8.1 hr2.2 a ma
   simpa using this
  obtain ⟨hn,hrel,_⟩:=Zis (F:=F) (f:=Z7 a t) rfl (by rw [h1];omega)
  have hok:=h.good.ok _ hin
  have hname:∀p b,YH (Zce (Zba p b)).1=true→(Zce (Zba p b)).1.rel=p.rel:=fun p b hf=>by
   cases hi:Zba p b with
   | none=>
    rw [hi] at hf
    exact absurd hf (by decide)
   | some g=>
    unfold Zba at hi
    split at hi
    ·obtain ⟨l,_,rfl⟩:=Aw.1 hi
     rfl
    ·simp at hi
  have hfor:Zfa F (Z9 F (Z7 a t))=a.pattern.rel:=hrel.trans (hname a.pattern t.binding hok)
  have hw:a.pattern.rel∈Y6 r:=AT.2 ⟨a,ma,by rw [if_pos (.inl hk)]⟩
  refine ⟨hn,fun y my=>?_,fun y my=>?_,(XN F _).1,(XN F _).1⟩
  ·obtain ⟨f,mf,e,e0⟩:=((XN F t.facts).2.1 y).1 my
   obtain ⟨k1,k2,_⟩:=Zis e e0
   obtain ⟨c,mc,ck,cr⟩:=ZuC F _ (QZ r) rfl t mt f mf
   refine ⟨k1,r,mr,?_,?_⟩
   ·show Zfa F (Z9 F (Z7 a t))∈_
    rw [hfor];exact hw
   ·rw [k2,←cr]
    exact AT.2 ⟨c,(Ab.1 mc).1,by rw [if_pos (.inl ck)]⟩
  ·obtain ⟨f,mf,e,e0⟩:=((XN F (Zqu r t)).2.1 y).1 my
   obtain ⟨k1,k2,k3⟩:=Zis e e0
   obtain ⟨c,mc,rfl⟩:=Ac.1 mf
   obtain ⟨mc,ck⟩:=Ab.1 mc
   have cr:=hname c.pattern t.binding (h.good.ok _ k3)
   have hy:Zfa F y=c.pattern.rel:=k2.trans cr
   have hfor':Zfa F (Z6 F r t a).for_=a.pattern.rel:=hfor
   have hlog:Zih R c.pattern.rel a.pattern.rel=true:=by
    have h1:=h.logical
    rw [A3] at h1
    have h2:=A8.1 h1.2 r mr
    unfold YN at h2
    rw [A3] at h2
    have h3:=A8.1 h2.2 c mc
    unfold Zfd at h3
    rw [ck] at h3
    simp only[Bool.not_true,At] at h3
    exact A8.1 h3 _ (ZS.2 hw)
   unfold Zih at hlog
   simp only[A3,Bool.not_eq_true',decide_eq_false_iff_not] at hlog
   rw [hfor',hy]
   refine ⟨k1,⟨r,mr,hw,AT.2 ⟨c,mc,by rw [if_pos (.inr (by simpa using ck))]⟩⟩,fun e=>?_,hlog.2⟩
   have:=ZrS.1 hlog.1
   exact this e.symm
theorem Zr9 {R:List Zf} {base F:List Zd} (h:Yu R base F):∀x∈YJ R F base,OkN F.length x:=fun x mx=>by
 have hf:=ZdA h mx
 exact ⟨hf.node,fun y my=>(hf.inn y my).1,fun y my=>(hf.outs y my).1⟩
theorem Znl {R:List Zf} {base F:List Zd} (h:Yu R base F):Zni (YJ R F base):=by
 have hstep:∀x y,Zr8 (YJ R F base) x y→Ze3 R (Zfa F x) (Zfa F y):=fun x y ⟨r,mr,e,hy⟩=>by
  have hf:=ZdA h mr
  subst e
  rcases hy with hy | hy
  ·exact (hf.inn y hy).2
  ·exact (hf.outs y hy).2.1
 have hreach:∀x y,ZdN (YJ R F base) x y→YY R (Zfa F x) (Zfa F y):=fun x y hd=>by
  induction hd with
  | one h1=>exact .one (hstep _ _ h1)
  | step _ h1 ih=>exact .next ih (hstep _ _ h1)
 intro r mr y my
 obtain ⟨_,_,h2,h3⟩:=(ZdA h mr).outs y my
 exact ⟨fun e=>h2 (by rw [e]),fun hd=>h3 (hreach _ _ hd)⟩
end
def Zsq (l:List Int) (n:Int) (i:Nat) (x:Int):Bool:=decide (0≤x)&&(decide (x<n)&&(decide (i=0)||(match l[i - 1]? with | some y=>decide (y<x) | none=>false)))
def Zqm (l:List Int) (n:Int):Bool:=Zar (Zsq l n) l 0
theorem Zuz {l:List Int} {j:Nat} {x:Int} (hl:l.length≤1000000000) (hj:l[j]?=some x) (h0:0<j):∃y,l[j - 1]?=some y∧atI l (IntKind.i64.wrap (((j:Nat):Int) - 1))=some y:=by
 have hlt:=(AI.1 hj).1
 have hg:l[j - 1]?=some l[j - 1]:=A6 (by omega)
 refine ⟨l[j - 1],hg,?_⟩
 have hw:IntKind.i64.wrap (((j:Nat):Int) - 1)=((j - 1:Nat):Int):=by rw [Xn (by omega) (by omega)];omega
 rw [hw]
 unfold atI
 rw [if_pos (by omega),AK,hg]
theorem Zpq (l:List Int) (n:Int) (hl:l.length≤1000000000):YW l n=some (Zqm l n):=by
 unfold YW Zqm
 rw [Xh (p:=Zsq l n) (r:=false)]
 ·cases Zar (Zsq l n) l 0<;>rfl
 ·intro j x hj
  rw [AM]
  unfold Zsq
  by_cases h1:x<0
  ·rw [if_pos (by simpa using h1),show decide (0≤x)=false by simp;omega];rfl
  ·rw [if_neg (by simpa using h1),show decide (0≤x)=true by simp;omega]
   by_cases h2:n≤x
   ·rw [if_pos (by simpa using h2),show decide (x<n)=false by simp;omega];rfl
   ·rw [if_neg (by simpa using h2),show decide (x<n)=true by simp;omega]
    by_cases h3:j=0
    ·subst h3;rfl
    ·obtain ⟨y,e1,e2⟩:=Zuz hl hj (by omega)
     rw [if_pos (by simp;omega),e2,A0,e1]
     by_cases h4:x≤y
     ·rw [if_pos (by simpa using h4)]
      simp [h3,show ¬y<x by omega]
     ·rw [if_neg (by simpa using h4)]
      simp [h3,show y<x by omega]
theorem Ztz {l:List Int} {n:Int} (h1:∀x∈l,0≤x∧x<n) (h2:l.Pairwise (·<·)):Zqm l n=true:=by
 have key:∀(q pre:List Int),l=pre++q→Zar (Zsq l n) q pre.length=true:=by
  intro q
  induction q with
  | nil=>intro _ _;rfl
  | cons x q ih=>
   intro pre e
   simp only[Zar,A3]
   refine ⟨?_,?_⟩
   ·have hx:=h1 x (by rw [e];simp)
    simp only[Zsq,A3,decide_eq_true_eq,BF]
    refine ⟨hx.1,hx.2,?_⟩
    by_cases h0:pre.length=0
    ·exact .inl h0
    ·right
     have hlt:pre.length - 1<pre.length:=by omega
     have hg:l[pre.length - 1]?=some pre[pre.length - 1]:=by rw [e,Aj hlt,A6 hlt]
     rw [hg]
     rw [e,List.pairwise_append] at h2
     simpa using h2.2.2 _ (Af hlt) x (by simp)
   ·have:=ih (pre++[x]) (by rw [e];simp)
    simpa using this
 exact key l [] rfl
def Zs3 (n:Int) (r:Zg):Bool:=decide (0≤r.for_)&&(decide (r.for_<n)&&(Zqm r.inn n&&Zqm r.outs n))
def ZeV (b:Zu):Bool:=decide (0≤b.nodes)&&(decide (b.nodes≤24)&&(decide (b.reasons.length≤60)&&b.reasons.all (Zs3 b.nodes)))
def Ztd (b:Zu):Prop:=∀r∈b.reasons,r.inn.length≤1000000000∧r.outs.length≤1000000000
theorem Zli {b:Zu} (h:Ztd b) (hl:b.reasons.length≤1000000000):ZbW b=some (ZeV b):=by
 unfold ZbW ZeV
 by_cases h0:b.nodes<0
 ·rw [if_pos (by simpa using h0),show decide (0≤b.nodes)=false by simp;omega];rfl
 rw [if_neg (by simpa using h0),show decide (0≤b.nodes)=true by simp;omega]
 by_cases h1:24<b.nodes
 ·rw [if_pos (by simpa using h1),show decide (b.nodes≤24)=false by simp;omega];rfl
 rw [if_neg (by simpa using h1),show decide (b.nodes≤24)=true by simp;omega]
 by_cases h2:60<b.reasons.length
 ·rw [if_pos (by simp;omega),show decide (b.reasons.length≤60)=false by simp;omega];rfl
 rw [if_neg (by simp;omega),show decide (b.reasons.length≤60)=true by simp;omega]
 simp only[As]
 rw [ZW (p:=Zs3 b.nodes) (r:=false)]
 ·cases b.reasons.all (Zs3 b.nodes)<;>rfl
 ·intro i r mr
  obtain ⟨s1,s2⟩:=h r mr
  unfold Zs3
  by_cases q1:r.for_<0
  ·rw [if_pos (by simpa using q1),show decide (0≤r.for_)=false by simp;omega];rfl
  rw [if_neg (by simpa using q1),show decide (0≤r.for_)=true by simp;omega]
  by_cases q2:b.nodes≤r.for_
  ·rw [if_pos (by simpa using q2),show decide (r.for_<b.nodes)=false by simp;omega];rfl
  rw [if_neg (by simpa using q2),show decide (r.for_<b.nodes)=true by simp;omega,Zpq _ _ s1,Zpq _ _ s2]
  simp only[A0,As]
  cases Zqm r.inn b.nodes<;>cases Zqm r.outs b.nodes<;>rfl
section
open Classical
theorem ZyX {P:Nat→Prop}:∀v,P v→∃v,P v∧∀u,P u→v≤u:=by
 intro v
 induction v using Nat.strongRecOn with
 | ind v ih=>
  intro hv
  by_cases h:∃u,P u∧u<v
  ·obtain ⟨u,hu,hl⟩:=h
   exact ih u hl hu
  ·exact ⟨v,hv,fun u hu=>by
    by_cases hl:u<v
    ·exact absurd ⟨u,hu,hl⟩ h
    ·omega⟩
theorem Ztx {n:Nat} {R:List Zg} (hR:∀r∈R,OkN n r) {t0:Nat→Int} (h0:Zjk R t0):∃L,ZaZ n R L:=by
 have hm:∀i:Nat,∃v:Nat,(∃t,Zjk R t∧(t i).toNat=v)∧∀u,(∃t,Zjk R t∧(t i).toNat=u)→v≤u:=fun i=>ZyX _ ⟨t0,h0,rfl⟩
 let m:Nat→Nat:=fun i=>Classical.choose (hm i)
 have m1:∀i,∃t,Zjk R t∧(t i).toNat=m i:=fun i=>(Classical.choose_spec (hm i)).1
 have m2:∀i t,Zjk R t→((m i:Nat):Int)≤t i:=fun i t ht=>by
  have:=(Classical.choose_spec (hm i)).2 _ ⟨t,ht,rfl⟩
  have:=ht.pos i
  show ((Classical.choose (hm i):Nat):Int)≤t i
  omega
 let L:List Int:=(AA n).map fun i=>((m i:Nat):Int)
 have hL:∀i,i<n→lvN L i=((m i:Nat):Int):=fun i hi=>by
  have:L[i]?=some ((m i:Nat):Int):=by simp [L,hi]
  unfold lvN;rw [this];rfl
 have hL2:∀i,¬i<n→lvN L i=0:=fun i hi=>by
  unfold lvN;rw [AE (by simp [L];omega)];rfl
 refine ⟨L,by simp [L],⟨fun i=>?_,fun r mr y my=>?_,fun r mr y my=>?_⟩,fun t ht i=>?_⟩
 ·by_cases hi:i<n
  ·rw [hL i hi];omega
  ·rw [hL2 i hi];exact AF _
 ·obtain ⟨f1,f2,_⟩:=hR r mr
  rw [hL _ f1.2,hL _ (f2 y my).2]
  obtain ⟨t,ht,e⟩:=m1 r.for_.toNat
  have:=m2 y.toNat t ht
  have:=ht.inn r mr y my
  have:=ht.pos r.for_.toNat
  omega
 ·obtain ⟨f1,_,f3⟩:=hR r mr
  rw [hL _ f1.2,hL _ (f3 y my).2]
  obtain ⟨t,ht,e⟩:=m1 r.for_.toNat
  have:=m2 y.toNat t ht
  have:=ht.outs r mr y my
  have:=ht.pos r.for_.toNat
  omega
 ·by_cases hi:i<n
  ·rw [hL i hi];exact m2 i t ht
  ·rw [hL2 i hi];exact ht.pos i
theorem ZsR {n:Nat} {R:List Zg} (hR:∀r∈R,OkN n r) (hS:Zni R):∃L,ZaZ n R L∧∀i,lvN L i<n∨lvN L i=0:=by
 obtain ⟨h1,h2⟩:=Zp9 hR hS
 obtain ⟨L,hL⟩:=Ztx hR h1
 refine ⟨L,hL,fun i=>?_⟩
 have:=hL.least _ h1 i
 have:=hL.sol.pos i
 rcases h2 i with h | h<;>omega
noncomputable def Zb8 (s:List Int × Bool) (r:Zg):List Int × Bool:=if lvN s.1 r.for_.toNat<Zg9 s.1 r then (X2 s.1 r,true) else s
theorem Zgj {n:Nat}:∀{R:List Zg} {s:List Int × Bool},s.1.length=n→(∀r∈R,OkN n r)→(R.foldl Zb8 s).1=X9 R s.1∧((R.foldl Zb8 s).2=true↔s.2=true∨X9 R s.1≠s.1)
 | [],s,_,_=>by simp [X9]
 | r::R,s,hl,hR=>by
  have hR':∀q∈R,OkN n q:=fun q mq=>hR q (by simp [mq])
  rw [AQ]
  show _∧(_↔s.2=true∨X9 R (X2 s.1 r)≠s.1)
  by_cases hc:lvN s.1 r.for_.toNat<Zg9 s.1 r
  ·have e:Zb8 s r=(X2 s.1 r,true):=if_pos hc
   rw [e]
   obtain ⟨h1,h2⟩:=Zgj (R:=R) (s:=(X2 s.1 r,true)) (by rw [Zd7];exact hl) hR'
   refine ⟨h1,iff_of_true (h2.2 (.inl rfl)) (.inr fun he=>?_)⟩
   have h3:=ZdY R (X2 s.1 r) r.for_.toNat
   rw [he] at h3
   have:lvN (X2 s.1 r) r.for_.toNat=Zg9 s.1 r:=by
    unfold X2
    rw [Zh1,if_pos ⟨rfl,by have:=(hR r (by simp)).1.2;omega⟩]
   omega
  ·have e:Zb8 s r=s:=if_neg hc
   rw [e,Zlb hc]
   obtain ⟨h1,h2⟩:=Zgj hl hR'
   refine ⟨h1.trans ?_,h2⟩
   show X9 R s.1=X9 R (X2 s.1 r)
   rw [Zlb hc]
theorem Zje {n:Nat} {R:List Zg} {L:List Int} (hL:ZaZ n R L):X9 R L=L:=
 ZjC (Zii R L) fun i _=>BB (Zh5 hL.sol (fun _ h=>h) (fun _=>AF _) i) (ZdY R L i)
theorem ZmB {n:Nat} {L row:List Int} (hl:row.length=n) (hL:L.length=n) (h:ZnE n L row=0):row=L:=by
 refine ZjC (hl.trans hL.symm) fun i hi=>?_
 unfold ZnE at h
 rw [BC] at h
 simpa using h i (Ae.2 (by omega))
theorem ZvJ (n:Nat) (L row:List Int):ZnE n L row≤n:=by
 have:=AZ (p:=fun i=>decide (¬lvN row i=lvN L i)) (l:=AA n)
 rw [BD] at this
 exact this
theorem Zoy {σ ρ:Type} {n:Nat} {R:List Zg} {L:List Int} (hL:ZaZ n R L) (hR:∀r∈R,OkN n r) (st:List Int→Bool→σ) (g:List Int→ρ) {body:σ→Option (σ ⊕ ρ)}
  (h1:∀row,row.length=n→(∀i,0≤lvN row i∧lvN row i≤lvN L i)→body (st row true)=some (.inl (st (R.foldl Zb8 (row,false)).1 (R.foldl Zb8 (row,false)).2)))
  (h2:∀row,body (st row false)=some (.inr (g row))):
  ∀k row,row.length=n→(∀i,0≤lvN row i∧lvN row i≤lvN L i)→ZnE n L row≤k→Y5 body (st row true)=some (g L):=by
 have fixed:∀row,row.length=n→(∀i,0≤lvN row i∧lvN row i≤lvN L i)→X9 R row=row→Y5 body (st row true)=some (g L):=fun row hl h0 e=>by
  obtain ⟨e1,e2⟩:=Zgj (s:=(row,false)) hl hR
  have e3:(R.foldl Zb8 (row,false)).2=false:=by
   cases hb:(R.foldl Zb8 (row,false)).2 with
   | false=>rfl
   | true=>
    rcases e2.1 hb with h | h
    ·simp at h
    ·exact absurd e h
  rw [YU (h1 row hl h0),e3,e1]
  have hrow:ZaZ n R row:=ZrO hl hR (fun i=>(h0 i).1) (fun t ht i=>AG (h0 i).2 (hL.least t ht i)) e
  show Y5 body (st (X9 R row) false)=_
  rw [e,YG (h2 row),hrow.uniq hL]
 intro k
 induction k with
 | zero=>
  intro row hl h0 hk
  have e:row=L:=ZmB hl hL.len (by omega)
  exact fixed row hl h0 (by rw [e];exact Zje hL)
 | succ k ih=>
  intro row hl h0 hk
  by_cases e:X9 R row=row
  ·exact fixed row hl h0 e
  ·obtain ⟨e1,e2⟩:=Zgj (s:=(row,false)) hl hR
   rw [YU (h1 row hl h0),e2.2 (.inr e),e1]
   refine ih _ (by rw [Zii];exact hl) (fun i=>⟨AG (h0 i).1 (ZdY R row i),Zh5 hL.sol (fun _ h=>h) (fun i=>(h0 i).2) i⟩) ?_
   rcases ZpY hL hl hR (fun i=>(h0 i).1) (fun i=>(h0 i).2) with h | h
   ·exact absurd (by rw [ZmB hl hL.len h];exact Zje hL) e
   ·show ZnE n L (X9 R row)≤k
    omega
/- the reference writes each greater level at once -/
/- rounds -/
theorem ZoQ {σ ρ:Type} {n top:Nat} {R:List Zg} {L:List Int} (hR:∀r∈R,OkN n r) (st:List Int→Nat→Nat→σ) (g:List Int→ρ) {body:σ→Option (σ ⊕ ρ)}
  (h1:∀row k s,RIn n row k→s≤top→Q2 R L ((s:Nat):Int) row k≠[]→body (st row k s)=some (.inl (st (ZjJ row (Q2 R L ((s:Nat):Int) row k) ((k:Nat):Int)) (k+1) s)))
  (h2:∀row k s,RIn n row k→s≤top→Q2 R L ((s:Nat):Int) row k=[]→body (st row k s)=some (.inl (st row k (s+1))))
  (h3:∀row k,RIn n row k→body (st row k (top+1))=some (.inr (g row))):
  ∀d s row k,s+d=top+1→RIn n row k→Y5 body (st row k s)=some (g (QM R L n (List.range' s d) (row,k)).1):=by
 have level:∀f s row k,s≤top→RIn n row k→Ze8 row≤f→Y5 body (st row k s)=Y5 body (st (Zbr R L ((s:Nat):Int) f row k).1 (Zbr R L ((s:Nat):Int) f row k).2 (s+1)):=by
  intro f
  induction f with
  | zero=>
   intro s row k hs hI hf
   have hc:Q2 R L ((s:Nat):Int) row k=[]:=Classical.byContradiction fun hc=>by have:=(hI.next hR hc).2;omega
   exact YU (h2 row k s hI hs hc)
  | succ f ih=>
   intro s row k hs hI hf
   unfold Zbr
   by_cases hc:Q2 R L ((s:Nat):Int) row k=[]
   ·rw [if_pos hc]
    exact YU (h2 row k s hI hs hc)
   ·rw [if_neg hc,YU (h1 row k s hI hs hc)]
    obtain ⟨a,b⟩:=hI.next hR hc
    exact ih s _ _ hs a (by omega)
 intro d
 induction d with
 | zero=>
  intro s row k hs hI
  obtain rfl:s=top+1:=by omega
  exact YG (h3 row k hI)
 | succ d ih=>
  intro s row k hs hI
  have hu:Ze8 row≤n:=by have:=hI.few;omega
  rw [level n s row k (by omega) hI hu]
  exact ih (s+1) _ _ (by omega) (Zhk hR n row k hI hu).1
end
section
open Classical
structure ZdS (b:Zu):Prop where
 n0:0≤b.nodes
 n1:b.nodes≤24
 len:b.reasons.length≤60
 ok:∀r∈b.reasons,OkN b.nodes.toNat r
 up:∀r∈b.reasons,r.inn.Pairwise (·<·)∧r.outs.Pairwise (·<·)
 few:∀r∈b.reasons,r.inn.length≤4∧r.outs.length≤4
 strat:Zni b.reasons
theorem ZdS.of {R:List Zf} {base F:List Zd} (h:Yu R base F) (h60:(YJ R F base).length≤60):ZdS { nodes:=((F.length:Nat):Int),reasons:=YJ R F base }:=by
 have:=h.len
 exact ⟨by simp only;omega,by simp only;omega,h60,fun r mr=>by simpa using Zr9 h r mr,fun r mr=>(ZdA h mr).up,fun r mr=>ZnG h mr,Znl h⟩
theorem ZdS.valid {b:Zu} (h:ZdS b):ZeV b=true:=by
 unfold ZeV
 have h0:=h.n0
 have h1:=h.n1
 simp only[A3,decide_eq_true_eq]
 refine ⟨h.n0,h.n1,h.len,A8.2 fun r mr=>?_⟩
 obtain ⟨⟨f0,f1⟩,f2,f3⟩:=h.ok r mr
 obtain ⟨u1,u2⟩:=h.up r mr
 unfold Zs3
 simp only[A3,decide_eq_true_eq]
 exact ⟨f0,by omega,Ztz (fun y my=>by have:=f2 y my;omega) u1,Ztz (fun y my=>by have:=f3 y my;omega) u2⟩
theorem ZdS.small {b:Zu} (h:ZdS b):Ztd b:=fun r mr=>by have:=h.few r mr;omega
def YT:List Zd→List Int→List Zd
 | f::F,v::l=>if 0≤v then f::YT F l else YT F l
 | _,_=>[]
theorem Zms:∀{F:List Zd} {l:List Int},(YT F l).length≤F.length∧∀f∈YT F l,f∈F
 | [],l=>by simp [YT]
 | f::F,[]=>by simp [YT]
 | f::F,v::l=>by
  obtain ⟨h1,h2⟩:=Zms (F:=F) (l:=l)
  unfold YT
  split
  ·refine ⟨by simp;omega,fun g mg=>?_⟩
   rcases A5.1 mg with rfl | mg
   ·simp
   ·simp [h2 g mg]
  ·exact ⟨by simp;omega,fun g mg=>by simp [h2 g mg]⟩
noncomputable def lvB (b:Zu):List Int:=if h:∃L,ZaZ b.nodes.toNat b.reasons L then Classical.choose h else []
noncomputable def rdB (b:Zu):List Int:=(QM b.reasons (lvB b) b.nodes.toNat (AA b.nodes.toNat) (AP b.nodes.toNat (-1),0)).1
theorem ZdS.lv {b:Zu} (h:ZdS b):ZaZ b.nodes.toNat b.reasons (lvB b)∧∀i,0≤lvN (lvB b) i∧(lvN (lvB b) i<b.nodes.toNat∨lvN (lvB b) i=0):=by
 obtain ⟨L,hL,h2⟩:=ZsR h.ok h.strat
 have hex:∃L,ZaZ b.nodes.toNat b.reasons L:=⟨L,hL⟩
 have e:lvB b=Classical.choose hex:=dif_pos hex
 have h1:ZaZ b.nodes.toNat b.reasons (lvB b):=by rw [e];exact Classical.choose_spec hex
 refine ⟨h1,fun i=>⟨h1.sol.pos i,?_⟩⟩
 rw [h1.uniq hL]
 exact h2 i
theorem Zl5 (n:Nat):RIn n (AP n (-1)) 0:=⟨by simp,fun i hi=>⟨-1,by simp [hi],.inl rfl⟩,by
 have:=AZ (p:=fun v:Int=>decide (v<0)) (l:=AP n (-1))
 rw [List.length_replicate] at this
 unfold Ze8
 omega⟩
theorem ZdS.rd {b:Zu} (h:ZdS b):(rdB b).length=b.nodes.toNat:=(ZkX h.ok _ _ (Zl5 _)).len
end
section
open Classical
theorem ZoC {row:List Int} {i:Nat} (h:i<row.length):row[i]?=some (lvN row i):=by
 unfold lvN
 rw [A6 h]
 rfl
theorem ZuV {x:Int} (h1:-1000000≤x) (h2:x≤1000000):IntKind.i64.wrap x=x:=Xn (by omega) (by omega)
theorem ZsY {k:Nat} (h:k<1000000000):IntKind.i64.wrap (((k:Nat):Int)+1)=((k+1:Nat):Int):=Zj (n:=k+1) (by omega) (by omega)
/- what a node depends on -/
/- strata -/
theorem ZvN (n i:Nat):lvN (AP n 0) i=0:=by
 unfold lvN
 by_cases hi:i<n
 ·simp [hi]
 ·rw [AE (by simp;omega)];rfl
theorem Zry {b:Zu} (h:ZdS b):ZfS b=some (lvB b):=by
 obtain ⟨hL,hv⟩:=h.lv
 have h0:=h.n0
 have h1:=h.n1
 unfold ZfS
 rw [Zi _ ⟨h0,by omega⟩]
 refine Zoy hL h.ok (fun row m=>(row,m)) (fun row=>row) ?_ ?_ b.nodes.toNat _ (by simp) (fun j=>by rw [ZvN];exact ⟨AF _,(hv j).1⟩) (ZvJ _ _ _)
 ·intro row hl hb
  simp only[if_true]
  rw [XE (f:=Zb8) (fun _ s=>s.1.length=b.nodes.toNat∧∀j,0≤lvN s.1 j∧lvN s.1 j≤lvN (lvB b) j) ⟨hl,hb⟩]
  intro j r s mr _ _ hs
  obtain ⟨hs1,hs2⟩:=hs
  obtain ⟨⟨f0,f1⟩,f2,f3⟩:=h.ok r mr
  obtain ⟨row,m⟩:=s
  simp only at hs1 hs2
  refine ⟨?_,?_⟩
  ·dsimp only
   rw [Zi _ ⟨f0,by omega⟩,ZoC (by omega),A0]
   rw [Zke (f:=fun u y=>mx u (lvN row y.toNat)) fun j y u my=>by
    obtain ⟨y0,y1⟩:=f2 y my
    rw [Zi _ ⟨y0,by omega⟩,ZoC (by omega),A0]
    rfl]
   rw [Zke (f:=fun u y=>mx u (lvN row y.toNat+1)) fun j y u my=>by
    obtain ⟨y0,y1⟩:=f3 y my
    have hb1:=hs2 y.toNat
    have hb2:=hv y.toNat
    rw [Zi _ ⟨y0,by omega⟩,ZoC (by omega),A0,ZuV (by omega) (by omega)]
    rfl]
   show (if decide (lvN row r.for_.toNat<Zg9 row r)=true then some (Sum.inl (row.set r.for_.toNat (Zg9 row r),true)) else some (Sum.inl (row,m)))=some (Sum.inl (Zb8 (row,m) r))
   unfold Zb8
   by_cases hc:lvN row r.for_.toNat<Zg9 row r
   ·rw [if_pos (decide_eq_true hc),if_pos hc]
    rfl
   ·rw [if_neg (by simpa using hc),if_neg hc]
  ·unfold Zb8
   by_cases hc:lvN row r.for_.toNat<Zg9 row r
   ·rw [if_pos hc]
    exact ⟨by rw [Zd7];exact hs1,fun j=>⟨AG (hs2 j).1 (Zif row r j),ZoI hL.sol mr (fun j=>(hs2 j).2) j⟩⟩
   ·rw [if_neg hc]
    exact ⟨hs1,hs2⟩
 ·intro row
  rfl
end
section
open Classical
theorem ZsS {n k:Nat} {row:List Int} (h:RIn n row k) {y:Int} (h0:0≤y) (hy:y.toNat<n):atI row y=some (rdN row y)∧row[y.toNat]?=some (rdN row y):=by
 obtain ⟨v,hv,_⟩:=h.val y.toNat hy
 have e:row[y.toNat]?=some (rdN row y):=by unfold rdN;rw [hv];rfl
 refine ⟨?_,e⟩
 unfold atI
 rw [if_pos h0,e]
noncomputable def ZsE (row:List Int) (k:Nat) (y:Int):Bool:=decide (0≤rdN row y∧rdN row y<((k:Nat):Int))
noncomputable def ZrW (row:List Int) (y:Int):Bool:=decide (rdN row y<0)
theorem Zue {ρ:Type} {n k:Nat} {row:List Int} (h:RIn n row k) {l:List Int} (hl:∀y∈l,0≤y∧y.toNat<n) {fin:Unit→Option ρ} {z:ρ} {body:Nat→Int→Unit→Option (Unit ⊕ ρ)}
  (hb:∀i y u,body i y u=(atI row y).bind fun x=>if decide (x<0)=true then some (.inr z) else if decide (((k:Nat):Int)≤x)=true then some (.inr z) else some (.inl ())):Zn body fin l 0 ()=if l.all (ZsE row k)=true then fin () else some z:=by
 rw [ZW (p:=ZsE row k) (r:=z)]
 intro i y my
 obtain ⟨y0,y1⟩:=hl y my
 rw [hb,(ZsS h y0 y1).1,A0]
 unfold ZsE
 by_cases h1:rdN row y<0
 ·rw [if_pos (decide_eq_true h1),decide_eq_false (by omega)];rfl
 ·rw [if_neg (by simpa using h1)]
  by_cases h2:((k:Nat):Int)≤rdN row y
  ·rw [if_pos (decide_eq_true h2),decide_eq_false (by omega)];rfl
  ·rw [if_neg (by simpa using h2),decide_eq_true (by omega)];rfl
theorem Zs2 {ρ:Type} {n k:Nat} {row:List Int} (h:RIn n row k) {l:List Int} (hl:∀y∈l,0≤y∧y.toNat<n) {fin:Unit→Option ρ} {z:ρ} {body:Nat→Int→Unit→Option (Unit ⊕ ρ)}
  (hb:∀i y u,body i y u=(atI row y).bind fun x=>if decide (0≤x)=true then some (.inr z) else some (.inl ())):Zn body fin l 0 ()=if l.all (ZrW row)=true then fin () else some z:=by
 rw [ZW (p:=ZrW row) (r:=z)]
 intro i y my
 obtain ⟨y0,y1⟩:=hl y my
 rw [hb,(ZsS h y0 y1).1,A0]
 unfold ZrW
 by_cases h1:0≤rdN row y
 ·rw [if_pos (decide_eq_true h1),decide_eq_false (by omega)];rfl
 ·rw [if_neg (by simpa using h1),decide_eq_true (by omega)];rfl
theorem Zll {row:List Int} {k:Nat} {r:Zg}:(r.inn.all (ZsE row k)=true∧r.outs.all (ZrW row)=true)↔Zmr row k r:=by
 simp only[A8,ZsE,ZrW,decide_eq_true_eq]
 exact Iff.rfl
theorem ZnH {n k:Nat} {row:List Int} (h:RIn n row k) {r:Zg} (hr:OkN n r):Zas r row ((k:Nat):Int)=some (decide (Zmr row k r)):=by
 unfold Zas
 rw [Zue h hr.2.1 fun i y u=>rfl,Zs2 h hr.2.2 fun i y u=>rfl]
 by_cases h1:r.inn.all (ZsE row k)=true
 ·rw [if_pos h1]
  by_cases h2:r.outs.all (ZrW row)=true
  ·rw [if_pos h2,decide_eq_true (Zll.1 ⟨h1,h2⟩)]
  ·rw [if_neg h2,decide_eq_false fun h=>h2 (Zll.2 h).2]
 ·rw [if_neg h1,decide_eq_false fun h=>h1 (Zll.2 h).1]
/- the program's rounds -/
theorem ZsU {n:Nat} {L:List Int} {ρ:Type} {body:List Int × Int × Int→Option ((List Int × Int × Int) ⊕ ρ)} {r:ρ} (hv:∀i,0≤lvN L i∧lvN L i≤((n:Nat):Int))
  (h1:∀k row u,k<n→row.length=n→body (row,((k:Nat):Int),u)=some (.inl (row.set k (-1),((k+1:Nat):Int),mx u (lvN L k))))
  (h2:∀u,0≤u→u≤((n:Nat):Int)→(∀i,i<n→lvN L i≤u)→body (AP n (-1),((n:Nat):Int),u)=some (.inr r)):
  ∀m k row u,k+m=n→row.length=n→(∀i,i<k→row[i]?=some (-1))→0≤u→u≤((n:Nat):Int)→(∀i,i<k→lvN L i≤u)→Y5 body (row,((k:Nat):Int),u)=some r:=by
 intro m
 induction m with
 | zero=>
  intro k row u hk hl hr h0 hu hm
  obtain rfl:k=n:=by omega
  have:row=AP k (-1):=by
   apply Ax
   intro i
   by_cases hi:i<k
   ·rw [hr i hi];simp [hi]
   ·rw [AE (by omega),AE (by simp;omega)]
  rw [this]
  exact YG (h2 u h0 hu hm)
 | succ m ih=>
  intro k row u hk hl hr h0 hu hm
  rw [YU (h1 k row u (by omega) hl)]
  have hx:=ZvW u (lvN L k)
  refine ih (k+1) _ _ (by omega) (by simp [hl]) (fun i hi=>?_) (by omega) (ZvU hu (hv k).2) fun i hi=>?_
  ·rw [Ad]
   by_cases e:k=i
   ·rw [if_pos e,if_pos (by omega)]
   ·rw [if_neg e];exact hr i (by omega)
  ·by_cases e:i=k
   ·rw [e];exact hx.2
   ·exact AG (hm i (by omega)) hx.1
theorem Zvf {b:Zu} (h:ZdS b) {t:Nat} (ht:∀i,i<b.nodes.toNat→lvN (lvB b) i≤((t:Nat):Int)):(QM b.reasons (lvB b) b.nodes.toNat (List.range' 0 (t+1)) (AP b.nodes.toNat (-1),0)).1=rdB b:=by
 unfold rdB
 rw [←List.range_eq_range',Zps (a:=t+1) (b:=b.nodes.toNat)]
 ·intro r mr
  have:=ht r.for_.toNat (h.ok r mr).1.2
  omega
 ·intro r mr
  have:=(h.lv.2 r.for_.toNat).2
  have:=(h.ok r mr).1.2
  omega
theorem Zsu {ρ:Type} {n k:Nat} {row:List Int} (hl:row.length=n) {l:List Int} (hx:∀x∈l,0≤x∧x.toNat<n) {fin:List Int→Option ρ} {body:Nat→Int→List Int→Option (List Int ⊕ ρ)}
  (hb:∀i x s,body i x s=chk (0≤x∧x<((s.length:Nat):Int)) ((s[A7 x]?).bind fun _=>some (.inl (List.set s (A7 x) ((k:Nat):Int))))):Zn body fin l 0 row=fin (ZjJ row l ((k:Nat):Int)):=by
 rw [XE (f:=fun s x=>s.set x.toNat ((k:Nat):Int)) (fun _ s=>s.length=n) hl]
 ·rfl
 ·intro j x s mx _ _ hs
  obtain ⟨x0,x1⟩:=hx x mx
  refine ⟨?_,by simp [hs]⟩
  rw [hb,Zi _ ⟨x0,by omega⟩,A6 (show x.toNat<s.length by omega),A0]
theorem Zr2 {n:Nat} {R:List Zg} (hR:∀r∈R,OkN n r) {L:List Int} {s:Int} {row:List Int} {k:Nat}:∀x∈Q2 R L s row k,0≤x∧x.toNat<n:=fun x mx=>by
 obtain ⟨r,mr,rfl,_⟩:=ZiD.1 mx
 exact (hR r mr).1
theorem Zln {b:Zu} (h:ZdS b) {ρ:Type} {row:List Int} {k s:Nat} (hI:RIn b.nodes.toNat row k) {fin:List Int→Option ρ} {body:Nat→Zg→List Int→Option (List Int ⊕ ρ)}
  (hb:∀i r acc,body i r acc=chk (0≤r.for_∧r.for_<(((lvB b).length:Nat):Int)) (((lvB b)[(A7 r.for_)]?).bind fun x111=>
         if (x111==((s:Nat):Int))=true then
          chk (r.for_<((row.length:Nat):Int)) <|
          (row[(A7 r.for_)]?).bind fun x112=>
          if (decide (x112<0))=true then
           (Zas r row ((k:Nat):Int)).bind fun v113=>
           if v113=true then
            chk (acc.length+1≤1073741824) <|
            some (.inl (acc++[r.for_]))
           else
            some (.inl acc)
          else
           some (.inl acc)
         else
          some (.inl acc))):Zn body fin b.reasons 0 []=fin (Q2 b.reasons (lvB b) ((s:Nat):Int) row k):=by
 have hLl:=h.lv.1.len
 have h60:=h.len
 rw [Yk (g:=fun r=>if lvN (lvB b) r.for_.toNat=((s:Nat):Int)∧rdN row r.for_<0∧Zmr row k r then some r.for_ else none)]
 ·rfl
 ·intro j r acc mr ha
  simp only[List.length_nil,AM] at ha
  have hok:=h.ok r mr
  obtain ⟨f0,f1⟩:=hok.1
  rw [hb,Zi _ ⟨f0,by omega⟩,ZoC (by omega),A0]
  by_cases c1:lvN (lvB b) r.for_.toNat=((s:Nat):Int)
  ·rw [if_pos (by simpa using c1),Zi _ (by rw [hI.len];omega),(ZsS hI f0 f1).2,A0]
   by_cases c2:rdN row r.for_<0
   ·rw [if_pos (decide_eq_true c2),ZnH hI hok,A0]
    by_cases c3:Zmr row k r
    ·rw [if_pos (decide_eq_true c3),Zi _ (by omega),if_pos ⟨c1,c2,c3⟩];rfl
    ·rw [if_neg (by simpa using c3),if_neg fun hh=>c3 hh.2.2];simp
   ·rw [if_neg (by simpa using c2),if_neg fun hh=>c2 hh.2.1];simp
  ·rw [if_neg (by simpa using c1),if_neg fun hh=>c1 hh.1];simp
theorem ZrH {b:Zu} (h:ZdS b):ZfP b=some (rdB b):=by
 obtain ⟨hL,hv⟩:=h.lv
 have h0:=h.n0
 have h1:=h.n1
 have h60:=h.len
 unfold ZfP
 rw [Zry h,A0,Zi _ ⟨h0,by omega⟩]
 have hv':∀i,0≤lvN (lvB b) i∧lvN (lvB b) i≤((b.nodes.toNat:Nat):Int):=fun i=>by have:=hv i;omega
 refine ZsU (n:=b.nodes.toNat) (L:=lvB b) hv' ?_ ?_ b.nodes.toNat 0 _ 0 (by omega) (by simp) (fun i hi=>by omega) (AF _) (by omega) (fun i hi=>by omega)
 ·intro k row u hk hl
  have ht:decide (((k:Nat):Int)<((b.nodes.toNat:Nat):Int))=true:=decide_eq_true (by omega)
  simp only[ht,if_true,AK]
  have:=hL.len
  rw [Zi _ ⟨by omega,by omega⟩,A6 (show k<row.length by omega),A0,Zi _ (by omega),ZoC (by omega),A0,ZsY (by omega)]
  rfl
 ·intro u u0 un um
  simp only[Zz,AB,if_false]
  obtain ⟨t,rfl⟩:∃t:Nat,u=((t:Nat):Int):=⟨u.toNat,by omega⟩
  rw [←Zvf h um]
  refine ZoQ (top:=t) h.ok (fun row k s=>(row,((k:Nat):Int),((s:Nat):Int))) (fun row=>Sum.inr row) ?_ ?_ ?_ (t+1) 0 _ 0 (by omega) (Zl5 _)
  ·intro row k s hI hs hc
   have ht:decide (((s:Nat):Int)≤((t:Nat):Int))=true:=decide_eq_true (by omega)
   simp only[ht,if_true]
   rw [Zln h hI fun i r acc=>rfl]
   have hl0:((((Q2 b.reasons (lvB b) ((s:Nat):Int) row k).length:Nat):Int)==0)=false:=by
    have:(Q2 b.reasons (lvB b) ((s:Nat):Int) row k).length≠0:=fun e=>hc (AY e)
    simpa using this
   simp only[hl0,AB,if_false]
   rw [Zsu hI.len (Zr2 h.ok) fun i x s=>rfl,ZsY (by have:=hI.few;omega)]
  ·intro row k s hI hs hc
   have ht:decide (((s:Nat):Int)≤((t:Nat):Int))=true:=decide_eq_true (by omega)
   simp only[ht,if_true]
   rw [Zln h hI fun i r acc=>rfl,hc,ZsY (by omega)]
   rfl
  ·intro row k hI
   have hf:decide (((t+1:Nat):Int)≤((t:Nat):Int))=false:=decide_eq_false (by omega)
   simp only[hf,AB,if_false]
/- the reference's rounds -/
end
section
open Go.RowKit
structure SqM (n:Nat) (d:List (List Bool)):Prop where
 len:d.length=n
 row:∀r∈d,r.length=n
theorem SqM.new (n:Nat):SqM n (AP n (AP n false)):=⟨by simp,fun r mr=>by rw [(List.mem_replicate.1 mr).2];simp⟩
theorem SqM.get {n:Nat} {d:List (List Bool)} (h:SqM n d) {i j:Nat} (hi:i<n) (hj:j<n):∃(h1:i<d.length) (h2:j<d[i].length),Zb9 d i j=d[i][j]∧∀v,Zjq d i j v=d.set i (d[i].set j v):=by
 have h1:i<d.length:=by rw [h.len];exact hi
 have h2:j<d[i].length:=by rw [h.row _ (Af h1)];exact hj
 refine ⟨h1,h2,?_,fun v=>?_⟩
 ·unfold Zb9;rw [A6 h1];simp only;rw [A6 h2]
 ·unfold Zjq;rw [A6 h1]
theorem SqM.set {n:Nat} {d:List (List Bool)} (h:SqM n d) (i j:Nat) (v:Bool):SqM n (Zjq d i j v):=by
 unfold Zjq
 cases hd:d[i]? with
 | none=>exact h
 | some r=>
  refine ⟨by simp [h.len],fun q mq=>?_⟩
  rcases List.mem_or_eq_of_mem_set mq with mq | rfl
  ·exact h.row q mq
  ·rw [BE];exact h.row r (AJ hd)
theorem Zny {n:Nat} {d:List (List Bool)} (h:SqM n d) {i j:Nat} {v:Bool} (hi:i<n) (hj:j<n) (a b:Nat):Zb9 (Zjq d i j v) a b=if a=i∧b=j then v else Zb9 d a b:=by
 obtain ⟨h1,h2,_,h4⟩:=h.get hi hj
 rw [h4]
 unfold Zb9
 rw [Ad]
 by_cases e:i=a
 ·subst e
  rw [if_pos rfl,if_pos h1]
  simp only
  rw [Ad,A6 h1]
  by_cases e2:j=b
  ·subst e2;rw [if_pos rfl,if_pos h2];simp
  ·rw [if_neg e2,if_neg (fun hh=>e2 hh.2.symm)]
 ·rw [if_neg e,if_neg (fun hh=>e hh.1.symm)]
theorem Zbl {α β:Type} {P:β→Prop} {f:β→α→β}:∀{l:List α} {b:β},P b→(∀b x,x∈l→P b→P (f b x))→P (l.foldl f b)
 | [],_,h,_=>h
 | x::l,b,h,hs=>Zbl (l:=l) (hs b x (by simp) h) fun b y my=>hs b y (by simp [my])
theorem Zty {n:Nat} {R:List Zg} {D:Nat→Nat→Prop} (hR:∀r∈R,r.for_.toNat<n∧(∀y∈r.inn,y.toNat<n)∧∀y∈r.outs,y.toNat<n) (h1:∀r∈R,∀y,y∈r.inn∨y∈r.outs→D r.for_.toNat y.toNat) (h2:∀i k j,D i k→D k j→D i j):SqM n (Zfc n R)∧∀i j,Zb9 (Zfc n R) i j=true→D i j:=by
 have put:∀{d:List (List Bool)} {i j:Nat} {v:Bool},i<n→j<n→(v=true→D i j)→(SqM n d∧∀i j,Zb9 d i j=true→D i j)→SqM n (Zjq d i j v)∧∀a b,Zb9 (Zjq d i j v) a b=true→D a b:=fun {d i j v} hi hj hv ⟨s,g⟩=>by
  refine ⟨s.set _ _ _,fun a b hab=>?_⟩
  rw [Zny s hi hj] at hab
  split at hab
  ·rename_i e;obtain ⟨rfl,rfl⟩:=e;exact hv hab
  ·exact g a b hab
 unfold Zfc
 refine Zbl (P:=fun d=>SqM n d∧∀i j,Zb9 d i j=true→D i j) ?_ fun d k mk h=>?_
 ·refine Zbl (P:=fun d=>SqM n d∧∀i j,Zb9 d i j=true→D i j) ⟨SqM.new n,fun i j h=>?_⟩ fun d r mr h=>?_
  ·exfalso
   unfold Zb9 at h
   rw [BG] at h
   split at h
   ·rename_i r e
    split at e
    ·simp at e;subst e
     rw [BG] at h
     split at h
     ·rename_i e;split at e
      ·simp at e;subst e;simp at h
      ·simp at e
     ·simp at h
    ·simp at e
   ·simp at h
  ·obtain ⟨q1,q2,q3⟩:=hR r mr
   unfold Zic
   refine Zbl (P:=fun d=>SqM n d∧∀i j,Zb9 d i j=true→D i j) (Zbl (P:=fun d=>SqM n d∧∀i j,Zb9 d i j=true→D i j) h fun d y my h=>put q1 (q2 y my) (fun _=>h1 r mr y (.inl my)) h) fun d y my h=>put q1 (q3 y my) (fun _=>h1 r mr y (.inr my)) h
 ·have hk:k<n:=by rw [B1] at mk;omega
  unfold ZmX
  refine Zbl (P:=fun d=>SqM n d∧∀i j,Zb9 d i j=true→D i j) h fun d i mi h=>?_
  have hi:i<n:=by rw [B1] at mi;omega
  unfold Zm6
  refine Zbl (P:=fun d=>SqM n d∧∀i j,Zb9 d i j=true→D i j) h fun d j mj h=>?_
  have hj:j<n:=by rw [B1] at mj;omega
  refine put hi hj (fun hv=>?_) h
  rw [BF,A3] at hv
  rcases hv with hv | ⟨hv1,hv2⟩
  ·exact h.2 i j hv
  ·exact h2 i k j (h.2 i k hv1) (h.2 k j hv2)
end
section
open Classical
theorem Zn7 {ρ:Type} {l:List Int} (hl:l.length≤1000) {fin:List Bool→Option ρ} {body:Nat→Int→List Bool→Option (List Bool ⊕ ρ)} (hb:∀i x s,body i x s=chk (s.length+1≤1073741824) (some (.inl (s++[decide (0≤x)])))):Zn body fin l 0 []=fin (l.map fun x=>decide (0≤x)):=by
 rw [Zk3 (g:=fun x=>decide (0≤x))]
 ·rfl
 ·intro j x s _ hs
  simp at hs
  rw [hb,Zi _ (by omega)]
theorem ZmN {b:Zu} (h:ZdS b):ZdW b=some ((rdB b).map fun x=>decide (0≤x)):=by
 unfold ZdW
 have:=h.n1
 rw [ZrH h,A0,Zn7 (by rw [h.rd];omega) fun i x s=>rfl]
theorem Zkm {ρ:Type} {fin:List Zd→Option ρ} {body:Nat→Bool→List Zd→Option (List Zd ⊕ ρ)} {F:List Zd} (hF:∀f∈F,f.args.length≤1048576) (hl:F.length≤1000)
  (hb:∀i x s,body i x s=if x=true then (atI F ((i:Nat):Int)).bind fun f=>(Yl f).bind fun g=>chk (s.length+1≤1073741824) (some (.inl (s++[g]))) else some (.inl s)):
  ∀(rest:List Zd) (l:List Int) (pre acc:List Zd),F=pre++rest→l.length=rest.length→acc.length≤pre.length→Zn body fin (l.map fun x=>decide (0≤x)) pre.length acc=fin (acc++YT rest l)
 | [],[],pre,acc,_,_,_=>by simp [Zn,YT]
 | [],_::_,_,_,_,e,_=>by simp at e
 | _::_,[],_,_,_,e,_=>by simp at e
 | f::rest,v::l,pre,acc,e,el,ha=>by
  have hf:F[pre.length]?=some f:=by rw [e];simp
  have hlt:=(AI.1 hf).1
  have ih:=fun acc' h'=>Zkm (fin:=fin) hF hl hb rest l (pre++[f]) acc' (by rw [e];simp) (by simpa using el) h'
  simp only[AD,Aa] at ih
  rw [B9]
  unfold YT
  by_cases hv:0≤v
  ·rw [ZV (s':=acc++[f]) (by
    rw [hb,if_pos (decide_eq_true hv),Zby,hf,A0,YB _ (hF f (AJ hf)),A0,Zi _ (by omega)]),ih _ (by simp;omega),if_pos hv]
   simp
  ·rw [ZV (s':=acc) (by rw [hb,if_neg (by simpa using hv)]),ih _ (by omega),if_neg hv]
theorem Zo3 {b:Zu} (h:ZdS b) {F:List Zd} (hF:∀f∈F,f.args.length≤1048576) (hn:b.nodes=((F.length:Nat):Int)):ZcT F b=some (YT F (rdB b)):=by
 have h1:=h.n1
 have hr:=h.rd
 unfold ZcT
 rw [ZmN h,A0]
 exact Zkm hF (by omega) (fun i x s=>rfl) F (rdB b) [] [] rfl (by omega) (AC _)
theorem Yu.args {R:List Zf} {base F:List Zd} (h:Yu R base F):∀f∈F,f.args.length≤1048576:=fun f mf=>by
 have:=Xg (h.good.ok f mf)
 omega
end
section
open Classical
theorem ZdN.join {R:List Zg} {x y z:Int} (h:ZdN R x y) (k:ZdN R y z):ZdN R x z:=by
 induction k with
 | one h1=>exact .step h h1
 | step _ h1 ih=>exact .step ih h1
theorem ZdS.depOk {b:Zu} (h:ZdS b):Zl9 b=true:=by
 have h0:=h.n0
 unfold Zl9
 rw [A3,decide_eq_true_iff]
 refine ⟨⟨h.n0,h.n1,h.len⟩,A8.2 fun r mr=>?_⟩
 obtain ⟨⟨f0,f1⟩,f2,f3⟩:=h.ok r mr
 rw [A3,A3,decide_eq_true_iff]
 refine ⟨⟨⟨f0,by omega⟩,A8.2 fun y my=>?_⟩,A8.2 fun y my=>?_⟩
 ·have:=f2 y my
  rw [decide_eq_true_iff];omega
 ·have:=f3 y my
  rw [decide_eq_true_iff];omega
theorem Ze1 {b:Zu} (h:ZdS b):XI b=some true:=by
 unfold XI
 have h0:=h.n0
 have h60:=h.len
 rw [Zli h.small (by omega),h.valid,A0,if_pos rfl]
 unfold ZaL
 rw [if_pos h.depOk,A0]
 obtain ⟨hS,hD⟩:=Zty (n:=b.nodes.toNat) (R:=b.reasons) (D:=fun i j=>ZdN b.reasons ((i:Nat):Int) ((j:Nat):Int)) (fun r mr=>by
   obtain ⟨⟨f0,f1⟩,f2,f3⟩:=h.ok r mr
   exact ⟨f1,fun y my=>(f2 y my).2,fun y my=>(f3 y my).2⟩) (fun r mr y my=>by
   obtain ⟨⟨f0,f1⟩,f2,f3⟩:=h.ok r mr
   have hy:0≤y:=by
    rcases my with my | my
    ·exact (f2 y my).1
    ·exact (f3 y my).1
   exact .one ⟨r,mr,by omega,by rw [AW hy];exact my⟩) (fun i k j h1 h2=>h1.join h2)
 rw [ZW (p:=fun _=>true) (r:=true)]
 ·simp
 ·intro i r mr
  rw [ZW (p:=fun _=>true) (r:=.inl ())]
  ·simp
  ·intro j y my
   obtain ⟨k1,k2⟩:=h.strat r mr y my
   obtain ⟨⟨f0,f1⟩,_,f3⟩:=h.ok r mr
   obtain ⟨y0,y1⟩:=f3 y my
   have ey:(y==r.for_)=false:=by simpa using k1
   obtain ⟨q1,q2,q3,_⟩:=hS.get y1 f1
   have hv:(Zfc b.nodes.toNat b.reasons)[y.toNat][r.for_.toNat]=false:=by
    cases hb:(Zfc b.nodes.toNat b.reasons)[y.toNat][r.for_.toNat] with
    | false=>rfl
    | true=>
     have:=hD y.toNat r.for_.toNat (by rw [q3,hb])
     rw [AW y0,AW f0] at this
     exact absurd this k2
   rw [ey]
   simp only[AB,if_false]
   have a1:atI (Zfc b.nodes.toNat b.reasons) y=some (Zfc b.nodes.toNat b.reasons)[y.toNat]:=by
    unfold atI
    rw [if_pos y0,A6 q1]
   have a2:atI (Zfc b.nodes.toNat b.reasons)[y.toNat] r.for_=some false:=by
    unfold atI
    rw [if_pos f0,A6 q2,hv]
   rw [a1,A0,a2,A0]
   rfl
theorem ZpW {b:Zu} (h:ZdS b):ZcR b=some ((rdB b).map fun x=>decide (0≤x)):=by
 unfold ZcR
 rw [Ze1 h,A0,if_pos rfl,ZmN h,A0]
end
section
open Classical
theorem Zmw {f:Zd}:∀{F:List Zd} {l:List Int},l.length=F.length→(f∈YT F l↔∃i,F[i]?=some f∧0≤rdN l ((i:Nat):Int))
 | [],l,_=>by simp [YT]
 | g::F,[],h=>by simp at h
 | g::F,v::l,h=>by
  have ih:=Zmw (f:=f) (F:=F) (l:=l) (by simpa using h)
  have sh:∀i:Nat,rdN (v::l) ((i+1:Nat):Int)=rdN l ((i:Nat):Int):=fun i=>by unfold rdN;rw [AK,AK];simp
  have s0:rdN (v::l) ((0:Nat):Int)=v:=by unfold rdN;rfl
  have key:(∃i,(g::F)[i]?=some f∧0≤rdN (v::l) ((i:Nat):Int))↔(g=f∧0≤v)∨∃i,F[i]?=some f∧0≤rdN l ((i:Nat):Int):=by
   constructor
   ·rintro ⟨i,h1,h2⟩
    cases i with
    | zero=>rw [s0] at h2;exact .inl ⟨by simpa using h1,h2⟩
    | succ i=>rw [sh] at h2;exact .inr ⟨i,by simpa using h1,h2⟩
   ·rintro (⟨h1,h2⟩ | ⟨i,h1,h2⟩)
    ·exact ⟨0,by simp [h1],by rw [s0];exact h2⟩
    ·exact ⟨i+1,by simpa using h1,by rw [sh];exact h2⟩
  rw [key]
  unfold YT
  by_cases hv:0≤v
  ·rw [if_pos hv,A5,ih]
   constructor
   ·rintro (h | h)
    ·exact .inl ⟨h.symm,hv⟩
    ·exact .inr h
   ·rintro (⟨h,_⟩ | h)
    ·exact .inl h.symm
    ·exact .inr h
  ·rw [if_neg hv,ih]
   constructor
   ·exact .inr
   ·rintro (⟨_,h⟩ | h)
    ·exact absurd h hv
    ·exact h
theorem Zm3 {F:List Zd} (hF:F.Nodup) {j:Nat} {f:Zd} (h:F[j]?=some f):Z9 F f=((j:Nat):Int):=by
 obtain ⟨k,h1,h2⟩:=Zgc (AJ h)
 obtain ⟨hj,ej⟩:=AI.1 h
 obtain ⟨hk,ek⟩:=AI.1 h2
 have:k=j:=by
  rcases Nat.lt_trichotomy k j with hl | hl | hl
  ·exact absurd (ek.trans ej.symm) (BH.1 hF k j hk hj hl)
  ·exact hl
  ·exact absurd (ej.trans ek.symm) (BH.1 hF j k hj hk hl)
 rw [h1,this]
theorem ZtX {F:List Zd} (hF:F.Nodup) {l:List Int} (hl:l.length=F.length) {f:Zd}:f∈YT F l↔f∈F∧0≤rdN l (Z9 F f):=by
 rw [Zmw hl]
 constructor
 ·rintro ⟨i,h1,h2⟩
  exact ⟨AJ h1,by rw [Zm3 hF h1];exact h2⟩
 ·rintro ⟨h1,h2⟩
  obtain ⟨j,h3,h4⟩:=Zgc h1
  exact ⟨j,h4,by rw [←h3];exact h2⟩
/- one model alone -/
end
section
open Classical
theorem ZiB:∀{F:List Zd} {l:List Int},(YT F l).Sublist F
 | [],l=>by simp [YT]
 | f::F,[]=>by simp [YT]
 | f::F,v::l=>by
  unfold YT
  split
  ·exact ZiB.cons_cons f
  ·exact ZiB.cons f
/- reasons, of the smaller set -/
end
section
open Classical
noncomputable def givesB (t:Zt) (f:Zd) (a:Zx):Bool:=(Zce (Zba a.pattern t.binding)).2&&decide ((Zce (Zba a.pattern t.binding)).1=f)
end
theorem Znh (y:Int):0≤ZkD .i64 y 255∧ZkD .i64 y 255≤255:=by
 have e:ZkD .i64 y 255=(((BitVec.ofInt 64 y &&& BitVec.ofInt 64 255).toNat:Nat):Int):=by
  show IntKind.i64.wrap (((BitVec.ofInt 64 y &&& BitVec.ofInt 64 255).toNat:Nat):Int)=_
  have:=BI (n:=(BitVec.ofInt 64 y).toNat) (m:=(BitVec.ofInt 64 255).toNat)
  rw [BitVec.toNat_and]
  have h2:(BitVec.ofInt 64 255).toNat=255:=by decide
  exact Xn (by omega) (by omega)
 have:=BI (n:=(BitVec.ofInt 64 y).toNat) (m:=(BitVec.ofInt 64 255).toNat)
 rw [e,BitVec.toNat_and]
 have h2:(BitVec.ofInt 64 255).toNat=255:=by decide
 omega
structure Qb (c:ZF):Prop where
 i:0≤c.i
 b:c.b.length≤4096
theorem ZtT (code:List Int) (h:code.length≤4096):∃c,ZhL code=some c∧Qb c:=by
 unfold ZhL
 have key:∀(l:List Int) (i:Nat) (s:Int),∃c,Zn (fun (i5:Nat) (x6:Int) (h_2:Int)=>
   if (decide (((i5:Nat):Int)<4000))=true then
    some (.inl (ZkD .i64 (IntKind.i64.wrap ((IntKind.i64.wrap ((IntKind.i64.wrap (h_2 * 167))+IntKind.i64.wrap x6))+29)) 1073741823))
   else
    some (.inr ({ b:=code,i:=0,h:=h_2 }:ZF))) (fun h_2=>some ({ b:=code,i:=0,h:=h_2 }:ZF)) l i s=some c∧Qb c:=by
  intro l
  induction l with
  | nil=>intro i s;exact ⟨_,rfl,AF _,h⟩
  | cons x l ih=>
   intro i s
   cases hd:decide (((i:Nat):Int)<4000) with
   | true=>
    obtain ⟨c,h1,h2⟩:=ih (i+1) (ZkD .i64 (IntKind.i64.wrap ((IntKind.i64.wrap ((IntKind.i64.wrap (s * 167))+IntKind.i64.wrap x))+29)) 1073741823)
    exact ⟨c,by rw [ZV (by rw [hd,if_pos rfl])];exact h1,h2⟩
   | false=>exact ⟨_,by rw [Ya (by rw [hd];rfl)],AF _,h⟩
 exact key code 0 _
theorem Zsn {c:ZF} (h:Qb c):∃x c',Zb0 c=some (x,c')∧0≤x∧x≤255∧Qb c':=by
 unfold Zb0
 cases hd:decide (c.i<((c.b.length:Nat):Int)) with
 | true=>
  have hlt:c.i<((c.b.length:Nat):Int):=by simpa using hd
  have hi:=h.i
  have hb:=h.b
  have hn:c.i.toNat<c.b.length:=by omega
  rw [if_pos rfl,show atI c.b c.i=some (c.b[c.i.toNat]) by unfold atI;rw [if_pos hi,A6 hn]]
  refine ⟨_,_,rfl,(Znh _).1,(Znh _).2,?_,hb⟩
  show 0≤IntKind.i64.wrap (c.i+1)
  rw [Xn (by omega) (by omega)]
  omega
 | false=>
  rw [if_neg (by simp)]
  exact ⟨_,_,rfl,(Znh _).1,(Znh _).2,h.i,h.b⟩
theorem ZcC {c:ZF} (h:Qb c) {n:Int} (h0:0<n) (h1:n≤256):∃x c',Xb c n=some (x,c')∧0≤x∧x<n∧Qb c':=by
 unfold Xb
 obtain ⟨x,c',e,hx,_,hc⟩:=Zsn h
 rw [if_neg (by simp;omega),if_pos (by simp;omega),e]
 refine ⟨Int.tmod x n,c',?_,Int.tmod_nonneg _ hx,Int.tmod_lt_of_pos _ h0,hc⟩
 show chk _ _=_
 rw [Zi _ (by omega)]
def Xs (p s:ByteArray):Prop:=∃a b,a≤b∧b≤s.size∧p=s.extract a b
theorem Xs.size {p s:ByteArray} (h:Xs p s):p.size≤s.size:=by
 obtain ⟨a,b,h1,h2,rfl⟩:=h
 rw [Ap]
 omega
theorem ZoP (s:ByteArray) (a b:Nat):toL (s.extract a b)=((toL s).drop a).take (b - a):=by
 unfold toL
 rw [ByteArray.data_extract,Array.toList_extract,List.extract_eq_take_drop]
theorem Xs.infix {p s:ByteArray} (h:Xs p s):toL p <:+: toL s:=by
 obtain ⟨a,b,h1,h2,rfl⟩:=h
 rw [ZoP]
 refine ⟨(toL s).take a,((toL s).drop a).drop (b - a),?_⟩
 rw [List.append_assoc,BJ,BJ]
theorem ZqJ {σ ρ:Type} {s sep:ByteArray} (hsep:0<sep.size) (st:List ByteArray→Nat→Nat→σ) (g:List ByteArray→ρ) {body:σ→Option (σ ⊕ ρ)}
  (h1:∀row from_ i,from_≤i→i+sep.size≤s.size→row.length≤i→body (st row from_ i)=some (.inl (if sEq (s.extract i (i+sep.size)) sep=true then st (row++[s.extract from_ i]) (i+sep.size) (i+sep.size) else st row from_ (i+1))))
  (h2:∀row from_ i,from_≤i→i≤s.size→¬i+sep.size≤s.size→row.length≤i→body (st row from_ i)=some (.inr (g (row++[s.extract from_ s.size])))):
  ∃l,Y5 body (st [] 0 0)=some (g l)∧l.length≤s.size+1∧∀p∈l,Xs p s:=by
 have key:∀m row from_ i,s.size - i≤m→from_≤i→i≤s.size→row.length≤i→(∀p∈row,Xs p s)→∃l,Y5 body (st row from_ i)=some (g l)∧l.length≤s.size+1∧∀p∈l,Xs p s:=by
  intro m
  induction m with
  | zero=>
   intro row from_ i hm hf hi hr hp
   have hn:¬i+sep.size≤s.size:=by omega
   refine ⟨_,YG (h2 row from_ i hf hi hn hr),by simp;omega,fun p mp=>?_⟩
   rcases A4.1 mp with mp | mp
   ·exact hp p mp
   ·simp at mp;subst mp;exact ⟨from_,s.size,by omega,AC _,rfl⟩
  | succ m ih=>
   intro row from_ i hm hf hi hr hp
   by_cases hn:i+sep.size≤s.size
   ·rw [YU (h1 row from_ i hf hn hr)]
    split
    ·refine ih _ _ _ (by omega) (AC _) hn (by simp;omega) fun p mp=>?_
     rcases A4.1 mp with mp | mp
     ·exact hp p mp
     ·simp at mp;subst mp;exact ⟨from_,i,hf,hi,rfl⟩
    ·exact ih _ _ _ (by omega) (by omega) (by omega) (by omega) hp
   ·refine ⟨_,YG (h2 row from_ i hf hi hn hr),by simp;omega,fun p mp=>?_⟩
    rcases A4.1 mp with mp | mp
    ·exact hp p mp
    ·simp at mp;subst mp;exact ⟨from_,s.size,by omega,AC _,rfl⟩
 exact key s.size [] 0 0 (by omega) (AC _) (Al _) (AC _) (by simp)
theorem Xs.ext (s:ByteArray) {a b:Nat} (h:a≤b) (hb:b≤s.size):Xs (s.extract a b) s:=⟨a,b,h,hb,rfl⟩
theorem Xs.trans {p q s:ByteArray} (h:Xs p q) (k:Xs q s):Xs p s:=by
 obtain ⟨a,b,h1,h2,rfl⟩:=h
 obtain ⟨c,d,h3,h4,rfl⟩:=k
 rw [Ap] at h2
 refine ⟨c+a,c+b,by omega,by omega,?_⟩
 rw [ByteArray.extract_extract]
 congr 1
 omega
theorem Xj {s sep:ByteArray} (hs:s.size≤1000) (h0:0<sep.size) (h1:sep.size≤10):∃l,Qd s sep=some l∧l.length≤s.size+1∧∀p∈l,Xs p s:=by
 unfold Qd
 rw [if_neg (by rw [ZN];intro e;rw [e] at h0;exact absurd h0 (by decide))]
 refine ZqJ h0 (fun row f i=>(row,((f:Nat):Int),((i:Nat):Int))) (fun l=>l) ?_ ?_
 ·intro row f i hf hi hr
  have e:IntKind.i64.wrap (((i:Nat):Int)+((sep.size:Nat):Int))=((i+sep.size:Nat):Int):=by rw [Xn (by omega) (by omega)];omega
  have e1:IntKind.i64.wrap (((i:Nat):Int)+1)=((i+1:Nat):Int):=by rw [Xn (by omega) (by omega)];omega
  simp only[e,e1,AK]
  rw [if_pos (by simp;omega),Zi _ (by omega)]
  split
  ·rw [Zi _ (by omega),Zi _ (by omega)]
  ·rfl
 ·intro row f i hf hi hn hr
  have e:IntKind.i64.wrap (((i:Nat):Int)+((sep.size:Nat):Int))=((i+sep.size:Nat):Int):=by rw [Xn (by omega) (by omega)];omega
  simp only[e,AK]
  rw [if_neg (by simp;omega),Zi _ (by omega),Zi _ (by omega)]
theorem ZsC {α:Type} {l:List α} (h:¬(((l.length:Nat):Int) != 2)=true):∃x y,l=[x,y]:=by
 have hl:l.length=2:=by simp at h;omega
 match l,hl with
 | [x,y],_=>exact ⟨x,y,rfl⟩
theorem Zqk {s:ByteArray} (hs:s.size≤1000):∃r a ok,Zd9 s=some (r,a,ok)∧a.length≤s.size+1:=by
 unfold Zd9
 obtain ⟨l,e,hl,hp⟩:=Xj (sep:=⟨#[40]⟩) hs (by decide) (by decide)
 rw [e,A0]
 split
 ·exact ⟨_,_,_,rfl,by simp⟩
 rename_i h2
 obtain ⟨x,y,rfl⟩:=ZsC h2
 have hl2:(([x,y]:List ByteArray).length:Int)=2:=rfl
 rw [Zi _ (by rw [hl2];decide)]
 simp only[show A7 1=1 from rfl,show A7 0=0 from rfl,Ag,Ah,A0]
 have hy:=(hp y (by simp)).size
 split
 ·exact ⟨_,_,_,rfl,by simp⟩
 rename_i h3
 have hy0:y.size≠0:=fun e=>h3 (by rw [e];rfl)
 have e1:IntKind.i64.wrap (((y.size:Nat):Int) - 1)=((y.size - 1:Nat):Int):=by rw [Xn (by omega) (by omega)];omega
 simp only[e1]
 have hb:∃b,sAt y ((y.size - 1:Nat):Int)=some b:=by
  unfold sAt
  rw [if_pos (by omega),AK]
  exact ⟨y[y.size - 1]'(by omega),by rw [getElem?_pos]⟩
 obtain ⟨b,hb⟩:=hb
 rw [hb,A0]
 split
 ·exact ⟨_,_,_,rfl,by simp⟩
 rw [Zi _ (by omega),AK]
 split
 ·rw [Zi _ (by simp)]
  exact ⟨_,_,_,rfl,by simp⟩
 ·rw [Zi _ (by simp)]
  have hq:(y.extract 0 (y.size - 1)).size≤y.size:=by rw [Ap];omega
  obtain ⟨k,e2,hk,_⟩:=Xj (s:=y.extract 0 (y.size - 1)) (sep:=⟨#[44]⟩) (by omega) (by decide) (by decide)
  rw [e2,A0]
  exact ⟨_,_,_,rfl,by omega⟩
theorem ZeZ {s:ByteArray} (hs:s.size≤1000):∃p ok,Yd s=some (p,ok)∧p.args.length≤s.size+1:=by
 unfold Yd
 obtain ⟨r,a,ok,e,ha⟩:=Zqk hs
 rw [e,A0]
 cases ok with
 | false=>exact ⟨_,_,rfl,by simp⟩
 | true=>
  rw [if_pos rfl,QA,A0]
  split
  ·exact ⟨_,_,rfl,ha⟩
  ·exact ⟨_,_,rfl,by simp⟩
def ZiL:ByteArray:=⟨#[110,111,116,32]⟩
theorem ZnQ {s:ByteArray} (hs:s.size≤1000):∃x ok,ZaH s=some (x,ok)∧x.pattern.args.length≤s.size+1∧(x.kind=2→Xs ZiL s):=by
 unfold ZaH
 have sg:∀k:Int,∃g,Zfu k=some g∧0<g.size∧g.size≤10:=fun k=>by
  unfold Zfu
  split
  ·exact ⟨_,rfl,by decide,by decide⟩
  ·split
   ·exact ⟨_,rfl,by decide,by decide⟩
   ·exact ⟨_,rfl,by decide,by decide⟩
 have key:∀(body:Int→Option (Int ⊕ Zr × Bool)) (Q:Zr × Bool→Prop),(∀k:Nat,3≤k→k≤5→(∃r,body ((k:Nat):Int)=some (.inr r)∧Q r)∨body ((k:Nat):Int)=some (.inl ((k+1:Nat):Int)))→(∃r,body 6=some (.inr r)∧Q r)→∃r,Y5 body 3=some r∧Q r:=by
  intro body Q h1 h2
  have stop:∀k:Nat,3≤k→k≤6→∃r,Y5 body ((k:Nat):Int)=some r∧Q r:=by
   have go:∀m k:Nat,k+m=6→3≤k→∃r,Y5 body ((k:Nat):Int)=some r∧Q r:=by
    intro m
    induction m with
    | zero=>
     intro k hk _
     obtain rfl:k=6:=by omega
     obtain ⟨r,e,q⟩:=h2
     exact ⟨r,YG e,q⟩
    | succ m ih=>
     intro k hk h3
     rcases h1 k h3 (by omega) with ⟨r,e,q⟩ | e
     ·exact ⟨r,YG e,q⟩
     ·rw [YU e];exact ih (k+1) (by omega) (by omega)
   exact fun k h3 h6=>go (6 - k) k (by omega) h3
  exact stop 3 (by omega) (by omega)
 have fin:∀body:Int→Option (Int ⊕ Zr × Bool),(∃r,Y5 body 3=some r∧(r.1.pattern.args.length≤s.size+1∧(r.1.kind=2→Xs ZiL s)))→∃x ok,Y5 body 3=some (x,ok)∧x.pattern.args.length≤s.size+1∧(x.kind=2→Xs ZiL s):=fun _ ⟨r,e,q⟩=>⟨r.1,r.2,e,q⟩
 refine fin _ (key _ (fun r=>r.1.pattern.args.length≤s.size+1∧(r.1.kind=2→Xs ZiL s)) ?_ ?_)
 ·intro k h3 h5
  rw [if_pos (by simp;omega)]
  obtain ⟨g,eg,g0,g1⟩:=sg ((k:Nat):Int)
  obtain ⟨l,el,hl,hp⟩:=Xj hs g0 g1
  have e1:IntKind.i64.wrap (((k:Nat):Int)+1)=((k+1:Nat):Int):=by rw [Xn (by omega) (by omega)];omega
  rw [eg,A0,el,A0,e1]
  split
  ·rename_i h2
   obtain ⟨x,y,rfl⟩:=ZsC (l:=l) (by simp at h2 ⊢;omega)
   rw [Zi _ (by simp)]
   simp only[show A7 1=1 from rfl,show A7 0=0 from rfl,Ag,Ah,A0]
   rw [Zi _ (by simp),ZbT,A0]
   split
   ·exact .inl ⟨_,rfl,by simp,fun h=>by simp only at h;omega⟩
   ·exact .inr rfl
  ·exact .inr rfl
 ·rw [if_neg (by decide)]
  have pat:∀(t:ByteArray),t.size≤s.size→∀kd:Int,(kd=2→Xs ZiL s)→∃r,((Yd t).bind fun v=>if v.2=true then some (Sum.inr (({ kind:=kd,pattern:=v.1,left:=⟨#[]⟩,right:=⟨#[]⟩ }:Zr),true)) else some (.inr (({ kind:=0,pattern:=({ rel:=⟨#[]⟩,args:=[] }:Zv),left:=⟨#[]⟩,right:=⟨#[]⟩ }:Zr),false)))=some (Sum.inr r:Int ⊕ Zr × Bool)∧(r.1.pattern.args.length≤s.size+1∧(r.1.kind=2→Xs ZiL s)):=fun t ht kd hk=>by
   obtain ⟨p,ok,e,ha⟩:=ZeZ (s:=t) (by omega)
   rw [e,A0]
   cases ok with
   | true=>exact ⟨_,rfl,by show p.args.length≤_;omega,hk⟩
   | false=>exact ⟨_,rfl,by simp,fun h=>by simp at h⟩
  split
  ·rename_i h4
   have h4':4<s.size:=by simp at h4;omega
   rw [Zi _ (by omega)]
   split
   ·rename_i hn
    have hn':=ZN.1 hn
    exact pat _ (by rw [Ap];omega) 2 fun _=>by
     unfold ZiL
     rw [←hn']
     exact Xs.ext s (by decide) (by show A7 4≤_;have:A7 4=4:=rfl;omega)
   ·exact pat s (AC _) 1 fun h=>by omega
  ·exact pat s (AC _) 1 fun h=>by omega
theorem Zo2 {s:ByteArray} (hs:s.size≤1000):∃a ok,Zap s=some (a,ok)∧a.pattern.args.length≤s.size+1:=by
 unfold Zap
 split
 ·exact ⟨_,_,rfl,by simp⟩
 obtain ⟨l,e,hl,hp⟩:=Xj (sep:=⟨#[32]⟩) hs (by decide) (by decide)
 rw [e,A0]
 split
 ·exact ⟨_,_,rfl,by simp⟩
 rename_i h2
 obtain ⟨x,y,rfl⟩:=ZsC h2
 have hy:=(hp y (by simp)).size
 obtain ⟨p,ok,ep,ha⟩:=ZeZ (s:=y) (by omega)
 rw [Zi _ (by simp)]
 simp only[show A7 1=1 from rfl,show A7 0=0 from rfl,Ag,Ah,A0,ep]
 split
 ·rw [Zi _ (by simp)]
  exact ⟨_,_,rfl,by show p.args.length≤_;omega⟩
 ·split
  ·rw [Zi _ (by simp)]
   exact ⟨_,_,rfl,by show p.args.length≤_;omega⟩
  ·exact ⟨_,_,rfl,by simp⟩
structure ZiP (s:ByteArray) (r:Zf):Prop where
 cl:r.cond.length≤s.size+1
 tl:r.thn.length≤s.size+1
 ca:∀x∈r.cond,x.pattern.args.length≤s.size+1∧(x.kind=2→Xs ZiL s)
 ta:∀a∈r.thn,a.pattern.args.length≤s.size+1
theorem ZmR {α ρ:Type} {s:ByteArray} {P:α→Prop} {g:ByteArray→Option (α × Bool)} {fin:List α→Option ρ} {z:List α→ρ} {Q:ρ→Prop} {l:List ByteArray} (hl:l.length≤2000) (hp:∀p∈l,Xs p s) (hg:∀p,Xs p s→∃x ok,g p=some (x,ok)∧P x) (hz:∀acc:List α,acc.length≤l.length→(∀x∈acc,P x)→Q (z acc)) (hfin:∀acc:List α,acc.length≤l.length→(∀x∈acc,P x)→∃r,fin acc=some r∧Q r):
  ∃r,Zn (σ:=List α) (fun (i:Nat) (x:ByteArray) row=>(g x).bind fun v=>if v.2=true then chk (row.length+1≤1073741824) (some (.inl (row++[v.1]))) else some (.inr (z row))) fin l 0 []=some r∧Q r:=by
 have key:∀(m:List ByteArray) (i:Nat) (acc:List α),(∀p∈m,p∈l)→acc.length+m.length≤l.length→(∀x∈acc,P x)→∃r,Zn (σ:=List α) (fun (i:Nat) (x:ByteArray) row=>(g x).bind fun v=>if v.2=true then chk (row.length+1≤1073741824) (some (.inl (row++[v.1]))) else some (.inr (z row))) fin m i acc=some r∧Q r:=by
  intro m
  induction m with
  | nil=>intro i acc _ hlen ha;exact hfin acc (by simp at hlen;omega) ha
  | cons x m ih=>
   intro i acc hm hlen ha
   obtain ⟨y,ok,e,hy⟩:=hg x (hp x (hm x (by simp)))
   rw [A9] at hlen
   cases ok with
   | true=>
    rw [ZV (s':=acc++[y]) (by rw [e];exact Zi _ (by omega))]
    exact ih _ _ (fun p mp=>hm p (by simp [mp])) (by simp;omega) fun q mq=>by
     rcases A4.1 mq with mq | mq
     ·exact ha q mq
     ·simp at mq;subst mq;exact hy
   | false=>exact ⟨_,Ya (by rw [e];rfl),hz acc (by omega) ha⟩
 exact key l 0 [] (fun _ h=>h) (by simp) (by simp)
theorem Zp5 {s a b:ByteArray} (hs:s.size≤1000) (ha:Xs a s) (hb:Xs b s) (r0:Zf):∃r ok,Zen r0 a b=some (r,ok)∧ZiP s r:=by
 unfold Zen
 have ha':=ha.size
 have hb':=hb.size
 obtain ⟨l,e,hl,hp⟩:=Xj (s:=a) (sep:=⟨#[32,38,32]⟩) (by omega) (by decide) (by decide)
 obtain ⟨k,e2,hk,hq⟩:=Xj (s:=b) (sep:=⟨#[32,38,32]⟩) (by omega) (by decide) (by decide)
 rw [e,A0]
 obtain ⟨r,h1,h2⟩:=ZmR (s:=s) (P:=fun x:Zr=>x.pattern.args.length≤s.size+1∧(x.kind=2→Xs ZiL s)) (g:=ZaH) (fin:=fun row_6=>(Qd b (⟨#[32,38,32]⟩)).bind fun v27=>
   Zn (σ:=(List Zx))
    (fun (i37:Nat) (x38:ByteArray) row_32=>
     (Zap x38).bind fun v39=>
     if v39.2=true then
      chk (row_32.length+1≤1073741824) <|
      some (.inl (row_32++[v39.1]))
     else
      some (.inr (({ name:=r0.name,priority:=r0.priority,cond:=row_6,thn:=row_32 }:Zf),false)))
    (fun row_32=>
     (ZbX ({ name:=r0.name,priority:=r0.priority,cond:=row_6,thn:=row_32 }:Zf)).bind fun v40=>
     some (({ name:=r0.name,priority:=r0.priority,cond:=row_6,thn:=row_32 }:Zf),v40))
    v27 0 []) (z:=fun row_6=>(({ name:=r0.name,priority:=r0.priority,cond:=row_6,thn:=[] }:Zf),false)) (Q:=fun r=>ZiP s r.1) (l:=l) (by omega) (fun p mp=>(hp p mp).trans ha) (fun p hp=>by
    obtain ⟨x,ok,e,h1,h2⟩:=ZnQ (s:=p) (by have:=hp.size;omega)
    exact ⟨x,ok,e,by have:=hp.size;omega,fun h=>(h2 h).trans hp⟩) (fun acc h1 h2=>⟨by show acc.length≤_;omega,by simp,h2,by simp⟩) (fun acc h1 h2=>by
    rw [e2,A0]
    exact ZmR (s:=s) (P:=fun x:Zx=>x.pattern.args.length≤s.size+1) (g:=Zap) (z:=fun row_32=>(({ name:=r0.name,priority:=r0.priority,cond:=acc,thn:=row_32 }:Zf),false)) (Q:=fun r=>ZiP s r.1) (l:=k) (by omega) (fun p mp=>(hq p mp).trans hb) (fun p hp=>by
     obtain ⟨x,ok,e,h1⟩:=Zo2 (s:=p) (by have:=hp.size;omega)
     exact ⟨x,ok,e,by have:=hp.size;omega⟩) (fun row h3 h4=>⟨by show acc.length≤_;omega,by show row.length≤_;omega,h2,h4⟩) (fun row h3 h4=>by
     rw [Zfr _ ⟨by show acc.length≤_;omega,by show row.length≤_;omega,fun x mx=>by have:=(h2 x mx).1;omega,fun x mx=>by have:=h4 x mx;omega⟩,A0]
     exact ⟨_,rfl,by show acc.length≤_;omega,by show row.length≤_;omega,h2,h4⟩))
 exact ⟨r.1,r.2,h1,h2⟩
theorem Zel (s:ByteArray):ZiP s { name:=⟨#[]⟩,priority:=0,cond:=[],thn:=[] }:=⟨by simp,by simp,by simp,by simp⟩
theorem Znt {s:ByteArray} (hs:s.size≤1000):∃r ok,QB s=some (r,ok)∧ZiP s r:=by
 unfold QB
 obtain ⟨l,e,hl,hp⟩:=Xj (sep:=⟨#[58,32]⟩) hs (by decide) (by decide)
 rw [e,A0]
 split
 ·exact ⟨_,_,rfl,Zel s⟩
 rename_i h2
 obtain ⟨x,y,rfl⟩:=ZsC h2
 have hx:=hp x (by simp)
 have hy:=hp y (by simp)
 have hx':=hx.size
 have hy':=hy.size
 obtain ⟨m,em,hm,hpm⟩:=Xj (s:=x) (sep:=⟨#[32]⟩) (by omega) (by decide) (by decide)
 obtain ⟨k,ek,hk,hpk⟩:=Xj (s:=y) (sep:=⟨#[32,45,62,32]⟩) (by omega) (by decide) (by decide)
 rw [Zi _ (by simp)]
 simp only[show A7 1=1 from rfl,show A7 0=0 from rfl,Ag,Ah,A0,em]
 rw [Zi _ (by simp),ek,A0]
 split
 ·exact ⟨_,_,rfl,Zel s⟩
 rename_i h3
 obtain ⟨m0,m1,rfl⟩:=ZsC h3
 split
 ·exact ⟨_,_,rfl,Zel s⟩
 rename_i h4
 obtain ⟨k0,k1,rfl⟩:=ZsC h4
 rw [Zi _ (by simp)]
 simp only[Ag,Ah,A0,Q0]
 split
 ·rw [Zi _ (by simp),Zi _ (by simp),Zi _ (by simp)]
  obtain ⟨r,ok,er,hr⟩:=Zp5 hs ((hpk k0 (by simp)).trans hy) ((hpk k1 (by simp)).trans hy) ({ name:=m0,priority:=(ZcZ m1).1,cond:=[],thn:=[] }:Zf)
  rw [er,A0]
  cases ok with
  | true=>exact ⟨_,_,rfl,hr⟩
  | false=>exact ⟨_,_,rfl,Zel s⟩
 ·exact ⟨_,_,rfl,Zel s⟩
theorem ZoD {c:ZF} (h:Qb c) {l:List ByteArray} (h0:0<l.length) (h1:l.length≤256):∃x c',Zdx c l=some (x,c')∧x∈l∧Qb c':=by
 obtain ⟨x,c',e,hx,hx2,hc⟩:=ZcC h (n:=((l.length:Nat):Int)) (by omega) (by omega)
 have hn:x.toNat<l.length:=by omega
 refine ⟨l[x.toNat],c',?_,Af _,hc⟩
 unfold Zdx
 rw [e]
 show (atI l x).bind _=_
 rw [show atI l x=some l[x.toNat] by unfold atI;rw [if_pos hx,A6 hn]]
 rfl
def RK (nots:Bool) (r:Zf):Prop:=∃s:ByteArray,s.size≤100∧(nots=false→¬Xs ZiL s)∧ZiP s r
theorem ZkZ (L:List ByteArray) (n:Int) (N:Nat) (hN:N=L.length) (h0:0<n) (hn:n≤N) (hs:∀s∈L,s.size≤100) (hL:N≤256) {c:ZF} (hc:Qb c):∃s r c',((Xb c n).bind fun v1=>chk (0≤v1.1∧v1.1<((N:Nat):Int)) ((L[(A7 v1.1)]?).bind fun x2=>(QB x2).bind fun v3=>some (v3.1,v1.2)))=some (r,c')∧s∈L.take n.toNat∧s.size≤100∧ZiP s r∧Qb c':=by
 obtain ⟨x,c',e,hx,hx2,hc'⟩:=ZcC hc h0 (by omega)
 have hl:x.toNat<L.length:=by omega
 obtain ⟨r,ok,er,hr⟩:=Znt (s:=L[x.toNat]) (by have:=hs _ (Af hl);omega)
 refine ⟨L[x.toNat],r,c',?_,?_,hs _ (Af hl),hr,hc'⟩
 ·rw [e,A0,Zi _ (by omega),A6 hl,A0,er]
  rfl
 ·rw [List.mem_take_iff_getElem]
  exact ⟨x.toNat,by omega,rfl⟩
theorem Zwa {s:ByteArray} (h:¬toL ZiL <:+: toL s):¬Xs ZiL s:=fun k=>h k.infix
theorem ZpT {c:ZF} (h:Qb c) (nots:Bool):∃r c',Zbn c nots=some (r,c')∧RK nots r∧Qb c':=by
 unfold Zbn
 have fin:∀{L:List ByteArray} {n:Int} {o:Option (Zf × ZF)},(nots=false→∀s∈L.take n.toNat,¬toL ZiL <:+: toL s)→(∃s r c',o=some (r,c')∧s∈L.take n.toNat∧s.size≤100∧ZiP s r∧Qb c')→∃r c',o=some (r,c')∧RK nots r∧Qb c':=fun hn ⟨s,r,c',e,h1,h2,h3,h4⟩=>⟨r,c',e,⟨s,h2,fun hf=>Zwa (hn hf s h1),h3⟩,h4⟩
 cases nots with
 | true=>
  rw [if_pos rfl]
  exact fin (fun h=>by cases h) (ZkZ _ 11 11 rfl (by omega) (by omega) (by decide) (by omega) h)
 | false=>
  rw [if_neg (by simp)]
  exact fin (fun _=>by decide) (ZkZ _ 7 11 rfl (by omega) (by omega) (by decide) (by omega) h)
theorem RK.name {nots:Bool} {r:Zf} (h:RK nots r) (n:ByteArray) (p:Int):RK nots { name:=n,priority:=p,cond:=r.cond,thn:=r.thn }:=by
 obtain ⟨s,h1,h2,h3⟩:=h
 exact ⟨s,h1,h2,h3.cl,h3.tl,h3.ca,h3.ta⟩
theorem Zr7 {nots:Bool} {R:List Zf} (hl:R.length≤100) (h:∀r∈R,RK nots r):ZbC R:=by
 have one:∀r∈R,Za6 r∧r.cond.length≤101:=fun r mr=>by
  obtain ⟨s,h1,_,h3⟩:=h r mr
  have:=h3.cl
  have:=h3.tl
  exact ⟨⟨by omega,by omega,fun x mx=>by have:=(h3.ca x mx).1;omega,fun x mx=>by have:=h3.ta x mx;omega⟩,by omega⟩
 refine ⟨fun r mr=>(one r mr).1,?_⟩
 have:∀l:List Zf,(∀r∈l,r∈R)→(l.flatMap Yc).length≤101 * l.length:=by
  intro l
  induction l with
  | nil=>intro _;simp
  | cons r l ih=>
   intro hm
   have h1:=ih fun q mq=>hm q (by simp [mq])
   have h2:=ZkR r
   have h3:=(one r (hm r (by simp))).2
   rw [Am,AD,A9]
   omega
 have:=this R fun _ h=>h
 omega
theorem Zow {c:ZF} (h:Qb c) (nots:Bool):∃R c',Zda c nots=some (R,c')∧R.length≤3∧(∀r∈R,RK nots r)∧Qb c':=by
 unfold Zda
 obtain ⟨n,c1,e,n0,n1,hc⟩:=ZcC h (n:=4) (by omega) (by omega)
 rw [e,A0]
 have key:∀(k:Nat) (cc:ZF) (row:List Zf),Qb cc→row.length+k≤3→(∀r∈row,RK nots r)→∃R c',Y5 (σ:=(List Int) × Int × Int × (List Zf) × Int)
  (fun s=>
   match s with
   | (f_4,f_5,f_6,row_7,n_8)=>
   if (decide (0<n_8))=true then
    (Zbn ({ b:=f_4,i:=f_5,h:=f_6 }:ZF) nots).bind fun v9=>
    (XO n_8).bind fun v10=>
    chk ((⟨#[114]⟩:ByteArray).size+v10.size≤9223372036854775807) <|
    chk (row_7.length+1≤1073741824) <|
    some (.inl (v9.2.b,v9.2.i,v9.2.h,(row_7++[({ name:=((⟨#[114]⟩:ByteArray)++v10),priority:=v9.1.priority,cond:=v9.1.cond,thn:=v9.1.thn }:Zf)]),(IntKind.i64.wrap (n_8 - 1))))
   else
    some (.inr (row_7,({ b:=f_4,i:=f_5,h:=f_6 }:ZF))))
  (cc.b,cc.i,cc.h,row,((k:Nat):Int))=some (R,c')∧R.length≤3∧(∀r∈R,RK nots r)∧Qb c':=by
  intro k
  induction k with
  | zero=>
   intro cc row hcc hl hr
   exact ⟨row,cc,YG rfl,by omega,hr,hcc⟩
  | succ k ih=>
   intro cc row hcc hl hr
   obtain ⟨r,c2,e2,hrk,hc2⟩:=ZpT hcc nots
   have hpos:decide (0<(((k+1:Nat)):Int))=true:=decide_eq_true (by omega)
   have hw:IntKind.i64.wrap ((((k+1:Nat)):Int) - 1)=((k:Nat):Int):=by rw [Xn (by omega) (by omega)];omega
   have hsz:(ofL (Lib.itoa ((k+1:Nat):Int))).size≤21:=Zss ⟨by omega,by omega⟩
   refine (YU (s':=(c2.b,c2.i,c2.h,row++[({ name:=((⟨#[114]⟩:ByteArray)++ofL (Lib.itoa ((k+1:Nat):Int))),priority:=r.priority,cond:=r.cond,thn:=r.thn }:Zf)],((k:Nat):Int))) ?_) ▸ ih c2 _ hc2 (by simp;omega) fun q mq=>?_
   ·simp only[hpos,if_true]
    rw [show ({ b:=cc.b,i:=cc.i,h:=cc.h }:ZF)=cc from rfl,e2,A0,ZfT ⟨by omega,by omega⟩,A0,Zi _ (by have:(⟨#[114]⟩:ByteArray).size=1:=rfl;omega),Zi _ (by omega),hw]
   ·rcases A4.1 mq with mq | mq
    ·exact hr q mq
    ·simp at mq;subst mq;exact hrk.name _ _
 have e5:n=((n.toNat:Nat):Int):=by omega
 have:=key n.toNat c1 [] hc (by simp;omega) (fun y hy=>by simp at hy)
 rw [←e5] at this
 exact this
theorem ZqB {c:ZF} (h:Qb c) {m:Int} (h0:0≤m) (h7:m≤7):∃l c',Zeo c m=some (l,c')∧l.length≤7∧(∀f∈l,f.args.length≤2)∧Qb c':=by
 unfold Zeo
 have hw:IntKind.i64.wrap (m+1)=m+1:=Xn (by omega) (by omega)
 rw [hw]
 obtain ⟨n,c1,e,n0,n1,hc⟩:=ZcC h (n:=m+1) (by omega) (by omega)
 rw [e,A0]
 have put:∀(row:List Zd) (f:Zd),row.length≤7→(∀f∈row,f.args.length≤2)→f.args.length≤2→∃row',YI row f=some row'∧row'.length≤row.length+1∧∀f∈row',f.args.length≤2:=fun row f hl ha hf=>⟨_,Zk2 row f (by omega) (fun x mx=>by have:=ha x mx;omega) (by omega),ZjK f row,fun x mx=>by
  rcases Qm.1 mx with rfl | mx
  ·exact hf
  ·exact ha x mx⟩
 have key:∀(k:Nat) (cc:ZF) (row:List Zd),Qb cc→row.length+k≤7→(∀f∈row,f.args.length≤2)→∃l c',Y5 (σ:=(List Int) × Int × Int × (List Zd) × Int)
   (fun s=>
   match s with
   | (f_9,f_10,f_11,row_12,n_13)=>
   if (decide (0<n_13))=true then
    (Zdx ({ b:=f_9,i:=f_10,h:=f_11 }:ZF) ([(⟨#[97]⟩),(⟨#[98]⟩),(⟨#[49]⟩),(⟨#[50]⟩)])).bind fun v14=>
    (Zdx v14.2 ([(⟨#[97]⟩),(⟨#[98]⟩),(⟨#[49]⟩)])).bind fun v15=>
    (Xb v15.2 5).bind fun v16=>
    if (v16.1==0)=true then
     (YI row_12 ({ rel:=(⟨#[112]⟩),args:=[v14.1] }:Zd)).bind fun v17=>
     some (.inl (v16.2.b,v16.2.i,v16.2.h,v17,(IntKind.i64.wrap (n_13 - 1))))
    else
     if (v16.1==1)=true then
      (YI row_12 ({ rel:=(⟨#[97,116]⟩),args:=[v14.1,v15.1] }:Zd)).bind fun v18=>
      some (.inl (v16.2.b,v16.2.i,v16.2.h,v18,(IntKind.i64.wrap (n_13 - 1))))
     else
      if (v16.1==2)=true then
       (YI row_12 ({ rel:=(⟨#[113]⟩),args:=[v14.1] }:Zd)).bind fun v19=>
       some (.inl (v16.2.b,v16.2.i,v16.2.h,v19,(IntKind.i64.wrap (n_13 - 1))))
      else
       (YI row_12 ({ rel:=(⟨#[111,110]⟩),args:=[v14.1,v15.1] }:Zd)).bind fun v20=>
       some (.inl (v16.2.b,v16.2.i,v16.2.h,v20,(IntKind.i64.wrap (n_13 - 1))))
   else
    some (.inr (row_12,({ b:=f_9,i:=f_10,h:=f_11 }:ZF))))
   (cc.b,cc.i,cc.h,row,((k:Nat):Int))=some (l,c')∧l.length≤7∧(∀f∈l,f.args.length≤2)∧Qb c':=by
  intro k
  induction k with
  | zero=>
   intro cc row hcc hl hr
   exact ⟨row,cc,YG rfl,by omega,hr,hcc⟩
  | succ k ih=>
   intro cc row hcc hl hr
   obtain ⟨a,c2,e2,_,hc2⟩:=ZoD hcc (l:=[(⟨#[97]⟩),(⟨#[98]⟩),(⟨#[49]⟩),(⟨#[50]⟩)]) (by simp) (by simp)
   obtain ⟨b,c3,e3,_,hc3⟩:=ZoD hc2 (l:=[(⟨#[97]⟩),(⟨#[98]⟩),(⟨#[49]⟩)]) (by simp) (by simp)
   obtain ⟨x,c4,e4,_,_,hc4⟩:=ZcC hc3 (n:=5) (by omega) (by omega)
   have hpos:decide (0<(((k+1:Nat)):Int))=true:=decide_eq_true (by omega)
   have hw:IntKind.i64.wrap ((((k+1:Nat)):Int) - 1)=((k:Nat):Int):=by rw [Xn (by omega) (by omega)];omega
   have go:∀f:Zd,f.args.length≤2→∀{body:(List Int) × Int × Int × (List Zd) × Int→Option (((List Int) × Int × Int × (List Zd) × Int) ⊕ (List Zd × ZF))},(body (cc.b,cc.i,cc.h,row,((k+1:Nat):Int))=(YI row f).bind fun v=>some (.inl (c4.b,c4.i,c4.h,v,((k:Nat):Int))))→(∀(row:List Zd),row.length+k≤7→(∀f∈row,f.args.length≤2)→∃l c',Y5 body (c4.b,c4.i,c4.h,row,((k:Nat):Int))=some (l,c')∧l.length≤7∧(∀f∈l,f.args.length≤2)∧Qb c')→∃l c',Y5 body (cc.b,cc.i,cc.h,row,((k+1:Nat):Int))=some (l,c')∧l.length≤7∧(∀f∈l,f.args.length≤2)∧Qb c':=fun f hf body hb hi=>by
    obtain ⟨row',ep,hl',hr'⟩:=put row f (by omega) hr hf
    rw [YU (hb.trans (by rw [ep];rfl))]
    exact hi row' (by omega) hr'
   have hi:=fun row=>ih c4 row hc4
   by_cases x0:x=0
   ·refine go { rel:=(⟨#[112]⟩),args:=[a] } (by simp) ?_ hi
    simp only[hpos,if_true]
    rw [show ({ b:=cc.b,i:=cc.i,h:=cc.h }:ZF)=cc from rfl,e2,A0,e3,A0,e4,A0,hw,if_pos (by simp [x0])]
   ·by_cases x1:x=1
    ·refine go { rel:=(⟨#[97,116]⟩),args:=[a,b] } (by simp) ?_ hi
     simp only[hpos,if_true]
     rw [show ({ b:=cc.b,i:=cc.i,h:=cc.h }:ZF)=cc from rfl,e2,A0,e3,A0,e4,A0,hw,if_neg (by simp [x0]),if_pos (by simp [x1])]
    ·by_cases x2:x=2
     ·refine go { rel:=(⟨#[113]⟩),args:=[a] } (by simp) ?_ hi
      simp only[hpos,if_true]
      rw [show ({ b:=cc.b,i:=cc.i,h:=cc.h }:ZF)=cc from rfl,e2,A0,e3,A0,e4,A0,hw,if_neg (by simp [x0]),if_neg (by simp [x1]),if_pos (by simp [x2])]
     ·refine go { rel:=(⟨#[111,110]⟩),args:=[a,b] } (by simp) ?_ hi
      simp only[hpos,if_true]
      rw [show ({ b:=cc.b,i:=cc.i,h:=cc.h }:ZF)=cc from rfl,e2,A0,e3,A0,e4,A0,hw,if_neg (by simp [x0]),if_neg (by simp [x1]),if_neg (by simp [x2])]
 have e5:n=((n.toNat:Nat):Int):=by omega
 have:=key n.toNat c1 [] hc (by simp;omega) (fun y hy=>by simp at hy)
 rw [←e5] at this
 exact this
theorem Zky (code:List Int) (h:code.length≤4096):∃R base,Q1 code=some (R,base)∧R.length≤3∧(∀r∈R,RK true r)∧base.length≤7∧∀f∈base,f.args.length≤2:=by
 obtain ⟨c,e1,h1⟩:=ZtT code h
 obtain ⟨R,c1,e2,r1,r2,h2⟩:=Zow h1 true
 obtain ⟨base,c2,e3,b1,b2,_⟩:=ZqB h2 (m:=5) (by omega) (by omega)
 refine ⟨R,base,?_,r1,r2,b1,b2⟩
 unfold Q1
 rw [e1,A0,e2,A0,e3]
 rfl
section
open Classical
theorem Zse {l:List Zd} {f:Zd}:Z9 l f<0↔f∉l:=by
 rcases Zhd l f with ⟨h1,h2⟩ | ⟨j,h1,h2⟩
 ·exact ⟨fun _=>h1,fun _=>by omega⟩
 ·exact ⟨fun h=>by omega,fun h=>absurd (AJ h2) h⟩
theorem Znn {l:List Zd} {f:Zd}:0≤Z9 l f↔f∈l:=by
 have:=Zse (l:=l) (f:=f)
 by_cases h:f∈l
 ·exact ⟨fun _=>h,fun _=>Int.not_lt.1 fun hn=>this.1 hn h⟩
 ·exact ⟨fun hn=>absurd hn (Int.not_le.2 (this.2 h)),fun hh=>absurd hh h⟩
end
section
open Classical
theorem Zp3 (l:List Zd) (f:Zd):Zh6 l f=some (decide (f∈l)):=by
 unfold Zh6
 rw [Zbw,A0]
 exact congrArg some (decide_eq_decide.2 Znn)
theorem Zsp {code:List Int} (h:¬decide (4096<((code.length:Nat):Int))=true):code.length≤4096:=by
 simp at h;omega
theorem ZtE (code:List Int):ZqV code=some (decide (4096<((code.length:Nat):Int))):=rfl
end
section
open Classical
theorem Zj7 (code:List Int):Zew code=some true:=by
 unfold Zew
 rw [ZtE,A0]
 split
 ·rfl
 rename_i hb
 obtain ⟨R,base,e1,hl,hrk,hbl,hba⟩:=Zky code (Zsp hb)
 have hR:=Zr7 (by omega) hrk
 obtain ⟨F,b,ok,g1,g2,g3⟩:=Zhb hR base (by omega)
 rw [e1]
 simp only[A0]
 rw [g1]
 simp only[A0]
 rw [g2]
 simp only[A0]
 rw [if_pos (by simp)]
 rcases g3 with ⟨rfl,rfl,rfl⟩ | ⟨rfl,hG,rfl,h60⟩
 ·have hm:Zbg R base=some ([],false):=by unfold Zbg;rw [g1];rfl
  rw [hm]
  rfl
 ·have hB:=ZdS.of hG h60
  have hm:Zbg R base=some (YT F (rdB { nodes:=((F.length:Nat):Int),reasons:=YJ R F base }),true):=by
   unfold Zbg
   rw [g1,A0,if_pos rfl,Zo3 hB hG.args rfl];rfl
  rw [hm]
  simp only[A0,if_true]
  rw [ZpW hB]
  simp only[A0]
  rw [Ze1 hB]
  simp only[A0,if_true]
  have hrd:(rdB { nodes:=((F.length:Nat):Int),reasons:=YJ R F base }).length=F.length:=by rw [hB.rd];simp
  have hnd:=Zg2 hG.good.asc
  have hF24:=hG.len
  generalize rdB { nodes:=((F.length:Nat):Int),reasons:=YJ R F base }=rd at hrd ⊢
  rw [if_neg (by simp),if_neg (by simp [hrd])]
  refine (QL (fun p:List Zd=>(((p.filter fun x=>decide (x∈YT F rd)).length:Nat):Int)) F ?_).trans ?_
  rotate_left
  ·have hk:(YT F rd).Nodup:=BK ZiB hnd
   have l1:=Zcs hk (m:=F.filter fun x=>decide (x∈YT F rd)) fun x mx=>Ab.2 ⟨Zms.2 x mx,by simpa using mx⟩
   have l2:=Zcs (BK List.filter_sublist hnd) (l:=F.filter fun x=>decide (x∈YT F rd)) (m:=YT F rd) fun x mx=>by simpa using (Ab.1 mx).2
   rw [show (F.filter fun x=>decide (x∈YT F rd)).length=(YT F rd).length by omega]
   simp
  ·intro p x q e
   have hx:F[p.length]?=some x:=by rw [e];simp
   have hpl:p.length<F.length:=(AI.1 hx).1
   have hrl:p.length<rd.length:=by omega
   have hv:rdN rd ((p.length:Nat):Int)=rd[p.length]:=by unfold rdN;rw [AK,A6 hrl];rfl
   have hiff:x∈YT F rd↔0≤rd[p.length]:=by
    rw [ZtX hnd hrd,Zm3 hnd hx,hv]
    exact ⟨fun h=>h.2,fun h=>⟨AJ hx,h⟩⟩
   have hlen:(p.filter fun x=>decide (x∈YT F rd)).length≤24:=AN (Au _ _) (by omega)
   rw [Zi _ (by rw [AU];omega),List.getElem?_map,A6 hrl,Option.map_some,A0,Zp3,A0,List.filter_append]
   by_cases h:0≤rd[p.length]
   ·have hx':=hiff.2 h
    rw [decide_eq_true h,decide_eq_true hx',if_pos (show (true==true)=true from rfl),if_pos rfl,Xn (by omega) (by omega)]
    have:List.filter (fun x=>decide (x∈YT F rd)) [x]=[x]:=by simp [hx']
    rw [this,AD]
    simp
   ·have hx':x∉YT F rd:=fun hh=>h (hiff.1 hh)
    rw [decide_eq_false h,decide_eq_false hx',if_pos (show (false==false)=true from rfl),if_neg (by simp)]
    have:List.filter (fun x=>decide (x∈YT F rd)) [x]=[]:=by simp [hx']
    rw [this]
    simp
section
variable {R:List Zf} {base F:List Zd}
end
end
section
open Go.RowKit
def ZH {α β:Type} (R:α→β→Prop):List α→List β→Prop
 | [],[]=>True
 | a::l,b::r=>R a b∧ZH R l r
 | _,_=>False
section
variable {α β:Type} {R R':α→β→Prop}
theorem ZH.len:∀{l:List α} {r:List β},ZH R l r→l.length=r.length
 | [],[],_=>rfl
 | _::_,_::_,h=>by simp [h.2.len]
 | [],_::_,h=>h.elim
 | _::_,[],h=>h.elim
theorem ZH.mono:∀{l:List α} {r:List β},ZH R l r→(∀a b,a∈l→R a b→R' a b)→ZH R' l r
 | [],[],_,_=>trivial
 | _::_,_::_,h,f=>⟨f _ _ (by simp) h.1,h.2.mono fun a b m=>f a b (by simp [m])⟩
 | [],_::_,h,_=>h.elim
 | _::_,[],h,_=>h.elim
theorem ZH.at:∀{l:List α} {r:List β} {i:Nat} {a:α},ZH R l r→l[i]?=some a→∃b,r[i]?=some b∧R a b
 | [],[],_,_,_,h=>by simp at h
 | _::_,b::_,0,_,h,e=>by simp at e;subst e;exact ⟨b,by simp,h.1⟩
 | _::_,_::_,i+1,a,h,e=>by
  obtain ⟨b,h1,h2⟩:=h.2.at (i:=i) (a:=a) (by simpa using e)
  exact ⟨b,by simpa using h1,h2⟩
 | [],_::_,_,_,h,_=>h.elim
 | _::_,[],_,_,h,_=>h.elim
theorem ZH.set:∀{l:List α} {r:List β} {i:Nat} {a:α} {b:β},ZH R l r→R a b→ZH R (l.set i a) (r.set i b)
 | [],[],_,_,_,_,_=>trivial
 | _::_,_::_,0,_,_,h,e=>⟨e,h.2⟩
 | _::_,_::_,_+1,_,_,h,e=>⟨h.1,h.2.set e⟩
 | [],_::_,_,_,_,h,_=>h.elim
 | _::_,[],_,_,_,h,_=>h.elim
theorem ZH.drop:∀{l:List α} {r:List β} (n:Nat),ZH R l r→ZH R (l.drop n) (r.drop n)
 | _,_,0,h=>by simpa using h
 | [],[],n+1,_=>by simp [ZH]
 | _::_,_::_,n+1,h=>by simpa using h.2.drop n
 | [],_::_,_+1,h=>h.elim
 | _::_,[],_+1,h=>h.elim
theorem ZH.take:∀{l:List α} {r:List β} (n:Nat),ZH R l r→ZH R (l.take n) (r.take n)
 | _,_,0,h=>by simp [ZH]
 | [],[],n+1,_=>by simp [ZH]
 | _::_,_::_,n+1,h=>by simpa using ⟨h.1,h.2.take n⟩
 | [],_::_,_+1,h=>h.elim
 | _::_,[],_+1,h=>h.elim
theorem ZH.append:∀{l l':List α} {r r':List β},ZH R l r→ZH R l' r'→ZH R (l++l') (r++r')
 | [],_,[],_,_,h=>h
 | _::_,_,_::_,_,h,h'=>⟨h.1,h.2.append h'⟩
 | [],_,_::_,_,h,_=>h.elim
 | _::_,_,[],_,h,_=>h.elim
end
class NW where
 B0:Nat
structure Gh where
 val:Nat→Value
 O:Nat→List Nat
 D:Nat→List Nat
 Z:Nat→Prop
def Gh.own (g:Gh) (b:Nat):Prop:=(∃k,b∈g.O k)∨g.Z b
def Gh.low (g:Gh) (b:Nat):Prop:=g.own b∨∃k,b∈g.D k
structure X7 (g g':Gh) (n:Nat):Prop where
 own:∀b,g'.own b→g.own b∨n≤b
 low:∀b,g'.low b→g.low b∨n≤b
structure Y7 (g' g:Gh):Prop where
 own:∀b,g'.own b→g.own b
 low:∀b,g'.low b→g.low b
theorem X7.refl (g:Gh) (n:Nat):X7 g g n:=⟨fun _ h=>.inl h,fun _ h=>.inl h⟩
theorem Y7.refl (g:Gh):Y7 g g:=⟨fun _ h=>h,fun _ h=>h⟩
theorem Y7.trans {a b c:Gh} (h:Y7 a b) (k:Y7 b c):Y7 a c:=⟨fun x hx=>k.own x (h.own x hx),fun x hx=>k.low x (h.low x hx)⟩
theorem Y7.grow {g' g:Gh} (h:Y7 g' g) (n:Nat):X7 g g' n:=⟨fun x hx=>.inl (h.own x hx),fun x hx=>.inl (h.low x hx)⟩
theorem Y7.of {g' g:Gh} (h:∀b,g'.own b→g.own b) (k:∀j b,b∈g'.D j→∃i,b∈g.D i):Y7 g' g:=⟨h,fun x hx=>hx.imp (h x) fun ⟨j,mj⟩=>k j x mj⟩
theorem X7.of {g g':Gh} {n:Nat} (h:∀b,g'.own b→g.own b∨n≤b) (k:∀j b,b∈g'.D j→g.low b∨n≤b):X7 g g' n:=⟨h,fun x hx=>by
 rcases hx with hx | ⟨j,mj⟩
 ·exact (h x hx).imp (fun q=>.inl q) id
 ·exact k j x mj⟩
structure QK extends World where
 z:Nat→Prop
 x:Nat→Prop
 hv:Option Value
structure Bel (W:QK) (w:World):Prop where
 os:w.os=W.os
 tape:w.tape=W.tape
 output:w.output=W.output
 size:W.heap.size≤w.heap.size
 block:∀k,k<W.heap.size→¬W.x k→w.heap[k]?=W.heap[k]?
theorem Bel.trans {W:QK} {w w':World} (h:Bel W w) (k:Below w.heap.size w w'):Bel W w':=
 ⟨k.os.trans h.os,k.tape.trans h.tape,k.output.trans h.output,AN h.size k.size,fun i hi hx=>(k.block i (Nat.lt_of_lt_of_le hi h.size)).trans (h.block i hi hx)⟩
def NR [NW] (g:Gh) (w:World) (x:CT) (v:Value):Prop:=
 ∃e m xs cs L,x=.sl e m xs∧0<m∧w.ownsV 0 e m v xs.length cs∧REs w m xs cs L∧(v.ownBlock.toList++L).Nodup∧∀b∈v.ownBlock.toList++L,¬g.low b∧NW.B0≤b∧∃cur t,w.heap[b]?=some (.cells cur t (0,0))
def AVR [NW] (g:Gh) (w:World):AV→Value→Prop
 | .c x,v=>∃L,RC w x v L∧∀b∈L,¬g.own b
 | .n x,v=>NR g w x v
 | .row k,v=>v=g.val k∧v.oneCell'=true
 | .nil _ _,v=>v=.slice none 0 0
 | .dead,v=>v.oneCell'=true
def PVR [NW] (g:Gh) (w:World):Bool→List AV→Value→Prop
 | true,cs,v=>∃vs:List Value,v=.agg vs.toArray∧ZH (AVR g w) cs vs
 | false,cs,v=>∃x,cs=[x]∧AVR g w x v
def SVR [NW] (g:Gh) (w:World):SV→Value→Prop
 | .any,_=>True
 | .und,v=>v=undef
 | .p a cs,v=>PVR g w a cs v
 | .tup xs,v=>∃vs:List Value,v=.tuple vs.toArray∧ZH (fun x u=>PVR g w x.1 x.2 u) xs vs
 | .bp k off,v=>∃b,g.val k=.pointer (some ⟨b,0,none⟩)∧v=.pointer (some ⟨b,off,none⟩)
 | .rp k m i off,v=>∃b o n c,g.val k=.slice (some ⟨b,o,none⟩) n c∧v=.pointer (some ⟨b,o+(i * m+off),none⟩)
 | .ep e off,v=>∃b lo cs L,v=.pointer (some ⟨b,lo+off,none⟩)∧Q9 w b lo cs∧RCs w e cs L∧(∀x∈b::L,¬g.own x)∧b<w.heap.size
 | .fn f,v=>v=.func (.func f) #[] #[]
def ObR [NW] (g:Gh) (w:World) (k:Nat):Ob→Prop
 | .gone=>g.O k=[]∧g.D k=[]
 | .box t cs=>∃b vs,g.val k=.pointer (some ⟨b,0,none⟩)∧g.O k=[b]∧g.D k=[]∧w.heap[b]?=some (.cells vs.toArray t (0,0))∧ZH (AVR g w) cs vs
 | .row e m xs d=>0<m∧∃cs L,w.ownsV 0 e m (g.val k) xs.length cs∧REs w m xs cs L∧((d=2∧g.O k=(g.val k).ownBlock.toList∧g.D k=L)∨(d=1∧g.O k=(g.val k).ownBlock.toList∧g.D k=[]∧∀b∈L,¬g.own b)∨(d=0∧g.O k=[]∧g.D k=[]∧∀b∈(g.val k).ownBlock.toList++L,¬g.own b))
 | .map kk vk kv=>∃b es c,g.val k=.map (some b)∧g.O k=[b]∧g.D k=[]∧w.heap[b]?=some (.map es c)∧Zc2 es=kv∧Zib kk vk kv
def Xk (w:World) (o:Ob) (b:Nat):Prop:=
 match o with
 | .map _ _ _=>∃es c,w.heap[b]?=some (.map es c)
 | _=>∃cur e,w.heap[b]?=some (.cells cur e (0,0))
theorem Xk.lt {w:World} {o:Ob} {b:Nat} (h:Xk w o b):b<w.heap.size:=by
 unfold Xk at h
 split at h
 ·obtain ⟨_,_,h⟩:=h;exact (B2.1 h).1
 ·obtain ⟨_,_,h⟩:=h;exact (B2.1 h).1
theorem Xk.keep {w w':World} {o:Ob} {b:Nat} (h:Xk w o b) (e:w'.heap[b]?=w.heap[b]?):Xk w' o b:=by
 unfold Xk at h ⊢
 rw [e];exact h
def ZhR:Ob→Bool
 | .map _ _ _=>true
 | _=>false
theorem Xk.of {w:World} {o o':Ob} {b:Nat} (h:Xk w o b) (e:ZhR o'=ZhR o):Xk w o' b:=by
 cases o<;>cases o'<;>simp [ZhR] at e<;>exact h
structure HI [NW] (W:QK) (g:Gh) (ob:Nat→Ob) (w:World):Prop where
 below:Bel W w
 obs:∀k,ObR g w k (ob k)
 nodup:∀k,(g.O k++g.D k).Nodup
 apart:∀k j,k≠j→∀b∈g.O k++g.D k,b∉g.O j++g.D j
 plain:∀k,∀b∈g.O k++g.D k,(W.heap.size≤b∨W.x b)∧Xk w (ob k) b
 gz:g.Z=W.z
 zx:∀b,W.z b→b<W.heap.size∧¬W.x b
 nw:∀b,(W.heap.size≤b∨W.x b)→NW.B0≤b
def avU (U:Nat→Prop):AV→Prop
 | .row k=>U k
 | _=>True
def X6 (U:Nat→Prop) (cs:List AV):Prop:=∀x∈cs,avU U x
def svU (U:Nat→Prop):SV→Prop
 | .p _ cs=>X6 U cs
 | .tup xs=>∀x∈xs,X6 U x.2
 | .bp k _=>U k
 | .rp k _ _ _=>U k
 | _=>True
def obU (U:Nat→Prop):Ob→Prop
 | .box _ cs=>X6 U cs
 | _=>True
structure StU (U:Nat→Prop) (st:St):Prop where
 sl:∀t,svU U (st.sl t)
 ob:∀k,obU U (st.ob k)
 gone:∀k,¬U k→st.ob k=.gone
theorem HI.lt [NW] {W:QK} {g:Gh} {ob:Nat→Ob} {w:World} (h:HI W g ob w) (k:Nat):∀b∈g.O k++g.D k,b<w.heap.size:=by
 intro b m
 exact (h.plain k b m).2.lt
theorem HI.nz [NW] {W:QK} {g:Gh} {ob:Nat→Ob} {w:World} (h:HI W g ob w) {k b:Nat} (m:b∈g.O k++g.D k):¬g.Z b:=fun hz=>by
 rw [h.gz] at hz
 obtain ⟨h1,h2⟩:=h.zx b hz
 rcases (h.plain k b m).1 with h3 | h3
 ·omega
 ·exact h2 h3
section
variable {g g':Gh} {w w':World} {U:Nat→Prop}
theorem NR.move [NW] {x:CT} {v:Value} (h:NR g w x v)
  (hw:∀b,b<w.heap.size→¬g.own b→w'.heap[b]?=w.heap[b]?) (ho:X7 g g' w.heap.size):NR g' w' x v:=by
 obtain ⟨e,m,xs,cs,L,h1,h2,h3,h4,h5,h6⟩:=h
 have hlt:∀b∈v.ownBlock.toList++L,b<w.heap.size:=fun b mb=>by
  obtain ⟨_,_,_,_,q⟩:=h6 b mb
  exact (B2.1 q).1
 have hs:∀b∈v.ownBlock.toList++L,w'.heap[b]?=w.heap[b]?:=fun b mb=>hw b (hlt b mb) fun o=>(h6 b mb).1 (.inl o)
 refine ⟨e,m,xs,cs,L,h1,h2,Zhf h3 fun b mb=>hs b (by simp [mb]),h4.keep fun b mb=>hs b (by simp [mb]),h5,fun b mb=>⟨fun o=>?_,(h6 b mb).2.1,by rw [hs b mb];exact (h6 b mb).2.2⟩⟩
 rcases ho.low b o with o | o
 ·exact (h6 b mb).1 o
 ·have:=hlt b mb;omega
theorem AVR.move [NW] {x:AV} {v:Value} (h:AVR g w x v) (hx:avU U x) (hv:∀k,U k→g'.val k=g.val k)
  (hw:∀b,b<w.heap.size→¬g.own b→w'.heap[b]?=w.heap[b]?) (ho:X7 g g' w.heap.size):AVR g' w' x v:=by
 cases x with
 | c x=>
  obtain ⟨L,h1,h2⟩:=h
  have hlt:=h1.lt
  refine ⟨L,h1.keep fun b m=>hw b (hlt b m) (h2 b m),fun b m o=>?_⟩
  rcases ho.own b o with o | o
  ·exact h2 b m o
  ·have:=hlt b m;omega
 | n x=>exact NR.move h hw ho
 | row k=>exact ⟨h.1.trans (hv k hx).symm,h.2⟩
 | nil e m=>exact h
 | dead=>exact h
theorem AVRs.move [NW] {cs:List AV} {vs:List Value} (h:ZH (AVR g w) cs vs) (hx:X6 U cs) (hv:∀k,U k→g'.val k=g.val k)
  (hw:∀b,b<w.heap.size→¬g.own b→w'.heap[b]?=w.heap[b]?) (ho:X7 g g' w.heap.size):ZH (AVR g' w') cs vs:=
 h.mono fun a _ m r=>r.move (hx a m) hv hw ho
theorem PVR.move [NW] {a:Bool} {cs:List AV} {v:Value} (h:PVR g w a cs v) (hx:X6 U cs) (hv:∀k,U k→g'.val k=g.val k)
  (hw:∀b,b<w.heap.size→¬g.own b→w'.heap[b]?=w.heap[b]?) (ho:X7 g g' w.heap.size):PVR g' w' a cs v:=by
 cases a with
 | true=>obtain ⟨vs,h1,h2⟩:=h;exact ⟨vs,h1,AVRs.move h2 hx hv hw ho⟩
 | false=>obtain ⟨x,h1,h2⟩:=h;exact ⟨x,h1,h2.move (hx x (by simp [h1])) hv hw ho⟩
theorem SVR.move [NW] {s:SV} {v:Value} (h:SVR g w s v) (hx:svU U s) (hv:∀k,U k→g'.val k=g.val k)
  (hw:∀b,b<w.heap.size→¬g.own b→w'.heap[b]?=w.heap[b]?) (ho:X7 g g' w.heap.size) (hs:w.heap.size≤w'.heap.size):SVR g' w' s v:=by
 cases s with
 | any=>exact h
 | und=>exact h
 | p a cs=>exact PVR.move h hx hv hw ho
 | tup xs=>
  obtain ⟨vs,h1,h2⟩:=h
  exact ⟨vs,h1,h2.mono fun x _ m r=>r.move (hx x m) hv hw ho⟩
 | bp k off=>obtain ⟨b,h1,h2⟩:=h;exact ⟨b,(hv k hx).trans h1,h2⟩
 | rp k m i off=>obtain ⟨b,o,n,c,h1,h2⟩:=h;exact ⟨b,o,n,c,(hv k hx).trans h1,h2⟩
 | ep e off=>
  obtain ⟨b,lo,cs,L,h1,h2,h3,h4,h5⟩:=h
  have hlt:=h3.lt
  refine ⟨b,lo,cs,L,h1,fun j u hu=>?_,h3.keep fun x m=>hw x (hlt x m) (h4 x (by simp [m])),fun x m o=>?_,by omega⟩
  ·rw [←h2 j u hu];exact World.cell?_of_block (hw b h5 (h4 b (by simp)))
  ·rcases ho.own x o with o | o
   ·exact h4 x m o
   ·rcases A5.1 m with rfl | m
    ·omega
    ·have:=hlt x m;omega
 | fn f=>exact h
theorem HI.step [NW] {W:QK} {ob ob':Nat→Ob} (h:HI W g ob w) (T:Nat→Prop)
  (hbel:Bel W w') (hZ:g'.Z=g.Z)
  (hw:∀b,b<w.heap.size→(∀k,T k→b∉g.O k)→w'.heap[b]?=w.heap[b]?)
  (hk:∀k,¬T k→ob' k=ob k∧g'.val k=g.val k∧g'.O k=g.O k∧g'.D k=g.D k)
  (hobU:∀k,obU U (ob k)) (hv:∀k,U k→g'.val k=g.val k)
  (ho:X7 g g' w.heap.size)
  (hT:∀k,T k→ObR g' w' k (ob' k)∧(g'.O k++g'.D k).Nodup∧(∀b∈g'.O k++g'.D k,(W.heap.size≤b∨W.x b)∧Xk w' (ob' k) b)∧∀j,k≠j→∀b∈g'.O k++g'.D k,b∉g'.O j++g'.D j):
  HI W g' ob' w':=by
 have hw':∀b,b<w.heap.size→¬g.own b→w'.heap[b]?=w.heap[b]?:=fun b hb hn=>hw b hb fun k _ m=>hn (.inl ⟨k,m⟩)
 have hkeepF:∀k,¬T k→∀b∈g.O k++g.D k,w'.heap[b]?=w.heap[b]?:=fun k hk b m=>
  hw b (h.lt k b m) fun j hj mj=>h.apart j k (fun e=>hk (e ▸ hj)) b (by simp [mj]) m
 refine ⟨hbel,fun k=>?_,fun k=>?_,fun k j hkj b m=>?_,fun k b m=>?_,hZ.trans h.gz,h.zx,h.nw⟩
 ·by_cases hTk:T k
  ·exact (hT k hTk).1
  ·obtain ⟨e1,e2,e3,e4⟩:=hk k hTk
   have hob:=h.obs k
   have hF:=hkeepF k hTk
   have hU:=hobU k
   rw [e1]
   cases hok:ob k with
   | gone=>rw [hok] at hob;exact ⟨e3.trans hob.1,e4.trans hob.2⟩
   | box t cs=>
    rw [hok] at hob hU
    obtain ⟨b,vs,h1,h2,h3,h4,h5⟩:=hob
    exact ⟨b,vs,e2.trans h1,e3.trans h2,e4.trans h3,by rw [hF b (by simp [h2])];exact h4,AVRs.move h5 hU hv hw' ho⟩
   | map kk vk kv=>
    rw [hok] at hob
    obtain ⟨b,es,c,h1,h2,h3,h4,h5⟩:=hob
    exact ⟨b,es,c,e2.trans h1,e3.trans h2,e4.trans h3,by rw [hF b (by simp [h2])];exact h4,h5⟩
   | row e m xs d=>
    rw [hok] at hob
    obtain ⟨hm,cs,L,h1,h2,h4⟩:=hob
    have hltL:=h2.lt
    have hL:∀b∈L,w'.heap[b]?=w.heap[b]?:=fun b mb=>by
     rcases h4 with ⟨_,_,h4⟩ | ⟨_,_,_,h4⟩ | ⟨_,_,_,h4⟩
     ·exact hF b (by simp [h4,mb])
     ·exact hw' b (hltL b mb) (h4 b mb)
     ·exact hw' b (hltL b mb) (h4 b (by simp [mb]))
    have hOb:∀b∈(g.val k).ownBlock.toList,w'.heap[b]?=w.heap[b]?:=fun b mb=>by
     rcases h4 with ⟨_,h3,_⟩ | ⟨_,h3,_⟩ | ⟨_,_,_,h4⟩
     ·exact hF b (by simp [h3,mb])
     ·exact hF b (by simp [h3,mb])
     ·exact hw' b (Zp8 h1 b mb) (h4 b (by simp [mb]))
    refine ⟨hm,cs,L,by rw [e2];exact Zhf h1 hOb,h2.keep hL,?_⟩
    rw [e2,e3,e4]
    have hno:∀b,b<w.heap.size→¬g.own b→¬g'.own b:=fun b hb hn o=>by
     rcases ho.own b o with o | o
     ·exact hn o
     ·omega
    rcases h4 with h4 | ⟨hd,h3,h4,h5⟩ | ⟨hd,h3,h4,h5⟩
    ·exact .inl h4
    ·exact .inr (.inl ⟨hd,h3,h4,fun b mb=>hno b (hltL b mb) (h5 b mb)⟩)
    ·refine .inr (.inr ⟨hd,h3,h4,fun b mb=>?_⟩)
     rcases A4.1 mb with m1 | m1
     ·exact hno b (Zp8 h1 b m1) (h5 b mb)
     ·exact hno b (hltL b m1) (h5 b mb)
 ·by_cases hTk:T k
  ·exact (hT k hTk).2.1
  ·obtain ⟨e1,e2,e3,e4⟩:=hk k hTk
   rw [e3,e4];exact h.nodup k
 ·by_cases hTk:T k
  ·exact (hT k hTk).2.2.2 j hkj b m
  ·by_cases hTj:T j
   ·exact fun mj=>(hT j hTj).2.2.2 k (fun e=>hkj e.symm) b mj m
   ·obtain ⟨_,_,e3,e4⟩:=hk k hTk
    obtain ⟨_,_,f3,f4⟩:=hk j hTj
    rw [e3,e4] at m
    rw [f3,f4]
    exact h.apart k j hkj b m
 ·by_cases hTk:T k
  ·exact (hT k hTk).2.2.1 b m
  ·obtain ⟨_,_,e3,e4⟩:=hk k hTk
   rw [e3,e4] at m
   obtain ⟨p1,p2⟩:=h.plain k b m
   obtain ⟨e1,_⟩:=hk k hTk
   exact ⟨p1,by rw [e1];exact p2.keep (hkeepF k hTk b m)⟩
end
structure Inv [NW] (W:QK) (U:Nat→Prop) (st:St) (a:Act) (w:World):Prop where
 ex:∃g,HI W g st.ob w∧∀t,SVR g w (st.sl t) (a.tmps.getD t undef)
 wf:StU U st
 defers:a.defers=[]
 hand:∀v,W.hv=some v→a.tmps.getD 0 undef=v
end
section
open Go.RowKit
def QV:AV→Value→Bool
 | .c (.int k n),.int k' n'=>k==k'&&n==n'
 | .c (.bool b),.bool b'=>b==b'
 | .c (.str s),.string s'=>s.data.toList==s'.data.toList&&Z2 s
 | .nil _ m,.slice none 0 0=>Nat.blt 0 m
 | _,_=>false
def ZgW:TypeDesc→AV→Bool
 | .int k,.c (.int k' _)=>k==k'
 | .bool,.c (.bool _)=>true
 | .string,.c (.str _)=>true
 | _,_=>false
def Zpk:TypeDesc→Bool
 | .struct _=>true
 | .array _ _=>true
 | _=>false
def Zc4:PK→TypeDesc→Bool
 | .int k,.int k'=>k==k'
 | .str,.string=>true
 | .bool,.bool=>true
 | _,_=>false
def EqF (P:Program):List PK→List Field→Nat→Prop
 | [],[],_=>True
 | k :: ks, f :: fs, n => f.name ≠ "_" ∧ f.offset = n ∧ (∃ d, P.underlying f.type = some d ∧ Zc4 k d = true) ∧ EqF P ks fs (n + 1)
 | _,_,_=>False
def TOk (P:Program) (t:TypeId):TI→Prop
 | .atom z=>∃d zv i,P.underlying t=some d∧ZgW d z=true∧P.info? t=some i∧i.zero=some zv∧i.size=1∧QV z zv=true
 | .strct fs n z=>∃(fields:Array Field) (i:TypeInfo) (zvs:Array Value),P.underlying t=some (.struct fields)∧P.info? t=some i∧i.size=n∧i.zero=some (.agg zvs)∧ZH (fun a v=>QV a v=true) z zvs.toList∧
   ZH (fun (fi:FI) (f:Field)=>f.offset=fi.off∧fi.size≠0∧∃j d,P.info? f.type=some j∧j.size=fi.size∧P.underlying f.type=some d∧Zpk d=fi.agg) fs fields.toList
 | .slice e m bytes z=>P.underlying t=some (.slice e)∧0<m∧bytes≤131072∧(∃(i:TypeInfo) (zv:Value),P.info? e=some i∧i.size=m∧i.bytes=bytes∧i.zero=some zv∧ZH (fun a v=>QV a v=true) z zv.cells.toList∧z.length=m)∧
   ∃j:TypeInfo,P.info? t=some j∧j.size=1∧j.zero=some (.slice none 0 0)
 | .ifc=>∃ms,P.underlying t=some (.interface ms)
 | .map kk vk=>∃kt et dk dv i zv,P.underlying t=some (.map kt et)∧P.underlying kt=some dk∧Zc4 kk dk=true∧P.underlying et=some dv∧Zc4 vk dv=true∧P.info? et=some i∧i.zero=some zv∧QV (ZdG vk) zv=true
 | .eqs ks=>∃u,t=u+4000∧P.underlying u=some (.struct (P.fieldsOf u))∧P.stoodInHeld u=false∧P.eqGuardType P.depth u=false∧EqF P ks (P.fieldsOf u).toList 0
section
variable {P:Program} {w:World} {t:TypeId}
theorem ZpU {i:TypeInfo} (h:P.info? t=some i):(typeInfo t).run P w=.ok i w:=by simp [typeInfo,program,Sem.run,h]
theorem Yh {d:TypeDesc} (h:P.underlying t=some d):(underlying t).run P w=.ok d w:=by simp [underlying,program,Sem.run,h]
theorem Xp [NW] {i:TypeInfo} (h:P.info? t=some i):(sizeOf t).run P w=.ok i.size w:=by simp [sizeOf,ZpU h]
theorem Zhp [NW] {i:TypeInfo} {z:Value} (h:P.info? t=some i) (hz:i.zero=some z):(zeroValue t).run P w=.ok z w:=by simp [zeroValue,ZpU h,hz]
theorem Zgq [NW] {d:TypeDesc} (h:P.underlying t=some d):(isAgg t).run P w=.ok (Zpk d) w:=by
 simp only[isAgg,Sem.run_bind,Yh h,Result.andThen_ok]
 cases d<;>rfl
theorem ZtM {d:TypeDesc} {z:AV} (h:ZgW d z=true):Zpk d=false:=by
 unfold ZgW at h
 split at h<;>first | rfl | simp at h
end
section
variable {g:Gh} {w:World}
theorem Zpn {s:ByteArray} (h:Z2 s=true):s.size≤9223372036854775807:=by
 unfold Z2 at h
 have:=Nat.le_of_ble_eq_true h
 rw [Array.length_toList] at this
 exact this
theorem Zep [NW] {x:AV} {v:Value} (h:QV x v=true):AVR g w x v:=by
 unfold QV at h
 split at h
 ·simp only[A3,beq_iff_eq] at h
  exact ⟨[],⟨by rw [h.1,h.2],rfl⟩,by simp⟩
 ·simp only[beq_iff_eq] at h
  exact ⟨[],⟨by rw [h],rfl⟩,by simp⟩
 ·rename_i s s'
  simp only[A3,beq_iff_eq] at h
  have e:s=s':=by
   cases s;cases s'
   simpa using h.1
  exact ⟨[],⟨by rw [e],rfl,Zpn h.2⟩,by simp⟩
 ·rfl
 ·simp at h
theorem AVR.one [NW] {x:AV} {v:Value} (h:AVR g w x v):v.oneCell'=true:=by
 cases x with
 | c x=>obtain ⟨L,h1,_⟩:=h;exact h1.one
 | n x=>
  obtain ⟨e,m,xs,cs,L,h1,h2,h3,_⟩:=h
  obtain ⟨A,c,hv,_⟩:=ZcS h3
  simp [hv,Value.oneCell']
 | row k=>exact h.2
 | nil e m=>simp [AVR] at h;simp [h,Value.oneCell']
 | dead=>exact h
theorem ZmH {v:Value} (h:v.oneCell'=true):v.cells=#[v]:=by
 cases v<;>simp [Value.oneCell'] at h<;>rfl
theorem PVR.cells [NW] {a:Bool} {cs:List AV} {v:Value} (h:PVR g w a cs v):∃vs:List Value,v.cells=vs.toArray∧ZH (AVR g w) cs vs:=by
 cases a with
 | true=>obtain ⟨vs,rfl,h2⟩:=h;exact ⟨vs,rfl,h2⟩
 | false=>obtain ⟨x,rfl,h2⟩:=h;exact ⟨[v],by rw [ZmH h2.one],⟨h2,trivial⟩⟩
theorem AVRs.one [NW] {cs:List AV} {vs:List Value} (h:ZH (AVR g w) cs vs):∀u∈vs,u.oneCell'=true:=by
 induction vs generalizing cs with
 | nil=>simp
 | cons v r ih=>
  cases cs with
  | nil=>exact h.elim
  | cons c cs=>
   intro u m
   rcases A5.1 m with rfl | m
   ·exact h.1.one
   ·exact ih h.2 u m
end
theorem Zrt (x y:ByteArray):(x.toList==y.toList)=decide (x=y):=by
 rw [AR]
 simp only[beq_iff_eq,decide_eq_true_eq]
 constructor
 ·intro h
  have h':x.data.toList=y.data.toList:=by rw [←BL,←BL];exact h
  cases x;cases y
  simpa using h'
 ·rintro rfl;rfl
end
end Go.Proofs.YtekbmedphidcgaaGreatDoor
