/- Texts of this proof, joined: R14, S14, F6, F7, M13, P13, F8, S15, S17, P11, L13C, Q11, R11, N2, N4, N5, N8, F9, N10, F10, S11, T11, N11, MText, Mk, N12. What each holds is said at its theorems. -/
import Derived.Test.YtfehfkfdfmcgfaaGreatDoorEWhySetsQ2
import Derived.Test.YtfehfkfdfmcgfaaGreatDoorProg
import Derived.Test.YtfehfkfdfmcgfaaGreatDoorEWhySetsQ1
import Derived.Outline
import Derived.WalkSpells
import Derived.WalkLawsBesides
set_option linter.unusedSimpArgs false
set_option linter.unusedVariables false
open Bool renaming and_eq_true→A1,eq_iff_iff→A9,false_eq_true→AC,true_and→AH,not_eq_true'→Ad,false_or→Al,or_eq_true→Ao,and_assoc→B7,false_and→BA
open ByteArray renaming size→B5
open Go.ByteArray renaming mk_append_mk→BK
open Int renaming toNat→AG,toNat_natCast→AL,eq_ofNat_of_zero_le→AR,toNat_of_nonneg→AW,le_refl→Ae,le_trans→Af
open List renaming mem_append→A2,mem_cons→A3,replicate→A4,foldl_cons→A5,length_cons→A6,all_eq_true→A7,getElem?_eq_getElem→A8,mem_map→AB,mem_flatMap→AD,mem_singleton→AE,mem_of_getElem?→AF,pairwise_cons→AI,getElem?_eq_some_iff→AJ,length_append→AK,getElem?_eq_none→AM,range'→AN,map_cons→AO,mem_filterMap→AP,foldl_append→AS,sum_cons→AT,mem_filter→AU,length_map→AX,eq_nil_of_length_eq_zero→AY,length_nil→Aa,countP_cons→Ab,countP_le_length→Ah,getElem?_append_left→Ai,length_singleton→Aj,flatMap_cons→Ak,flatMap_append→Am,dropLast_concat_getLast→An,pairwise_iff_getElem→Ap,nil_append→Ar,length_filter_le→Au,ext_getElem?→Av,map_append→Ax,getElem?_set→Ay,length_filterMap_le→B0,mem_iff_getElem?→B1,nodup_cons→B3,nodup_append→B8,mergeSort_perm→B9,nodup_nil→BB,filterMap_cons→BC,filter_cons→BD,map_flatMap→BE,length_replicate→BF,length_set→BG,pairwise_append→BH,mem_of_mem_drop→BI,filter_sublist→BJ
open List.Pairwise renaming nil→AZ
open Nat renaming zero_add→AA,le_trans→AQ,le_refl→Ag,zero_le→At,shiftRight_eq_div_pow→Az,add_sub_cancel→B4,testBit_and→B6
open Option renaming bind_some→A0,map_eq_some_iff→Ac,isSome_some→B2
open Option.some renaming injEq→BL,inj→As
open Prod renaming fst→Aw
open UInt8 renaming ofNat→Aq
namespace Go.Proofs.YtfehfkfdfmcgfaaGreatDoor
section
section
variable {α σ ρ:Type} {body:Nat→α→σ→Option (σ ⊕ ρ)}
theorem Zoo (I:List α→σ→Prop) (Q:ρ→Prop):∀(l pre:List α) (s:σ),I pre s→(∀p x s,x∈l→p.length<pre.length+l.length→I p s→(∃s',body p.length x s=some (.inl s')∧I (p++[x]) s')∨∃r,body p.length x s=some (.inr r)∧Q r)→
  (∃s',(∀fin:σ→Option ρ,Zo body fin l pre.length s=fin s')∧I (pre++l) s')∨∃r,(∀fin:σ→Option ρ,Zo body fin l pre.length s=some r)∧Q r
 | [],pre,s,h,_=>.inl ⟨s,fun _=>rfl,by simpa using h⟩
 | x::l,pre,s,h,hs=>by
  rcases hs pre x s (by simp) (by simp) h with ⟨s',e,h'⟩ | ⟨r,e,h'⟩
  ·rcases Zoo I Q l (pre++[x]) s' h' fun p y s m hp hI=>hs p y s (by simp [m]) (by simp at hp ⊢;omega) hI with ⟨s2,e2,h2⟩ | ⟨r,e2,h2⟩
   ·refine .inl ⟨s2,fun fin=>?_,by simpa using h2⟩
    rw [ZX e]
    simpa using e2 fin
   ·refine .inr ⟨r,fun fin=>?_,h2⟩
    rw [ZX e]
    simpa using e2 fin
  ·exact .inr ⟨r,fun fin=>Yi e,h'⟩
theorem ZbG (I:List α→σ→Prop) (Q:ρ→Prop) (l:List α) (s:σ) (h:I [] s) (hs:∀p x s,x∈l→p.length<l.length→I p s→(∃s',body p.length x s=some (.inl s')∧I (p++[x]) s')∨∃r,body p.length x s=some (.inr r)∧Q r):
  (∃s',(∀fin:σ→Option ρ,Zo body fin l 0 s=fin s')∧I l s')∨∃r,(∀fin:σ→Option ρ,Zo body fin l 0 s=some r)∧Q r:=by
 have:=Zoo I Q l [] s h fun p x s m hp hI=>hs p x s m (by simpa using hp) hI
 simpa using this
theorem ZeL (I:List α→σ→Prop) (l:List α) (s:σ) (h:I [] s) (hs:∀p x s,x∈l→p.length<l.length→I p s→∃s',body p.length x s=some (.inl s')∧I (p++[x]) s'):∃s',(∀fin:σ→Option ρ,Zo body fin l 0 s=fin s')∧I l s':=by
 rcases ZbG I (fun _=>False) l s h fun p x s m hp hI=>.inl (hs p x s m hp hI) with h | ⟨_,_,h⟩
 ·exact h
 ·exact h.elim
end
def Xk (r:Zg):List ByteArray:=r.thn.filterMap fun x=>if x.kind=1∨x.kind=2 then some x.pattern.rel else none
def Yq (r:Zg):List ByteArray:=r.cond.filterMap fun x=>if x.kind=1∨x.kind=2 then some x.pattern.rel else none
theorem Zqp (r:Zg):(Xk r).length≤r.thn.length:=B0 _ _
theorem ZlT (r:Zg):(Yq r).length≤r.cond.length:=B0 _ _
theorem ZhI (r:Zg) (h:r.thn.length≤1048576):Qf r=some (ZT (Xk r)):=by
 unfold Qf
 rw [YC (g:=fun x:Zz=>if x.kind=1∨x.kind=2 then some x.pattern.rel else none)]
 ·have:=Zqp r
  simp only[Ar]
  show (Ym (Xk r)).bind _=_
  rw [XZ _ (by omega)]
  rfl
 ·intro j x s _ hs
  simp at hs
  by_cases h1:x.kind=1
  ·simp only[h1,beq_self_eq_true,if_true];rw [Zh _ (by omega)];rfl
  ·by_cases h2:x.kind=2
   ·have:((2:Int)==1)=false:=by decide
    simp only[h2,this,AC,if_false,beq_self_eq_true,if_true];rw [Zh _ (by omega)];rfl
   ·simp [h1,h2]
theorem ZoQ (r:Zg) (h:r.cond.length≤1048576):ZbX r=some (ZT (Yq r)):=by
 unfold ZbX
 rw [YC (g:=fun x:Zt=>if x.kind=1∨x.kind=2 then some x.pattern.rel else none)]
 ·have:=ZlT r
  simp only[Ar]
  show (Ym (Yq r)).bind _=_
  rw [XZ _ (by omega)]
  rfl
 ·intro j x s _ hs
  simp at hs
  by_cases h1:x.kind=1
  ·simp only[h1,beq_self_eq_true,if_true];rw [Zh _ (by omega)];rfl
  ·by_cases h2:x.kind=2
   ·have:((2:Int)==1)=false:=by decide
    simp only[h2,this,AC,if_false,beq_self_eq_true,if_true];rw [Zh _ (by omega)];rfl
   ·simp [h1,h2]
theorem Zj0 {α:Type} (kd:α→Int) (f:α→ByteArray):∀(l:List α) (acc:List ByteArray),l.foldl (fun s x=>if kd x=1∨kd x=2 then Qh s (f x) else s) acc=(l.filterMap fun x=>if kd x=1∨kd x=2 then some (f x) else none).foldl Qh acc
 | [],_=>rfl
 | x::l,acc=>by
  rw [A5,Zj0 kd f l]
  by_cases h:kd x=1∨kd x=2<;>simp [h]
theorem ZhJ (r:Zg) (h:r.thn.length≤1048576):QR r=some (ZT (Xk r)):=by
 unfold QR
 rw [YM (f:=fun s (x:Zz)=>if x.kind=1∨x.kind=2 then Qh s x.pattern.rel else s) (fun j s=>s.length≤j) (by simp)]
 ·congr 1
  exact Zj0 (fun x:Zz=>x.kind) (fun x=>x.pattern.rel) r.thn []
 ·intro j x s _ _ hl hI
  have:=Zdx x.pattern.rel s
  by_cases h1:x.kind=1
  ·simp only[h1,beq_self_eq_true,if_true,true_or];rw [Qb _ _ (by omega)];exact ⟨rfl,by omega⟩
  ·by_cases h2:x.kind=2
   ·have:((2:Int)==1)=false:=by decide
    simp only[h2,this,AC,if_false,beq_self_eq_true,if_true,or_true];rw [Qb _ _ (by omega)];exact ⟨rfl,by omega⟩
   ·simp [h1,h2];omega
theorem Zpo (r:Zg) (h:r.cond.length≤1048576):ZbY r=some (ZT (Yq r)):=by
 unfold ZbY
 rw [YM (f:=fun s (x:Zt)=>if x.kind=1∨x.kind=2 then Qh s x.pattern.rel else s) (fun j s=>s.length≤j) (by simp)]
 ·congr 1
  exact Zj0 (fun x:Zt=>x.kind) (fun x=>x.pattern.rel) r.cond []
 ·intro j x s _ _ hl hI
  have:=Zdx x.pattern.rel s
  by_cases h1:x.kind=1
  ·simp only[h1,beq_self_eq_true,if_true,true_or];rw [Qb _ _ (by omega)];exact ⟨rfl,by omega⟩
  ·by_cases h2:x.kind=2
   ·have:((2:Int)==1)=false:=by decide
    simp only[h2,this,AC,if_false,beq_self_eq_true,if_true,or_true];rw [Qb _ _ (by omega)];exact ⟨rfl,by omega⟩
   ·simp [h1,h2];omega
def Zdq (R:List Zg) (x y:ByteArray):Prop:=∃r∈R,x∈Xk r∧y∈Yq r
inductive YJ (R:List Zg) (a:ByteArray):ByteArray→Prop
 | one {y:ByteArray}:Zdq R a y→YJ R a y
 | next {x y:ByteArray}:YJ R a x→Zdq R x y→YJ R a y
theorem YJ.step {R:List Zg} {a x y:ByteArray} (hx:x=a∨YJ R a x) (h:Zdq R x y):YJ R a y:=by
 rcases hx with rfl | hx
 ·exact .one h
 ·exact .next hx h
structure Zbc (R:List Zg):Prop where
 s:∀r∈R,QC r
 n:(R.flatMap Yq).length≤1048576
theorem Zf8 {m:List (ByteArray × Bool)} {k y:ByteArray}:Zah (Zfn m k true) y false=if y=k then true else Zah m y false:=by
 unfold Zah
 induction m with
 | nil=>
  by_cases h:y=k<;>simp [Zfn,ZfW,h]
 | cons p r ih=>
  simp only[Zfn]
  by_cases h:k=p.1
  ·subst h
   rw [if_pos rfl]
   by_cases h2:y=p.1
   ·simp [ZfW,h2]
   ·simp [ZfW,h2]
  ·rw [if_neg h]
   by_cases h2:y=p.1
   ·subst h2
    have:¬p.1=k:=fun e=>h e.symm
    simp [ZfW,this]
   ·simp only[ZfW,if_neg h2];exact ih
def ZcF (m:List (ByteArray × Bool)) (y:ByteArray):Prop:=Zah m y false=true
def Zgb (U:List ByteArray) (m:List (ByteArray × Bool)):Nat:=U.countP fun y=>!Zah m y false
theorem Zfb {α:Type} {p q:α→Bool}:∀{l:List α},(∀x∈l,p x=true→q x=true)→∀y∈l,p y=false→q y=true→l.countP p+1≤l.countP q
 | x::l,h,y,hy,h1,h2=>by
  rw [Ab,Ab]
  have hle:l.countP p≤l.countP q:=List.countP_mono_left fun z mz=>h z (by simp [mz])
  have hx:=h x (by simp)
  rcases A3.1 hy with rfl | hy
  ·simp [h1,h2];omega
  ·have ih:=Zfb (p:=p) (q:=q) (l:=l) (fun z mz=>h z (by simp [mz])) y hy h1 h2
   cases hp:p x with
   | true=>simp [hx hp];omega
   | false=>cases q x<;>simp<;>omega
structure ZrD (U:List ByteArray) (P:ByteArray→Prop) (s0 s:List (ByteArray × Bool) × List ByteArray):Prop where
 mono:∀y,ZcF s0.1 y→ZcF s.1 y
 fresh:∀y,ZcF s.1 y→ZcF s0.1 y∨(P y∧y∈s.2)
 sub:∀y∈s0.2,y∈s.2
 row:∀y∈s.2,y∈s0.2∨ZcF s.1 y
 cnt:Zgb U s.1+s.2.length≤Zgb U s0.1+s0.2.length
theorem ZrD.refl (U:List ByteArray) (P:ByteArray→Prop) (s:List (ByteArray × Bool) × List ByteArray):ZrD U P s s:=⟨fun _ h=>h,fun _ h=>.inl h,fun _ h=>h,fun _ h=>.inl h,Ag _⟩
theorem ZrD.push {U:List ByteArray} {P:ByteArray→Prop} {s0:List (ByteArray × Bool) × List ByteArray} {m:List (ByteArray × Bool)} {row:List ByteArray} (h:ZrD U P s0 (m,row)) {y:ByteArray} (hy:Zah m y false=false) (hU:y∈U) (hP:P y):ZrD U P s0 (Zfn m y true,row++[y]):=by
 have hS:∀z,ZcF (Zfn m y true) z↔z=y∨ZcF m z:=fun z=>by
  unfold ZcF
  rw [Zf8]
  by_cases e:z=y<;>simp [e]
 refine ⟨fun z hz=>(hS z).2 (.inr (h.mono z hz)),fun z hz=>?_,fun z hz=>A2.2 (.inl (h.sub z hz)),fun z hz=>?_,?_⟩
 ·rcases (hS z).1 hz with rfl | hz
  ·exact .inr ⟨hP,by simp⟩
  ·exact (h.fresh z hz).imp id fun ⟨a,b⟩=>⟨a,A2.2 (.inl b)⟩
 ·rcases A2.1 hz with hz | hz
  ·exact (h.row z hz).imp id fun hh=>(hS z).2 (.inr hh)
  ·exact .inr ((hS z).2 (.inl (by simpa using hz)))
 ·have h1:=h.cnt
  have h2:Zgb U (Zfn m y true)+1≤Zgb U m:=Zfb (fun z _ hz=>by
   rw [Zf8] at hz
   by_cases e:z=y
   ·simp [e] at hz
   ·simpa [e] using hz) y hU (by rw [Zf8];simp) (by simp [hy])
  show _+(row++[y]).length≤_
  rw [AK]
  simp only at h1 ⊢
  simp
  omega
theorem Yh {σ ρ:Type} {body:σ→Option (σ ⊕ ρ)} {s s':σ} (h:body s=some (.inl s')):Yp body s=Yp body s':=by rw [Zfq,h]
theorem Z2 {σ ρ:Type} {body:σ→Option (σ ⊕ ρ)} {s:σ} {r:ρ} (h:body s=some (.inr r)):Yp body s=some r:=by rw [Zfq,h]
theorem Zni {R:List Zg} (hR:Zbc R) (a:ByteArray):∃m,Zde R a=some m∧∀y,ZcF m y↔YJ R a y:=by
 have hU:∀r∈R,∀y∈Yq r,y∈R.flatMap Yq:=fun r mr y my=>AD.2 ⟨r,mr,my⟩
 have key:∀(n:Nat) (m:List (ByteArray × Bool)) (row:List ByteArray),Zgb (R.flatMap Yq) m+row.length≤n→n≤1048577→(∀y,ZcF m y→YJ R a y)→(∀y∈row,y=a∨ZcF m y)→(∀z,(z=a∨ZcF m z)→z∈row∨∀y,Zdq R z y→ZcF m y)→
   ∃m',Yp (σ:=(List (ByteArray × Bool)) × (List ByteArray)) (fun s=>
   match s with
   | (mp_42,row_43)=>
   if (decide (0<((row_43.length:Nat):Int)))=true then
    chk (0≤0∧0<((row_43.length:Nat):Int)) <|
    (row_43[(AG 0)]?).bind fun x44=>
    chk (0≤1∧1≤((row_43.length:Nat):Int)) <|
    Zo (σ:=(List (ByteArray × Bool)) × (List ByteArray))
     (fun (i72:Nat) (x73:Zg) s=>
      match s with
      | (mp_57,row_58)=>
      (Qf x73).bind fun v74=>
      (Xc v74 x44).bind fun v75=>
      if v75=true then
       (ZbX x73).bind fun v76=>
       Zo (σ:=(List (ByteArray × Bool)) × (List ByteArray))
        (fun (i83:Nat) (x84:ByteArray) s=>
         match s with
         | (mp_80,row_81)=>
         if (Zah mp_80 x84 false)=true then
          some (.inl (mp_80,row_81))
         else
          chk (row_81.length+1≤1073741824) <|
          some (.inl ((Zfn mp_80 x84 true),(row_81++[x84]))))
        (fun s=>
         match s with
         | (mp_80,row_81)=>
         some (.inl (mp_80,row_81)))
        v76 0 (mp_57,row_58)
      else
       some (.inl (mp_57,row_58)))
     (fun s=>
      match s with
      | (mp_57,row_58)=>
      some (.inl (mp_57,row_58)))
     R 0 (mp_42,(List.drop (AG 1) row_43))
   else
    some (.inr mp_42)) (m,row)=some m'∧∀y,ZcF m' y↔YJ R a y:=by
  intro n
  induction n with
  | zero=>
   intro m row hn _ h1 h2 h3
   have hr:row=[]:=AY (by omega)
   subst hr
   refine ⟨m,by rw [Zfq];rfl,fun y=>⟨h1 y,fun hy=>?_⟩⟩
   induction hy with
   | one h=>exact ((h3 _ (.inl rfl)).resolve_left (by simp)) _ h
   | next _ h ih=>exact ((h3 _ (.inr ih)).resolve_left (by simp)) _ h
  | succ n ih=>
   intro m row hn hN h1 h2 h3
   cases row with
   | nil=>
    refine ⟨m,by rw [Zfq];rfl,fun y=>⟨h1 y,fun hy=>?_⟩⟩
    induction hy with
    | one h=>exact ((h3 _ (.inl rfl)).resolve_left (by simp)) _ h
    | next _ h ih=>exact ((h3 _ (.inr ih)).resolve_left (by simp)) _ h
   | cons x rest=>
    have hx:x=a∨YJ R a x:=(h2 x (by simp)).imp id (h1 x)
    have hn':Zgb (R.flatMap Yq) m+rest.length≤n:=by simp at hn;omega
    obtain ⟨s',e,hg,hd⟩:=ZeL (ρ:=((List (ByteArray × Bool)) × (List ByteArray)) ⊕ (List (ByteArray × Bool))) (body:=fun (i72:Nat) (x73:Zg) (s:(List (ByteArray × Bool)) × (List ByteArray))=>
      match s with
      | (mp_57,row_58)=>
      (Qf x73).bind fun v74=>
      (Xc v74 x).bind fun v75=>
      if v75=true then
       (ZbX x73).bind fun v76=>
       Zo (σ:=(List (ByteArray × Bool)) × (List ByteArray))
        (fun (i83:Nat) (x84:ByteArray) s=>
         match s with
         | (mp_80,row_81)=>
         if (Zah mp_80 x84 false)=true then
          some (.inl (mp_80,row_81))
         else
          chk (row_81.length+1≤1073741824) <|
          some (.inl ((Zfn mp_80 x84 true),(row_81++[x84]))))
        (fun s=>
         match s with
         | (mp_80,row_81)=>
         some (.inl (mp_80,row_81)))
        v76 0 (mp_57,row_58)
      else
       some (.inl (mp_57,row_58))) (fun pre s=>ZrD (R.flatMap Yq) (YJ R a) (m,rest) s∧∀r∈pre,x∈Xk r→∀y∈Yq r,ZcF s.1 y) R (m,rest) ⟨ZrD.refl _ _ _,by simp⟩ fun p r s mr hp hI=>by
     obtain ⟨mp,rw_⟩:=s
     obtain ⟨hg,hd⟩:=hI
     have hsm:=hR.s r mr
     show ∃s',(Qf r).bind _=_∧_
     rw [ZhI r hsm.tl]
     simp only[A0]
     rw [Q5]
     simp only[A0]
     by_cases hw:x∈Xk r
     ·have hh:Yx (ZT (Xk r)) x=true:=by rw [Xw,ZP];exact hw
      rw [if_pos hh,ZoQ r hsm.cl]
      simp only[A0]
      obtain ⟨s2,e2,hg2,hd2⟩:=ZeL (ρ:=((List (ByteArray × Bool)) × (List ByteArray)) ⊕ (((List (ByteArray × Bool)) × (List ByteArray)) ⊕ (List (ByteArray × Bool)))) (body:=fun (i83:Nat) (x84:ByteArray) (s:(List (ByteArray × Bool)) × (List ByteArray))=>
         match s with
         | (mp_80,row_81)=>
         if (Zah mp_80 x84 false)=true then
          some (.inl (mp_80,row_81))
         else
          chk (row_81.length+1≤1073741824) <|
          some (.inl ((Zfn mp_80 x84 true),(row_81++[x84])))) (fun pre s=>ZrD (R.flatMap Yq) (YJ R a) (m,rest) s∧(∀y,ZcF mp y→ZcF s.1 y)∧∀y∈pre,ZcF s.1 y) (ZT (Yq r)) (mp,rw_) ⟨hg,fun _ h=>h,by simp⟩ fun p y s my hp hI=>by
       obtain ⟨m2,row2⟩:=s
       obtain ⟨g2,g3,g4⟩:=hI
       have hyr:y∈Yq r:=ZP.1 my
       by_cases hs:Zah m2 y false=true
       ·refine ⟨(m2,row2),by simp only[hs,if_true],g2,g3,fun z mz=>?_⟩
        rcases A2.1 mz with mz | mz
        ·exact g4 z mz
        ·rw [AE.1 mz];exact hs
       ·have hf:Zah m2 y false=false:=by simpa using hs
        have hc:=g2.cnt
        have hG:=g2.push hf (hU r mr y hyr) (YJ.step hx ⟨r,mr,hw,hyr⟩)
        have hmono:∀z,ZcF m2 z→ZcF (Zfn m2 y true) z:=fun z hz=>by
         unfold ZcF at *;rw [Zf8];by_cases e:z=y<;>simp [e,hz]
        refine ⟨(Zfn m2 y true,row2++[y]),?_,hG,fun z hz=>hmono z (g3 z hz),fun z mz=>?_⟩
        ·simp only[hf,AC,if_false]
         rw [Zh _ (by simp only at hc;omega)]
        ·rcases A2.1 mz with mz | mz
         ·exact hmono z (g4 z mz)
         ·rw [AE.1 mz];unfold ZcF;rw [Zf8];simp
      refine ⟨s2,by rw [e2],hg2,fun q mq hq y my=>?_⟩
      rcases A2.1 mq with mq | mq
      ·exact hd2.1 y (hd q mq hq y my)
      ·rw [AE.1 mq] at my
       exact hd2.2 y (ZP.2 my)
     ·have hh:Yx (ZT (Xk r)) x=false:=by
       cases hq:Yx (ZT (Xk r)) x with
       | false=>rfl
       | true=>rw [Xw,ZP] at hq;exact absurd hq hw
      refine ⟨(mp,rw_),by rw [if_neg (by rw [hh];simp)],hg,fun q mq hq=>?_⟩
      rcases A2.1 mq with mq | mq
      ·exact hd q mq hq
      ·rw [AE.1 mq] at hq;exact absurd hq hw
    obtain ⟨m',row'⟩:=s'
    obtain ⟨m2,r1,r2⟩:=ih m' row' (by have:=hg.cnt;simp only at this;omega) (by omega)
     (fun y hy=>(hg.fresh y hy).elim (h1 y) fun h=>h.1)
     (fun y hy=>by
      rcases hg.row y hy with h | h
      ·exact (h2 y (by simp [show y∈rest from h])).imp id (hg.mono y)
      ·exact .inr h)
     (fun z hz=>by
      have old:(z=a∨ZcF m z)→z∈row'∨∀y,Zdq R z y→ZcF m' y:=fun hz=>by
       rcases h3 z hz with h | h
       ·rcases A3.1 h with rfl | h
        ·exact .inr fun y ⟨r,mr,hw,hy⟩=>hd r mr hw y hy
        ·exact .inl (hg.sub z h)
       ·exact .inr fun y hy=>hg.mono y (h y hy)
      rcases hz with hz | hz
      ·exact old (.inl hz)
      ·rcases hg.fresh z hz with h | ⟨_,h⟩
       ·exact old (.inr h)
       ·exact .inl h)
    refine ⟨m2,(Yh ?_).trans r1,r2⟩
    show (if decide (0<(((x::rest).length:Nat):Int))=true then _ else _)=_
    rw [if_pos (decide_eq_true (by simp only[A6];omega)),Zh _ (by simp only[A6];omega)]
    show chk _ (Zo _ _ R 0 (m,rest))=_
    rw [Zh _ (by simp only[A6];omega)]
    exact e _
 unfold Zde
 refine key (Zgb (R.flatMap Yq) []+1) [] [a] (by simp) ?_ (fun y hy=>by simp [ZcF,Zah,ZfW] at hy) (fun y hy=>.inl (by simpa using hy)) (fun z hz=>.inl ?_)
 ·have:=hR.n
  have h2:Zgb (R.flatMap Yq) []≤(R.flatMap Yq).length:=Ah
  omega
 ·rcases hz with rfl | hz
  ·simp
  ·simp [ZcF,Zah,ZfW] at hz
def Zjs (U row:List ByteArray):Nat:=U.countP fun y=>!Yx row y
theorem Zof {row:List ByteArray} {y z:ByteArray}:Yx (row++[y]) z=true↔Yx row z=true∨z=y:=by
 rw [Xw,Xw,A2,AE]
theorem ZpN {U row:List ByteArray} {y:ByteArray} (hU:y∈U) (hy:Yx row y=false):Zjs U (row++[y])+1≤Zjs U row:=
 Zfb (fun z _ hz=>by
  cases h:Yx row z with
  | false=>rfl
  | true=>have:=Zof (y:=y).2 (.inl h);rw [this] at hz;simp at hz) y hU (by have:=Zof (row:=row) (y:=y) (z:=y).2 (.inr rfl);rw [this];rfl) (by rw [hy];rfl)
open Classical
theorem ZkL {R:List Zg} (hR:Zbc R) (a b:ByteArray):Zbg R a b=some (decide (YJ R a b)):=by
 have hU:∀r∈R,∀y∈Yq r,y∈R.flatMap Yq:=fun r mr y my=>AD.2 ⟨r,mr,my⟩
 unfold Zbg
 have key:∀(n u:Nat) (row:List ByteArray),Zjs (R.flatMap Yq) row+row.length≤n+u→n+u≤1048577→u≤row.length→(∀y∈row,y=a∨YJ R a y)→a∈row→(∀i x,i<u→row[i]?=some x→∀y,Zdq R x y→y∈row∧y≠b)→
   Yp (σ:=(List ByteArray) × Int)
  (fun s=>
   match s with
   | (row_55,u_56)=>
   if (decide (u_56<((row_55.length:Nat):Int)))=true then
    Zo (σ:=(List ByteArray))
     (fun (i93:Nat) (x94:Zg) row_74=>
      (QR x94).bind fun v95=>
      chk (0≤u_56∧u_56<((row_74.length:Nat):Int)) <|
      (row_74[(AG u_56)]?).bind fun x96=>
      (ZV v95 x96).bind fun v97=>
      if v97=true then
       (ZbY x94).bind fun v98=>
       (ZV v98 b).bind fun v99=>
       if v99=true then
        some (.inr (.inr true))
       else
        Zo (σ:=(List ByteArray))
         (fun (i108:Nat) (x109:ByteArray) row_105=>
          (ZV row_105 x109).bind fun v110=>
          if v110=true then
           some (.inl row_105)
          else
           chk (row_105.length+1≤1073741824) <|
           some (.inl (row_105++[x109])))
         (fun row_105=>
          some (.inl row_105))
         v98 0 row_74
      else
       some (.inl row_74))
     (fun row_74=>
      some (.inl (row_74,(IntKind.i64.wrap (u_56+1)))))
     R 0 row_55
   else
    some (.inr false))
  (row,((u:Nat):Int))=some (decide (YJ R a b)):=by
  intro n
  have fin:∀(u:Nat) (row:List ByteArray),u=row.length→a∈row→(∀i x,i<u→row[i]?=some x→∀y,Zdq R x y→y∈row∧y≠b)→¬YJ R a b:=fun u row hu ha hc hb=>by
   have all:∀y,YJ R a y→y∈row∧y≠b:=fun y hy=>by
    have one:∀x,x∈row→∀y,Zdq R x y→y∈row∧y≠b:=fun x mx y h=>by
     obtain ⟨i,hi⟩:=B1.1 mx
     exact hc i x (by rw [hu];exact (AJ.1 hi).1) hi y h
    induction hy with
    | one h=>exact one a ha _ h
    | next _ h ih=>exact one _ ih.1 _ h
   exact (all b hb).2 rfl
  have stop:∀(u:Nat) (row:List ByteArray),u=row.length→a∈row→(∀i x,i<u→row[i]?=some x→∀y,Zdq R x y→y∈row∧y≠b)→decide (YJ R a b)=false:=fun u row h1 h2 h3=>decide_eq_false (fin u row h1 h2 h3)
  induction n with
  | zero=>
   intro u row hn _ hu h1 ha hc
   have hu':u=row.length:=by omega
   rw [stop u row hu' ha hc]
   refine Z2 ?_
   show (if decide (((u:Nat):Int)<((row.length:Nat):Int))=true then _ else _)=_
   rw [if_neg (by rw [decide_eq_true_iff];omega)]
  | succ n ih=>
   intro u row hn hN hu h1 ha hc
   by_cases hlt:u<row.length
   ·have hx:row[u]?=some row[u]:=A8 hlt
    generalize row[u]=x at hx
    have hxr:x=a∨YJ R a x:=h1 x (AF hx)
    rcases ZbG (ρ:=((List ByteArray) × Int) ⊕ Bool) (body:=fun (i93:Nat) (x94:Zg) (row_74:List ByteArray)=>
      (QR x94).bind fun v95=>
      chk (0≤((u:Nat):Int)∧((u:Nat):Int)<((row_74.length:Nat):Int)) <|
      (row_74[(AG ((u:Nat):Int))]?).bind fun x96=>
      (ZV v95 x96).bind fun v97=>
      if v97=true then
       (ZbY x94).bind fun v98=>
       (ZV v98 b).bind fun v99=>
       if v99=true then
        some (.inr (.inr true))
       else
        Zo (σ:=(List ByteArray))
         (fun (i108:Nat) (x109:ByteArray) row_105=>
          (ZV row_105 x109).bind fun v110=>
          if v110=true then
           some (.inl row_105)
          else
           chk (row_105.length+1≤1073741824) <|
           some (.inl (row_105++[x109])))
         (fun row_105=>
          some (.inl row_105))
         v98 0 row_74
      else
       some (.inl row_74)) (fun pre r2=>(∃q,r2=row++q)∧Zjs (R.flatMap Yq) r2+r2.length≤n+1+u∧(∀y∈r2,y=a∨YJ R a y)∧∀r∈pre,x∈Xk r→∀y∈Yq r,y∈r2∧y≠b) (fun z=>z=.inr true∧YJ R a b) R row ⟨⟨[],by simp⟩,hn,h1,by simp⟩ fun p r r2 mr hp hI=>by
     obtain ⟨⟨q,rfl⟩,g1,g2,g3⟩:=hI
     have hsm:=hR.s r mr
     have hxq:(row++q)[u]?=some x:=by rw [Ai hlt];exact hx
     rw [ZhJ r hsm.tl,A0,Zh _ (by simp;omega),AL,hxq,A0,YV,A0]
     by_cases hw:x∈Xk r
     ·have hh:Yx (ZT (Xk r)) x=true:=by rw [Xw,ZP];exact hw
      rw [if_pos hh,Zpo r hsm.cl,A0,YV,A0]
      by_cases hb:b∈Yq r
      ·have hh:Yx (ZT (Yq r)) b=true:=by rw [Xw,ZP];exact hb
       rw [if_pos hh]
       exact .inr ⟨_,rfl,rfl,YJ.step hxr ⟨r,mr,hw,hb⟩⟩
      ·have hh:¬Yx (ZT (Yq r)) b=true:=by rw [Xw,ZP];exact hb
       rw [if_neg hh]
       obtain ⟨r3,e3,⟨q3,hq3⟩,k1,k2,k3⟩:=ZeL (ρ:=(List ByteArray) ⊕ (((List ByteArray) × Int) ⊕ Bool)) (body:=fun (i108:Nat) (x109:ByteArray) (row_105:List ByteArray)=>
          (ZV row_105 x109).bind fun v110=>
          if v110=true then
           some (.inl row_105)
          else
           chk (row_105.length+1≤1073741824) <|
           some (.inl (row_105++[x109]))) (fun pre r3=>(∃q',r3=(row++q)++q')∧Zjs (R.flatMap Yq) r3+r3.length≤n+1+u∧(∀y∈r3,y=a∨YJ R a y)∧∀y∈pre,y∈r3) (ZT (Yq r)) (row++q) ⟨⟨[],by simp⟩,g1,g2,by simp⟩ fun p y r3 my hp hI=>by
        obtain ⟨⟨q',rfl⟩,k1,k2,k3⟩:=hI
        have hyr:y∈Yq r:=ZP.1 my
        rw [YV,A0]
        by_cases hh:Yx (row++q++q') y=true
        ·rw [if_pos hh]
         refine ⟨_,rfl,⟨q',rfl⟩,k1,k2,fun z mz=>?_⟩
         rcases A2.1 mz with mz | mz
         ·exact k3 z mz
         ·rw [AE.1 mz];exact Xw.1 hh
        ·have hf:Yx (row++q++q') y=false:=by simpa using hh
         have hab:=ZpN (hU r mr y hyr) hf
         rw [if_neg hh,Zh _ (by omega)]
         refine ⟨_,rfl,⟨q'++[y],by simp⟩,by rw [AK];simp only[Aj];omega,fun z mz=>?_,fun z mz=>?_⟩
         ·rcases A2.1 mz with mz | mz
          ·exact k2 z mz
          ·rw [AE.1 mz];exact .inr (YJ.step hxr ⟨r,mr,hw,hyr⟩)
         ·rcases A2.1 mz with mz | mz
          ·exact A2.2 (.inl (k3 z mz))
          ·exact A2.2 (.inr mz)
       refine .inl ⟨r3,e3 _,⟨q++q3,by rw [hq3];simp⟩,k1,k2,fun r' mr' hw' y my=>?_⟩
       rcases A2.1 mr' with mr' | mr'
       ·have:=g3 r' mr' hw' y my
        exact ⟨by rw [hq3];exact A2.2 (.inl this.1),this.2⟩
       ·rw [AE.1 mr'] at my
        exact ⟨k3 y (ZP.2 my),fun e=>hb (e ▸ my)⟩
     ·have hh:¬Yx (ZT (Xk r)) x=true:=by rw [Xw,ZP];exact hw
      rw [if_neg hh]
      refine .inl ⟨_,rfl,⟨q,rfl⟩,g1,g2,fun r' mr' hw'=>?_⟩
      rcases A2.1 mr' with mr' | mr'
      ·exact g3 r' mr' hw'
      ·rw [AE.1 mr'] at hw';exact absurd hw' hw
    with ⟨r2,e,⟨q,rfl⟩,k1,k2,k3⟩ | ⟨z,e,rfl,hb⟩
    ·refine (Yh ?_).trans (ih (u+1) (row++q) (by omega) (by omega) (by rw [AK];omega) k2 (A2.2 (.inl ha)) fun i y hi hy z hz=>?_)
     ·show (if decide (((u:Nat):Int)<((row.length:Nat):Int))=true then _ else _)=_
      rw [if_pos (decide_eq_true (by omega)),e,YW (by omega) (by omega)]
      rfl
     ·by_cases hiu:i<u
      ·rw [Ai (by omega)] at hy
       have:=hc i y hiu hy z hz
       exact ⟨A2.2 (.inl this.1),this.2⟩
      ·have:i=u:=by omega
       subst this
       rw [Ai hlt,hx] at hy
       obtain rfl:=As hy
       obtain ⟨r,mr,hw,hr⟩:=hz
       exact k3 r mr hw z hr
    ·rw [decide_eq_true hb]
     refine Z2 ?_
     show (if decide (((u:Nat):Int)<((row.length:Nat):Int))=true then _ else _)=_
     rw [if_pos (decide_eq_true (by omega)),e]
   ·have hu':u=row.length:=by omega
    rw [stop u row hu' ha hc]
    refine Z2 ?_
    show (if decide (((u:Nat):Int)<((row.length:Nat):Int))=true then _ else _)=_
    rw [if_neg (by rw [decide_eq_true_iff];omega)]
 refine key 1048577 0 [a] ?_ (by omega) (by simp) (fun y hy=>.inl (by simpa using hy)) (by simp) (fun i x hi=>by omega)
 have h1:=hR.n
 have h2:Zjs (R.flatMap Yq) [a]≤(R.flatMap Yq).length:=Ah
 simp only[Aj]
 omega
theorem ZL9 {R:List Zg} (h:ZJL R≤1048576):Zbc R:=by
 unfold ZJL at h
 refine ⟨fun r mr=>ZMt (ZLw h mr),?_⟩
 have key:∀l:List Zg,(l.flatMap Yq).length≤(l.map ZJO).sum:=by
  intro l
  induction l with
  | nil=>simp
  | cons r l ih=>
   rw [Ak,AK,AO,AT]
   have h1:=ZlT r
   have h2:r.cond.length≤ZJO r:=by simp only[ZJO,ZJR];omega
   omega
 have:=key R
 omega
end
section
theorem ZtX (l:List Zg) (n:ByteArray):∃z,QF l n=some z:=by
 unfold QF
 rcases ZbG (ρ:=Int) (body:=fun (i4:Nat) (x5:Zg) (_:Unit)=>
   if (sEq x5.name n)=true then
    some (.inr ((i4:Nat):Int))
   else
    some (.inl ())) (fun _ _=>True) (fun _=>True) l () trivial (fun p x s mx hp _=>by
  cases h:sEq x.name n with
  | true=>exact .inr ⟨_,by rw [if_pos rfl],trivial⟩
  | false=>exact .inl ⟨(),by rw [if_neg (by simp)],trivial⟩) with ⟨s,e,_⟩ | ⟨z,e,_⟩
 ·exact ⟨-1,e _⟩
 ·exact ⟨z,e _⟩
noncomputable def Zag (l:List Zg) (n:ByteArray):Int:=(QF l n).getD 0
theorem Zeo (l:List Zg) (n:ByteArray):QF l n=some (Zag l n):=by
 obtain ⟨z,h⟩:=ZtX l n
 unfold Zag
 rw [h];rfl
theorem ZhR (l:List Zg) (n:ByteArray):ZdZ l n=some (Zag l n):=Zeo l n
noncomputable def Zd2 (R:List Zg) (j:Nat) (r:Zg):Bool:=YQ r&&(Zag R r.name==((j:Nat):Int))
noncomputable def Z6 (R:List Zg):Bool:=decide (R.length≤6)&&allI (Zd2 R) R 0
theorem Zen {R:List Zg} (h:∀r∈R,QC r):ZaL R=some (Z6 R):=by
 unfold ZaL Z6
 by_cases h6:R.length≤6
 ·rw [if_neg (by simp;omega),decide_eq_true h6,AH,Xu (p:=Zd2 R) (r:=false)]
  ·cases allI (Zd2 R) R 0<;>rfl
  ·intro j r hj
   rw [Zj7 r (h r (AF hj)),A0,Zeo]
   unfold Zd2
   simp only[A0,AA]
   cases YQ r with
   | false=>rfl
   | true=>
    by_cases hf:Zag R r.name=((j:Nat):Int)
    ·simp [hf]
    ·have e:(Zag R r.name==((j:Nat):Int))=false:=by simpa using hf
     simp [e,hf]
 ·rw [if_pos (by simp;omega),decide_eq_false h6];rfl
theorem ZmM {R:List Zg} (h:∀r∈R,QC r):ZdU R=some (Z6 R):=by
 unfold ZdU Z6
 rw [Xu (p:=Zd2 R) (r:=false)]
 ·have:decide (((R.length:Nat):Int)≤6)=decide (R.length≤6):=by rw [A9];simp;omega
  rw [this]
  cases allI (Zd2 R) R 0<;>simp
 ·intro j r hj
  rw [Zgg r (h r (AF hj)),A0,ZhR]
  unfold Zd2
  simp only[A0,AA]
  cases YQ r with
  | false=>rfl
  | true=>
   by_cases hf:Zag R r.name=((j:Nat):Int)
   ·simp [hf]
   ·have e:(Zag R r.name==((j:Nat):Int))=false:=by simpa using hf
    simp [e,hf]
open Classical
noncomputable def Zjl (R:List Zg) (rel w:ByteArray):Bool:=!sEq w rel&&!decide (YJ R rel w)
noncomputable def ZgX (R:List Zg) (r:Zg) (x:Zt):Bool:=!(x.kind==2)||(ZT (Xk r)).all (Zjl R x.pattern.rel)
noncomputable def Y4 (R:List Zg) (r:Zg):Bool:=ZM r&&r.cond.all (ZgX R r)
theorem ZfU {R:List Zg} (hR:Zbc R):Zbt R=some (Z6 R&&R.all (Y4 R)):=by
 unfold Zbt
 rw [Zen hR.s,A0]
 cases Z6 R with
 | false=>rfl
 | true=>
  rw [if_pos rfl,ZU (p:=Y4 R) (r:=false)]
  ·cases R.all (Y4 R)<;>rfl
  ·intro i r mr
   have hsm:=hR.s r mr
   rw [ZlO r hsm,A0]
   unfold Y4
   cases ZM r with
   | false=>rfl
   | true=>
    rw [if_pos rfl,ZU (p:=ZgX R r) (r:=.inr false)]
    ·cases r.cond.all (ZgX R r)<;>rfl
    ·intro i x mx
     unfold ZgX
     by_cases hk:x.kind=2
     ·obtain ⟨m,e,hm⟩:=Zni hR x.pattern.rel
      rw [if_neg (by simp [hk]),e,A0,ZhI r hsm.tl,A0,ZU (p:=Zjl R x.pattern.rel) (r:=.inr (.inr false))]
      ·rw [show (!(x.kind==2))=false by simp [hk],Al]
       cases (ZT (Xk r)).all (Zjl R x.pattern.rel)<;>rfl
      ·intro i w mw
       unfold Zjl
       have:Zah m w false=decide (YJ R x.pattern.rel w):=by
        rw [A9,decide_eq_true_iff];exact hm w
       rw [this]
       cases sEq w x.pattern.rel<;>cases decide (YJ R x.pattern.rel w)<;>rfl
     ·rw [if_pos (by simp [hk]),show (!(x.kind==2))=true by simp [hk]];rfl
theorem Ztx {α ρ:Type} {r:ρ}:∀(l:List α),Zo (σ:=Unit) (fun (_:Nat) (_:α) _=>some (.inr r)) (fun _=>some r) l 0 ()=some r
 | []=>rfl
 | _::_=>rfl
theorem Zwf (x y:ByteArray):sEq x y=sEq y x:=by
 rw [A9,ZO,ZO]
 exact eq_comm
theorem ZfN {R:List Zg} (hR:Zbc R):Zbs R=some (Z6 R&&R.all (Y4 R)):=by
 unfold Zbs
 rw [ZU (p:=Y4 R) (r:=false)]
 ·rw [ZmM hR.s,A0]
  cases R.all (Y4 R)<;>simp
 ·intro i r mr
  have hsm:=hR.s r mr
  rw [ZlX r hsm,A0]
  unfold Y4
  cases ZM r with
  | false=>rfl
  | true=>
   rw [if_pos rfl,ZhJ r hsm.tl,A0,ZU (p:=ZgX R r) (r:=.inr false)]
   ·cases r.cond.all (ZgX R r)<;>rfl
   ·intro i x mx
    unfold ZgX
    by_cases hk:x.kind=2
    ·rw [ZU (p:=Zjl R x.pattern.rel) (r:=.inr (.inr false))]
     ·rw [show (!(x.kind==2))=false by simp [hk],Al]
      cases (ZT (Xk r)).all (Zjl R x.pattern.rel)<;>rfl
     ·intro i w mw
      rw [if_pos (by simp [hk]),ZkL hR,Zwf]
      unfold Zjl
      cases sEq w x.pattern.rel<;>cases decide (YJ R x.pattern.rel w)<;>rfl
    ·have hf:(x.kind==2)=false:=by simp [hk]
     simp only[hf,AC,if_false]
     rw [Ztx]
     rfl
end
section
open Classical
noncomputable def Zda (F:List Zb) (i:Nat) (x:Zb):Bool:=Yb x&&(if i=0 then true else match F[i - 1]? with | some y=>decide (ZbB y x<0) | none=>true)
noncomputable def Z3 (F:List Zb):Bool:=decide (F.length≤24)&&allI (Zda F) F 0
theorem Zmp {α:Type} {p:Nat→α→Bool} {q:α→Bool} (h:∀i x,p i x=true→q x=true):∀{l:List α} {i:Nat},allI p l i=true→∀x∈l,q x=true
 | [],_,_=>by simp
 | y::l,i,ha=>by
  simp only[allI,A1] at ha
  intro x mx
  rcases A3.1 mx with rfl | mx
  ·exact h i _ ha.1
  ·exact Zmp h ha.2 x mx
theorem QQ {F:List Zb} (h:Z3 F=true):F.length≤24∧∀f∈F,Yb f=true:=by
 unfold Z3 at h
 rw [A1,decide_eq_true_iff] at h
 refine ⟨h.1,Zmp (fun i x hx=>?_) h.2⟩
 unfold Zda at hx
 rw [A1] at hx
 exact hx.1
theorem YY {f:Zb} (h:Yb f=true):f.args.length≤3:=by
 unfold Yb at h
 simp only[A1,decide_eq_true_iff] at h
 exact h.1.2
theorem Znt {F:List Zb} (hl:F.length≤1048576) {i:Nat} {x:Zb} (hx:F[i]?=some x):
  (if Yb x=true then (if (decide (0<((i:Nat):Int)))=true then (atI F (IntKind.i64.wrap (((i:Nat):Int) - 1))).bind fun x11=>(some (ZbB x11 x)).bind fun v12=>if (decide (0≤v12))=true then some (.inr false) else some (.inl ()) else some (.inl ())) else some (.inr false):Option (Unit ⊕ Bool))
   = some (bif Zda F i x then .inl () else .inr false):=by
 have hi:=(AJ.1 hx).1
 unfold Zda
 cases Yb x with
 | false=>rfl
 | true=>
  rw [if_pos rfl]
  by_cases h0:i=0
  ·subst h0
   rw [if_neg (by simp)]
   simp
  ·have hg:F[i - 1]?=some F[i - 1]:=A8 (by omega)
   rw [if_pos (by simp;omega),show ((i:Nat):Int) - 1=((i - 1:Nat):Int) by omega,Zd9 (by omega) (by omega),Zav,hg,A0,A0,if_neg h0]
   by_cases hc:ZbB F[i - 1] x<0
   ·rw [if_neg (by simpa using hc)]
    simp [hc]
   ·rw [if_pos (by simpa using hc)]
    simp [hc]
theorem Zca (F:List Zb):ZaH F=some (Z3 F):=by
 unfold ZaH Z3
 by_cases h:F.length≤24
 ·rw [if_neg (by simp;omega),decide_eq_true h,Xu (p:=Zda F) (r:=false)]
  ·cases allI (Zda F) F 0<;>rfl
  ·intro j x hx
   rw [AA,Zj8,A0]
   simp only[Zeb]
   exact Znt (by omega) hx
 ·rw [if_pos (by simp;omega),decide_eq_false h]
  rfl
theorem ZhY (F:List Zb) (hl:F.length≤1048576):Zdv F=some (Z3 F):=by
 unfold Zdv Z3
 rw [Xu (p:=Zda F) (r:=false)]
 ·have:decide (((F.length:Nat):Int)≤24)=decide (F.length≤24):=by rw [A9];simp;omega
  rw [this]
  cases allI (Zda F) F 0<;>simp
 ·intro j x hx
  rw [AA,Zko,A0]
  simp only[Zbo]
  exact Znt hl hx
theorem ZgF (l:List Zb) (hl:l.length≤1048576) (h:∀f∈l,f.args.length≤1048576):Za7 l=some l:=by
 unfold Za7
 rw [Zjo (g:=fun y=>y)]
 ·simp
 ·intro j y s my hs
  rw [YN y (h y my),A0,Zh _ (by simp at hs;omega)]
theorem Zey (l:List Zb) (hl:l.length≤1048576) (h:∀f∈l,f.args.length≤1048576):ZaJ l=some l:=by
 unfold ZaJ
 rw [Zjo (g:=fun y=>y)]
 ·simp
 ·intro j y s my hs
  rw [Xb y (h y my),A0,Zh _ (by simp at hs;omega)]
structure ZuM (F:List Zb) (t:Zu):Prop where
 bind:t.binding.length≤6
 len:t.facts.length≤4
 args:∀f∈t.facts,f.args.length≤3
theorem ZlH.s {p:List Zt} {F:List Zb} {t:Zu} (h:ZlH p F t) (hp:p.length≤4) (hF:∀f∈F,f.args.length≤3):ZuM F t:=
 ⟨X2 h.bind,by have:=h.len;omega,fun f mf=>hF f (h.sub f mf)⟩
theorem ZnJ {ρ:Type} {x:Zt} {F:List Zb} {body:Nat→Zu→List Zu→Option (List Zu ⊕ ρ)} {fin:List Zu→Option ρ} (hF:F.length≤24) (ts:List Zu) (hts:ts.length≤331776)
  (hb:∀i t row,t∈ts→row.length≤10000000→body i t row=some (.inl (row++ZaR x F t))):Zo body fin ts 0 []=fin (Zf0 x F ts):=by
 have hst:Zf0 x F []=[]:=rfl
 rw [←hst,Zae (fun p=>Zf0 x F p) ts]
 intro p t q e
 have hl:=Zlp x F hF p
 have hp:p.length≤ts.length:=by rw [e];simp
 rw [hb _ _ _ (by rw [e];simp) (by omega)]
 unfold Zf0
 rw [Am]
 simp
theorem ZeA (l:List Zt) (F:List Zb) (hl:l.length≤4) (hF:F.length≤24) (hA:∀f∈F,f.args.length≤3):QU l F=some (Zw l F):=by
 unfold QU
 have h0:Zw [] F=[({ facts:=[],binding:=[] }:Zu)]:=rfl
 rw [←h0,Zae (fun p=>Zw p F) l]
 intro p x q e
 have hpl:p.length+(q.length+1)=l.length:=by rw [e,AK,A6]
 rw [Y6]
 refine ZnJ (fin:=fun r=>(some (Sum.inl r):Option (List Zu ⊕ List Zu))) hF (Zw p F) (ZaO F hF p (by omega)) (fun i t row mt hr=>?_)
 have ht:=(Qp F p t mt).s (by omega) hA
 unfold ZaR
 by_cases hk:x.kind=1
 ·rw [if_neg (by simpa using hk),if_pos hk,YC (g:=fun f=>(QG x.pattern f t.binding).map fun b=>({ facts:=t.facts++[f],binding:=b }:Zu))]
  intro j f s mf hs
  rw [Zgr,A0,Zfu]
  cases hm:QG x.pattern f t.binding with
  | none=>simp
  | some b=>
   simp only[B2,if_true]
   rw [ZgF _ (by have:=ht.len;omega) (fun g mg=>by have:=ht.args g mg;omega),A0,YN f (by have:=hA f mf;omega),A0,Zh _ (by have:=ht.len;omega),Zh _ (by omega)]
   rfl
 ·rw [if_pos (by simpa using hk),if_neg hk,ZlS _ _ _ (by omega) (fun f mf=>by have:=hA f mf;omega),A0]
  split
  ·rw [Zh _ (by omega)]
  ·simp
theorem Zrt {F:List Zb} {t:Zu} (ht:ZuM F t):Zf4 t=some t:=by
 unfold Zf4 ZcA
 rw [Zey _ (by have:=ht.len;omega) (fun g mg=>by have:=ht.args g mg;omega),A0,Zh _ (by have:=ht.bind;omega)]
 rfl
theorem ZqG (ts:List Zu) (x:Zt) (F:List Zb) (hts:ts.length≤331776) (hF:F.length≤24) (hA:∀f∈F,f.args.length≤3) (ht:∀t∈ts,ZuM F t):Zf9 ts x F=some (Zf0 x F ts):=by
 unfold Zf9
 refine ZnJ (fin:=fun r=>some r) hF ts hts (fun i t row mt hr=>?_)
 have ht:=ht t mt
 have htb:=ht.bind
 unfold ZaR
 by_cases hk:x.kind=1
 ·rw [if_neg (by simpa using hk),if_pos hk,YC (g:=fun f=>(QG x.pattern f t.binding).map fun b=>({ facts:=t.facts++[f],binding:=b }:Zu))]
  intro j f s mf hs
  rw [Zgn _ _ _ (by omega),A0,Zfu]
  cases hm:QG x.pattern f t.binding with
  | none=>simp
  | some b=>
   simp only[B2,if_true]
   rw [Zey _ (by have:=ht.len;omega) (fun g mg=>by have:=ht.args g mg;omega),A0,Xb f (by have:=hA f mf;omega),A0,Zh _ (by have:=ht.len;omega),Zh _ (by omega)]
   rfl
 ·rw [if_pos (by simpa using hk),if_neg hk,ZlR _ _ _ (by omega) (by omega) (fun f mf=>by have:=hA f mf;omega),A0]
  split
  ·rw [Zrt ht,A0,Zh _ (by omega)]
  ·simp
theorem ZhC (l:List Zt) (F:List Zb) (hl:l.length≤4) (hF:F.length≤24) (hA:∀f∈F,f.args.length≤3):ZaF l F=some (Zw l F):=by
 unfold ZaF
 have h0:Zw [] F=[({ facts:=[],binding:=[] }:Zu)]:=rfl
 rw [←h0,Zae (fun p=>Zw p F) l]
 intro p x q e
 have hpl:p.length+(q.length+1)=l.length:=by rw [e,AK,A6]
 rw [Y6,ZqG _ _ _ (ZaO F hF p (by omega)) hF hA (fun t mt=>(Qp F p t mt).s (by omega) hA)]
 rfl
theorem ZcX {R:List Zg} (h:Z6 R=true):R.length≤6∧∀r∈R,YQ r=true:=by
 unfold Z6 at h
 rw [A1,decide_eq_true_iff] at h
 refine ⟨h.1,Zmp (fun i x hx=>?_) h.2⟩
 unfold Zd2 at hx
 rw [A1] at hx
 exact hx.1
theorem Zue {r:Zg} (h:YQ r=true):∀a∈r.thn,a.kind=1→ZR a.pattern=true∧∀v∈a.pattern.args,Ye v=true→v∈Yr r.cond:=by
 intro a ma hk
 unfold YQ at h
 simp only[A1] at h
 have ha:=A7.1 h.1.2 a ma
 rw [A1] at ha
 obtain ⟨h1,h2⟩:=ha
 unfold Xq at h1
 rw [if_pos (.inl hk)] at h1
 refine ⟨h1,fun v mv hv=>?_⟩
 have:=A7.1 h2 v (ZbJ.2 ⟨mv,hv⟩)
 rw [Xw] at this
 unfold YD at this
 rw [ZP,List.take_length] at this
 exact this
end
section
open Classical
theorem Zc5 {α:Type}:∀{l m:List α},l.Nodup→(∀x∈l,x∈m)→l.length≤m.length
 | [],_,_,_=>At _
 | x::l,m,h,hs=>by
  rw [B3] at h
  have hx:x∈m:=hs x (by simp)
  have h2:=Zc5 (m:=m.erase x) h.2 (fun y my=>(List.mem_erase_of_ne (fun e=>h.1 (by rw [←e];exact my))).2 (hs y (by simp [my])))
  rw [List.length_erase_of_mem hx] at h2
  have:=List.length_pos_of_mem hx
  simp only[A6]
  omega
theorem Zso {α:Type} {l m:List α} (hl:l.Nodup) (hs:∀x∈l,x∈m) (hm:m.length≤l.length):∀x∈m,x∈l:=fun x mx=>by
 refine Classical.byContradiction fun hn=>?_
 have:=Zc5 (l:=x::l) (m:=m) (B3.2 ⟨hn,hl⟩) (fun y my=>by
  rcases A3.1 my with rfl | my
  ·exact mx
  ·exact hs y my)
 simp only[A6] at this
 omega
theorem ZiL (x:Zb):¬ZbB x x<0:=by rw [(ZcQ.eq x x).2 rfl];omega
theorem ZdT {l:List Zb} (h:Zg3 l):l.Nodup:=List.Pairwise.imp (fun {a b} hab e=>by subst e;exact ZiL a hab) h
theorem Zk8:∀{a b:List Zb},Zg3 a→Zg3 b→(∀x,x∈a↔x∈b)→a=b
 | [],[],_,_,_=>rfl
 | [],y::b,_,_,h=>by have:=(h y).2 (by simp);simp at this
 | x::a,[],_,_,h=>by have:=(h x).1 (by simp);simp at this
 | x::a,y::b,ha,hb,h=>by
  unfold Zg3 at ha hb
  rw [AI] at ha hb
  have e:x=y:=by
   rcases A3.1 ((h x).1 (by simp)) with e | h1
   ·exact e
   ·rcases A3.1 ((h y).2 (by simp)) with e | h2
    ·exact e.symm
    ·exact absurd (ZcQ.tr _ _ _ (ha.1 y h2) (hb.1 x h1)) (ZiL x)
  subst e
  rw [Zk8 ha.2 hb.2 fun z=>?_]
  constructor
  ·intro hz
   rcases A3.1 ((h z).1 (by simp [hz])) with e | hz2
   ·subst e;exact absurd (ha.1 z hz) (ZiL z)
   ·exact hz2
  ·intro hz
   rcases A3.1 ((h z).2 (by simp [hz])) with e | hz2
   ·subst e;exact absurd (hb.1 z hz) (ZiL z)
   ·exact hz2
theorem ZiS {f:Zb}:∀{l:List Zb},f∉l→(Zd6 l f).length=l.length+1
 | [],_=>rfl
 | x::l,h=>by
  simp only[A3,not_or] at h
  simp only[Zd6]
  split
  ·rw [A6,ZiS h.2];rfl
  ·rw [if_neg (fun e=>h.1 ((ZcQ.eq _ _).1 e).symm)]
   rfl
def XT (r:Zg):List Zt:=r.cond.filter fun x=>x.kind != 2
theorem ZnZ {r:Zg}:∀x∈XT r,¬x.kind=2:=fun x mx=>by
 have:=(AU.1 mx).2
 simpa using this
theorem ZdL (r:Zg):(XT r).length≤r.cond.length:=Au _ _
theorem ZqD (l:List Zt):Yr (l.filter fun x=>x.kind != 2)=Yr l:=by
 induction l with
 | nil=>rfl
 | cons x l ih=>
  by_cases hx:x.kind=2
  ·rw [List.filter_cons_of_neg (by simpa using hx),ih]
   simp [Yr,hx]
  ·rw [List.filter_cons_of_pos (by simpa using hx)]
   unfold Yr at ih ⊢
   rw [Ak,Ak,ih]
theorem ZbN (r:Zg) (h:r.cond.length≤1048576):YP r=some (XT r):=by
 unfold YP XT
 rw [Zcm (p:=fun x:Zt=>x.kind != 2)]
 ·simp
 ·intro j x s mx hs
  split
  ·rw [Zh _ (by simp at hs;omega)]
  ·rfl
theorem Ze3 (r:Zg) (h:r.cond.length≤1048576):XJ r=some (XT r):=ZbN r h
theorem Zrn {F G:List Zb} (h:∀f∈F,f∈G):∀{l:List Zt},(∀x∈l,¬x.kind=2)→∀t∈Zw l F,t∈Zw l G:=by
 have:∀n (l:List Zt),l.length=n→(∀x∈l,¬x.kind=2)→∀t∈Zw l F,t∈Zw l G:=by
  intro n
  induction n with
  | zero=>intro l hl _ t mt;rw [AY hl] at mt ⊢;exact mt
  | succ n ih=>
   intro l hl hk
   obtain ⟨p,x,rfl⟩:∃p x,l=p++[x]:=⟨l.dropLast,l.getLast (by intro e;simp [e] at hl),(An _).symm⟩
   intro t mt
   rw [Y6] at mt ⊢
   obtain ⟨s,ms,mt⟩:=AD.1 mt
   refine AD.2 ⟨s,ih p (by simpa using hl) (fun y my=>hk y (by simp [my])) s ms,?_⟩
   unfold ZaR at mt ⊢
   by_cases h1:x.kind=1
   ·rw [if_pos h1] at mt ⊢
    obtain ⟨f,mf,e⟩:=AP.1 mt
    exact AP.2 ⟨f,h f mf,e⟩
   ·have h2:=hk x (by simp)
    have e:Zak x s.binding G=Zak x s.binding F:=by unfold Zak;simp only[if_neg h1,if_neg h2]
    rw [if_neg h1] at mt ⊢
    rw [e]
    exact mt
 intro l hk
 exact this _ l rfl hk
theorem ZcT {F:List Zb} (h:Z3 F=true):Zg3 F:=by
 unfold Z3 at h
 rw [A1] at h
 have hadj:∀i y x,F[i]?=some y→F[i+1]?=some x→ZbB y x<0:=fun i y x hy hx=>by
  have:=Zfo h.2 (i+1) x hx
  unfold Zda at this
  rw [A1,AA,if_neg (by omega),B4,hy] at this
  simpa using this.2
 have key:∀(l:List Zb),(∀i y x,l[i]?=some y→l[i+1]?=some x→ZbB y x<0)→Zg3 l:=by
  intro l
  induction l with
  | nil=>intro _;exact AZ
  | cons a l ih=>
   intro hl
   have hp:=ih (fun i y x hy hx=>hl (i+1) y x (by simpa using hy) (by simpa using hx))
   unfold Zg3 at hp ⊢
   rw [AI]
   refine ⟨fun x mx=>?_,hp⟩
   cases l with
   | nil=>simp at mx
   | cons b l=>
    have hab:=hl 0 a b rfl rfl
    rcases A3.1 mx with rfl | mx
    ·exact hab
    ·rw [AI] at hp
     exact ZcQ.tr _ _ _ hab (hp.1 x mx)
 exact key F hadj
def Z8 (a:Zz) (t:Zu):Zb:=(YE (Yf a.pattern t.binding)).1
def ZiK (R:List Zg) (G:List Zb):Prop:=∀r∈R,∀t∈Zw (XT r) G,∀a∈r.thn,Z8 a t∈G
structure Cl (R:List Zg) (base G:List Zb):Prop where
 asc:Zg3 G
 base:∀f∈base,f∈G
 closed:ZiK R G
structure ZeE (R:List Zg) (base F:List Zb):Prop where
 asc:Zg3 F
 ok:∀f∈F,Yb f=true
 inc:∀f∈base,f∈F
 low:∀G,Cl R base G→∀f∈F,f∈G
def Znm (R:List Zg) (base:List Zb):Prop:=∀G,Cl R base G→25≤G.length
theorem ZeE.over {R:List Zg} {base F:List Zb} (h:ZeE R base F) (hl:25≤F.length):Znm R base:=fun G hG=>AQ hl (Zc5 (ZdT h.asc) (h.low G hG))
theorem ZeE.add {R:List Zg} {base F:List Zb} (h:ZeE R base F) {f:Zb} (hf:Yb f=true) (hin:∀G,Cl R base G→f∈G):ZeE R base (Zd6 F f) where
 asc:=ZpV h.asc
 ok:=fun g mg=>by
  rcases QP.1 mg with rfl | mg
  ·exact hf
  ·exact h.ok g mg
 inc:=fun g mg=>QP.2 (.inr (h.inc g mg))
 low:=fun G hG g mg=>by
  rcases QP.1 mg with rfl | mg
  ·exact hin G hG
  ·exact h.low G hG g mg
theorem Zkk {b:List Zs} (hb:ZW b=true):∀{p l:List ByteArray},ZaX p b=some l→l.all ZQ=true∧l.length=p.length
 | [],l,h=>by
  simp only[ZaX,BL] at h
  subst h
  simp
 | a::p,l,h=>by
  simp only[ZaX] at h
  obtain ⟨v,hv,h⟩:=Option.bind_eq_some_iff.1 h
  obtain ⟨l',hl',rfl⟩:=Ac.1 h
  obtain ⟨h1,h2⟩:=Zkk hb hl'
  have ha:ZQ v=true:=by
   unfold YU at hv
   split at hv
   ·rename_i ha
    obtain rfl:=As hv
    exact ha
   ·split at hv
    ·obtain ⟨x,mx,_,rfl⟩:=ZtQ hv
     unfold ZW at hb
     rw [A1] at hb
     have:=(Zuw hb.2 x mx).1
     unfold ZfK at this
     rw [A1] at this
     exact this.2
    ·simp at hv
  simp [ha,h1,h2]
theorem Zs6 {r:Zg} {F:List Zb} {t:Zu} (hr:ZM r=true) (ht:t∈Zw (XT r) F) {a:Zz} (ma:a∈r.thn):Yb (Z8 a t)=true:=by
 unfold ZM at hr
 simp only[A1] at hr
 have hk:a.kind=1:=by
  have:=A7.1 hr.2 a ma
  simpa using this
 have htk:=Qp F _ t ht
 obtain ⟨h1,h2⟩:=Zue hr.1.1 a ma hk
 have hp:=h1
 unfold ZR at hp
 simp only[A1,decide_eq_true_iff] at hp
 obtain ⟨l,e,_⟩:=Zd4 (b:=t.binding) hp.2 (fun v mv hv=>htk.vars v (by
  unfold XT
  rw [ZqD]
  exact h2 v mv hv))
 obtain ⟨h3,h4⟩:=Zkk htk.bind e
 have:Yf a.pattern t.binding=some { rel:=a.pattern.rel,args:=l }:=by
  unfold Yf
  rw [if_pos ⟨h1,htk.bind⟩,e]
  rfl
 unfold Z8
 rw [this]
 show Yb { rel:=a.pattern.rel,args:=l }=true
 unfold Yb
 simp only[A1,decide_eq_true_iff]
 exact ⟨⟨hp.1.1,by omega⟩,h3⟩
theorem ZeE.derived {R:List Zg} {base F:List Zb} (h:ZeE R base F) {r:Zg} (mr:r∈R) {t:Zu} (mt:t∈Zw (XT r) F) {a:Zz} (ma:a∈r.thn):∀G,Cl R base G→Z8 a t∈G:=
 fun G hG=>hG.closed r mr t (Zrn (h.low G hG) ZnZ t mt) a ma
def Res (R:List Zg) (base:List Zb) (x:List Zb × Bool):Prop:=
 (x.2=true∧ZeE R base x.1∧x.1.length≤24∧ZiK R x.1)∨(x.2=false∧x.1=[]∧Znm R base)
theorem Res.uniq {R:List Zg} {base:List Zb} {x y:List Zb × Bool} (hx:Res R base x) (hy:Res R base y):x=y:=by
 obtain ⟨F,b⟩:=x
 obtain ⟨G,c⟩:=y
 rcases hx with ⟨h1,h2,h3,h4⟩ | ⟨h1,h2,h3⟩<;>rcases hy with ⟨k1,k2,k3,k4⟩ | ⟨k1,k2,k3⟩<;>simp only at h1 h2 h3 k1 k2 k3<;>subst h1<;>subst k1
 ·have e:F=G:=Zk8 h2.asc k2.asc fun f=>⟨fun hf=>h2.low G ⟨k2.asc,k2.inc,k4⟩ f hf,fun hf=>k2.low F ⟨h2.asc,h2.inc,h4⟩ f hf⟩
  rw [e]
 ·have:=k3 F ⟨h2.asc,h2.inc,h4⟩
  omega
 ·have:=h3 G ⟨k2.asc,k2.inc,k4⟩
  omega
 ·rw [h2,k2]
structure Zi7 (R:List Zg) (base row0:List Zb) (s:List Zb × Bool):Prop where
 good:ZeE R base s.1
 len:s.1.length≤24
 sub:∀f∈row0,f∈s.1
 grow:s.2=true→row0.length<s.1.length
 same:s.2=false→s.1=row0
theorem Zuh {ρ:Type} {R:List Zg} {base row0:List Zb} {r:Zg} (mr:r∈R) (hr:ZM r=true) {rowS:List Zb} (hS:ZeE R base rowS) {t:Zu} (mt:t∈Zw (XT r) rowS) {q:ρ}
  {body:Nat→Zz→(List Zb × Bool)→Option ((List Zb × Bool) ⊕ ρ)}
  (hb:∀i a s,body i a s=(Yc s.1 (Z8 a t)).bind fun v836=>if (decide (0≤v836))=true then some (.inl s) else if (decide (24≤((s.1.length:Nat):Int)))=true then some (.inr q) else (XW s.1 (Z8 a t)).bind fun v837=>some (.inl (v837,true)))
  (s:List Zb × Bool) (h:Zi7 R base row0 s):
  (∃s',(∀fin:(List Zb × Bool)→Option ρ,Zo body fin r.thn 0 s=fin s')∧Zi7 R base row0 s'∧(s'.2=false→s.2=false∧∀a∈r.thn,Z8 a t∈row0))∨((∀fin:(List Zb × Bool)→Option ρ,Zo body fin r.thn 0 s=some q)∧Znm R base):=by
 rcases ZbG (body:=body) (fun p s'=>Zi7 R base row0 s'∧(s'.2=false→s.2=false∧∀a∈p,Z8 a t∈row0)) (fun x=>x=q∧Znm R base) r.thn s ⟨h,fun hs=>⟨hs,by simp⟩⟩ (fun p a s' ma hp hI=>by
  obtain ⟨hP,hC⟩:=hI
  rw [hb]
  obtain ⟨z,hz,hz2⟩:=ZhG s'.1 (Z8 a t)
  rw [hz,A0]
  have hok:=Zs6 hr mt ma
  have hin:=hS.derived mr mt ma
  by_cases hm:Z8 a t∈s'.1
  ·left
   have hz3:¬z<0:=fun h=>hz2.1 h hm
   rw [if_pos (by simp;omega)]
   refine ⟨s',rfl,hP,fun hs=>⟨(hC hs).1,fun b mb=>?_⟩⟩
   rcases A2.1 mb with mb | mb
   ·exact (hC hs).2 b mb
   ·simp at mb
    subst mb
    rw [←hP.same hs]
    exact hm
  ·have hz3:=hz2.2 hm
   rw [if_neg (by simp;omega)]
   by_cases h24:24≤s'.1.length
   ·right
    rw [if_pos (by simp;omega)]
    refine ⟨q,rfl,rfl,(hP.good.add hok hin).over ?_⟩
    rw [ZiS hm]
    omega
   ·left
    rw [if_neg (by simp;omega),Zpe _ _ hm (by omega) (fun f mf=>by have:=YY (hP.good.ok f mf);omega) (by have:=YY hok;omega),A0]
    refine ⟨_,rfl,⟨hP.good.add hok hin,by rw [ZiS hm];omega,fun f mf=>QP.2 (.inr (hP.sub f mf)),fun _=>?_,fun h=>by simp at h⟩,fun h=>by simp at h⟩
    rw [ZiS hm]
    have:=Zc5 (l:=row0) (m:=s'.1)
    cases hs:s'.2 with
    | true=>have:=hP.grow hs;omega
    | false=>rw [hP.same hs];omega) with ⟨s',e,h'⟩ | ⟨x,e,rfl,h'⟩
 ·exact .inl ⟨s',e,h'⟩
 ·exact .inr ⟨e,h'⟩
theorem ZtF {ρ:Type} {R:List Zg} {base row0:List Zb} {r:Zg} (mr:r∈R) (hr:ZM r=true) {q:ρ}
  {ab:Zu→Nat→Zz→(List Zb × Bool)→Option ((List Zb × Bool) ⊕ ((List Zb × Bool) ⊕ ρ))} {body:Nat→Zu→(List Zb × Bool)→Option ((List Zb × Bool) ⊕ ρ)}
  (hab:∀t i a s,ab t i a s=(Yc s.1 (Z8 a t)).bind fun v836=>if (decide (0≤v836))=true then some (.inl s) else if (decide (24≤((s.1.length:Nat):Int)))=true then some (.inr (.inr q)) else (XW s.1 (Z8 a t)).bind fun v837=>some (.inl (v837,true)))
  (hb:∀i t s,body i t s=Zo (ab t) (fun s=>some (.inl s)) r.thn 0 s)
  (s:List Zb × Bool) (h:Zi7 R base row0 s):
  (∃s',(∀fin:(List Zb × Bool)→Option ρ,Zo body fin (Zw (XT r) s.1) 0 s=fin s')∧Zi7 R base row0 s'∧(s'.2=false→s.2=false∧∀t∈Zw (XT r) row0,∀a∈r.thn,Z8 a t∈row0))∨((∀fin:(List Zb × Bool)→Option ρ,Zo body fin (Zw (XT r) s.1) 0 s=some q)∧Znm R base):=by
 rcases ZbG (body:=body) (fun p s'=>Zi7 R base row0 s'∧(s'.2=false→s.2=false∧∀t∈p,∀a∈r.thn,Z8 a t∈row0)) (fun x=>x=q∧Znm R base) (Zw (XT r) s.1) s ⟨h,fun hs=>⟨hs,by simp⟩⟩ (fun p t s' mt hp hI=>by
  obtain ⟨hP,hC⟩:=hI
  rw [hb]
  rcases Zuh mr hr h.good mt (hab t) s' hP with ⟨s2,e2,hP2,hC2⟩ | ⟨e2,ho⟩
  ·left
   refine ⟨s2,e2 _,hP2,fun hs=>?_⟩
   obtain ⟨k1,k2⟩:=hC2 hs
   obtain ⟨k3,k4⟩:=hC k1
   refine ⟨k3,fun u mu=>?_⟩
   rcases A2.1 mu with mu | mu
   ·exact k4 u mu
   ·simp at mu
    subst mu
    exact k2
  ·exact .inr ⟨q,e2 _,rfl,ho⟩) with ⟨s',e,hP,hC⟩ | ⟨x,e,rfl,h'⟩
 ·refine .inl ⟨s',e,hP,fun hs=>?_⟩
  obtain ⟨k1,k2⟩:=hC hs
  exact ⟨k1,by rw [h.same k1] at k2;exact k2⟩
 ·exact .inr ⟨e,h'⟩
theorem ZzU {ρ:Type} {R:List Zg} {base row0:List Zb} (hL:∀r∈R,ZM r=true) (h0:ZeE R base row0) (hl0:row0.length≤24) {q:ρ}
  {ab:Zu→Nat→Zz→(List Zb × Bool)→Option ((List Zb × Bool) ⊕ ((List Zb × Bool) ⊕ ((List Zb × Bool) ⊕ ρ)))} {tb:Zg→Nat→Zu→(List Zb × Bool)→Option ((List Zb × Bool) ⊕ ((List Zb × Bool) ⊕ ρ))} {body:Nat→Zg→(List Zb × Bool)→Option ((List Zb × Bool) ⊕ ρ)}
  (hab:∀t i a s,ab t i a s=(Yc s.1 (Z8 a t)).bind fun v836=>if (decide (0≤v836))=true then some (.inl s) else if (decide (24≤((s.1.length:Nat):Int)))=true then some (.inr (.inr (.inr q))) else (XW s.1 (Z8 a t)).bind fun v837=>some (.inl (v837,true)))
  (htb:∀r i t s,tb r i t s=Zo (ab t) (fun s=>some (.inl s)) r.thn 0 s)
  (hb:∀i r s,r∈R→s.1.length≤24→(∀f∈s.1,Yb f=true)→body i r s=Zo (tb r) (fun s=>some (.inl s)) (Zw (XT r) s.1) 0 s):
  (∃s',(∀fin:(List Zb × Bool)→Option ρ,Zo body fin R 0 (row0,false)=fin s')∧Zi7 R base row0 s'∧(s'.2=false→ZiK R row0))∨((∀fin:(List Zb × Bool)→Option ρ,Zo body fin R 0 (row0,false)=some q)∧Znm R base):=by
 rcases ZbG (body:=body) (fun p s'=>Zi7 R base row0 s'∧(s'.2=false→∀r∈p,∀t∈Zw (XT r) row0,∀a∈r.thn,Z8 a t∈row0)) (fun x=>x=q∧Znm R base) R (row0,false) ⟨⟨h0,hl0,fun f mf=>mf,fun h=>by simp at h,fun _=>rfl⟩,by simp⟩ (fun p r s' mr hp hI=>by
  obtain ⟨hP,hC⟩:=hI
  rw [hb _ _ _ mr hP.len hP.good.ok]
  rcases ZtF (q:=.inr q) mr (hL r mr) (hab) (htb r) s' hP with ⟨s2,e2,hP2,hC2⟩ | ⟨e2,ho⟩
  ·left
   refine ⟨s2,e2 _,hP2,fun hs=>?_⟩
   obtain ⟨k1,k2⟩:=hC2 hs
   intro u mu
   rcases A2.1 mu with mu | mu
   ·exact hC k1 u mu
   ·simp at mu
    subst mu
    exact k2
  ·exact .inr ⟨q,e2 _,rfl,ho⟩) with ⟨s',e,hP,hC⟩ | ⟨x,e,rfl,h'⟩
 ·exact .inl ⟨s',e,hP,hC⟩
 ·exact .inr ⟨e,h'⟩
theorem Zvr {R:List Zg} {base:List Zb} {body:(List Zb × Bool)→Option ((List Zb × Bool) ⊕ (List Zb × Bool))} (stop:∀row,body (row,false)=some (.inr (row,true)))
  (pass:∀row,ZeE R base row→row.length≤24→(∃s',body (row,true)=some (.inl s')∧Zi7 R base row s'∧(s'.2=false→ZiK R row))∨(body (row,true)=some (.inr ([],false))∧Znm R base)) (hbase:ZeE R base base) (hF24:base.length≤24):∃x,Yp body (base,true)=some x∧Res R base x:=by
 have key:∀n row,ZeE R base row→row.length≤24→25≤row.length+n→∃x,Yp body (row,true)=some x∧Res R base x:=by
  intro n
  induction n with
  | zero=>intro row _ h3 h4;omega
  | succ n ih=>
   intro row hg hl hn
   rcases pass row hg hl with ⟨⟨row',u⟩,e,hP,hC⟩ | ⟨e,ho⟩
   ·rw [Yh e]
    cases u with
    | true=>
     have:=hP.grow rfl
     exact ih row' hP.good hP.len (by simp only at this;omega)
    | false=>
     have hs:=hP.same rfl
     simp only at hs
     subst hs
     exact ⟨_,Z2 (stop _),.inl ⟨rfl,hP.good,hP.len,hC rfl⟩⟩
   ·exact ⟨_,Z2 e,.inr ⟨rfl,rfl,ho⟩⟩
 exact key 25 base hbase hF24 (by omega)
theorem Zhx {R:List Zg} (hR:Zbc R) (base:List Zb):(¬(Z6 R&&R.all (Y4 R))=true∨¬Z3 base=true→Yt R base=some ([],false))∧((Z6 R&&R.all (Y4 R))=true→Z3 base=true→∃x,Yt R base=some x∧Res R base x):=by
 constructor
 ·intro h
  unfold Yt
  rw [ZfU hR,A0]
  split
  ·rename_i h1
   rw [Zca,A0,if_neg (h.resolve_left (fun h=>h h1))]
  ·rfl
 ·intro h1 h2
  have hL:∀r∈R,ZM r=true:=fun r mr=>by
   rw [A1] at h1
   have:=A7.1 h1.2 r mr
   unfold Y4 at this
   rw [A1] at this
   exact this.1
  have hrl:∀r∈R,r.cond.length≤4:=fun r mr=>by
   have:=hL r mr
   unfold ZM at this
   simp only[A1] at this
   exact (XB this.1.1).1
  obtain ⟨hF24,hFF⟩:=QQ h2
  have hbase:ZeE R base base:=⟨ZcT h2,hFF,fun f mf=>mf,fun G hG f mf=>hG.base f mf⟩
  unfold Yt
  rw [ZfU hR,A0,if_pos h1,Zca,A0,if_pos h2,ZgF _ (by omega) (fun f mf=>by have:=YY (hFF f mf);omega),A0]
  refine Zvr (fun row=>rfl) (fun row hg hl=>?_) hbase hF24
  have hgen:=ZzU (ρ:=(List Zb × Bool) ⊕ (List Zb × Bool)) (q:=.inr ([],false)) hL hg hl
   (ab:=fun t _ a s=>(Yc s.1 (Z8 a t)).bind fun v836=>if (decide (0≤v836))=true then some (.inl s) else if (decide (24≤((s.1.length:Nat):Int)))=true then some (.inr (.inr (.inr (.inr ([],false))))) else (XW s.1 (Z8 a t)).bind fun v837=>some (.inl (v837,true)))
   (tb:=fun r _ t s=>Zo (fun _ a s=>(Yc s.1 (Z8 a t)).bind fun v836=>if (decide (0≤v836))=true then some (.inl s) else if (decide (24≤((s.1.length:Nat):Int)))=true then some (.inr (.inr (.inr (.inr ([],false))))) else (XW s.1 (Z8 a t)).bind fun v837=>some (.inl (v837,true))) (fun s=>some (.inl s)) r.thn 0 s)
   (body:=fun _ r s=>(YP r).bind fun v757=>(QU v757 s.1).bind fun v758=>Zo (fun _ t s=>Zo (fun _ a s=>(XL a.pattern t.binding).bind fun v835=>(Yc s.1 v835.1).bind fun v836=>if (decide (0≤v836))=true then some (.inl s) else if (decide (24≤((s.1.length:Nat):Int)))=true then some (.inr (.inr (.inr (.inr ([],false))))) else (XW s.1 v835.1).bind fun v837=>some (.inl (v837,true))) (fun s=>some (.inl s)) r.thn 0 s) (fun s=>some (.inl s)) v758 0 s)
   (fun _ _ _ _=>rfl) (fun _ _ _ _=>rfl) (fun i r s mr hs hok=>by
    show (YP r).bind _=_
    rw [ZbN r (by have:=hrl r mr;omega),A0,ZeA _ _ (by have:=ZdL r;have:=hrl r mr;omega) hs (fun f mf=>YY (hok f mf)),A0]
    simp only[Zcd,A0]
    rfl)
  rcases hgen with ⟨s',e,hP,hC⟩ | ⟨e,ho⟩
  ·exact .inl ⟨s',e (fun s=>some (.inl s)),hP,hC⟩
  ·exact .inr ⟨e (fun s=>some (.inl s)),ho⟩
structure Zmt (R:List Zg) (base l:List Zb) (row:List Zb):Prop where
 good:ZeE R base row
 sub:∀f∈l,f∈row
theorem ZBC {ρ:Type} {R:List Zg} {base l:List Zb} {r:Zg} (mr:r∈R) (hr:ZM r=true) (hS:ZeE R base l) {t:Zu} (mt:t∈Zw (XT r) l) {N:Nat} (hN:N≤1000000) (ht2:r.thn.length≤2)
  {body:Nat→Zz→List Zb→Option (List Zb ⊕ ρ)} (hb:∀i a row,body i a row=(YX row (Z8 a t)).bind fun v=>some (.inl v)) (row:List Zb) (h:Zmt R base l row) (hlen:row.length≤N):
  ∃row',(∀fin:List Zb→Option ρ,Zo body fin r.thn 0 row=fin row')∧Zmt R base l row'∧row'.length≤N+2∧(∀f∈row,f∈row')∧∀a∈r.thn,Z8 a t∈row':=by
 obtain ⟨row',e,h1,h2,h3,h4⟩:=ZeL (body:=body) (fun p row'=>Zmt R base l row'∧row'.length≤N+p.length∧(∀f∈row,f∈row')∧∀a∈p,Z8 a t∈row') r.thn row ⟨h,by simpa using hlen,fun f mf=>mf,by simp⟩ (fun p a row' ma hp hI=>by
  obtain ⟨h1,h2,h3,h4⟩:=hI
  have hok:=Zs6 hr mt ma
  rw [hb,ZlP _ _ (by omega) (fun f mf=>by have:=YY (h1.good.ok f mf);omega) (by have:=YY hok;omega),A0]
  refine ⟨_,rfl,⟨h1.good.add hok (hS.derived mr mt ma),fun f mf=>QP.2 (.inr (h1.sub f mf))⟩,?_,fun f mf=>QP.2 (.inr (h3 f mf)),fun b mb=>?_⟩
  ·have:=Zmb (Z8 a t) row'
   simp only[AK,Aj]
   omega
  ·rcases A2.1 mb with mb | mb
   ·exact QP.2 (.inr (h4 b mb))
   ·simp at mb
    subst mb
    exact QP.2 (.inl rfl))
 exact ⟨row',e,h1,by omega,h3,h4⟩
theorem ZBK {ρ:Type} {R:List Zg} {base l:List Zb} {r:Zg} (mr:r∈R) (hr:ZM r=true) (hS:ZeE R base l) (hl24:l.length≤24) (hc4:r.cond.length≤4) (ht2:r.thn.length≤2)
  {body:Nat→Zu→List Zb→Option (List Zb ⊕ ρ)} (hb:∀i t row,t∈Zw (XT r) l→body i t row=Zo (fun (_:Nat) (a:Zz) row=>(YX row (Z8 a t)).bind fun v=>(some (.inl v):Option (List Zb ⊕ (List Zb ⊕ ρ)))) (fun row=>some (.inl row)) r.thn 0 row) (row:List Zb) (h:Zmt R base l row) (hlen:row.length≤24):
  ∃row',(∀fin:List Zb→Option ρ,Zo body fin (Zw (XT r) l) 0 row=fin row')∧Zmt R base l row'∧(∀f∈row,f∈row')∧∀t∈Zw (XT r) l,∀a∈r.thn,Z8 a t∈row':=by
 have hn:=ZaO l hl24 (XT r) (by have:=ZdL r;omega)
 obtain ⟨row',e,h1,h2,h3,h4⟩:=ZeL (body:=body) (fun p row'=>Zmt R base l row'∧row'.length≤24+2 * p.length∧(∀f∈row,f∈row')∧∀t∈p,∀a∈r.thn,Z8 a t∈row') (Zw (XT r) l) row ⟨h,by simpa using hlen,fun f mf=>mf,by simp⟩ (fun p t row' mt hp hI=>by
  obtain ⟨h1,h2,h3,h4⟩:=hI
  rw [hb _ _ _ mt]
  obtain ⟨row2,e2,k1,k2,k3,k4⟩:=ZBC (ρ:=List Zb ⊕ ρ) (body:=fun (_:Nat) (a:Zz) row=>(YX row (Z8 a t)).bind fun v=>some (.inl v)) mr hr hS mt (N:=24+2 * p.length) (by omega) ht2 (fun _ _ _=>rfl) row' h1 h2
  refine ⟨row2,e2 _,k1,by simp only[AK,Aj];omega,fun f mf=>k3 f (h3 f mf),fun u mu a ma=>?_⟩
  rcases A2.1 mu with mu | mu
  ·exact k3 _ (h4 u mu a ma)
  ·simp at mu
   subst mu
   exact k4 a ma)
 exact ⟨row',e,h1,h3,h4⟩
theorem Zhv {R:List Zg} (hR:Zbc R) (base:List Zb) (hb20:base.length≤1048576):(¬(Z6 R&&R.all (Y4 R))=true∨¬Z3 base=true→Yu R base=some ([],false))∧((Z6 R&&R.all (Y4 R))=true→Z3 base=true→∃x,Yu R base=some x∧Res R base x):=by
 constructor
 ·intro h
  unfold Yu
  rw [ZfN hR,A0]
  split
  ·rename_i h1
   rw [ZhY _ hb20,A0,if_neg (h.resolve_left (fun h=>h h1))]
  ·rfl
 ·intro h1 h2
  have hL:∀r∈R,ZM r=true:=fun r mr=>by
   rw [A1] at h1
   have:=A7.1 h1.2 r mr
   unfold Y4 at this
   rw [A1] at this
   exact this.1
  have hrl:∀r∈R,r.cond.length≤4∧r.thn.length≤2:=fun r mr=>by
   have:=hL r mr
   unfold ZM at this
   simp only[A1] at this
   exact XB this.1.1
  obtain ⟨hF24,hFF⟩:=QQ h2
  have hbase:ZeE R base base:=⟨ZcT h2,hFF,fun f mf=>mf,fun G hG f mf=>hG.base f mf⟩
  unfold Yu
  rw [ZfN hR,A0,if_pos h1,ZhY _ hb20,A0,if_pos h2,Zey _ (by omega) (fun f mf=>by have:=YY (hFF f mf);omega),A0]
  refine Zvr (fun row=>rfl) (fun l hg hl=>?_) hbase hF24
  rcases ZbG (σ:=List Zb) (ρ:=(List Zb × Bool) ⊕ (List Zb × Bool)) (body:=fun (_:Nat) (r:Zg) row=>(XJ r).bind fun v745=>(ZaF v745 l).bind fun v746=>Zo (fun _ t row=>Zo (fun _ a row=>(Yy a.pattern t.binding).bind fun v802=>(YX row v802.1).bind fun v803=>some (.inl v803)) (fun row=>some (.inl row)) r.thn 0 row) (fun row=>if (decide (24<((row.length:Nat):Int)))=true then some (.inr (.inr ([],false))) else some (.inl row)) v746 0 row)
   (fun p row=>Zmt R base l row∧row.length≤24∧∀r∈p,∀t∈Zw (XT r) l,∀a∈r.thn,Z8 a t∈row) (fun x=>x=.inr ([],false)∧Znm R base) R l ⟨⟨hg,fun f mf=>mf⟩,hl,by simp⟩ (fun p r row mr hp hI=>by
    obtain ⟨i1,i2,i3⟩:=hI
    obtain ⟨hc4,ht2⟩:=hrl r mr
    obtain ⟨row',e,k1,k3,k4⟩:=ZBK (ρ:=List Zb ⊕ ((List Zb × Bool) ⊕ (List Zb × Bool))) (body:=fun (_:Nat) (t:Zu) row=>Zo (fun _ a row=>(Yy a.pattern t.binding).bind fun v802=>(YX row v802.1).bind fun v803=>some (.inl v803)) (fun row=>some (.inl row)) r.thn 0 row) mr (hL r mr) hg hl hc4 ht2 (fun i t row mt=>by
     have hb6:=X2 (Qp l _ t mt).bind
     have e1:∀p,Yy p t.binding=some (YE (Yf p t.binding)):=fun p=>Zez p t.binding (by omega)
     simp only[e1,A0]
     rfl) row i1 i2
    simp only[Ze3 r (by omega),A0,ZhC (XT r) l (by have:=ZdL r;omega) hl (fun f mf=>YY (hg.ok f mf)),e]
    by_cases h24:24<row'.length
    ·rw [if_pos (by simp;omega)]
     exact .inr ⟨_,rfl,rfl,k1.good.over (by omega)⟩
    ·rw [if_neg (by simp;omega)]
     refine .inl ⟨_,rfl,k1,by omega,fun u mu t mt a ma=>?_⟩
     rcases A2.1 mu with mu | mu
     ·exact k3 _ (i3 u mu t mt a ma)
     ·simp at mu
      subst mu
      exact k4 t mt a ma) with ⟨row,e,hP,hlen,hC⟩ | ⟨x,e,rfl,ho⟩
  ·left
   refine ⟨_,e (fun row=>some (.inl (row,decide (((l.length:Nat):Int)<((row.length:Nat):Int))))),?_⟩
   by_cases hlt:l.length<row.length
   ·have hd:decide (((l.length:Nat):Int)<((row.length:Nat):Int))=true:=by simpa using hlt
    rw [hd]
    exact ⟨⟨hP.good,hlen,hP.sub,fun _=>hlt,fun h=>by simp at h⟩,fun h=>by simp at h⟩
   ·have hd:decide (((l.length:Nat):Int)<((row.length:Nat):Int))=false:=by simpa using hlt
    have hback:=Zso (ZdT hg.asc) hP.sub (by omega)
    have heq:row=l:=Zk8 hP.good.asc hg.asc fun f=>⟨hback f,hP.sub f⟩
    rw [hd]
    exact ⟨⟨hP.good,hlen,hP.sub,fun h=>by simp at h,fun _=>heq⟩,fun _ r mr t mt a ma=>hback _ (hC r mr t mt a ma)⟩
  ·exact .inr ⟨e (fun row=>some (.inl (row,decide (((l.length:Nat):Int)<((row.length:Nat):Int))))),ho⟩
theorem Zij {R:List Zg} (hR:Zbc R) (base:List Zb) (hb20:base.length≤1048576):∃x,Yu R base=some x∧Yt R base=some x∧(x=([],false)∨(Z6 R&&R.all (Y4 R))=true∧Z3 base=true∧Res R base x):=by
 obtain ⟨s1,s2⟩:=Zhv hR base hb20
 obtain ⟨i1,i2⟩:=Zhx hR base
 by_cases h1:(Z6 R&&R.all (Y4 R))=true
 ·by_cases h2:Z3 base=true
  ·obtain ⟨x,e1,r1⟩:=s2 h1 h2
   obtain ⟨y,e2,r2⟩:=i2 h1 h2
   rw [←r1.uniq r2] at e2
   exact ⟨x,e1,e2,.inr ⟨h1,h2,r1⟩⟩
  ·exact ⟨_,s1 (.inr h2),i1 (.inr h2),.inl rfl⟩
 ·exact ⟨_,s1 (.inl h1),i1 (.inl h1),.inl rfl⟩
theorem Zhg {α:Type} {f:α→Nat} {N:Nat}:∀{l:List α},(∀x∈l,f x≤N)→(l.map f).sum≤l.length * N
 | [],_=>by simp
 | x::l,h=>by
  have h1:=h x (by simp)
  have h2:=Zhg (l:=l) fun y my=>h y (by simp [my])
  simp only[AO,AT,A6,Nat.add_mul]
  omega
theorem Zn3 {f:Zb} (h:Yb f=true):ZgB f≤64:=by
 unfold Yb X9 at h
 simp only[A1,decide_eq_true_eq,A7] at h
 obtain ⟨⟨⟨h1,_⟩,h2⟩,h3⟩:=h
 have h4:=(Zbr h1).2
 have h5:(f.args.map B5).sum≤f.args.length * 8:=Zhg fun x mx=>(Zbr (h3 x mx)).2
 unfold ZgB ZrM
 omega
end
def Zc6 (m n:Nat):Prop:=m &&& n=m
theorem Zf7 {m n:Nat}:Zc6 m n↔∀i,m.testBit i=true→n.testBit i=true:=by
 constructor
 ·intro h i hi
  have:=congrArg (fun z=>z.testBit i) h
  simp only[B6,hi,AH] at this
  exact this
 ·intro h
  refine Nat.eq_of_testBit_eq fun i=>?_
  rw [B6]
  cases hm:m.testBit i with
  | false=>rfl
  | true=>rw [h i hm];rfl
theorem Znu (m:Nat):Zc6 m m:=Zf7.2 fun _ h=>h
theorem Zfr {a b c:Nat} (h1:Zc6 a b) (h2:Zc6 b c):Zc6 a c:=Zf7.2 fun i h=>Zf7.1 h2 i (Zf7.1 h1 i h)
theorem Zo0 {m n:Nat} (h:Zc6 m n):m≤n:=by
 have:=Nat.and_le_right (n:=m) (m:=n)
 rw [show m &&& n=m from h] at this
 exact this
theorem Zny {a b:Nat} (h1:Zc6 a b) (h2:Zc6 b a):a=b:=Nat.le_antisymm (Zo0 h1) (Zo0 h2)
def Zrk (A:Nat→Prop) (y:Nat):Prop:=A y∧∀t,A t→Zc6 t y→t=y
def Cof (A B:Nat→Prop):Prop:=∀y,A y→∃x,B x∧Zc6 x y
theorem Cof.of {A B:Nat→Prop} (h:∀y,A y→B y):Cof A B:=fun y hy=>⟨y,h y hy,Znu y⟩
theorem Zw3 {A B:Nat→Prop} (h1:Cof A B) (h2:Cof B A):∀y,Zrk A y↔Zrk B y:=by
 have key:∀{A B:Nat→Prop},Cof A B→Cof B A→∀y,Zrk A y→Zrk B y:=by
  intro A B h1 h2 y hy
  obtain ⟨x,hx,p⟩:=h1 y hy.1
  obtain ⟨x',hx',p'⟩:=h2 x hx
  have e:x'=y:=hy.2 x' hx' (Zfr p' p)
  subst e
  have e2:=Zny p p'
  subst e2
  refine ⟨hx,fun t ht pt=>?_⟩
  obtain ⟨u,hu,pu⟩:=h2 t ht
  have e3:=hy.2 u hu (Zfr pu pt)
  subst e3
  exact Zny pt pu
 exact fun y=>⟨key h1 h2 y,key h2 h1 y⟩
def meets (a b:Nat):Prop:=a &&& b≠0
def Zu2 (r:List Int) (A:Nat→Prop):Prop:=r.Pairwise (·<·)∧∀y:Int,y∈r↔0≤y∧Zrk A y.toNat
theorem ZmI:∀{a b:List Int},a.Pairwise (·<·)→b.Pairwise (·<·)→(∀x,x∈a↔x∈b)→a=b
 | [],[],_,_,_=>rfl
 | [],y::b,_,_,h=>by have:=(h y).2 (by simp);simp at this
 | x::a,[],_,_,h=>by have:=(h x).1 (by simp);simp at this
 | x::a,y::b,ha,hb,h=>by
  rw [AI] at ha hb
  have hxy:x=y:=by
   have h1:=(h x).1 (by simp)
   have h2:=(h y).2 (by simp)
   rcases A3.1 h1 with e | h1
   ·exact e
   ·rcases A3.1 h2 with e | h2
    ·exact e.symm
    ·have:=hb.1 x h1;have:=ha.1 y h2;omega
  subst hxy
  rw [ZmI ha.2 hb.2 fun z=>?_]
  constructor
  ·intro hz
   rcases A3.1 ((h z).1 (by simp [hz])) with e | hz'
   ·subst e;have:=ha.1 z hz;omega
   ·exact hz'
  ·intro hz
   rcases A3.1 ((h z).2 (by simp [hz])) with e | hz'
   ·subst e;have:=hb.1 z hz;omega
   ·exact hz'
def ZJo (l:List Int) (n:Nat):Prop:=((n:Nat):Int)∈l
theorem ZHZ {m:Nat} (h:m≤9223372036854775807):(BitVec.ofInt 64 ((m:Nat):Int)).toNat=m:=by
 rw [BitVec.ofInt_natCast,BitVec.toNat_ofNat]
 exact Nat.mod_eq_of_lt (by omega)
theorem ZHD {m n:Nat} (hm:m≤9223372036854775807) (hn:n≤9223372036854775807):ZlF .i64 ((m:Nat):Int) ((n:Nat):Int)=((m &&& n:Nat):Int):=by
 show IntKind.i64.wrap (((BitVec.ofInt 64 ((m:Nat):Int) &&& BitVec.ofInt 64 ((n:Nat):Int)).toNat:Nat):Int)=_
 rw [BitVec.toNat_and,ZHZ hm,ZHZ hn]
 have:=Nat.and_le_left (n:=m) (m:=n)
 exact YW (by omega) (by omega)
def Fit (l:List Int):Prop:=∀x∈l,x≤9223372036854775807
def ZGq (a b:Int):Bool:=decide (0≤a)&&(decide (0≤b)&&(ZlF .i64 a b==a))
theorem ZIz (a b:Int):ZGC a b=some (ZGq a b):=by
 unfold ZGC ZGq
 cases decide (0≤a)<;>cases decide (0≤b)<;>simp
theorem ZIu (a b:Int):ZGK a b=some (ZGq a b):=by
 unfold ZGK ZGq
 cases decide (0≤a)<;>cases decide (0≤b)<;>simp
theorem ZH0 {a b:Int} (ha:a≤9223372036854775807) (hb:b≤9223372036854775807):ZGq a b=true↔0≤a∧0≤b∧Zc6 a.toNat b.toNat:=by
 simp only[ZGq,A1,decide_eq_true_eq,beq_iff_eq]
 constructor
 ·rintro ⟨h1,h2,h3⟩
  refine ⟨h1,h2,?_⟩
  obtain ⟨m,rfl⟩:=AR h1
  obtain ⟨n,rfl⟩:=AR h2
  rw [ZHD (by omega) (by omega)] at h3
  show m &&& n=m
  omega
 ·rintro ⟨h1,h2,h3⟩
  refine ⟨h1,h2,?_⟩
  obtain ⟨m,rfl⟩:=AR h1
  obtain ⟨n,rfl⟩:=AR h2
  rw [ZHD (by omega) (by omega)]
  have h4:m &&& n=m:=h3
  rw [h4]
def ZxR (l:List Int) (x:Int):Bool:=l.any fun y=>y==x
theorem ZqQ {l:List Int} {x:Int}:ZxR l x=true↔x∈l:=by simp [ZxR]
theorem Zqf (l:List Int) (x:Int):Zgz l x=some (ZxR l x):=by
 unfold Zgz ZxR
 rw [Zco (p:=fun y=>y==x) (r:=true)]
 ·cases l.any fun y=>y==x<;>simp
 ·intro i y _
  cases y==x<;>simp
def ZGA (l:List Int) (x:Int):Bool:=decide (0≤x)&&l.all fun t=>t==x||!ZGq t x
theorem ZH4 {l:List Int} {x:Int} (hf:Fit l) (hx:x∈l):ZGA l x=true↔0≤x∧Zrk (ZJo l) x.toNat:=by
 simp only[ZGA,A1,decide_eq_true_eq,A7,Ao,beq_iff_eq,Ad]
 constructor
 ·rintro ⟨h0,h⟩
  obtain ⟨n,rfl⟩:=AR h0
  refine ⟨h0,hx,fun t ht hp=>?_⟩
  rcases h _ ht with e | e
  ·show t=n
   omega
  ·have:=(ZH0 (hf _ ht) (hf _ hx)).2 ⟨by omega,h0,by simpa using hp⟩
   rw [e] at this
   simp at this
 ·rintro ⟨h0,h⟩
  refine ⟨h0,fun t ht=>?_⟩
  cases hp:ZGq t x with
  | false=>exact .inr rfl
  | true=>
   obtain ⟨h1,h2,h3⟩:=(ZH0 (hf _ ht) (hf _ hx)).1 hp
   obtain ⟨m,rfl⟩:=AR h1
   have:=h.2 m ht (by simpa using h3)
   left
   omega
theorem ZJr {α:Type} (p:α→Bool) (a b:Bool):∀(l:List α) (c:Bool),l.foldl (fun (s:Bool × Bool × Bool) t=>(s.1,s.2.1,s.2.2&&p t)) (a,b,c)=(a,b,c&&l.all p)
 | [],c=>by simp
 | x::l,c=>by rw [A5,ZJr p a b l];simp [B7]
theorem ZJb {α:Type} (p:α→Bool):∀(l:List α) (c:Bool),l.foldl (fun s t=>s&&p t) c=(c&&l.all p)
 | [],c=>by simp
 | x::l,c=>by rw [A5,ZJb p l];simp [B7]
def ZF0 (l:List Int) (row:List Int) (x:Int):List Int:=if ZGA l x&&!ZxR row x then row++[x] else row
theorem ZHO (l row:List Int) (x:Int):(ZF0 l row x).length≤row.length+1:=by
 unfold ZF0;split<;>simp
theorem ZGE (l:List Int):∀(q row:List Int),row.Nodup→(q.foldl (ZF0 l) row).Nodup∧∀y,y∈q.foldl (ZF0 l) row↔y∈row∨(y∈q∧ZGA l y=true)
 | [],row,h=>⟨h,fun y=>by simp⟩
 | x::q,row,h=>by
  have h1:(ZF0 l row x).Nodup∧∀y,y∈ZF0 l row x↔y∈row∨(y=x∧ZGA l x=true):=by
   unfold ZF0
   split
   ·rename_i hc
    simp only[A1,Ad] at hc
    have hn:x∉row:=fun hm=>by rw [ZqQ.2 hm] at hc;simp at hc
    refine ⟨by rw [B8];exact ⟨h,by simp,fun a ha b hb=>by simp at hb;subst hb;exact fun e=>hn (e ▸ ha)⟩,fun y=>by simp [hc.1]⟩
   ·rename_i hc
    refine ⟨h,fun y=>⟨.inl,?_⟩⟩
    rintro (hy | ⟨rfl,hg⟩)
    ·exact hy
    ·rw [hg] at hc
     simp only[AH,Ad,Bool.not_eq_false] at hc
     exact ZqQ.1 hc
  obtain ⟨h2,h3⟩:=ZGE l q _ h1.1
  refine ⟨h2,fun y=>?_⟩
  rw [A5,h3,h1.2]
  constructor
  ·rintro ((h | ⟨rfl,h⟩) | h)
   ·exact .inl h
   ·exact .inr ⟨by simp,h⟩
   ·exact .inr ⟨by simp [h.1],h.2⟩
  ·rintro (h | ⟨hm,h⟩)
   ·exact .inl (.inl h)
   ·rcases A3.1 hm with rfl | hm
    ·exact .inl (.inr ⟨rfl,h⟩)
    ·exact .inr ⟨hm,h⟩
theorem Zua {l:List Int} {x:Int}:x∈Zkx l↔x∈l:=(B9 l _).mem_iff
theorem Zuf {l:List Int} (h:l.Nodup):(Zkx l).Pairwise (·<·):=by
 have h1:(Zkx l).Pairwise fun x y=>decide (x≤y)=true:=List.pairwise_mergeSort (fun a b c h1 h2=>by simp at *;omega) (fun a b=>by simp;omega) l
 have h2:(Zkx l).Nodup:=(B9 l _).nodup_iff.2 h
 have h3:(Zkx l).Pairwise (·≠·):=h2
 exact (h1.and h3).imp fun ⟨a,b⟩=>by simp at a;omega
theorem ZGa (l:List Int) (h:l.length≤1073741824):ZFQ l=some (Zkx (l.foldl (ZF0 l) [])):=by
 unfold ZFQ
 rw [YM (f:=ZF0 l) (fun j row=>row.length≤j) (by simp)]
 ·have hl:∀(q row:List Int),(q.foldl (ZF0 l) row).length≤row.length+q.length:=by
   intro q
   induction q with
   | nil=>intro row;simp
   | cons x q ih=>intro row;rw [A5];have:=ih (ZF0 l row x);have:=ZHO l row x;simp;omega
  have:=hl l []
  simp only[ZfG]
  rw [Zh _ (by simp at this;omega)]
  rfl
 ·intro j x row mx hj hl hI
  refine ⟨?_,by have:=ZHO l row x;omega⟩
  cases h0:decide (0≤x) with
  | false=>
   simp only[AC,if_false]
   rw [Zif (f:=fun s _=>s) (fun _ _ _ _=>rfl)]
   simp [ZF0,ZGA,h0]
  | true=>
   simp only[if_true,Zqf,A0]
   rw [Zif (f:=fun (s:Bool × Bool × Bool) t=>(s.1,s.2.1,s.2.2&&(t==x||!ZGq t x))),ZJr]
   ·simp only[ZF0,ZGA,h0,AH]
    cases ZxR row x<;>cases l.all (fun t=>t==x||!ZGq t x)<;>simp
    rw [Zh _ (by omega)]
   ·rintro i t ⟨a,b,c⟩ _
    cases c<;>simp only[AC,if_false,if_true,BA,AH]
    cases t==x<;>simp [ZIz]
theorem ZHr (l:List Int) (h:l.length≤1073741824) (hf:Fit l):∃r,ZFQ l=some r∧Zu2 r (ZJo l)∧(∀y∈r,y∈l)∧r.length≤l.length:=by
 obtain ⟨h1,h2⟩:=ZGE l l [] BB
 have hm:∀y∈Zkx (l.foldl (ZF0 l) []),y∈l:=fun y hy=>by
  have:=(h2 y).1 (Zua.1 hy)
  simp at this
  exact this.1
 refine ⟨_,ZGa l h,⟨Zuf h1,fun y=>?_⟩,hm,?_⟩
 ·rw [Zua,h2]
  constructor
  ·rintro (h | ⟨hy,hg⟩)
   ·simp at h
   ·exact (ZH4 hf hy).1 hg
  ·rintro ⟨h0,hg⟩
   have hy:y∈l:=by
    have:=hg.1
    unfold ZJo at this
    rwa [AW h0] at this
   exact .inr ⟨hy,(ZH4 hf hy).2 ⟨h0,hg⟩⟩
 ·have h3:(Zkx (l.foldl (ZF0 l) [])).Nodup:=(Zuf h1).imp fun h=>by omega
  exact h3.length_le_of_subset hm
def Zd5:List Int→Int→List Int
 | [],x=>[x]
 | y::l,x=>if y<x then y::Zd5 l x else if y=x then y::l else x::y::l
theorem ZpM (l:List Int) (x:Int) (h:l.length+1≤1073741824):Zgk l x=some (Zd5 l x):=by
 unfold Zgk
 refine (Zal (fun l _ (st:List Int × Bool)=>some (if st.2=true then st.1++l else st.1++Zd5 l x)) (fun l _ (st:List Int × Bool)=>st.1.length+l.length+(if st.2=true then 0 else 1)≤1073741824) ?_ ?_ l 0 ([],false) (by simpa using h)).trans (by simp)
 ·rintro i ⟨row,d⟩ hI
  cases d with
  | true=>simp
  | false=>simp only[AC,if_false,Zd5];simp at hI;rw [Zh _ (by omega)]
 ·rintro y l i ⟨row,d⟩ hI
  left
  cases d with
  | true=>
   simp at hI
   exact ⟨(row++[y],true),by simp only[if_true];rw [Zh _ (by omega)],by simp;omega,by simp⟩
  | false=>
   simp at hI
   by_cases h1:x≤y
   ·by_cases h2:y=x
    ·subst h2
     exact ⟨(row++[y],true),by simp;rw [Zh _ (by omega)],by simp;omega,by simp [Zd5]⟩
    ·exact ⟨(row++[x]++[y],true),by simp [h1,h2];rw [Zh _ (by omega),Zh _ (by omega)],by simp;omega,by simp [Zd5,h2,show ¬y<x by omega]⟩
   ·exact ⟨(row++[y],false),by simp [h1];rw [Zh _ (by omega)],by simp;omega,by simp [Zd5,show y<x by omega]⟩
theorem Zk9 {x y:Int}:∀{l:List Int},y∈Zd5 l x↔y=x∨y∈l
 | []=>by simp [Zd5]
 | z::l=>by
  simp only[Zd5]
  split
  ·rw [A3,Zk9,A3]
   constructor
   ·rintro (h | h | h)<;>simp [h]
   ·rintro (h | h | h)<;>simp [h]
  ·split
   ·rename_i h;subst h;simp
   ·simp
theorem Zqo {x:Int}:∀{l:List Int},l.Pairwise (·<·)→(Zd5 l x).Pairwise (·<·)
 | [],_=>by simp [Zd5]
 | z::l,h=>by
  rw [AI] at h
  simp only[Zd5]
  split
  ·rw [AI]
   refine ⟨fun y hy=>?_,Zqo h.2⟩
   rcases Zk9.1 hy with rfl | hy
   ·assumption
   ·exact h.1 y hy
  ·split
   ·rw [AI];exact h
   ·rw [AI,AI]
    refine ⟨fun y hy=>?_,h⟩
    rcases A3.1 hy with rfl | hy
    ·omega
    ·have:=h.1 y hy;omega
theorem Zp1 (x:Int):∀l:List Int,(Zd5 l x).length≤l.length+1
 | []=>by simp [Zd5]
 | z::l=>by
  simp only[Zd5]
  split
  ·have:=Zp1 x l;simp;omega
  ·split<;>simp
def ZGl (l:List Int) (row:List Int) (x:Int):List Int:=if ZGA l x then Zd5 row x else row
theorem ZIL (l row:List Int) (x:Int):(ZGl l row x).length≤row.length+1:=by
 unfold ZGl
 split
 ·exact Zp1 x row
 ·omega
theorem ZHd (l:List Int):∀(q row:List Int),row.Pairwise (·<·)→(q.foldl (ZGl l) row).Pairwise (·<·)∧∀y,y∈q.foldl (ZGl l) row↔y∈row∨(y∈q∧ZGA l y=true)
 | [],row,h=>⟨h,fun y=>by simp⟩
 | x::q,row,h=>by
  have h1:(ZGl l row x).Pairwise (·<·)∧∀y,y∈ZGl l row x↔y∈row∨(y=x∧ZGA l x=true):=by
   unfold ZGl
   split
   ·rename_i hc
    exact ⟨Zqo h,fun y=>by rw [Zk9];simp [hc,or_comm]⟩
   ·rename_i hc
    exact ⟨h,fun y=>by simp [hc]⟩
  obtain ⟨h2,h3⟩:=ZHd l q _ h1.1
  refine ⟨h2,fun y=>?_⟩
  rw [A5,h3,h1.2]
  constructor
  ·rintro ((h | ⟨rfl,h⟩) | h)
   ·exact .inl h
   ·exact .inr ⟨by simp,h⟩
   ·exact .inr ⟨by simp [h.1],h.2⟩
  ·rintro (h | ⟨hm,h⟩)
   ·exact .inl (.inl h)
   ·rcases A3.1 hm with rfl | hm
    ·exact .inl (.inr ⟨rfl,h⟩)
    ·exact .inr ⟨hm,h⟩
theorem ZHp (l:List Int) (h:l.length+1≤1073741824):ZFS l=some (l.foldl (ZGl l) []):=by
 unfold ZFS
 rw [YM (f:=ZGl l) (fun j row=>row.length≤j) (by simp)]
 intro j x row mx hj hl hI
 refine ⟨?_,by have:=ZIL l row x;omega⟩
 rw [Zif (f:=fun s t=>s&&(t==x||!ZGq t x)),ZJb]
 ·rw [show (decide (0≤x)&&l.all fun t=>t==x||!ZGq t x)=ZGA l x from rfl]
  unfold ZGl
  cases ZGA l x with
  | false=>simp
  | true=>simp only[if_true];rw [ZpM row x (by omega)];rfl
 ·intro i t c _
  cases c<;>simp only[AC,if_false,if_true,BA,AH]
  rw [ZIu]
  cases ZGq t x<;>simp
theorem ZHB (l:List Int) (h:l.length+1≤1073741824):ZFS l=ZFQ l:=by
 rw [ZHp l h,ZGa l (by omega)]
 obtain ⟨a1,a2⟩:=ZHd l l [] AZ
 obtain ⟨b1,b2⟩:=ZGE l l [] BB
 rw [ZmI a1 (Zuf b1) fun y=>by rw [Zua,a2,b2]]
section
open Classical
section
variable {α σ ρ:Type} {body:Nat→α→σ→Option (σ ⊕ ρ)} {fin:σ→Option ρ}
theorem Zla (st:List α→σ) (ok:List α→Prop) [DecidablePred ok] (q:ρ) (l:List α) (h0:ok []) (mono:∀p r,l=p++r→ok l→ok p)
  (h:∀p x r,l=p++x::r→ok p→body p.length x (st p)=if ok (p++[x]) then some (.inl (st (p++[x]))) else some (.inr q)):Zo body fin l 0 (st [])=if ok l then fin (st l) else some q:=by
 have key:∀(r pre:List α),l=pre++r→ok pre→Zo body fin r pre.length (st pre)=if ok l then fin (st l) else some q:=by
  intro r
  induction r with
  | nil=>intro pre e hp;rw [List.append_nil] at e;subst e;rw [if_pos hp];rfl
  | cons x r ih=>
   intro pre e hp
   have hx:=h pre x r e hp
   have e2:l=(pre++[x])++r:=by rw [e];simp
   by_cases hk:ok (pre++[x])
   ·rw [if_pos hk] at hx
    rw [ZX hx]
    simpa using ih (pre++[x]) e2 hk
   ·rw [if_neg hk] at hx
    rw [Yi hx,if_neg fun hl=>hk (mono _ _ e2 hl)]
 exact key l [] rfl h0
end
noncomputable def Zr4:List Zb→Zb→Nat→Int
 | [],_,_=>-1
 | x::l,f,i=>if x=f then ((i:Nat):Int) else Zr4 l f (i+1)
noncomputable def ZY (l:List Zb) (f:Zb):Int:=Zr4 l f 0
theorem Zam (l:List Zb) (f:Zb):Yc l f=some (ZY l f):=by
 unfold Yc ZY
 generalize 0=i
 induction l generalizing i with
 | nil=>rfl
 | cons x l ih=>
  by_cases hx:x=f
  ·rw [Yi (r:=((i:Nat):Int)) (by rw [Zb4,A0,if_pos (decide_eq_true hx)])]
   simp [Zr4,hx]
  ·rw [ZX (s':=()) (by rw [Zb4,A0,if_neg (by simpa using hx)]),ih (i+1)]
   simp [Zr4,hx]
theorem Zb5 (l:List Zb) (f:Zb):QT l f=some (ZY l f):=Zam l f
theorem Zn2 {f:Zb}:∀{l:List Zb} {i:Nat},(f∉l∧Zr4 l f i=-1)∨∃j,Zr4 l f i=((i+j:Nat):Int)∧l[j]?=some f
 | [],i=>.inl ⟨by simp,rfl⟩
 | x::l,i=>by
  unfold Zr4
  by_cases hx:x=f
  ·rw [if_pos hx];exact .inr ⟨0,by simp,by simp [hx]⟩
  ·rw [if_neg hx]
   rcases Zn2 (f:=f) (l:=l) (i:=i+1) with ⟨h1,h2⟩ | ⟨j,h1,h2⟩
   ·exact .inl ⟨by simp only[A3,not_or];exact ⟨fun e=>hx e.symm,h1⟩,h2⟩
   ·exact .inr ⟨j+1,by rw [h1];congr 1;omega,by simpa using h2⟩
theorem ZfL (l:List Zb) (f:Zb):(f∉l∧ZY l f=-1)∨∃j,ZY l f=((j:Nat):Int)∧l[j]?=some f:=by
 have:=Zn2 (f:=f) (l:=l) (i:=0)
 simpa [ZY] using this
theorem Q6 {l:List Zb} {f:Zb} (h:f∈l):∃j,ZY l f=((j:Nat):Int)∧l[j]?=some f:=(ZfL l f).resolve_left fun h'=>h'.1 h
noncomputable def Qr (F l:List Zb):List Int:=l.foldl (fun row f=>if 0≤ZY F f then Zd5 row (ZY F f) else row) []
theorem Zh2 (F:List Zb):∀(l:List Zb) (row:List Int),row.Pairwise (·<·)→(l.foldl (fun row f=>if 0≤ZY F f then Zd5 row (ZY F f) else row) row).Pairwise (·<·)∧(∀x,x∈l.foldl (fun row f=>if 0≤ZY F f then Zd5 row (ZY F f) else row) row↔x∈row∨∃f∈l,ZY F f=x∧0≤x)∧(l.foldl (fun row f=>if 0≤ZY F f then Zd5 row (ZY F f) else row) row).length≤row.length+l.length
 | [],row,h=>⟨h,by simp,by simp⟩
 | f::l,row,h=>by
  rw [A5]
  by_cases h0:0≤ZY F f
  ·rw [if_pos h0]
   obtain ⟨h1,h2,h3⟩:=Zh2 F l (Zd5 row (ZY F f)) (Zqo h)
   have:=Zp1 (ZY F f) row
   refine ⟨h1,fun x=>?_,by simp only[A6];omega⟩
   rw [h2,Zk9]
   constructor
   ·rintro ((rfl | h) | ⟨g,mg,e⟩)
    ·exact .inr ⟨f,by simp,rfl,h0⟩
    ·exact .inl h
    ·exact .inr ⟨g,by simp [mg],e⟩
   ·rintro (h | ⟨g,mg,e,e0⟩)
    ·exact .inl (.inr h)
    ·rcases A3.1 mg with rfl | mg
     ·exact .inl (.inl e.symm)
     ·exact .inr ⟨g,mg,e,e0⟩
  ·rw [if_neg h0]
   obtain ⟨h1,h2,h3⟩:=Zh2 F l row h
   refine ⟨h1,fun x=>?_,by simp only[A6];omega⟩
   rw [h2]
   constructor
   ·rintro (h | ⟨g,mg,e⟩)
    ·exact .inl h
    ·exact .inr ⟨g,by simp [mg],e⟩
   ·rintro (h | ⟨g,mg,e,e0⟩)
    ·exact .inl h
    ·rcases A3.1 mg with rfl | mg
     ·rw [e] at h0;exact absurd e0 h0
     ·exact .inr ⟨g,mg,e,e0⟩
theorem Yv (F l:List Zb):(Qr F l).Pairwise (·<·)∧(∀x,x∈Qr F l↔∃f∈l,ZY F f=x∧0≤x)∧(Qr F l).length≤l.length:=by
 obtain ⟨h1,h2,h3⟩:=Zh2 F l [] AZ
 exact ⟨h1,fun x=>by rw [Qr,h2];simp,by simpa [Qr] using h3⟩
theorem ZpL (F p:List Zb) (f:Zb):Qr F (p++[f])=if 0≤ZY F f then Zd5 (Qr F p) (ZY F f) else Qr F p:=by rw [Qr,AS];rfl
theorem ZhB (F l:List Zb) (h:l.length≤1000000):ZbP F l=some (Qr F l):=by
 unfold ZbP
 have h0:Qr F []=[]:=rfl
 rw [←h0,Zae (fun p=>Qr F p) l]
 intro p f q e
 have hp:p.length≤l.length:=by rw [e];simp
 have:=(Yv F p).2.2
 rw [Zb5,A0,ZpL]
 by_cases h0:0≤ZY F f
 ·rw [if_pos (by simpa using h0),if_pos h0,ZpM _ _ (by omega)]
  rfl
 ·rw [if_neg (by simpa using h0),if_neg h0]
noncomputable def ZbA (F l:List Zb):List Int:=l.foldl (fun row f=>if 0≤ZY F f∧ZY F f∉row then row++[ZY F f] else row) []
theorem Zj6 (F p:List Zb) (f:Zb):ZbA F (p++[f])=if 0≤ZY F f∧ZY F f∉ZbA F p then ZbA F p++[ZY F f] else ZbA F p:=by rw [ZbA,AS];rfl
theorem Zki (F:List Zb):∀n (l:List Zb),l.length=n→(ZbA F l).Nodup∧(∀x,x∈ZbA F l↔∃f∈l,ZY F f=x∧0≤x)∧(ZbA F l).length≤l.length:=by
 intro n
 induction n with
 | zero=>intro l hl;rw [AY hl];simp [ZbA]
 | succ n ih=>
  intro l hl
  obtain ⟨p,f,rfl⟩:∃p f,l=p++[f]:=⟨l.dropLast,l.getLast (by intro e;simp [e] at hl),(An _).symm⟩
  obtain ⟨h1,h2,h3⟩:=ih p (by simpa using hl)
  rw [Zj6]
  by_cases hc:0≤ZY F f∧ZY F f∉ZbA F p
  ·rw [if_pos hc]
   refine ⟨by rw [B8];exact ⟨h1,by simp,fun a ha b hb e=>by simp at hb;subst hb;subst e;exact hc.2 ha⟩,fun x=>?_,by simp;omega⟩
   rw [A2,h2]
   constructor
   ·rintro (⟨g,mg,e⟩ | h)
    ·exact ⟨g,by simp [mg],e⟩
    ·simp at h;subst h;exact ⟨f,by simp,rfl,hc.1⟩
   ·rintro ⟨g,mg,e,e0⟩
    rcases A2.1 mg with mg | mg
    ·exact .inl ⟨g,mg,e,e0⟩
    ·simp at mg;subst mg;exact .inr (by simp [e])
  ·rw [if_neg hc]
   refine ⟨h1,fun x=>?_,by simp;omega⟩
   rw [h2]
   constructor
   ·rintro ⟨g,mg,e⟩
    exact ⟨g,by simp [mg],e⟩
   ·rintro ⟨g,mg,e,e0⟩
    rcases A2.1 mg with mg | mg
    ·exact ⟨g,mg,e,e0⟩
    ·simp at mg;subst mg
     have:ZY F g∈ZbA F p:=Classical.byContradiction fun hn=>hc ⟨by rw [e];exact e0,hn⟩
     rw [e] at this
     exact (h2 x).1 this
theorem ZiM (F l:List Zb) (h:l.length≤1000000):Zc0 F l=some (Qr F l):=by
 unfold Zc0
 have h0:ZbA F []=[]:=rfl
 rw [←h0,Zae (fun p=>ZbA F p) l]
 ·obtain ⟨h1,h2,h3⟩:=Zki F _ l rfl
  obtain ⟨k1,k2,_⟩:=Yv F l
  simp only[ZfG]
  rw [Zh _ (by omega),A0,ZmI (Zuf h1) k1 fun x=>by rw [Zua,h2,k2]]
 ·intro p f q e
  have hp:p.length≤l.length:=by rw [e];simp
  have h3:=(Zki F _ p rfl).2.2
  rw [Zam,A0,Zj6]
  by_cases h0:0≤ZY F f
  ·rw [if_pos (by simpa using h0),Zqf,A0]
   by_cases hm:ZY F f∈ZbA F p
   ·rw [if_pos (ZqQ.2 hm),if_neg (fun h=>h.2 hm)]
   ·rw [if_neg (by rw [ZqQ];exact hm),if_pos ⟨h0,hm⟩,Zh _ (by omega)]
    rfl
  ·rw [if_neg (by simpa using h0),if_neg (fun h=>h0 h.1)]
theorem Zex (a b:List Int):ZbL a b=some (decide (a=b)):=by
 unfold ZbL
 by_cases h:a.length=b.length
 ·rw [if_neg (by simp;omega),Xu (p:=fun i x=>decide (b[i]?=some x)) (r:=false)]
  ·have:allI (fun i x=>decide (b[i]?=some x)) a 0=decide (a=b):=by
    rw [A9,decide_eq_true_iff]
    constructor
    ·intro ha
     apply Av
     intro i
     by_cases hi:i<a.length
     ·have hx:=A8 hi
      have:=Zfo ha i _ hx
      simp only[AA,decide_eq_true_eq] at this
      rw [hx,this]
     ·rw [AM (by omega),AM (by omega)]
    ·rintro rfl
     have:∀(l pre:List Int),allI (fun i x=>decide ((pre++l)[i]?=some x)) l pre.length=true:=by
      intro l
      induction l with
      | nil=>intro pre;rfl
      | cons x l ih=>
       intro pre
       simp only[allI,A1,decide_eq_true_eq]
       refine ⟨by simp,?_⟩
       have:=ih (pre++[x])
       simpa using this
     simpa using this a []
   rw [this]
   cases decide (a=b)<;>rfl
  ·intro j x hx
   have hj:=(AJ.1 hx).1
   have hb:b[j]?=some b[j]:=A8 (by omega)
   rw [AA,Zav,hb,A0]
   by_cases he:x=b[j]
   ·simp [he]
   ·have:¬b[j]=x:=fun e=>he e.symm
    simp [he,this]
 ·rw [if_pos (by simp;omega),decide_eq_false (fun e=>h (by rw [e]))]
theorem ZaC (a b:List Int):Zbi a b=some (decide (a=b)):=Zex a b
theorem ZlL {a b:Zf} (h1:a.for_=b.for_) (h2:a.inn=b.inn) (h3:a.outs=b.outs):a=b:=by
 cases a;cases b;simp only at h1 h2 h3;subst h1 h2 h3;rfl
theorem ZkI (a b:Zf):Zbw a b=some (decide (a=b)):=by
 unfold Zbw
 by_cases h1:a.for_=b.for_
 ·rw [if_pos (by simpa using h1),Zex,A0]
  by_cases h2:a.inn=b.inn
  ·rw [if_pos (decide_eq_true h2),Zex,A0]
   congr 1
   rw [A9,decide_eq_true_iff,decide_eq_true_iff]
   exact ⟨ZlL h1 h2,fun e=>by rw [e]⟩
  ·rw [if_neg (by simpa using h2),decide_eq_false (fun e=>h2 (by rw [e]))]
 ·rw [if_neg (by simpa using h1),decide_eq_false (fun e=>h1 (by rw [e]))]
theorem Zml (l:List Zf) (r:Zf):Za5 l r=some (decide (r∈l)):=by
 unfold Za5
 rw [Zco (p:=fun x=>decide (x=r)) (r:=true)]
 ·have:l.any (fun x=>decide (x=r))=decide (r∈l):=by
   rw [A9,List.any_eq_true,decide_eq_true_iff]
   exact ⟨fun ⟨x,mx,e⟩=>by rw [decide_eq_true_iff] at e;rw [←e];exact mx,fun h=>⟨r,h,by simp⟩⟩
  rw [this]
  cases decide (r∈l)<;>rfl
 ·intro i x mx
  rw [ZkI,A0]
  cases decide (x=r)<;>rfl
theorem ZoS (l:List Zf) (r:Zf):∃z,ZeD l r=some z∧(0≤z↔r∈l):=by
 unfold ZeD
 generalize 0=i
 induction l generalizing i with
 | nil=>exact ⟨-1,rfl,by simp⟩
 | cons x l ih=>
  by_cases hx:x=r
  ·subst hx
   refine ⟨((i:Nat):Int),Yi ?_,by simp⟩
   rw [if_pos (by simp),ZaC,A0,if_pos (by simp),ZaC,A0,if_pos (by simp)]
  ·obtain ⟨z,e,hz⟩:=ih (i+1)
   refine ⟨z,(ZX ?_).trans e,by rw [hz,A3];exact ⟨.inr,fun h=>h.resolve_left fun e=>hx e.symm⟩⟩
   by_cases h1:x.for_=r.for_
   ·rw [if_pos (by simpa using h1),ZaC,A0]
    by_cases h2:x.inn=r.inn
    ·rw [if_pos (decide_eq_true h2),ZaC,A0,if_neg (by simpa using fun e=>hx (ZlL h1 h2 e))]
    ·rw [if_neg (by simpa using h2)]
   ·rw [if_neg (by simpa using h1)]
noncomputable def ZiJ (r:Zg) (t:Zu):List Zb:=(r.cond.filter fun x=>x.kind==2).map fun x=>(YE (Yf x.pattern t.binding)).1
noncomputable def Yg (F:List Zb) (r:Zg) (t:Zu) (a:Zz):Zf:={ for_:=ZY F (Z8 a t),inn:=Qr F t.facts,outs:=Qr F (ZiJ r t) }
theorem ZqO {ρ:Type} {r:Zg} {t:Zu} (hr:r.cond.length≤1000000) {fin:List Zb→Option ρ} {body:Nat→Zt→List Zb→Option (List Zb ⊕ ρ)}
  (hb:∀i x row,row.length≤1000000→body i x row=if (x.kind==2)=true then some (.inl (row++[(YE (Yf x.pattern t.binding)).1])) else some (.inl row)):Zo body fin r.cond 0 []=fin (ZiJ r t):=by
 rw [YC (g:=fun x:Zt=>if (x.kind==2)=true then some (YE (Yf x.pattern t.binding)).1 else none)]
 ·rw [Ar]
  congr 1
  unfold ZiJ
  induction r.cond with
  | nil=>rfl
  | cons x l ih=>
   by_cases hx:(x.kind==2)=true
   ·simp only[BC,BD,hx,if_true,AO,ih]
   ·simp only[BC,BD,hx,if_false,ih]
    simp
 ·intro j x s mx hs
  rw [hb _ _ _ (by simp at hs;omega)]
  by_cases hx:(x.kind==2)=true
  ·rw [if_pos hx,if_pos hx]
   rfl
  ·rw [if_neg hx,if_neg hx]
   simp
theorem Zlr (r:Zg) (t:Zu):(ZiJ r t).length≤r.cond.length:=by
 rw [ZiJ,AX]
 exact Au _ _
theorem Zk0 {F:List Zb} {r:Zg} {t:Zu} (hr:r.cond.length≤4) (ht:ZuM F t) {j:Nat} {a:Zz} (ha:r.thn[j]?=some a):ZaS r ((j:Nat):Int) t F=some (Yg F r t a):=by
 have hb:=ht.bind
 have hl:=ht.len
 have e1:∀p,Yy p t.binding=some (YE (Yf p t.binding)):=fun p=>Zez p t.binding (by omega)
 unfold ZaS
 rw [Zav,ha,A0,e1,A0,ZqO (t:=t) (by omega) (fun i x row hrow=>by rw [e1,A0,Zh _ (by omega)])]
 have:=Zlr r t
 rw [Zb5,A0,ZhB _ _ (by omega),A0,ZhB _ _ (by omega),A0]
 rfl
noncomputable def Zjz (l:List Zf) (r:Zf):List Zf:=if r∈l then l else l++[r]
theorem Zwq (l:List Zf) (r:Zf):l.length≤(Zjz l r).length∧(Zjz l r).length≤l.length+1:=by
 unfold Zjz
 split<;>simp
theorem ZnR:∀(c l:List Zf),l.length≤(c.foldl Zjz l).length∧(c.foldl Zjz l).length≤l.length+c.length
 | [],l=>by simp
 | r::c,l=>by
  have h1:=ZnR c (Zjz l r)
  have h2:=Zwq l r
  simp only[A5,A6]
  omega
theorem Zlf {α β:Type} {g:α→List β} {N:Nat}:∀{l:List α},(∀x∈l,(g x).length≤N)→(l.flatMap g).length≤N * l.length
 | [],_=>by simp
 | x::l,h=>by
  have h1:=h x (by simp)
  have h2:=Zlf (l:=l) fun y my=>h y (by simp [my])
  rw [Ak,AK,A6,Nat.mul_add]
  omega
noncomputable def Qz {β:Type} (s:List Zf × List β) (p:Zf × β):List Zf × List β:=if p.1∈s.1 then s else (s.1++[p.1],s.2++[p.2])
theorem Zdr {β:Type}:∀(c:List (Zf × β)) (s:List Zf × List β),(c.foldl Qz s).1=(c.map Aw).foldl Zjz s.1∧(s.2.length=s.1.length→(c.foldl Qz s).2.length=(c.foldl Qz s).1.length)
 | [],s=>⟨rfl,fun h=>h⟩
 | p::c,s=>by
  obtain ⟨h1,h2⟩:=Zdr c (Qz s p)
  have e:(Qz s p).1=Zjz s.1 p.1:=by unfold Qz Zjz;split<;>rfl
  refine ⟨by rw [A5,h1,e];rfl,fun h=>h2 ?_⟩
  unfold Qz
  split
  ·exact h
  ·simp [h]
theorem Zi2 {β:Type} (c:List (Zf × β)) (s:List Zf × List β):s.1.length≤(c.foldl Qz s).1.length∧(c.foldl Qz s).1.length≤s.1.length+c.length:=by
 have:=ZnR (c.map Aw) s.1
 rw [(Zdr c s).1]
 simpa using this
section
variable {β:Type} (o:Zg→Zu→β) (F:List Zb)
noncomputable def Zm0 (r:Zg) (t:Zu):List (Zf × β):=r.thn.map fun a=>(Yg F r t a,o r t)
noncomputable def Zmy (r:Zg):List (Zf × β):=(Zw (XT r) F).flatMap (Zm0 o F r)
noncomputable def Zdj (base:List Zb):List Zf:=base.map fun f=>{ for_:=ZY F f,inn:=[],outs:=[] }
noncomputable def ZaB (z:β) (R:List Zg) (base:List Zb):List Zf × List β:=(R.flatMap (Zmy o F)).foldl Qz (Zdj F base,base.map fun _=>z)
theorem Zqm (r:Zg) (t:Zu):(Zm0 o F r t).length=r.thn.length:=by simp [Zm0]
end
noncomputable def ZCw (F:List Zb) (r:Zg) (t:Zu):List Zf:=r.thn.map (Yg F r t)
noncomputable def Zvb (F:List Zb) (r:Zg):List Zf:=(Zw (XT r) F).flatMap (ZCw F r)
noncomputable def ZZ (R:List Zg) (F base:List Zb):List Zf:=(R.flatMap (Zvb F)).foldl Zjz (Zdj F base)
theorem Zkh {β:Type} (o:Zg→Zu→β) (F:List Zb) (z:β) (R:List Zg) (base:List Zb):(ZaB o F z R base).1=ZZ R F base∧(ZaB o F z R base).2.length=(ZZ R F base).length:=by
 obtain ⟨h1,h2⟩:=Zdr (R.flatMap (Zmy o F)) (Zdj F base,base.map fun _=>z)
 have e:(R.flatMap (Zmy o F)).map Aw=R.flatMap (Zvb F):=by
  rw [BE]
  congr 1
  funext r
  rw [Zmy,Zvb,BE]
  congr 1
  funext t
  simp [Zm0,ZCw]
 have h3:(ZaB o F z R base).1=ZZ R F base:=by unfold ZaB ZZ;rw [h1,e]
 refine ⟨h3,?_⟩
 rw [←h3]
 exact h2 (by simp [Zdj])
section
variable {β ρ:Type} {o:Zg→Zu→β} {F:List Zb}
theorem Zos {base:List Zb} (hl:base.length≤1000000) {z:β} {fin:List Zf × List β→Option ρ} {body:Nat→Zb→List Zf × List β→Option ((List Zf × List β) ⊕ ρ)}
  (hb:∀i f a b,a.length≤1000000→b.length≤1000000→body i f (a,b)=some (.inl (a++[{ for_:=ZY F f,inn:=[],outs:=[] }],b++[z]))):Zo body fin base 0 ([],[])=fin (Zdj F base,base.map fun _=>z):=by
 have h0:(([],[]):List Zf × List β)=(Zdj F [],([]:List Zb).map fun _=>z):=rfl
 rw [h0,Zae (fun p=>(Zdj F p,p.map fun _=>z)) base]
 intro p f q e
 have hp:p.length≤base.length:=by rw [e];simp
 rw [hb _ _ _ _ (by rw [Zdj,AX];omega) (by rw [AX];omega)]
 simp [Zdj]
theorem Zy3 {r:Zg} {t:Zu} (hr2:r.thn.length≤2) {fin:List Zf × List β→Option ρ} {body:Nat→Zz→List Zf × List β→Option ((List Zf × List β) ⊕ ρ)} {s:List Zf × List β} (hl:s.1.length≤99999998) (hs:s.2.length=s.1.length)
  (hb:∀i a c d,c.length≤100000000→d.length≤100000000→body i a (c,d)=if decide (Yg F r t a∈c)=true then some (.inl (c,d)) else some (.inl (c++[Yg F r t a],d++[o r t]))):Zo body fin r.thn 0 s=fin ((Zm0 o F r t).foldl Qz s):=by
 have h0:s=((([]:List Zz).map fun a=>(Yg F r t a,o r t))).foldl Qz s:=rfl
 conv=>lhs;rw [h0]
 rw [Zae (fun p:List Zz=>(p.map fun a=>(Yg F r t a,o r t)).foldl Qz s) r.thn]
 ·rfl
 ·intro p a q e
  have hp:p.length≤r.thn.length:=by rw [e];simp
  have h1:=Zi2 (p.map fun a=>(Yg F r t a,o r t)) s
  have h2:=(Zdr (p.map fun a=>(Yg F r t a,o r t)) s).2 hs
  rw [AX] at h1
  rw [Ax,AS]
  generalize (p.map fun a=>(Yg F r t a,o r t)).foldl Qz s=u at h1 h2 ⊢
  obtain ⟨c,d⟩:=u
  simp only at h1 h2
  rw [hb _ _ _ _ (by omega) (by omega)]
  show _=some (Sum.inl (Qz (c,d) (Yg F r t a,o r t)))
  unfold Qz
  by_cases hm:Yg F r t a∈c
  ·rw [if_pos (decide_eq_true hm),if_pos hm]
  ·rw [if_neg (by simpa using hm),if_neg hm]
theorem Zvw {α:Type} {g:α→List (Zf × β)} {L:List α} {M N:Nat} (hg:∀x∈L,(g x).length≤N) {fin:List Zf × List β→Option ρ} {body:Nat→α→List Zf × List β→Option ((List Zf × List β) ⊕ ρ)} {s:List Zf × List β} (hl:s.1.length+N * L.length≤M) (hs:s.2.length=s.1.length)
  (hb:∀i x u,x∈L→u.1.length≤M→u.2.length=u.1.length→body i x u=some (.inl ((g x).foldl Qz u))):Zo body fin L 0 s=fin ((L.flatMap g).foldl Qz s):=by
 have h0:s=(([]:List α).flatMap g).foldl Qz s:=rfl
 conv=>lhs;rw [h0]
 rw [Zae (fun p=>(p.flatMap g).foldl Qz s) L]
 intro p x q e
 have hp:p.length≤L.length:=by rw [e];simp
 have h1:=Zi2 (p.flatMap g) s
 have h2:=(Zdr (p.flatMap g) s).2 hs
 have h3:=Zlf (l:=p) (g:=g) (N:=N) fun y my=>hg y (by rw [e];simp [my])
 have h4:=Nat.mul_le_mul_left N hp
 rw [hb _ _ _ (by rw [e];simp) (by omega) h2,Am,AS]
 simp
theorem ZA6 {r:Zg} {t:Zu} {q:ρ} {fin:List Zf × List β→Option ρ} {body:Nat→Zz→List Zf × List β→Option ((List Zf × List β) ⊕ ρ)} {s:List Zf × List β} (hl:s.1.length≤60) (hs:s.2.length=s.1.length)
  (hb:∀j a c d,r.thn[j]?=some a→c.length≤60→d.length≤60→body j a (c,d)=if Yg F r t a∈c then some (.inl (c,d)) else if 60≤c.length then some (.inr q) else some (.inl (c++[Yg F r t a],d++[o r t]))):Zo body fin r.thn 0 s=if ((Zm0 o F r t).foldl Qz s).1.length≤60 then fin ((Zm0 o F r t).foldl Qz s) else some q:=by
 have h0:s=((([]:List Zz).map fun a=>(Yg F r t a,o r t))).foldl Qz s:=rfl
 conv=>lhs;rw [h0]
 rw [Zla (fun p:List Zz=>(p.map fun a=>(Yg F r t a,o r t)).foldl Qz s) (fun p=>((p.map fun a=>(Yg F r t a,o r t)).foldl Qz s).1.length≤60) q r.thn (by simpa using hl) (fun p c e h=>by
  rw [e,Ax,AS] at h
  exact AQ (Zi2 _ _).1 h)]
 ·rfl
 ·intro p a c e h60
  have h2:=(Zdr (p.map fun a=>(Yg F r t a,o r t)) s).2 hs
  rw [Ax,AS]
  generalize (p.map fun a=>(Yg F r t a,o r t)).foldl Qz s=u at h60 h2 ⊢
  obtain ⟨x,y⟩:=u
  simp only at h60 h2
  rw [hb _ _ _ _ (by rw [e];simp) h60 (by omega)]
  show _=if (Qz (x,y) (Yg F r t a,o r t)).1.length≤60 then some (Sum.inl (Qz (x,y) (Yg F r t a,o r t))) else some (Sum.inr q)
  unfold Qz
  by_cases hm:Yg F r t a∈x
  ·rw [if_pos hm,if_pos hm,if_pos h60]
  ·rw [if_neg hm,if_neg hm]
   by_cases h1:60≤x.length
   ·rw [if_pos h1,if_neg (by simp;omega)]
   ·rw [if_neg h1,if_pos (by simp;omega)]
theorem ZuX {α:Type} {g:α→List (Zf × β)} {L:List α} {q:ρ} {fin:List Zf × List β→Option ρ} {body:Nat→α→List Zf × List β→Option ((List Zf × List β) ⊕ ρ)} {s:List Zf × List β} (hl:s.1.length≤60) (hs:s.2.length=s.1.length)
  (hb:∀i x u,x∈L→u.1.length≤60→u.2.length=u.1.length→body i x u=if ((g x).foldl Qz u).1.length≤60 then some (.inl ((g x).foldl Qz u)) else some (.inr q)):Zo body fin L 0 s=if ((L.flatMap g).foldl Qz s).1.length≤60 then fin ((L.flatMap g).foldl Qz s) else some q:=by
 have h0:s=(([]:List α).flatMap g).foldl Qz s:=rfl
 conv=>lhs;rw [h0]
 rw [Zla (fun p=>(p.flatMap g).foldl Qz s) (fun p=>((p.flatMap g).foldl Qz s).1.length≤60) q L (by simpa using hl) (fun p c e h=>by
  rw [e,Am,AS] at h
  exact AQ (Zi2 _ _).1 h)]
 intro p x c e h60
 have h2:=(Zdr (p.flatMap g) s).2 hs
 rw [hb _ _ _ (by rw [e];simp) h60 h2,Am,AS]
 simp
end
def noB:Zr:={ nodes:=0,reasons:=[] }
def ZoR (r:Zg) (t:Zu):ZaA:={ rule:=r.name,facts:=t.facts }
def Zqh (r:Zg) (t:Zu):Xr:={ rule:=r.name,token:=t }
def noI:ZaA:={ rule:=⟨#[]⟩,facts:=[] }
def noS:Xr:={ rule:=⟨#[]⟩,token:={ facts:=[],binding:=[] } }
def Zsq {β:Type} (F:List Zb) (g:List Zf × List β):List Zb × Zr × List β × Bool:=if 60<g.1.length then ([],noB,[],false) else (F,{ nodes:=((F.length:Nat):Int),reasons:=g.1 },g.2,true)
structure Z0 (R:List Zg) (base F:List Zb):Prop where
 logical:(Z6 R&&R.all (Y4 R))=true
 facts:Z3 base=true
 good:ZeE R base F
 len:F.length≤24
 closed:ZiK R F
theorem Z0.rule {R:List Zg} {base F:List Zb} (h:Z0 R base F) {r:Zg} (mr:r∈R):ZM r=true∧r.cond.length≤4∧r.thn.length≤2:=by
 have h1:=h.logical
 rw [A1] at h1
 have h2:=A7.1 h1.2 r mr
 unfold Y4 at h2
 rw [A1] at h2
 have h3:=h2.1
 unfold ZM at h3
 simp only[A1] at h3
 exact ⟨h2.1,XB h3.1.1⟩
theorem Z0.toks {R:List Zg} {base F:List Zb} (h:Z0 R base F) {r:Zg} (mr:r∈R):(Zw (XT r) F).length≤331776:=ZaO F h.len (XT r) (by have:=ZdL r;have:=(h.rule mr).2.1;omega)
theorem Z0.tokS {R:List Zg} {base F:List Zb} (h:Z0 R base F) {r:Zg} (mr:r∈R) {t:Zu} (mt:t∈Zw (XT r) F):ZuM F t:=(Qp F _ t mt).s (by have:=ZdL r;have:=(h.rule mr).2.1;omega) fun f mf=>YY (h.good.ok f mf)
theorem Zqn {R:List Zg} {base F:List Zb} (h:Z0 R base F) (hp:Yt R base=some (F,true)):Zbh R base=some (Zsq F (ZaB ZoR F noI R base)):=by
 have h6:R.length≤6:=by have:=h.logical;rw [A1] at this;exact (ZcX this.1).1
 have hb24:=(QQ h.facts).1
 unfold Zbh
 rw [hp,A0,if_pos rfl,Zos (F:=F) (z:=noI) (by omega)]
 ·show Zo _ _ R 0 (Zdj F base,base.map fun _=>noI)=_
  rw [Zvw (g:=Zmy ZoR F) (N:=663552) (M:=90000000)]
  ·show (if decide (60<(((ZaB ZoR F noI R base).1.length:Nat):Int))=true then _ else _)=_
   unfold Zsq
   by_cases h60:60<(ZaB ZoR F noI R base).1.length
   ·rw [if_pos (decide_eq_true (by omega)),if_pos h60]
    rfl
   ·rw [if_neg (fun h=>h60 (by have:=of_decide_eq_true h;omega)),if_neg h60]
    rfl
  ·intro r mr
   obtain ⟨_,_,h2⟩:=h.rule mr
   have h3:=h.toks mr
   have:=Zlf (l:=Zw (XT r) F) (g:=Zm0 ZoR F r) (N:=2) fun x _=>by rw [Zqm];omega
   unfold Zmy
   omega
  ·simp only[Zdj,AX];omega
  ·simp [Zdj]
  ·intro i r u mr hu hu2
   obtain ⟨c,d⟩:=u
   obtain ⟨_,h1,h2⟩:=h.rule mr
   have h3:=h.toks mr
   simp only at hu hu2
   show (YP r).bind _=_
   rw [ZbN r (by omega),A0,ZeA _ _ (by have:=ZdL r;omega) h.len (fun f mf=>YY (h.good.ok f mf)),A0,Zvw (g:=Zm0 ZoR F r) (N:=2) (M:=99999998)]
   ·rfl
   ·intro t mt
    rw [Zqm]
    exact h2
   ·simp only;omega
   ·exact hu2
   ·intro j t v mt hv hv2
    obtain ⟨c2,d2⟩:=v
    simp only at hv hv2
    have ht:=h.tokS mr mt
    have hl:=ht.len
    have ha:=Zlr r t
    show Zo _ _ r.cond 0 []=_
    rw [ZqO (t:=t) (by omega) (fun i x row hrow=>by rw [Zcd,A0,Zh _ (by omega)])]
    rw [Zy3 (o:=ZoR) (F:=F) (t:=t) h2 (s:=(c2,d2)) hv hv2]
    ·intro k a x y hx hy
     show (XL a.pattern t.binding).bind _=_
     rw [Zcd,A0,Zam,A0,ZiM _ _ (by omega),A0,ZiM _ _ (by omega),A0]
     show (Za5 x (Yg F r t a)).bind _=_
     rw [Zml,A0]
     by_cases hm:Yg F r t a∈x
     ·rw [if_pos (decide_eq_true hm),if_pos (decide_eq_true hm)]
     ·rw [if_neg (by simpa using hm),if_neg (by simpa using hm),Zh _ (by omega),Zh _ (by omega)]
      rfl
 ·intro i f a b ha hb
  show (Yc F f).bind _=_
  rw [Zam,A0,Zh _ (by omega),Zh _ (by omega)]
  rfl
theorem ZpJ {R:List Zg} {base F:List Zb} (h:Z0 R base F) (hp:Yu R base=some (F,true)):Xy R base=some (Zsq F (ZaB Zqh F noS R base)):=by
 have h6:R.length≤6:=by have:=h.logical;rw [A1] at this;exact (ZcX this.1).1
 have hb24:=(QQ h.facts).1
 unfold Xy
 rw [hp,A0,if_pos rfl,Zos (F:=F) (z:=noS) (by omega)]
 ·show Zo _ _ R 0 (Zdj F base,base.map fun _=>noS)=_
  rw [ZuX (g:=Zmy Zqh F) (q:=([],noB,[],false))]
  ·show (if (ZaB Zqh F noS R base).1.length≤60 then _ else _)=_
   unfold Zsq
   by_cases h60:60<(ZaB Zqh F noS R base).1.length
   ·rw [if_neg (by omega),if_pos h60]
   ·rw [if_pos (by omega),if_neg h60]
    rfl
  ·simp only[Zdj,AX];omega
  ·simp [Zdj]
  ·intro i r u mr hu hu2
   obtain ⟨c,d⟩:=u
   obtain ⟨_,h1,h2⟩:=h.rule mr
   simp only at hu hu2
   show (XJ r).bind _=_
   rw [Ze3 r (by omega),A0,ZhC _ _ (by have:=ZdL r;omega) h.len (fun f mf=>YY (h.good.ok f mf)),A0,ZuX (g:=Zm0 Zqh F r) (q:=.inr ([],noB,[],false)) (s:=(c,d)) hu hu2]
   ·rfl
   ·intro j t v mt hv hv2
    obtain ⟨c2,d2⟩:=v
    simp only at hv hv2
    have ht:=h.tokS mr mt
    show Zo _ _ r.thn 0 (c2,d2)=_
    rw [ZA6 (o:=Zqh) (F:=F) (t:=t) (q:=.inr (.inr ([],noB,[],false))) (s:=(c2,d2)) hv hv2]
    ·intro k a x y ha hx hy
     show (ZaS r ((k:Nat):Int) t F).bind _=_
     rw [Zk0 h1 ht ha,A0]
     obtain ⟨z,hz,hz2⟩:=ZoS x (Yg F r t a)
     rw [hz,A0]
     by_cases hm:Yg F r t a∈x
     ·rw [if_pos (by simpa using hz2.2 hm),if_pos hm]
     ·rw [if_neg (by simpa using fun h0=>hm (hz2.1 h0)),if_neg hm]
      by_cases h60:60≤x.length
      ·rw [if_pos (by simp;omega),if_pos h60]
       rfl
      ·rw [if_neg (by simp;omega),if_neg h60,Zh _ (by omega),Zh _ (by omega)]
       rfl
 ·intro i f a b ha hb
  show (QT F f).bind _=_
  rw [Zb5,A0,Zh _ (by omega),Zh _ (by omega)]
  rfl
theorem Zqd {R:List Zg} (hR:Zbc R) (base:List Zb) (hb20:base.length≤1048576):(Zbh R base=some ([],noB,[],false)∧Xy R base=some ([],noB,[],false))∨∃F,Z0 R base F∧Zbh R base=some (Zsq F (ZaB ZoR F noI R base))∧Xy R base=some (Zsq F (ZaB Zqh F noS R base)):=by
 obtain ⟨⟨F,b⟩,h1,h2,h3⟩:=Zij hR base hb20
 have no:b=false→(Zbh R base=some ([],noB,[],false)∧Xy R base=some ([],noB,[],false)):=fun e=>by
  subst e
  unfold Zbh Xy
  rw [h1,h2]
  exact ⟨rfl,rfl⟩
 rcases h3 with h3 | ⟨h3,h4,⟨h5,h6,h7,h8⟩ | ⟨h5,_⟩⟩
 ·simp only[Prod.mk.injEq] at h3
  exact .inl (no h3.2)
 ·simp only at h5
  subst h5
  have hG:Z0 R base F:=⟨h3,h4,h6,h7,h8⟩
  exact .inr ⟨F,hG,Zqn hG h2,ZpJ hG h1⟩
 ·exact .inl (no h5)
def Zpr (R:List Zg) (base F:List Zb) (b:Zr) (ok:Bool):Prop:=(ok=false∧F=[]∧b=noB)∨(ok=true∧Z0 R base F∧b={ nodes:=((F.length:Nat):Int),reasons:=ZZ R F base }∧(ZZ R F base).length≤60)
theorem Zh9 {R:List Zg} (hR:Zbc R) (base:List Zb) (hb20:base.length≤1048576):∃F b ok,Ql R base=some (F,b,ok)∧Qi R base=some (F,b,ok)∧Zpr R base F b ok:=by
 unfold Ql Qi
 rcases Zqd hR base hb20 with ⟨h1,h2⟩ | ⟨F,hG,h1,h2⟩
 ·rw [h1,h2]
  exact ⟨_,_,_,rfl,rfl,.inl ⟨rfl,rfl,rfl⟩⟩
 ·obtain ⟨e1,_⟩:=Zkh ZoR F noI R base
  obtain ⟨e2,_⟩:=Zkh Zqh F noS R base
  rw [h1,h2]
  unfold Zsq
  rw [e1,e2]
  by_cases h60:60<(ZZ R F base).length
  ·rw [if_pos h60,if_pos h60]
   exact ⟨_,_,_,rfl,rfl,.inl ⟨rfl,rfl,rfl⟩⟩
  ·rw [if_neg h60,if_neg h60]
   exact ⟨_,_,_,rfl,rfl,.inr ⟨rfl,hG,rfl,Nat.le_of_not_lt h60⟩⟩
theorem Zrz {r:Zf}:∀{c l:List Zf},r∈c.foldl Zjz l↔r∈l∨r∈c
 | [],l=>by simp
 | x::c,l=>by
  rw [A5,Zrz]
  have:r∈Zjz l x↔r∈l∨r=x:=by
   unfold Zjz
   split
   ·rename_i h
    exact ⟨.inl,fun h'=>h'.elim id fun e=>e ▸ h⟩
   ·simp
  rw [this,A3,or_assoc]
theorem Zib {R:List Zg} {F base:List Zb} {x:Zf}:x∈ZZ R F base↔(∃f∈base,x={ for_:=ZY F f,inn:=[],outs:=[] })∨∃r∈R,∃t∈Zw (XT r) F,∃a∈r.thn,x=Yg F r t a:=by
 unfold ZZ
 rw [Zrz]
 constructor
 ·rintro (h | h)
  ·obtain ⟨f,mf,e⟩:=AB.1 h
   exact .inl ⟨f,mf,e.symm⟩
  ·obtain ⟨r,mr,h⟩:=AD.1 h
   obtain ⟨t,mt,h⟩:=AD.1 h
   obtain ⟨a,ma,e⟩:=AB.1 h
   exact .inr ⟨r,mr,t,mt,a,ma,e.symm⟩
 ·rintro (⟨f,mf,e⟩ | ⟨r,mr,t,mt,a,ma,e⟩)
  ·exact .inl (AB.2 ⟨f,mf,e.symm⟩)
  ·exact .inr (AD.2 ⟨r,mr,AD.2 ⟨t,mt,AB.2 ⟨a,ma,e.symm⟩⟩⟩)
theorem Zfg {R:List Zg} {base F:List Zb} (h:Z0 R base F) {x:Zf} (mx:x∈ZZ R F base):x.inn.length≤4∧x.outs.length≤4:=by
 rcases Zib.1 mx with ⟨f,_,rfl⟩ | ⟨r,mr,t,mt,a,_,rfl⟩
 ·exact ⟨At _,At _⟩
 ·have h1:=(h.tokS mr mt).len
  have h2:=Zlr r t
  have h3:=(h.rule mr).2.1
  exact ⟨AQ (Yv F t.facts).2.2 h1,AQ (Yv F (ZiJ r t)).2.2 (by omega)⟩
end
section
open Classical
def mx (a b:Int):Int:=if a<b then b else a
def OkN (n:Nat) (r:Zf):Prop:=(0≤r.for_∧r.for_.toNat<n)∧(∀y∈r.inn,0≤y∧y.toNat<n)∧∀y∈r.outs,0≤y∧y.toNat<n
end
section
open Classical
theorem Zxv (F:List Zb):∀n (l:List Zt),l.length=n→∀t∈Zw l F,∀f∈t.facts,∃x∈l,x.kind=1∧x.pattern.rel=f.rel:=by
 intro n
 induction n with
 | zero=>
  intro l h t mt f mf
  rw [AY h] at mt
  simp [Zw] at mt
  subst mt
  simp [Zu3] at mf
 | succ n ih=>
  intro l h
  obtain ⟨p,x,rfl⟩:∃p x,l=p++[x]:=⟨l.dropLast,l.getLast (by intro e;simp [e] at h),(An _).symm⟩
  intro t mt f mf
  rw [Y6] at mt
  obtain ⟨s,ms,mt⟩:=AD.1 mt
  have old:f∈s.facts→∃y∈p++[x],y.kind=1∧y.pattern.rel=f.rel:=fun hf=>by
   obtain ⟨y,my,hy⟩:=ih p (by simpa using h) s ms f hf
   exact ⟨y,by simp [my],hy⟩
  unfold ZaR at mt
  by_cases hk:x.kind=1
  ·rw [if_pos hk] at mt
   obtain ⟨g,mg,hg⟩:=AP.1 mt
   obtain ⟨b,hb,rfl⟩:=Ac.1 hg
   simp only[A2,AE] at mf
   rcases mf with mf | rfl
   ·exact old mf
   ·refine ⟨x,by simp,hk,?_⟩
    unfold QG at hb
    split at hb
    ·rename_i hc
     unfold Zcp at hc
     simp only[A1,decide_eq_true_eq,ZO] at hc
     first | exact hc.1.2 | exact hc.2 | exact hc.1.1.2 | exact hc.2.1 | exact hc.1.2.1
    ·simp at hb
  ·rw [if_neg hk] at mt
   split at mt
   ·simp at mt;subst mt;exact old mf
   ·simp at mt
def ZfV (F:List Zb) (x:Int):ByteArray:=match F[x.toNat]? with | some f=>f.rel | none=>⟨#[]⟩
theorem ZjE {F:List Zb} {f:Zb} {x:Int} (e:ZY F f=x) (h0:0≤x):(0≤x∧x.toNat<F.length)∧ZfV F x=f.rel∧f∈F:=by
 rcases ZfL F f with ⟨_,h2⟩ | ⟨j,h1,h2⟩
 ·omega
 ·have ej:x.toNat=j:=by omega
  refine ⟨⟨h0,?_⟩,?_,AF h2⟩
  ·rw [ej];exact (AJ.1 h2).1
  ·unfold ZfV;rw [ej,h2]
structure ZEE (R:List Zg) (F:List Zb) (x:Zf):Prop where
 node:0≤x.for_∧x.for_.toNat<F.length
 inn:∀y∈x.inn,(0≤y∧y.toNat<F.length)∧Zdq R (ZfV F x.for_) (ZfV F y)
 outs:∀y∈x.outs,(0≤y∧y.toNat<F.length)∧Zdq R (ZfV F x.for_) (ZfV F y)∧ZfV F y≠ZfV F x.for_∧¬YJ R (ZfV F y) (ZfV F x.for_)
 up:x.inn.Pairwise (·<·)∧x.outs.Pairwise (·<·)
theorem Zee {R:List Zg} {base F:List Zb} (h:Z0 R base F) {x:Zf} (mx:x∈ZZ R F base):ZEE R F x:=by
 rcases Zib.1 mx with ⟨f,mf,rfl⟩ | ⟨r,mr,t,mt,a,ma,rfl⟩
 ·obtain ⟨j,h1,h2⟩:=Q6 (h.good.inc f mf)
  have:=(AJ.1 h2).1
  exact ⟨⟨by simp only;omega,by simp only;omega⟩,by simp,by simp,AZ,AZ⟩
 ·have hin:Z8 a t∈F:=h.closed r mr t mt a ma
  obtain ⟨j,h1,h2⟩:=Q6 hin
  have hr:=(h.rule mr).1
  have hr2:=hr
  unfold ZM at hr2
  simp only[A1] at hr2
  have hk:a.kind=1:=by
   have:=A7.1 hr2.2 a ma
   simpa using this
  obtain ⟨hn,hrel,_⟩:=ZjE (F:=F) (f:=Z8 a t) rfl (by rw [h1];omega)
  have hok:=h.good.ok _ hin
  have hname:∀p b,Yb (YE (Yf p b)).1=true→(YE (Yf p b)).1.rel=p.rel:=fun p b hf=>by
   cases hi:Yf p b with
   | none=>
    rw [hi] at hf
    exact absurd hf (by decide)
   | some g=>
    unfold Yf at hi
    split at hi
    ·obtain ⟨l,_,rfl⟩:=Ac.1 hi
     rfl
    ·simp at hi
  have hfor:ZfV F (ZY F (Z8 a t))=a.pattern.rel:=hrel.trans (hname a.pattern t.binding hok)
  have hw:a.pattern.rel∈Xk r:=AP.2 ⟨a,ma,by rw [if_pos (.inl hk)]⟩
  refine ⟨hn,fun y my=>?_,fun y my=>?_,(Yv F _).1,(Yv F _).1⟩
  ·obtain ⟨f,mf,e,e0⟩:=((Yv F t.facts).2.1 y).1 my
   obtain ⟨k1,k2,_⟩:=ZjE e e0
   obtain ⟨c,mc,ck,cr⟩:=Zxv F _ (XT r) rfl t mt f mf
   refine ⟨k1,r,mr,?_,?_⟩
   ·show ZfV F (ZY F (Z8 a t))∈_
    rw [hfor];exact hw
   ·rw [k2,←cr]
    exact AP.2 ⟨c,(AU.1 mc).1,by rw [if_pos (.inl ck)]⟩
  ·obtain ⟨f,mf,e,e0⟩:=((Yv F (ZiJ r t)).2.1 y).1 my
   obtain ⟨k1,k2,k3⟩:=ZjE e e0
   obtain ⟨c,mc,rfl⟩:=AB.1 mf
   obtain ⟨mc,ck⟩:=AU.1 mc
   have cr:=hname c.pattern t.binding (h.good.ok _ k3)
   have hy:ZfV F y=c.pattern.rel:=k2.trans cr
   have hfor':ZfV F (Yg F r t a).for_=a.pattern.rel:=hfor
   have hlog:Zjl R c.pattern.rel a.pattern.rel=true:=by
    have h1:=h.logical
    rw [A1] at h1
    have h2:=A7.1 h1.2 r mr
    unfold Y4 at h2
    rw [A1] at h2
    have h3:=A7.1 h2.2 c mc
    unfold ZgX at h3
    rw [ck] at h3
    simp only[Bool.not_true,Al] at h3
    exact A7.1 h3 _ (ZP.2 hw)
   unfold Zjl at hlog
   simp only[A1,Ad,decide_eq_false_iff_not] at hlog
   rw [hfor',hy]
   refine ⟨k1,⟨r,mr,hw,AP.2 ⟨c,mc,by rw [if_pos (.inr (by simpa using ck))]⟩⟩,fun e=>?_,hlog.2⟩
   have:=ZuE.1 hlog.1
   exact this e.symm
theorem Zun {R:List Zg} {base F:List Zb} (h:Z0 R base F):∀x∈ZZ R F base,OkN F.length x:=fun x mx=>by
 have hf:=Zee h mx
 exact ⟨hf.node,fun y my=>(hf.inn y my).1,fun y my=>(hf.outs y my).1⟩
end
def OkR (n:Nat) (r:Zf):Prop:=0≤r.for_∧r.for_.toNat<n∧(∀y∈r.inn,0≤y∧y.toNat<n)∧r.outs=[]
inductive Der (R:List Zf):Int→Prop
 | mk (r:Zf):r∈R→(∀y∈r.inn,Der R y)→Der R r.for_
theorem Der.node {R:List Zf} {n:Nat} (h:∀r∈R,OkR n r) {x:Int} (hx:Der R x):0≤x∧x.toNat<n:=by
 cases hx with
 | mk r hr _=>exact ⟨(h r hr).1,(h r hr).2.1⟩
theorem ZGG {k:Nat} (h:k<1000000000):IntKind.i64.wrap (((k:Nat):Int)+1)=((k+1:Nat):Int):=Zj (n:=k+1) (by omega) (by omega)
theorem ZGM {α:Type} {n k:Nat} {z:α} (h:k<n):(A4 n z)[k]?=some z:=by simp [h]
theorem ZHV {b:Zr} (h0:0≤b.nodes) (h1:b.nodes≤1000) (hR:∀r∈b.reasons,OkR b.nodes.toNat r):ZgJ b=some (A4 b.nodes.toNat 0):=by
 unfold ZgJ
 rw [Zh _ ⟨h0,by omega⟩,Zfq]
 simp only[if_true]
 have key:∀(fin:List Int × Bool→Option ((List Int × Bool) ⊕ List Int)) (body:Nat→Zf→List Int × Bool→Option ((List Int × Bool) ⊕ ((List Int × Bool) ⊕ List Int))),
   (∀j r,r∈b.reasons→body j r (A4 b.nodes.toNat 0,false)=some (.inl (A4 b.nodes.toNat 0,false)))→Zo body fin b.reasons 0 (A4 b.nodes.toNat 0,false)=fin (A4 b.nodes.toNat 0,false):=by
  intro fin body hb
  rw [YM (f:=fun s _=>s) (fun _ s=>s=(A4 b.nodes.toNat 0,false)) rfl (fun j r s mr _ _ hs=>by subst hs;exact ⟨hb j r mr,rfl⟩)]
  congr 1
  induction b.reasons with
  | nil=>rfl
  | cons r l ih=>simpa using ih
 rw [key]
 ·show Yp _ _=_
  rw [Zfq];rfl
 ·intro j r mr
  obtain ⟨f0,f1,f2,f3⟩:=hR r mr
  have hz:(A4 b.nodes.toNat (0:Int))[r.for_.toNat]?=some 0:=ZGM f1
  simp only[BF]
  rw [Zh _ ⟨f0,by omega⟩,hz,A0,f3,YM (f:=fun s _=>s) (fun _ s=>s=(0:Int)) rfl (fun j y s my _ _ hs=>by
   subst hs
   obtain ⟨y0,y1⟩:=f2 y my
   have hy:(A4 b.nodes.toNat (0:Int))[y.toNat]?=some 0:=ZGM y1
   refine ⟨?_,rfl⟩
   rw [Zh _ ⟨y0,by omega⟩,hy]
   rfl)]
  have e:∀(l:List Int),l.foldl (fun s _=>s) (0:Int)=0:=fun l=>by induction l with
   | nil=>rfl
   | cons x l ih=>simpa using ih
  rw [e,ZlZ]
  simp
structure Zno (R:List Zf) (n:Nat) (row:List Int) (k:Nat):Prop where
 len:row.length=n
 val:∀(i:Nat) (v:Int),row[i]?=some v→v=-1∨(0≤v∧v<((k:Nat):Int)∧Der R ((i:Nat):Int))
def ZmR (row:List Int) (y:Int):Bool:=match row[y.toNat]? with | some v=>decide (0≤v) | none=>false
def ZGc (row:List Int):Nat:=row.countP fun v=>decide (v<0)
def Zx1 (row:List Int) (r:Zf):Bool:=r.inn.all (ZmR row)
theorem Zno.at {R:List Zf} {n k:Nat} {row:List Int} (h:Zno R n row k) {y:Int} (hy:y.toNat<n):∃v,row[y.toNat]?=some v∧(v=-1∨(0≤v∧v<((k:Nat):Int))):=by
 have hl:y.toNat<row.length:=by rw [h.len];exact hy
 refine ⟨row[y.toNat],A8 hl,?_⟩
 rcases h.val _ _ (A8 hl) with h1 | ⟨h1,h2,_⟩
 ·exact .inl h1
 ·exact .inr ⟨h1,h2⟩
theorem ZHy {R:List Zf} {n k:Nat} {row:List Int} (h:Zno R n row k) {r:Zf} (hr:OkR n r):ZaY r row ((k:Nat):Int)=some (Zx1 row r):=by
 obtain ⟨f0,f1,f2,f3⟩:=hr
 unfold ZaY Zx1
 rw [f3,ZU (p:=ZmR row) (r:=false)]
 ·cases r.inn.all (ZmR row)<;>rfl
 ·intro i y my
  obtain ⟨y0,y1⟩:=f2 y my
  obtain ⟨v,hv,hv2⟩:=h.at y1
  have ha:atI row y=some v:=by unfold atI;rw [if_pos y0];exact hv
  rw [ha,A0]
  simp only[ZmR,hv]
  rcases hv2 with rfl | ⟨h1,h2⟩
  ·simp
  ·have e1:¬v<0:=by omega
   have e2:¬((k:Nat):Int)≤v:=by omega
   simp [e1,e2,h1]
def Zql (row:List Int) (R:List Zf):List Int:=R.filterMap fun r=>if !ZmR row r.for_&&Zx1 row r then some r.for_ else none
def Zic (row:List Int) (l:List Int) (k:Int):List Int:=l.foldl (fun s x=>s.set x.toNat k) row
theorem ZlK (k:Int):∀(l row:List Int),(Zic row l k).length=row.length
 | [],_=>rfl
 | x::l,row=>by rw [Zic,A5];exact (ZlK k l _).trans (by simp)
theorem Zn9 (k:Int):∀(l row:List Int) (i:Nat),(Zic row l k)[i]?=if (∃x∈l,x.toNat=i)∧i<row.length then some k else row[i]?
 | [],row,i=>by simp [Zic]
 | x::l,row,i=>by
  have ih:=Zn9 k l (row.set x.toNat k) i
  rw [Zic,A5]
  show (Zic (row.set x.toNat k) l k)[i]?=_
  rw [ih,BG,Ay]
  by_cases h1:∃y∈l,y.toNat=i
  ·by_cases h2:i<row.length
   ·have:∃y∈x::l,y.toNat=i:=by obtain ⟨y,m,e⟩:=h1;exact ⟨y,by simp [m],e⟩
    simp [h1,h2,this]
   ·simp [h2]
    intro e;omega
  ·by_cases h3:x.toNat=i
   ·by_cases h2:i<row.length
    ·have:∃y∈x::l,y.toNat=i:=⟨x,by simp,h3⟩
     rw [if_neg (fun h=>h1 h.1),if_pos h3,if_pos (by omega),if_pos ⟨this,h2⟩]
    ·rw [if_neg (fun h=>h2 h.2),if_pos h3,if_neg (by omega),if_neg (fun h=>h2 h.2)]
     simp;omega
   ·have:¬∃y∈x::l,y.toNat=i:=by
     rintro ⟨y,m,e⟩
     rcases A3.1 m with rfl | m
     ·exact h3 e
     ·exact h1 ⟨y,m,e⟩
    rw [if_neg (fun h=>h1 h.1),if_neg h3,if_neg (fun h=>this h.1)]
theorem ZIC (row:List Int):ZGc row≤row.length:=Ah
theorem ZG6 {k:Int} (hk:0≤k):∀(row:List Int) (i:Nat),ZGc (row.set i k)≤ZGc row∧(∀v,row[i]?=some v→v<0→ZGc (row.set i k)+1≤ZGc row)
 | [],i=>by simp [ZGc]
 | v::row,0=>by
  simp only[List.set_cons_zero,ZGc,Ab]
  have:¬k<0:=by omega
  refine ⟨by simp [this],fun u hu hn=>?_⟩
  simp at hu;subst hu
  simp [this,hn]
 | v::row,i+1=>by
  obtain ⟨h1,h2⟩:=ZG6 hk row i
  simp only[List.set_cons_succ,ZGc,Ab] at *
  refine ⟨by omega,fun u hu hn=>?_⟩
  have:=h2 u (by simpa using hu) hn
  omega
theorem ZG1 {k:Int} (hk:0≤k):∀(l row:List Int),ZGc (Zic row l k)≤ZGc row
 | [],_=>Ag _
 | x::l,row=>by
  rw [Zic,A5]
  exact AQ (ZG1 hk l _) (ZG6 hk row _).1
theorem Zn5 {row:List Int} {R:List Zf} {x:Int}:x∈Zql row R↔∃r∈R,ZmR row r.for_=false∧Zx1 row r=true∧r.for_=x:=by
 simp only[Zql,AP,Option.ite_none_right_eq_some,BL,A1,Ad]
 constructor
 ·rintro ⟨r,h1,⟨h2,h3⟩,h4⟩;exact ⟨r,h1,h2,h3,h4⟩
 ·rintro ⟨r,h1,h2,h3,h4⟩;exact ⟨r,h1,⟨h2,h3⟩,h4⟩
theorem Zvk {R:List Zf} {n k:Nat} {row:List Int} (h:Zno R n row k) {y:Int} (hy:y.toNat<n):(ZmR row y=true↔∃v,row[y.toNat]?=some v∧0≤v)∧(ZmR row y=false↔row[y.toNat]?=some (-1)):=by
 obtain ⟨v,hv,hv2⟩:=h.at hy
 simp only[ZmR,hv,decide_eq_true_eq,BL,decide_eq_false_iff_not]
 constructor
 ·constructor
  ·intro h;exact ⟨v,rfl,h⟩
  ·rintro ⟨u,rfl,h⟩;exact h
 ·omega
theorem Zno.set_der {R:List Zf} {n k:Nat} {row:List Int} (h:Zno R n row k) {y:Int} (h0:0≤y) (hs:ZmR row y=true):Der R y:=by
 unfold ZmR at hs
 split at hs
 ·rename_i v hv
  rcases h.val _ _ hv with rfl | ⟨_,_,h3⟩
  ·simp at hs
  ·rwa [AW h0] at h3
 ·simp at hs
theorem Zno.next {R:List Zf} {n k:Nat} {row:List Int} (h:Zno R n row k) (hR:∀r∈R,OkR n r):Zno R n (Zic row (Zql row R) ((k:Nat):Int)) (k+1):=by
 refine ⟨by rw [ZlK,h.len],fun i v hv=>?_⟩
 rw [Zn9] at hv
 split at hv
 ·rename_i hc
  simp only[BL] at hv
  subst hv
  obtain ⟨⟨x,mx,rfl⟩,_⟩:=hc
  obtain ⟨r,h1,h2,h3,rfl⟩:=Zn5.1 mx
  refine .inr ⟨by omega,by omega,?_⟩
  obtain ⟨f0,f1,f2,f3⟩:=hR r h1
  rw [AW f0]
  refine .mk r h1 fun y my=>h.set_der (f2 y my).1 ?_
  exact A7.1 h3 y my
 ·rcases h.val i v hv with h1 | ⟨h1,h2,h3⟩
  ·exact .inl h1
  ·exact .inr ⟨h1,by omega,h3⟩
structure ZEF (R:List Zf) (n:Nat) (row:List Int):Prop where
 len:row.length=n
 iff:∀(i:Nat),i<n→((∃v,row[i]?=some v∧0≤v)↔Der R ((i:Nat):Int))
theorem Zno.fin {R:List Zf} {n k:Nat} {row:List Int} (h:Zno R n row k) (hR:∀r∈R,OkR n r) (he:Zql row R=[]):ZEF R n row:=by
 have closed:∀x,Der R x→ZmR row x=true:=by
  intro x hx
  induction hx with
  | mk r hr _ ih=>
   cases hs:ZmR row r.for_ with
   | true=>rfl
   | false=>
    have:r.for_∈Zql row R:=Zn5.2 ⟨r,hr,hs,A7.2 ih,rfl⟩
    rw [he] at this
    simp at this
 refine ⟨h.len,fun i hi=>?_⟩
 have hi':(((i:Nat):Int)).toNat<n:=by simpa using hi
 have h1:=(Zvk h hi').1
 simp only[AL] at h1
 rw [←h1]
 exact ⟨fun hs=>h.set_der (by omega) hs,closed _⟩
theorem ZIy {R:List Zf} {n:Nat} {X:Type} (hR:∀r∈R,OkR n r) {body:List Int × Int × Int→Option ((List Int × Int × Int) ⊕ (X ⊕ List Int))}
  (h1:∀row k,Zno R n row k→k≤n→Zql row R≠[]→body (row,((k:Nat):Int),0)=some (.inl (Zic row (Zql row R) ((k:Nat):Int),((k+1:Nat):Int),0)))
  (h2:∀row k,Zno R n row k→k≤n→Zql row R=[]→body (row,((k:Nat):Int),0)=some (.inl (row,((k:Nat):Int),1)))
  (h3:∀row k,body (row,k,1)=some (.inr (.inr row))):
  ∀m row k,Zno R n row k→k+ZGc row≤n→ZGc row≤m→∃row',Yp body (row,((k:Nat):Int),0)=some (.inr row')∧ZEF R n row':=by
 intro m
 induction m with
 | zero=>
  intro row k hI hk hm
  have he:Zql row R=[]:=by
   cases hc:Zql row R with
   | nil=>rfl
   | cons x l=>
    exfalso
    have mx:x∈Zql row R:=by rw [hc];simp
    obtain ⟨r,r1,r2,r3,rfl⟩:=Zn5.1 mx
    have hs:=(Zvk hI (hR r r1).2.1).2.1 r2
    have:0<ZGc row:=List.countP_pos_iff.2 ⟨-1,AF hs,by decide⟩
    omega
  refine ⟨row,?_,hI.fin hR he⟩
  rw [Zfq,h2 row k hI (by omega) he]
  show Yp body (row,((k:Nat):Int),1)=_
  rw [Zfq,h3]
 | succ m ih=>
  intro row k hI hk hm
  by_cases he:Zql row R=[]
  ·refine ⟨row,?_,hI.fin hR he⟩
   rw [Zfq,h2 row k hI (by omega) he]
   show Yp body (row,((k:Nat):Int),1)=_
   rw [Zfq,h3]
  ·have hd:ZGc (Zic row (Zql row R) ((k:Nat):Int))+1≤ZGc row:=by
    cases hc:Zql row R with
    | nil=>exact absurd hc he
    | cons x l=>
     have mx:x∈Zql row R:=by rw [hc];simp
     obtain ⟨r,r1,r2,r3,rfl⟩:=Zn5.1 mx
     have hs:=(Zvk hI (hR r r1).2.1).2.1 r2
     have h5:=(ZG6 (k:=((k:Nat):Int)) (by omega) row r.for_.toNat).2 (-1) hs (by decide)
     have h6:=ZG1 (k:=((k:Nat):Int)) (by omega) l (row.set r.for_.toNat ((k:Nat):Int))
     rw [Zic,A5]
     exact AQ (Nat.succ_le_succ h6) h5
   obtain ⟨row',e1,e2⟩:=ih (Zic row (Zql row R) ((k:Nat):Int)) (k+1) (hI.next hR) (by omega) (by omega)
   refine ⟨row',?_,e2⟩
   rw [Zfq,h1 row k hI (by omega) he]
   exact e1
theorem ZH6 {R:List Zf} {n k:Nat} {row:List Int} {ρ:Type} (hI:Zno R n row k) (hR:∀r∈R,OkR n r) (hl:R.length≤1000000) {fin:List Int→Option ρ} {body:Nat→Zf→List Int→Option (List Int ⊕ ρ)}
  (hb:∀j r s,r∈R→s.length+1≤1073741824→body j r s=chk (0≤r.for_∧r.for_<(((A4 n (0:Int)).length:Nat):Int)) (((A4 n (0:Int))[(AG r.for_)]?).bind fun x111=>
         if (x111==0)=true then
          chk (r.for_<((row.length:Nat):Int)) <|
          (row[(AG r.for_)]?).bind fun x112=>
          if (decide (x112<0))=true then
           (ZaY r row ((k:Nat):Int)).bind fun v113=>
           if v113=true then
            chk (s.length+1≤1073741824) <|
            some (.inl (s++[r.for_]))
           else
            some (.inl s)
          else
           some (.inl s)
         else
          some (.inl s))):Zo body fin R 0 []=fin (Zql row R):=by
 rw [YC (g:=fun r=>if !ZmR row r.for_&&Zx1 row r then some r.for_ else none)]
 ·rfl
 ·intro j r s mr hs
  obtain ⟨f0,f1,f2,f3⟩:=hR r mr
  simp only[Aa,AA] at hs
  have hz:(A4 n (0:Int))[r.for_.toNat]?=some 0:=ZGM f1
  obtain ⟨v,hv,hv2⟩:=hI.at f1
  rw [hb j r s mr (by omega),Zh _ ⟨f0,by simp;omega⟩,hz,A0]
  simp only[beq_self_eq_true,if_true]
  rw [Zh _ (by rw [hI.len];omega),hv,A0]
  have hs1:ZmR row r.for_=decide (0≤v):=by simp only[ZmR,hv]
  rw [hs1,ZHy hI (hR r mr),A0]
  rcases hv2 with rfl | ⟨v0,v1⟩
  ·have:decide ((-1:Int)<0)=true:=by decide
   simp only[this,if_true]
   have h2:decide ((0:Int)≤-1)=false:=by decide
   rw [h2]
   cases Zx1 row r with
   | true=>rw [Zh _ (by omega)];rfl
   | false=>simp
  ·have h1:decide (v<0)=false:=decide_eq_false (by omega)
   have h2:decide (0≤v)=true:=decide_eq_true v0
   simp [h1,h2]
theorem ZJd {n:Nat} {ρ:Type} {body:List Int × Int × Int→Option ((List Int × Int × Int) ⊕ ρ)} {r:ρ}
  (h1:∀k row,k<n→row.length=n→body (row,((k:Nat):Int),0)=some (.inl (row.set k (-1),((k+1:Nat):Int),0)))
  (h2:body (A4 n (-1),((n:Nat):Int),0)=some (.inr r)):
  ∀m k row,n - k≤m→k≤n→row.length=n→(∀i,i<k→row[i]?=some (-1))→Yp body (row,((k:Nat):Int),0)=some r:=by
 intro m
 induction m with
 | zero=>
  intro k row hm hk hl hv
  obtain rfl:k=n:=by omega
  have:row=A4 k (-1):=by
   apply Av
   intro i
   by_cases hi:i<k
   ·rw [hv i hi,ZGM hi]
   ·rw [AM (by omega),AM (by simp;omega)]
  rw [this,Zfq,h2]
 | succ m ih=>
  intro k row hm hk hl hv
  by_cases hkn:k=n
  ·exact (by
    subst hkn
    have:row=A4 k (-1):=by
     apply Av
     intro i
     by_cases hi:i<k
     ·rw [hv i hi,ZGM hi]
     ·rw [AM (by omega),AM (by simp;omega)]
    rw [this,Zfq,h2])
  ·rw [Zfq,h1 k row (by omega) hl]
   refine ih (k+1) (row.set k (-1)) (by omega) (by omega) (by simp [hl]) fun i hi=>?_
   rw [Ay]
   by_cases hik:k=i
   ·rw [if_pos hik,if_pos (by omega)]
   ·rw [if_neg hik];exact hv i (by omega)
theorem ZIE {b:Zr} (h0:0≤b.nodes) (h1:b.nodes≤1000) (hl:b.reasons.length≤1000000) (hR:∀r∈b.reasons,OkR b.nodes.toNat r):∃row,ZfZ b=some row∧ZEF b.reasons b.nodes.toNat row:=by
 unfold ZfZ
 rw [ZHV h0 h1 hR,A0,Zh _ ⟨h0,by omega⟩]
 generalize hn:b.nodes.toNat=n at *
 have hn':n≤1000:=by omega
 have h00:Zno b.reasons n (A4 n (-1)) 0:=⟨by simp,fun i v hv=>.inl (by
  by_cases hi:i<n
  ·rw [ZGM hi] at hv;exact (As hv).symm
  ·rw [AM (by simp;omega)] at hv;simp at hv)⟩
 refine (fun (h:∃row,_∧_)=>h) ?_
 have second:∃row',_=some (Sum.inr row')∧ZEF b.reasons n row':=ZIy (R:=b.reasons) (n:=n) (X:=List Int × Int × Int) hR (body:=fun s=>
      match s with
      | (row_84,u_85,u_46)=>
      if (decide (u_46≤(0:Int)))=true then
       Zo (σ:=(List Int))
        (fun (i109:Nat) (x110:Zf) row_94=>
         chk (0≤x110.for_∧x110.for_<(((A4 n (0:Int)).length:Nat):Int)) <|
         ((A4 n (0:Int))[(AG x110.for_)]?).bind fun x111=>
         if (x111==u_46)=true then
          chk (x110.for_<((row_84.length:Nat):Int)) <|
          (row_84[(AG x110.for_)]?).bind fun x112=>
          if (decide (x112<0))=true then
           (ZaY x110 row_84 u_85).bind fun v113=>
           if v113=true then
            chk (row_94.length+1≤1073741824) <|
            some (.inl (row_94++[x110.for_]))
           else
            some (.inl row_94)
          else
           some (.inl row_94)
         else
          some (.inl row_94))
        (fun row_94=>
         if (((row_94.length:Nat):Int)==0)=true then
          some (.inl (row_84,u_85,(IntKind.i64.wrap (u_46+1))))
         else
          Zo (σ:=(List Int))
           (fun (i120:Nat) (x121:Int) row_116=>
            chk (0≤x121∧x121<((row_116.length:Nat):Int)) <|
            (row_116[(AG x121)]?).bind fun x122=>
            some (.inl (List.set row_116 (AG x121) u_85)))
           (fun row_116=>
            some (.inl (row_116,(IntKind.i64.wrap (u_85+1)),u_46)))
           row_94 0 row_84)
        b.reasons 0 []
      else
       some (.inr (.inr row_84))) ?_ ?_ ?_ n (A4 n (-1)) 0 h00 (by have:=ZIC (A4 n (-1));simp at this ⊢;omega) (by have:=ZIC (A4 n (-1));simpa using this)
 ·obtain ⟨row',e1,e2⟩:=second
  refine ⟨row',?_,e2⟩
  refine ZJd (n:=n) ?_ ?_ n 0 _ (by omega) (by omega) (by simp) (fun i hi=>by omega)
  ·intro k row hk hl
   have ht:decide (((k:Nat):Int)<((n:Nat):Int))=true:=decide_eq_true (by omega)
   have hz:(A4 n (0:Int))[k]?=some 0:=ZGM hk
   have hrow:row[k]?=some row[k]:=A8 (by omega)
   simp only[ht,if_true,AL,hrow,hz,A0,ZGG (show k<1000000000 by omega)]
   rw [Zh _ ⟨by omega,by omega⟩,Zh _ (by simp;omega)]
   simp
  ·have hf:decide (((n:Nat):Int)<((n:Nat):Int))=false:=Zy n
   simp only[hf,AC,if_false]
   exact e1
 ·intro row k hI hk hne
  have hd:decide ((0:Int)≤0)=true:=by decide
  simp only[hd,if_true]
  rw [ZH6 hI hR hl]
  ·have hl0:((((Zql row b.reasons).length:Nat):Int)==0)=false:=by
    have:(Zql row b.reasons).length≠0:=fun e=>hne (AY e)
    simpa using this
   simp only[hl0,AC,if_false]
   rw [YM (f:=fun s x=>s.set x.toNat ((k:Nat):Int)) (fun _ s=>s.length=n) hI.len (fun j x s mx _ _ hs=>by
    obtain ⟨r,r1,_,_,rfl⟩:=Zn5.1 mx
    obtain ⟨f0,f1,_⟩:=hR r r1
    have hg:s[r.for_.toNat]?=some s[r.for_.toNat]:=A8 (by omega)
    refine ⟨?_,by simp [hs]⟩
    rw [Zh _ ⟨f0,by omega⟩,hg,A0])]
   rw [ZGG (by omega)]
   rfl
  ·intro j r s mr hs
   rfl
 ·intro row k hI hk he
  have hd:decide ((0:Int)≤0)=true:=by decide
  simp only[hd,if_true]
  rw [ZH6 hI hR hl]
  ·rw [he];rfl
  ·intro j r s mr hs
   rfl
 ·intro row k
  rfl
theorem Zl8 {σ ρ:Type} {body:σ × Int→Option ((σ × Int) ⊕ ρ)} {f:σ→Nat→σ} {fin:σ→Option ρ} (I:Nat→σ→Prop) (m:Nat)
  (h1:∀k s,k<m→I k s→body (s,((k:Nat):Int))=some (.inl (f s k,((k+1:Nat):Int)))∧I (k+1) (f s k))
  (h2:∀s,I m s→body (s,((m:Nat):Int))=(fin s).bind fun x=>some (.inr x)):
  ∀(d k:Nat) (s:σ),k+d=m→I k s→Yp body (s,((k:Nat):Int))=fin ((AN k d).foldl f s)
 | 0,k,s,hk,hI=>by
  have e:k=m:=by omega
  subst e
  rw [Zfq,h2 s hI]
  show _=fin s
  cases fin s<;>rfl
 | d+1,k,s,hk,hI=>by
  obtain ⟨e1,e2⟩:=h1 k s (by omega) hI
  rw [Zfq,e1]
  show Yp body (f s k,((k+1:Nat):Int))=_
  rw [Zl8 I m h1 h2 d (k+1) (f s k) (by omega) e2]
  rfl
theorem ZJm {n:Int} (h0:0≤n) (h1:n≤6):ZCy .i64 1 n=((2 ^ n.toNat:Nat):Int)∧2 ^ n.toNat≤64:=by
 obtain ⟨m,rfl⟩:=AR h0
 have hm:m=0∨m=1∨m=2∨m=3∨m=4∨m=5∨m=6:=by omega
 rcases hm with rfl | rfl | rfl | rfl | rfl | rfl | rfl<;>decide
theorem ZiD (x a b:Int):X7 x a b=some (decide (a≤x)&&decide (x≤b)):=by
 unfold X7
 cases decide (a≤x)<;>simp
structure Lab (l:List Bool) (n:Nat) (D:Int→Prop):Prop where
 len:l.length=n
 iff:∀i:Nat,i<n→(l[i]?=some true↔D ((i:Nat):Int))
theorem Lab.at {l:List Bool} {n:Nat} {D:Int→Prop} (h:Lab l n D) {y:Int} (h0:0≤y) (h1:y.toNat<n):∃b,l[y.toNat]?=some b∧(b=true↔D y):=by
 have hl:y.toNat<l.length:=by rw [h.len];exact h1
 refine ⟨l[y.toNat],A8 hl,?_⟩
 have:=h.iff y.toNat h1
 rw [A8 hl,BL,AW h0] at this
 exact this
theorem ZIw {b:Zr} (h0:0≤b.nodes) (h1:b.nodes≤1000) (hl:b.reasons.length≤1000000) (hR:∀r∈b.reasons,OkR b.nodes.toNat r):∃l,Zgt b=some l∧Lab l b.nodes.toNat (Der b.reasons):=by
 obtain ⟨row,e1,e2⟩:=ZIE h0 h1 hl hR
 refine ⟨row.map fun v=>decide (0≤v),?_,by simp [e2.len],fun i hi=>?_⟩
 ·unfold Zgt
  rw [e1,A0,Zjo (g:=fun v=>decide (0≤v))]
  ·rfl
  ·intro j x s _ hs
   have:=e2.len
   rw [Zh _ (by simp at hs;omega)]
 ·rw [←e2.iff i hi,List.getElem?_map]
  simp only[Ac,decide_eq_true_eq]
/- the bits of a set -/
theorem ZJj {s i:Nat} (h:s≤9223372036854775807):Ztw .i64 ((s:Nat):Int) ((i:Nat):Int)=((s >>> i:Nat):Int):=by
 unfold Ztw
 have hb:IntKind.i64.bits=64:=rfl
 rw [AL,hb,Int.fdiv_eq_ediv_of_nonneg _ (by exact Int.le_of_lt (Int.pow_pos (by omega)))]
 rw [Az]
 by_cases hi:i≤64
 ·rw [Nat.min_eq_left hi]
  push_cast
  rfl
 ·rw [Nat.min_eq_right (by omega)]
  have e1:s / 2 ^ i=0:=Nat.div_eq_of_lt (Nat.lt_of_lt_of_le (show s<2 ^ 64 by omega) (Nat.pow_le_pow_right (by omega) (by omega)))
  have e2:((s:Nat):Int) / (2 ^ 64:Int)=0:=Int.ediv_eq_zero_of_lt (by omega) (by omega)
  rw [e1]
  exact e2
theorem ZIN {s i:Nat} (h:s≤9223372036854775807):(ZlF .i64 (Ztw .i64 ((s:Nat):Int) ((i:Nat):Int)) 1==1)=s.testBit i:=by
 have h2:s >>> i≤9223372036854775807:=AQ (by rw [Az];exact Nat.div_le_self _ _) h
 rw [ZJj h,show (1:Int)=((1:Nat):Int) from rfl,ZHD h2 (by omega)]
 rw [Nat.testBit_eq_decide_div_mod_eq,Nat.and_one_is_mod,Az]
 rw [A9]
 simp only[beq_iff_eq,decide_eq_true_eq]
 omega
def Zhj:List Int→Nat→Nat→List Int
 | [],_,_=>[]
 | x::l,s,i=>if s.testBit i=true then x::Zhj l s (i+1) else Zhj l s (i+1)
theorem ZGD (s:Nat):∀(l:List Int) (i:Nat),(Zhj l s i).length≤l.length
 | [],_=>by simp [Zhj]
 | x::l,i=>by
  have:=ZGD s l (i+1)
  simp only[Zhj]
  split<;>simp<;>omega
theorem Zea {s:Nat} {x:Int}:∀{l:List Int} {i:Nat},x∈Zhj l s i↔∃j,l[j]?=some x∧s.testBit (i+j)=true
 | [],i=>⟨fun h=>by simp [Zhj] at h,fun ⟨j,h,_⟩=>by simp at h⟩
 | y::l,i=>by
  have ih:=Zea (s:=s) (x:=x) (l:=l) (i:=i+1)
  have key:(∃j,l[j]?=some x∧s.testBit (i+1+j)=true)↔∃j,(y::l)[j+1]?=some x∧s.testBit (i+(j+1))=true:=
   ⟨fun ⟨j,h1,h2⟩=>⟨j,by simpa using h1,by rw [show i+(j+1)=i+1+j by omega];exact h2⟩,fun ⟨j,h1,h2⟩=>⟨j,by simpa using h1,by rw [show i+1+j=i+(j+1) by omega];exact h2⟩⟩
  simp only[Zhj]
  constructor
  ·intro h
   split at h
   ·rename_i hb
    rcases A3.1 h with rfl | h
    ·exact ⟨0,by simp,by simpa using hb⟩
    ·obtain ⟨j,h1,h2⟩:=key.1 (ih.1 h);exact ⟨j+1,h1,h2⟩
   ·obtain ⟨j,h1,h2⟩:=key.1 (ih.1 h);exact ⟨j+1,h1,h2⟩
  ·rintro ⟨j,h1,h2⟩
   cases j with
   | zero=>
    simp at h1;subst h1
    rw [if_pos (by simpa using h2)];simp
   | succ j=>
    have:=ih.2 (key.2 ⟨j,h1,h2⟩)
    split
    ·simp [this]
    ·exact this
theorem ZHg (l:List Int) {s:Nat} (h:s≤9223372036854775807) (hl:l.length≤1000000):ZGn l ((s:Nat):Int)=some (Zhj l s 0):=by
 unfold ZGn
 rw [Zal (fun l i acc=>some (acc++Zhj l s i)) (fun l i acc=>acc.length+l.length≤1000000) (fun i acc _=>by simp [Zhj]) (fun x l i acc hI=>by
  left
  simp only[A6] at hI
  rw [Zh _ (by omega)]
  simp only[ZIN h]
  by_cases hb:s.testBit i=true
  ·rw [if_pos hb,Zh _ (by omega)]
   exact ⟨_,rfl,by simp;omega,by simp [Zhj,hb]⟩
  ·rw [if_neg hb]
   exact ⟨_,rfl,by omega,by simp [Zhj,hb]⟩) l 0 [] (by simpa using hl)]
 simp
def Zvz (x:Int):Zf:={ for_:=x,inn:=[],outs:=[] }
structure Zur (f:QZ):Prop where
 n0:0≤f.beliefs.nodes
 n1:f.beliefs.nodes≤24
 r1:f.beliefs.reasons.length≤60
 R:∀r∈f.beliefs.reasons,OkR f.beliefs.nodes.toNat r
 a1:f.assumed.length≤6
 a:∀x∈f.assumed,0≤x∧x.toNat<f.beliefs.nodes.toNat
 b:∀x∈f.bad,0≤x∧x.toNat<f.beliefs.nodes.toNat
 asc:f.assumed.Pairwise (·<·)
 inn:∀r∈f.beliefs.reasons,r.inn.Pairwise (·<·)
theorem ZuJ {n:Nat} {l:List Int} (h:l.Pairwise (·<·)) (hb:∀x∈l,0≤x∧x.toNat<n):l.length≤n:=by
 have:∀(l:List Int) (lo:Int),l.Pairwise (·<·)→(∀x∈l,lo≤x∧x<n)→(l.length:Int)≤max 0 (n - lo):=by
  intro l
  induction l with
  | nil=>intro lo _ _;simp;omega
  | cons x l ih=>
   intro lo hp hb
   rw [AI] at hp
   have h1:=hb x (by simp)
   have:=ih (x+1) hp.2 fun y my=>⟨by have:=hp.1 y my;omega,(hb y (by simp [my])).2⟩
   simp only[A6]
   omega
 have:=this l 0 h fun x mx=>by have:=hb x mx;omega
 omega
theorem ZHe (l:List Int) (h:l.length≤1073741824):ZF8 l=some l:=by
 unfold ZF8
 rw [Zh _ h]
theorem ZG9 {b:Zr} (hr:b.reasons.length≤1000000) (h:∀r∈b.reasons,r.inn.length≤1073741824∧r.outs.length≤1073741824):ZFX b=some b:=by
 unfold ZFX
 rw [Zjo (g:=fun r=>r)]
 ·simp
 ·intro j r s mr hs
  obtain ⟨h1,h2⟩:=h r mr
  unfold ZGb
  rw [ZHe _ h1,ZHe _ h2]
  simp only[A0]
  rw [Zh _ (by simp at hs;omega)]
def RF (f:QZ) (s:Nat):List Zf:=f.beliefs.reasons++(Zhj f.assumed s 0).map Zvz
def UnF (f:QZ) (s:Nat) (x:Int):Prop:=Der (RF f s) x
theorem Zur.RF {f:QZ} (h:Zur f) (s:Nat):∀r∈RF f s,OkR f.beliefs.nodes.toNat r:=fun r mr=>by
 rcases A2.1 mr with m | m
 ·exact h.R r m
 ·obtain ⟨x,mx,rfl⟩:=AB.1 m
  obtain ⟨j,h1,_⟩:=Zea.1 mx
  have:=h.a x (AF h1)
  exact ⟨this.1,this.2,by simp [Zvz],rfl⟩
theorem Zur.small {f:QZ} (h:Zur f):∀r∈f.beliefs.reasons,r.inn.length≤1073741824∧r.outs.length≤1073741824:=fun r mr=>by
 have h1:=ZuJ (h.inn r mr) (h.R r mr).2.2.1
 have h2:=(h.R r mr).2.2.2
 have:=h.n1
 rw [h2]
 simp
 omega
theorem ZIU {f:QZ} (h:Zur f) {s:Nat} (hs:s≤9223372036854775807):∃l,ZGQ f ((s:Nat):Int)=some l∧Lab l f.beliefs.nodes.toNat (UnF f s):=by
 have hc:=ZGD s f.assumed 0
 have h1:=h.a1
 have h2:=h.r1
 have h3:=h.n1
 have hl:(RF f s).length≤66:=by simp [RF];omega
 obtain ⟨l,e1,e2⟩:=ZIw (b:={ nodes:=f.beliefs.nodes,reasons:=RF f s }) h.n0 (by show f.beliefs.nodes≤1000;omega) (by show (RF f s).length≤_;omega) (h.RF s)
 refine ⟨l,?_,e2⟩
 unfold ZGQ
 rw [ZG9 (by omega) h.small,A0,ZHg _ hs (by omega),A0,Zjo (g:=Zvz)]
 ·show (Zgt { nodes:=f.beliefs.nodes,reasons:=RF f s }).bind _=_
  rw [e1];rfl
 ·intro j x q _ hq
  rw [Zh _ (by omega)]
  rfl
theorem ZIV {f:QZ} {s:Nat} {x:Int}:UnF f s x↔(∃i,f.assumed[i]?=some x∧s.testBit i=true)∨∃r∈f.beliefs.reasons,r.for_=x∧∀y∈r.inn,UnF f s y:=by
 constructor
 ·intro h
  cases h with
  | mk r hr hi=>
   rcases A2.1 hr with m | m
   ·exact .inr ⟨r,m,rfl,hi⟩
   ·obtain ⟨y,my,rfl⟩:=AB.1 m
    obtain ⟨j,h1,h2⟩:=Zea.1 my
    exact .inl ⟨j,h1,by simpa using h2⟩
 ·rintro (⟨i,h1,h2⟩ | ⟨r,h1,rfl,h3⟩)
  ·exact .mk (Zvz x) (A2.2 (.inr (AB.2 ⟨x,Zea.2 ⟨i,h1,by simpa using h2⟩,rfl⟩))) (by simp [Zvz])
  ·exact .mk r (A2.2 (.inl h1)) h3
def ZBo (f:QZ) (s:Nat):Prop:=∀y∈f.bad,¬UnF f s y
open Classical in
theorem ZIA {l:List Bool} {n:Nat} {D:Int→Prop} (h:Lab l n D) {q:List Int} (hq:∀x∈q,0≤x∧x.toNat<n):ZGw q l=some (decide (∀y∈q,¬D y)):=by
 unfold ZGw
 rw [ZU (p:=fun y=>decide (¬D y)) (r:=false)]
 ·have:q.all (fun y=>decide (¬D y))=decide (∀y∈q,¬D y):=by
   rw [A9];simp
  rw [this]
  by_cases hh:∀y∈q,¬D y
  ·rw [decide_eq_true hh];rfl
  ·rw [decide_eq_false hh];rfl
 ·intro i x mx
  obtain ⟨h0,h1⟩:=hq x mx
  obtain ⟨b,e1,e2⟩:=h.at h0 h1
  have ha:atI l x=some b:=by unfold atI;rw [if_pos h0];exact e1
  rw [ha,A0]
  by_cases hD:D x
  ·rw [e2.2 hD];simp [hD]
  ·have:b=false:=by cases b with
    | false=>rfl
    | true=>exact absurd (e2.1 rfl) hD
   rw [this];simp [hD]
def ZoG (l:List Int) (n:Int) (i:Nat) (x:Int):Bool:=decide (0≤x)&&(decide (x<n)&&(decide (i=0)||(match l[i - 1]? with | some y=>decide (y<x) | none=>false)))
def Zh5 (l:List Int) (n:Int):Bool:=allI (ZoG l n) l 0
theorem ZxB {l:List Int} {j:Nat} {x:Int} (hl:l.length≤1000000000) (hj:l[j]?=some x) (h0:0<j):∃y,l[j - 1]?=some y∧atI l (IntKind.i64.wrap (((j:Nat):Int) - 1))=some y:=by
 have hlt:=(AJ.1 hj).1
 have hg:l[j - 1]?=some l[j - 1]:=A8 (by omega)
 refine ⟨l[j - 1],hg,?_⟩
 have hw:IntKind.i64.wrap (((j:Nat):Int) - 1)=((j - 1:Nat):Int):=by rw [YW (by omega) (by omega)];omega
 rw [hw]
 unfold atI
 rw [if_pos (by omega),AL,hg]
theorem ZG4 (l:List Int) (n:Int) (hl:l.length≤1000000000):ZFP l n=some (Zh5 l n):=by
 unfold ZFP Zh5
 rw [Xu (p:=ZoG l n) (r:=false)]
 ·cases allI (ZoG l n) l 0<;>rfl
 ·intro j x hj
  rw [AA]
  unfold ZoG
  by_cases h1:x<0
  ·rw [if_pos (by simpa using h1),show decide (0≤x)=false by simp;omega];rfl
  ·rw [if_neg (by simpa using h1),show decide (0≤x)=true by simp;omega]
   by_cases h2:n≤x
   ·rw [if_pos (by simpa using h2),show decide (x<n)=false by simp;omega];rfl
   ·rw [if_neg (by simpa using h2),show decide (x<n)=true by simp;omega]
    by_cases h3:j=0
    ·subst h3;rfl
    ·obtain ⟨y,e1,e2⟩:=ZxB hl hj (by omega)
     rw [if_pos (by simp;omega),e2,A0,e1]
     by_cases h4:x≤y
     ·rw [if_pos (by simpa using h4)]
      simp [h3,show ¬y<x by omega]
     ·rw [if_neg (by simpa using h4)]
      simp [h3,show y<x by omega]
theorem Zih (l:List Int) (n:Int) (hl:l.length≤1000000000):ZbS l n=some (Zh5 l (IntKind.i64.wrap (n - 1)+1)):=by
 unfold ZbS Zh5
 generalize IntKind.i64.wrap (n - 1)=m
 rw [Xu (p:=ZoG l (m+1)) (r:=false)]
 ·cases allI (ZoG l (m+1)) l 0<;>rfl
 ·intro j x hj
  rw [AA,ZiD,A0]
  unfold ZoG
  by_cases h1:x<0
  ·rw [show decide (0≤x)=false by simp;omega];rfl
  ·rw [show decide (0≤x)=true by simp;omega]
   by_cases h2:m<x
   ·rw [show decide (x≤m)=false by simp;omega,show decide (x<m+1)=false by simp;omega];rfl
   ·rw [show decide (x≤m)=true by simp;omega,show decide (x<m+1)=true by simp;omega]
    by_cases h3:j=0
    ·subst h3;rfl
    ·obtain ⟨y,e1,e2⟩:=ZxB hl hj (by omega)
     rw [show (true&&true)=true from rfl,if_pos rfl,if_pos (by simp;omega),e2,A0,e1]
     by_cases h4:x≤y
     ·rw [if_pos (by simpa using h4)]
      simp [h3,show ¬y<x by omega]
     ·rw [if_neg (by simpa using h4)]
      simp [h3,show y<x by omega]
theorem Zou (l:List Int) (n:Int) (hl:l.length≤1000000000) (h0:0≤n) (h1:n≤1000000000):ZbS l n=some (Zh5 l n):=by
 rw [Zih l n hl,YW (by omega) (by omega)]
 congr 2
 omega
theorem ZjZ {l:List Int} {n:Int} (h:Zh5 l n=true):(∀x∈l,0≤x∧x<n)∧l.Pairwise (·<·):=by
 have key:∀(j:Nat) (x:Int),l[j]?=some x→ZoG l n j x=true:=fun j x hj=>by
  have:=Zfo h j x hj
  rwa [AA] at this
 refine ⟨fun x mx=>?_,?_⟩
 ·obtain ⟨j,hj⟩:=B1.1 mx
  have:=key j x hj
  simp only[ZoG,A1,decide_eq_true_eq] at this
  exact ⟨this.1,this.2.1⟩
 ·have step:∀j (h1:j+1<l.length),l[j]'(by omega)<l[j+1]:=fun j h1=>by
   have:=key (j+1) _ (A8 h1)
   simp only[ZoG,A1,decide_eq_true_eq,Ao,B4] at this
   rw [A8 (show j<l.length by omega)] at this
   rcases this.2.2 with h2 | h2
   ·omega
   ·simpa using h2
  rw [Ap]
  intro i j hi hj hij
  obtain ⟨d,rfl⟩:∃d,j=i+1+d:=⟨j - i - 1,by omega⟩
  induction d with
  | zero=>exact step i hj
  | succ d ih=>exact Int.lt_trans (ih (by omega) (by omega)) (step (i+1+d) (by omega))
theorem ZuP {l:List Int} {n:Int} (h1:∀x∈l,0≤x∧x<n) (h2:l.Pairwise (·<·)):Zh5 l n=true:=by
 have key:∀(q pre:List Int),l=pre++q→allI (ZoG l n) q pre.length=true:=by
  intro q
  induction q with
  | nil=>intro _ _;rfl
  | cons x q ih=>
   intro pre e
   simp only[allI,A1]
   refine ⟨?_,?_⟩
   ·have hx:=h1 x (by rw [e];simp)
    simp only[ZoG,A1,decide_eq_true_eq,Ao]
    refine ⟨hx.1,hx.2,?_⟩
    by_cases h0:pre.length=0
    ·exact .inl h0
    ·right
     have hlt:pre.length - 1<pre.length:=by omega
     have hg:l[pre.length - 1]?=some pre[pre.length - 1]:=by rw [e,Ai hlt,A8 hlt]
     rw [hg]
     rw [e,BH] at h2
     simpa using h2.2.2 _ (List.getElem_mem hlt) x (by simp)
   ·have:=ih (pre++[x]) (by rw [e];simp)
    simpa using this
 exact key l [] rfl
def ZsD (n:Int) (r:Zf):Bool:=decide (0≤r.for_)&&(decide (r.for_<n)&&(Zh5 r.inn n&&Zh5 r.outs n))
def ZbZ (b:Zr):Bool:=decide (0≤b.nodes)&&(decide (b.nodes≤24)&&(decide (b.reasons.length≤60)&&b.reasons.all (ZsD b.nodes)))
def ZuY (b:Zr):Prop:=∀r∈b.reasons,r.inn.length≤1000000000∧r.outs.length≤1000000000
theorem ZHA {b:Zr} (h:ZuY b) (hl:b.reasons.length≤1000000000):ZF9 b=some (ZbZ b):=by
 unfold ZF9 ZbZ
 by_cases h0:b.nodes<0
 ·rw [if_pos (by simpa using h0),show decide (0≤b.nodes)=false by simp;omega];rfl
 rw [if_neg (by simpa using h0),show decide (0≤b.nodes)=true by simp;omega]
 by_cases h1:24<b.nodes
 ·rw [if_pos (by simpa using h1),show decide (b.nodes≤24)=false by simp;omega];rfl
 rw [if_neg (by simpa using h1),show decide (b.nodes≤24)=true by simp;omega]
 by_cases h2:60<b.reasons.length
 ·rw [if_pos (by simp;omega),show decide (b.reasons.length≤60)=false by simp;omega];rfl
 rw [if_neg (by simp;omega),show decide (b.reasons.length≤60)=true by simp;omega]
 simp only[AH]
 rw [ZU (p:=ZsD b.nodes) (r:=false)]
 ·cases b.reasons.all (ZsD b.nodes)<;>rfl
 ·intro i r mr
  obtain ⟨s1,s2⟩:=h r mr
  unfold ZsD
  by_cases q1:r.for_<0
  ·rw [if_pos (by simpa using q1),show decide (0≤r.for_)=false by simp;omega];rfl
  rw [if_neg (by simpa using q1),show decide (0≤r.for_)=true by simp;omega]
  by_cases q2:b.nodes≤r.for_
  ·rw [if_pos (by simpa using q2),show decide (r.for_<b.nodes)=false by simp;omega];rfl
  rw [if_neg (by simpa using q2),show decide (r.for_<b.nodes)=true by simp;omega,ZG4 _ _ s1,ZG4 _ _ s2]
  simp only[A0,AH]
  cases Zh5 r.inn b.nodes<;>cases Zh5 r.outs b.nodes<;>rfl
theorem Zlj {b:Zr} (h:ZuY b) (hl:b.reasons.length≤1000000000):Zcr b=some (ZbZ b):=by
 unfold Zcr ZbZ
 by_cases hn:0≤b.nodes∧b.nodes≤24
 ·have hw:IntKind.i64.wrap (b.nodes - 1)=b.nodes - 1:=YW (by omega) (by omega)
  rw [ZU (p:=ZsD b.nodes) (r:=false)]
  ·rw [ZiD,show decide (0≤b.nodes)=true by simp;omega,show decide (b.nodes≤24)=true by simp;omega]
   simp only[A0,Bool.and_self,if_true,AH]
   have hc:decide (((b.reasons.length:Nat):Int)≤60)=decide (b.reasons.length≤60):=by rw [A9];simp;omega
   rw [hc]
   cases b.reasons.all (ZsD b.nodes)<;>cases decide (b.reasons.length≤60)<;>rfl
  ·intro i r mr
   obtain ⟨s1,s2⟩:=h r mr
   rw [ZiD,hw,Zou _ _ s1 hn.1 (by omega),Zou _ _ s2 hn.1 (by omega)]
   unfold ZsD
   have hc:decide (r.for_≤b.nodes - 1)=decide (r.for_<b.nodes):=by rw [A9];simp;omega
   rw [hc]
   simp only[A0]
   cases decide (0≤r.for_)<;>cases decide (r.for_<b.nodes)<;>cases Zh5 r.inn b.nodes<;>cases Zh5 r.outs b.nodes<;>rfl
 ·have hf:(decide (0≤b.nodes)&&(decide (b.nodes≤24)&&(decide (b.reasons.length≤60)&&b.reasons.all (ZsD b.nodes))))=false:=by
   by_cases h0:0≤b.nodes
   ·have:decide (b.nodes≤24)=false:=by simp;omega
    rw [this];simp
   ·have:decide (0≤b.nodes)=false:=by simp;omega
    rw [this];simp
  rw [hf,ZU (p:=fun r=>decide (0≤r.for_)&&(decide (r.for_≤IntKind.i64.wrap (b.nodes - 1))&&(Zh5 r.inn (IntKind.i64.wrap (b.nodes - 1)+1)&&Zh5 r.outs (IntKind.i64.wrap (b.nodes - 1)+1)))) (r:=false)]
  ·rw [ZiD]
   have:(decide (0≤b.nodes)&&decide (b.nodes≤24))=false:=by
    cases h1:decide (0≤b.nodes)<;>cases h2:decide (b.nodes≤24)<;>simp at h1 h2 ⊢
    omega
   rw [this]
   split<;>rfl
  ·intro i r mr
   obtain ⟨s1,s2⟩:=h r mr
   rw [ZiD,Zih _ _ s1,Zih _ _ s2]
   simp only[A0]
   cases decide (0≤r.for_)<;>cases decide (r.for_≤IntKind.i64.wrap (b.nodes - 1))<;>cases Zh5 r.inn (IntKind.i64.wrap (b.nodes - 1)+1)<;>cases Zh5 r.outs (IntKind.i64.wrap (b.nodes - 1)+1)<;>rfl
def ZxX (r:Zf):Bool:=decide (r.outs=[])
def ZpX (f:QZ):Bool:=ZbZ f.beliefs&&(decide (f.assumed.length≤6)&&(Zh5 f.assumed f.beliefs.nodes&&(Zh5 f.bad f.beliefs.nodes&&f.beliefs.reasons.all ZxX)))
structure ZGg (f:QZ):Prop where
 b:ZuY f.beliefs
 r:f.beliefs.reasons.length≤1000000000
 a:f.assumed.length≤1000000000
 bad:f.bad.length≤1000000000
theorem ZH3 {ρ:Type} {fin:Unit→Option ρ} {l:List Zf} {z:ρ}:Zo (σ:=Unit) (fun (_:Nat) (x8:Zf) _=>if (decide (0<((x8.outs.length:Nat):Int)))=true then some (.inr z) else some (.inl ())) fin l 0 ()=if l.all ZxX=true then fin () else some z:=by
 refine ZU fun i r mr=>?_
 unfold ZxX
 cases h:r.outs with
 | nil=>simp
 | cons x q=>simp
theorem ZIf {f:QZ} (h:ZGg f):ZGs f=some (ZpX f):=by
 unfold ZGs ZpX
 rw [ZHA h.b h.r,ZG4 _ _ h.a,ZG4 _ _ h.bad]
 simp only[A0]
 rw [ZH3]
 have hc:decide (6<((f.assumed.length:Nat):Int))=!decide (f.assumed.length≤6):=by rw [A9];simp;omega
 rw [hc]
 cases ZbZ f.beliefs<;>cases decide (f.assumed.length≤6)<;>cases Zh5 f.assumed f.beliefs.nodes<;>cases Zh5 f.bad f.beliefs.nodes<;>cases f.beliefs.reasons.all ZxX<;>rfl
theorem ZIc {f:QZ} (h:ZGg f):ZGp f=some (ZpX f):=by
 unfold ZGp ZpX
 rw [Zlj h.b h.r,ZH3]
 simp only[A0]
 have hc:decide (((f.assumed.length:Nat):Int)≤6)=decide (f.assumed.length≤6):=by rw [A9];simp;omega
 rw [hc]
 cases hb:ZbZ f.beliefs with
 | false=>cases f.beliefs.reasons.all ZxX<;>rfl
 | true=>
  have hn:0≤f.beliefs.nodes∧f.beliefs.nodes≤24:=by
   simp only[ZbZ,A1,decide_eq_true_eq] at hb
   exact ⟨hb.1,hb.2.1⟩
  rw [Zou _ _ h.a hn.1 (by omega),Zou _ _ h.bad hn.1 (by omega)]
  simp only[A0,if_true]
  cases decide (f.assumed.length≤6)<;>cases Zh5 f.assumed f.beliefs.nodes<;>cases Zh5 f.bad f.beliefs.nodes<;>cases f.beliefs.reasons.all ZxX<;>rfl
theorem Zur.of {f:QZ} (h:ZpX f=true):Zur f:=by
 simp only[ZpX,ZbZ,A1,decide_eq_true_eq] at h
 obtain ⟨⟨h1,h2,h3,h4⟩,h5,h6,h7,h8⟩:=h
 have hn:∀{x:Int},0≤x→x<f.beliefs.nodes→x.toNat<f.beliefs.nodes.toNat:=fun {x} a b=>by omega
 have ha:=ZjZ h6
 have hb:=ZjZ h7
 have hr:∀r∈f.beliefs.reasons,OkR f.beliefs.nodes.toNat r∧r.inn.Pairwise (·<·):=fun r mr=>by
  have:=A7.1 h4 r mr
  simp only[ZsD,A1,decide_eq_true_eq] at this
  obtain ⟨q1,q2,q3,q4⟩:=this
  have q5:=A7.1 h8 r mr
  simp only[ZxX,decide_eq_true_eq] at q5
  exact ⟨⟨q1,hn q1 q2,fun y my=>⟨((ZjZ q3).1 y my).1,hn ((ZjZ q3).1 y my).1 ((ZjZ q3).1 y my).2⟩,q5⟩,(ZjZ q3).2⟩
 exact ⟨h1,h2,h3,fun r mr=>(hr r mr).1,h5,fun x mx=>⟨(ha.1 x mx).1,hn (ha.1 x mx).1 (ha.1 x mx).2⟩,fun x mx=>⟨(hb.1 x mx).1,hn (hb.1 x mx).1 (hb.1 x mx).2⟩,ha.2,fun r mr=>(hr r mr).2⟩
section
open Classical
theorem ZsT {r:Zg} {F:List Zb} {t:Zu} (mt:t∈Zw (XT r) F):∀f∈t.facts,f∈F:=(Qp F _ t mt).sub
/- one model alone -/
end
section
open Classical
/- without one of the given facts -/
theorem ZII {r:Zg} (h:YQ r=true):∃x l,r.cond=x::l∧x.kind=1:=by
 unfold YQ at h
 simp only[A1,decide_eq_true_eq] at h
 have hv:=h.1.1.2
 have hl:=h.1.1.1.1.1.1.2
 cases hc:r.cond with
 | nil=>rw [hc] at hl;simp at hl
 | cons x l=>
  refine ⟨x,l,rfl,?_⟩
  rw [hc] at hv
  simp only[allI,A1,ne_eq,not_true_eq_false,decide_false,Al,decide_eq_true_eq] at hv
  exact hv.1.1.2
theorem ZJs {F:List Zb}:∀n (l:List Zt),l.length=n→(∃x∈l,x.kind=1)→∀t∈Zw l F,t.facts≠[]:=by
 intro n
 induction n with
 | zero=>intro l h ⟨x,mx,_⟩;rw [AY h] at mx;simp at mx
 | succ n ih=>
  intro l h hx
  obtain ⟨p,x,rfl⟩:∃p x,l=p++[x]:=⟨l.dropLast,l.getLast (by intro e;simp [e] at h),(An _).symm⟩
  intro t mt
  rw [Y6] at mt
  obtain ⟨s,ms,mt⟩:=AD.1 mt
  unfold ZaR at mt
  by_cases h1:x.kind=1
  ·rw [if_pos h1] at mt
   obtain ⟨g,mg,hg⟩:=AP.1 mt
   obtain ⟨b,hb,rfl⟩:=Ac.1 hg
   simp
  ·rw [if_neg h1] at mt
   split at mt
   ·simp at mt;subst mt
    obtain ⟨y,my,hy⟩:=hx
    rcases A2.1 my with my | my
    ·exact ih p (by simpa using h) ⟨y,my,hy⟩ t ms
    ·simp at my;subst my;exact absurd hy h1
   ·simp at mt
theorem ZIZ {R:List Zg} {base F:List Zb} (h:Z0 R base F) {r:Zg} (mr:r∈R) {t:Zu} (mt:t∈Zw (XT r) F) (a:Zz):(Yg F r t a).inn≠[]:=by
 have hl:=(h.rule mr).1
 unfold ZM at hl
 simp only[A1] at hl
 obtain ⟨x,l,e,hx⟩:=ZII hl.1.1
 have hne:=ZJs _ (XT r) rfl ⟨x,AU.2 ⟨by rw [e];simp,by simp [hx]⟩,hx⟩ t mt
 cases hf:t.facts with
 | nil=>exact absurd hf hne
 | cons g l2=>
  have gF:=ZsT mt g (by rw [hf];simp)
  obtain ⟨j,k1,_⟩:=Q6 gF
  have my:ZY F g∈Qr F t.facts:=((Yv F t.facts).2.1 _).2 ⟨g,by rw [hf];simp,rfl,by omega⟩
  intro e2
  have e3:Qr F t.facts=[]:=e2
  rw [e3] at my
  simp at my
theorem ZH2:∀(c l:List Zf),∃E,c.foldl Zjz l=l++E∧∀x∈E,x∈c
 | [],l=>⟨[],by simp,by simp⟩
 | r::c,l=>by
  obtain ⟨E,h1,h2⟩:=ZH2 c (Zjz l r)
  rw [A5,h1]
  unfold Zjz
  split
  ·exact ⟨E,rfl,fun x mx=>by simp [h2 x mx]⟩
  ·refine ⟨r::E,by simp,fun x mx=>?_⟩
   rcases A3.1 mx with rfl | mx
   ·simp
   ·simp [h2 x mx]
end
section
open Classical
theorem ZwZ {a b:List Zb} (h:a.Sublist b) (hb:Zg3 b):Zg3 a:=List.Pairwise.sublist h hb
/- reasons, of the smaller set -/
def ZFu (F:List Zb) (y:Int):Zb:=match F[y.toNat]? with | some f=>f | none=>{ rel:=⟨#[]⟩,args:=[] }
theorem ZFg {F:List Zb} {f:Zb} (h:f∈F):ZFu F (ZY F f)=f:=by
 obtain ⟨j,h1,h2⟩:=Q6 h
 unfold ZFu
 rw [h1,AL,h2]
end
section
open Classical
def ZFD (R:List Zg):Prop:=∀r∈R,∀x∈r.cond,¬x.kind=2
theorem ZFB {R:List Zg} (hm:ZFD R) {r:Zg} (mr:r∈R) (t:Zu):ZiJ r t=[]:=by
 unfold ZiJ
 have:r.cond.filter (fun x=>x.kind==2)=[]:=List.filter_eq_nil_iff.2 fun x mx=>by simpa using hm r mr x mx
 rw [this]
 rfl
end
section
open Classical
def ZmP (p:Zb→Bool):List Zb→Nat→List Int
 | [],_=>[]
 | f::l,i=>if p f=true then ((i:Nat):Int)::ZmP p l (i+1) else ZmP p l (i+1)
theorem ZrA {p:Zb→Bool} {x:Int}:∀{l:List Zb} {i:Nat},x∈ZmP p l i↔∃j f,l[j]?=some f∧p f=true∧x=((i+j:Nat):Int)
 | [],i=>by simp [ZmP]
 | f::l,i=>by
  have ih:=ZrA (p:=p) (x:=x) (l:=l) (i:=i+1)
  have key:(∃j g,(f::l)[j]?=some g∧p g=true∧x=((i+j:Nat):Int))↔(p f=true∧x=((i:Nat):Int))∨∃j g,l[j]?=some g∧p g=true∧x=((i+1+j:Nat):Int):=by
   constructor
   ·rintro ⟨j,g,h1,h2,h3⟩
    cases j with
    | zero=>simp at h1;subst h1;exact .inl ⟨h2,by simpa using h3⟩
    | succ j=>exact .inr ⟨j,g,by simpa using h1,h2,by rw [h3];congr 1;omega⟩
   ·rintro (⟨h1,h2⟩ | ⟨j,g,h1,h2,h3⟩)
    ·exact ⟨0,f,rfl,h1,by simpa using h2⟩
    ·exact ⟨j+1,g,by simpa using h1,h2,by rw [h3];congr 1;omega⟩
  rw [key]
  unfold ZmP
  by_cases hp:p f=true
  ·rw [if_pos hp,A3,ih]
   simp [hp]
  ·rw [if_neg hp,ih]
   simp [hp]
theorem Zrl {p:Zb→Bool}:∀{l:List Zb} {i:Nat},(ZmP p l i).Pairwise (·<·)∧(ZmP p l i).length≤l.length
 | [],_=>by simp [ZmP]
 | f::l,i=>by
  obtain ⟨h1,h2⟩:=Zrl (p:=p) (l:=l) (i:=i+1)
  unfold ZmP
  by_cases hp:p f=true
  ·rw [if_pos hp,AI]
   refine ⟨⟨fun x mx=>?_,h1⟩,by simp;omega⟩
   obtain ⟨j,g,_,_,e⟩:=ZrA.1 mx
   omega
  ·rw [if_neg hp]
   exact ⟨h1,by simp;omega⟩
theorem ZHz {ρ:Type} {p:Zb→Bool} {fin:List Int→Option ρ} {body:Nat→Zb→List Int→Option (List Int ⊕ ρ)}:∀{l:List Zb} {i:Nat} {acc:List Int},(∀j f s,f∈l→s.length+1≤acc.length+l.length→body j f s=some (.inl (if p f=true then s++[((j:Nat):Int)] else s)))→Zo body fin l i acc=fin (acc++ZmP p l i)
 | [],_,acc,_=>by simp [Zo,ZmP]
 | f::l,i,acc,h=>by
  have hx:=h i f acc (by simp) (by simp)
  unfold ZmP
  by_cases hp:p f=true
  ·rw [if_pos hp] at hx ⊢
   rw [ZX hx,ZHz (p:=p) fun j g s mg hs=>h j g s (by simp [mg]) (by simp at hs ⊢;omega)]
   simp
  ·rw [if_neg hp] at hx ⊢
   rw [ZX hx,ZHz (p:=p) fun j g s mg hs=>h j g s (by simp [mg]) (by simp;omega)]
theorem ZHL {F:List Zb} (hF:F.Nodup) {j:Nat} {f:Zb} (h:F[j]?=some f):ZY F f=((j:Nat):Int):=by
 obtain ⟨k,h1,h2⟩:=Q6 (AF h)
 obtain ⟨hj,ej⟩:=AJ.1 h
 obtain ⟨hk,ek⟩:=AJ.1 h2
 have:k=j:=by
  rcases Nat.lt_trichotomy k j with hl | hl | hl
  ·exact absurd (ek.trans ej.symm) (Ap.1 hF k j hk hj hl)
  ·exact hl
  ·exact absurd (ej.trans ek.symm) (Ap.1 hF j k hj hk hl)
 rw [h1,this]
theorem ZI2 {F:List Zb} (hF:F.Nodup) (p:Zb→Bool):Qr F (F.filter p)=ZmP p F 0:=by
 obtain ⟨h1,h2,_⟩:=Yv F (F.filter p)
 refine ZmI h1 Zrl.1 fun x=>?_
 rw [h2,ZrA]
 constructor
 ·rintro ⟨f,mf,e,e0⟩
  obtain ⟨m1,m2⟩:=AU.1 mf
  obtain ⟨j,k1,k2⟩:=Q6 m1
  exact ⟨j,f,k2,m2,by rw [←e,k1];simp⟩
 ·rintro ⟨j,f,k1,k2,rfl⟩
  exact ⟨f,AU.2 ⟨AF k1,k2⟩,by rw [ZHL hF k1];simp,by omega⟩
theorem ZIG (R:List Zg) (F base:List Zb):base.length≤(ZZ R F base).length:=by
 unfold ZZ
 have h:=(ZnR (R.flatMap (Zvb F)) (Zdj F base)).1
 have:(Zdj F base).length=base.length:=by simp [Zdj]
 omega
end
section
open Classical
theorem ZGm {R:List Zg} {base F:List Zb} (h:Z0 R base F) (x:Zf):x∈(ZZ R F base).drop base.length↔∃r∈R,∃t∈Zw (XT r) F,∃a∈r.thn,x=Yg F r t a:=by
 obtain ⟨E,e1,e2⟩:=ZH2 (R.flatMap (Zvb F)) (Zdj F base)
 have hg:ZZ R F base=Zdj F base++E:=e1
 have hbl:(Zdj F base).length=base.length:=by simp [Zdj]
 rw [hg,←hbl,List.drop_left]
 constructor
 ·intro mx
  obtain ⟨r,mr,hx⟩:=AD.1 (e2 x mx)
  obtain ⟨t,mt,hx⟩:=AD.1 hx
  obtain ⟨a,ma,e⟩:=AB.1 hx
  exact ⟨r,mr,t,mt,a,ma,e.symm⟩
 ·rintro ⟨r,mr,t,mt,a,ma,rfl⟩
  have hm:Yg F r t a∈ZZ R F base:=Zib.2 (.inr ⟨r,mr,t,mt,a,ma,rfl⟩)
  rw [hg] at hm
  rcases A2.1 hm with hm | hm
  ·obtain ⟨f,_,e⟩:=AB.1 hm
   have:=ZIZ h mr mt a
   rw [←e] at this
   exact absurd rfl this
  ·exact hm
noncomputable def ZGi (F base:List Zb) (s:Nat):List Zb:=(Zhj (Qr F base) s 0).map (ZFu F)
theorem ZGk {F base:List Zb} (hb:∀f∈base,f∈F) {s:Nat} {x:Int} (mx:x∈Zhj (Qr F base) s 0):∃f∈base,ZY F f=x∧ZFu F x=f:=by
 obtain ⟨j,h1,_⟩:=Zea.1 mx
 obtain ⟨f,mf,e,_⟩:=((Yv F base).2.1 x).1 (AF h1)
 exact ⟨f,mf,e,by rw [←e];exact ZFg (hb f mf)⟩
theorem ZI0 {F base:List Zb} (hb:∀f∈base,f∈F) {s:Nat}:∀f∈ZGi F base s,f∈base:=fun f mf=>by
 obtain ⟨x,mx,rfl⟩:=AB.1 mf
 obtain ⟨g,mg,_,e⟩:=ZGk hb mx
 rw [e];exact mg
end
section
open Classical
def ZDL (r:Zg):Bool:=(r.cond.all fun x=>!(x.kind==2))&&(YQ r&&Zot r)
theorem ZGB {r:Zg} (h:QC r):ZF5 r=some (ZDL r):=by
 unfold ZF5 ZDL
 rw [ZU (p:=fun x=>!(x.kind==2)) (r:=false)]
 ·cases r.cond.all (fun x=>!(x.kind==2)) with
  | false=>rfl
  | true=>
   rw [if_pos rfl,Zj7 r h,A0,ZmX]
   cases YQ r<;>rfl
 ·intro i x mx
  cases x.kind==2<;>rfl
theorem ZHk {r:Zg} (h:QC r):ZFV r=some (ZDL r):=by
 unfold ZFV ZDL
 rw [ZU (p:=fun x=>!(x.kind==2)) (r:=false)]
 ·cases r.cond.all (fun x=>!(x.kind==2)) with
  | false=>rfl
  | true=>
   rw [if_pos rfl,ZU (p:=fun a=>decide (a.kind=1)) (r:=false)]
   ·rw [Zgg r h]
    unfold Zot
    cases r.thn.all (fun a=>decide (a.kind=1))<;>cases YQ r<;>rfl
   ·intro i a ma
    by_cases hk:a.kind=1
    ·rw [hk];rfl
    ·have:(a.kind != 1)=true:=by simpa using hk
     rw [if_pos this,decide_eq_false hk];rfl
 ·intro i x mx
  cases x.kind==2<;>rfl
theorem ZGH {F:List Zb} (hl:F.length≤1000) (ha:∀f∈F,f.args.length≤1048576) (bad:ByteArray):ZFU F bad=some (F.filter fun f=>decide (f.rel=bad)):=by
 unfold ZFU
 rw [Zcm (p:=fun f=>decide (f.rel=bad))]
 ·rfl
 ·intro j f s mf hs
  simp only[Aa,AA] at hs
  by_cases e:f.rel=bad
  ·rw [if_pos (ZO.2 e),Xb _ (ha f mf),A0,Zh _ (by omega),if_pos (by simpa using e)]
  ·rw [if_neg (by rw [ZO];exact e),if_neg (by simpa using e)]
def noF:QZ:={ beliefs:={ nodes:=0,reasons:=[] },assumed:=[],bad:=[] }
noncomputable def Zws (R:List Zg) (F base:List Zb) (bad:ByteArray):QZ:={ beliefs:={ nodes:=((F.length:Nat):Int),reasons:=(ZZ R F base).drop base.length },assumed:=Qr F base,bad:=ZmP (fun f=>decide (f.rel=bad)) F 0 }
def Zve (R:List Zg) (base:List Zb) (bad:ByteArray) (F:List Zb) (fr:QZ) (ok:Bool):Prop:=(ok=false∧F=[]∧fr=noF)∨(ok=true∧Z0 R base F∧(ZZ R F base).length≤60∧base.length≤6∧R.all ZDL=true∧fr=Zws R F base bad)
theorem ZI5 (l:List Zg) (hl:∀r∈l,QC r) {ρ:Type} {fin:Bool→Option ρ} {body:Nat→Zg→Bool→Option (Bool ⊕ ρ)} (hb:∀i r u,body i r u=if u=true then (ZFV r).bind fun v=>some (.inl v) else some (.inl false)):∀(i:Nat) (u:Bool),Zo body fin l i u=fin (u&&l.all ZDL):=by
 induction l with
 | nil=>intro i u;simp [Zo]
 | cons r l ih=>
  intro i u
  have ih':=ih fun q mq=>hl q (by simp [mq])
  cases u with
  | false=>rw [ZX (s':=false) (by rw [hb,if_neg (by simp)]),ih'];rfl
  | true=>rw [ZX (s':=ZDL r) (by rw [hb,if_pos rfl,ZHk (hl r (by simp)),A0]),ih'];simp
theorem ZId {R:List Zg} (hR:Zbc R) (base:List Zb) (hb20:base.length≤1048576) (bad:ByteArray):∃F fr ok,ZGr R base bad=some (F,fr,ok)∧ZGx R base bad=some (F,fr,ok)∧Zve R base bad F fr ok:=by
 obtain ⟨F,b,ok,h1,h2,h3⟩:=Zh9 hR base hb20
 unfold ZGr ZGx
 rw [h1,h2,A0,A0,ZI5 R hR.s fun i r u=>rfl]
 rcases h3 with ⟨rfl,rfl,rfl⟩ | ⟨rfl,hG,rfl,h60⟩
 ·exact ⟨_,_,_,rfl,rfl,.inl ⟨rfl,rfl,rfl⟩⟩
 ·rw [if_pos rfl,AH]
  by_cases h6:6<base.length
  ·have h6':decide (6<((base.length:Nat):Int))=true:=by simp;omega
   refine ⟨[],noF,false,?_,?_,.inl ⟨rfl,rfl,rfl⟩⟩
   ·cases R.all ZDL with
    | true=>rw [if_pos rfl,if_pos h6'];rfl
    | false=>rfl
   ·rw [if_pos h6'];rfl
  ·have hn6:¬decide (6<((base.length:Nat):Int))=true:=by simp;omega
   have hlen:=hG.len
   have hgb:=ZIG R F base
   have hargs:∀f∈F,f.args.length≤1048576:=fun f mf=>by have:=YY (hG.good.ok f mf);omega
   cases hm:R.all ZDL with
   | false=>
    refine ⟨[],noF,false,rfl,?_,.inl ⟨rfl,rfl,rfl⟩⟩
    rw [if_neg hn6,ZU (p:=ZDL) (r:=([],noF,false)),hm]
    ·rfl
    ·intro i r mr
     rw [ZGB (hR.s r mr),A0]
     cases ZDL r<;>rfl
   | true=>
    refine ⟨F,Zws R F base bad,true,?_,?_,.inr ⟨rfl,hG,h60,by omega,hm,rfl⟩⟩
    ·have hfl:(F.filter fun f=>decide (f.rel=bad)).length≤F.length:=Au _ _
     rw [if_pos rfl,if_neg hn6,Zh _ ⟨by omega,by simp only;omega⟩,ZhB _ _ (by omega),A0,ZGH (by omega) hargs,A0,ZhB _ _ (by omega),A0,ZI2 (ZdT hG.good.asc)]
     rfl
    ·rw [if_neg hn6,ZU (p:=ZDL) (r:=([],noF,false)),hm]
     ·rw [if_pos rfl,Zh _ ⟨by omega,by simp only;omega⟩,ZiM _ _ (by omega),A0,ZHz (p:=fun f=>decide (f.rel=bad))]
      ·rfl
      ·intro j f s mf hs
       simp only[Aa,AA] at hs
       by_cases e:f.rel=bad
       ·rw [if_pos (ZO.2 e),Zh _ (by omega),if_pos (by simpa using e)]
       ·rw [if_neg (by rw [ZO];exact e),if_neg (by simpa using e)]
     ·intro i r mr
      rw [ZGB (hR.s r mr),A0]
      cases ZDL r<;>rfl
end
def gB (row:List Bool) (y:Int):Bool:=(row[y.toNat]?).getD false
def ZGU (row:List Bool) (r:Zf):List Bool:=row.set r.for_.toNat (gB row r.for_||r.inn.all (gB row))
def ZF1 (R:List Zf) (row:List Bool):List Bool:=R.foldl ZGU row
def leB (a b:List Bool):Prop:=∀i:Nat,a[i]?=some true→b[i]?=some true
theorem leB.refl (a:List Bool):leB a a:=fun _ h=>h
theorem leB.trans {a b c:List Bool} (h1:leB a b) (h2:leB b c):leB a c:=fun i h=>h2 i (h1 i h)
theorem ZGL {row:List Bool} {y:Int}:gB row y=true↔row[y.toNat]?=some true:=by
 unfold gB
 cases h:row[y.toNat]? with
 | none=>simp
 | some b=>simp
theorem leB.g {a b:List Bool} (h:leB a b) {y:Int} (hy:gB a y=true):gB b y=true:=ZGL.2 (h _ (ZGL.1 hy))
theorem ZIk {row:List Bool} {k i:Nat} {b:Bool}:(row.set k b)[i]?=if k=i∧i<row.length then some b else row[i]?:=by
 rw [Ay]
 by_cases h1:k=i
 ·by_cases h2:i<row.length
  ·rw [if_pos h1,if_pos (by omega),if_pos ⟨h1,h2⟩]
  ·rw [if_pos h1,if_neg (by omega),if_neg (fun h=>h2 h.2),AM (by omega)]
 ·rw [if_neg h1,if_neg (fun h=>h1 h.1)]
theorem ZIF (row:List Bool) (r:Zf):leB row (ZGU row r):=fun i h=>by
 unfold ZGU
 rw [ZIk]
 split
 ·rename_i hc
  obtain ⟨rfl,_⟩:=hc
  have:gB row r.for_=true:=ZGL.2 h
  rw [this];rfl
 ·exact h
theorem ZG5:∀(R:List Zf) (row:List Bool),leB row (ZF1 R row)
 | [],row=>leB.refl row
 | r::R,row=>by rw [ZF1,A5];exact (ZIF row r).trans (ZG5 R _)
theorem ZGP (row:List Bool) (r:Zf):(ZGU row r).length=row.length:=by simp [ZGU]
theorem ZGO:∀(R:List Zf) (row:List Bool),(ZF1 R row).length=row.length
 | [],_=>rfl
 | r::R,row=>by rw [ZF1,A5];exact (ZGO R _).trans (ZGP row r)
theorem ZH9 {n:Nat}:∀{R:List Zf} {row:List Bool},row.length=n→∀r∈R,r.for_.toNat<n→(∀y∈r.inn,gB row y=true)→gB (ZF1 R row) r.for_=true
 | q::R,row,hl,r,hr,hf,hi=>by
  rw [ZF1,A5]
  rcases A3.1 hr with rfl | hr
  ·refine (ZG5 R _).g ?_
   have:r.inn.all (gB row)=true:=A7.2 hi
   rw [ZGL,ZGU,ZIk,if_pos ⟨rfl,by omega⟩,this,Bool.or_true]
  ·exact ZH9 (by rw [ZGP,hl]) r hr hf fun y my=>(ZIF row q).g (hi y my)
def ZIR (l:List Bool):Nat:=l.countP id
theorem ZJh:∀{a b:List Bool},a.length=b.length→leB a b→ZIR a≤ZIR b∧(a≠b→ZIR a<ZIR b)
 | [],[],_,_=>⟨Ag _,fun h=>absurd rfl h⟩
 | x::a,y::b,hl,h=>by
  have ih:=ZJh (a:=a) (b:=b) (by simpa using hl) fun i hi=>by have:=h (i+1) (by simpa using hi);simpa using this
  have h0:x=true→y=true:=fun e=>by have:=h 0 (by simp [e]);simpa using this
  simp only[ZIR,Ab,id] at ih ⊢
  cases x<;>cases y<;>simp at h0 ⊢
  ·exact ih
  ·refine ⟨by omega,by omega⟩
  ·exact ih
 | [],_::_,hl,_=>by simp at hl
 | _::_,[],hl,_=>by simp at hl
theorem ZIs {R:List Zf} {n:Nat}:∀(q:List Nat) (row:List Bool),row.length=n→n<ZIR row+q.length→ZF1 R (q.foldl (fun r _=>ZF1 R r) row)=q.foldl (fun r _=>ZF1 R r) row
 | [],row,hl,h=>by
  have:ZIR row≤row.length:=Ah
  simp at h;omega
 | k::q,row,hl,h=>by
  by_cases hf:ZF1 R row=row
  ·have e:∀q:List Nat,q.foldl (fun r _=>ZF1 R r) row=row:=fun q=>by
    induction q with
    | nil=>rfl
    | cons k q ih=>rw [A5,hf,ih]
   rw [e,hf]
  ·rw [A5]
   refine ZIs q (ZF1 R row) (by rw [ZGO,hl]) ?_
   have:=(ZJh (ZGO R row).symm (ZG5 R row)).2 (fun e=>hf e.symm)
   simp at h
   omega
structure ZHM (f:QZ) (s:Nat) (row:List Bool):Prop where
 len:row.length=f.beliefs.nodes.toNat
 snd:∀i:Nat,row[i]?=some true→UnF f s ((i:Nat):Int)
theorem ZHM.step {f:QZ} {s:Nat} {row:List Bool} (hF:Zur f) (h:ZHM f s row) {r:Zf} (hr:r∈f.beliefs.reasons):ZHM f s (ZGU row r):=by
 refine ⟨by rw [ZGP,h.len],fun i hi=>?_⟩
 unfold ZGU at hi
 rw [ZIk] at hi
 split at hi
 ·rename_i hc
  obtain ⟨rfl,_⟩:=hc
  simp only[BL,Ao] at hi
  obtain ⟨f0,f1,f2,_⟩:=hF.R r hr
  rcases hi with hi | hi
  ·exact h.snd _ (ZGL.1 hi)
  ·rw [AW f0]
   refine ZIV.2 (.inr ⟨r,hr,rfl,fun y my=>?_⟩)
   have:=h.snd _ (ZGL.1 (A7.1 hi y my))
   rwa [AW (f2 y my).1] at this
 ·exact h.snd i hi
theorem ZHM.pass {f:QZ} {s:Nat} (hF:Zur f):∀(R:List Zf) (row:List Bool),(∀r∈R,r∈f.beliefs.reasons)→ZHM f s row→ZHM f s (ZF1 R row)
 | [],_,_,h=>h
 | r::R,row,hR,h=>by
  rw [ZF1,A5]
  exact ZHM.pass hF R _ (fun q hq=>hR q (by simp [hq])) (h.step hF (hR r (by simp)))
theorem ZJc {row:List Bool} {y:Int} {n:Nat} (hl:row.length=n) (h1:y.toNat<n):row[y.toNat]?=some (gB row y):=by
 have hg:row[y.toNat]?=some row[y.toNat]:=A8 (by omega)
 unfold gB
 rw [hg];rfl
def ZG8 (s:Nat):List Int→Nat→List Bool→List Bool
 | [],_,row=>row
 | x::l,i,row=>if s.testBit i=true then ZG8 s l (i+1) (row.set x.toNat true) else ZG8 s l (i+1) row
theorem ZHE (s:Nat):∀(l:List Int) (i:Nat) (row:List Bool),(ZG8 s l i row).length=row.length
 | [],_,_=>rfl
 | x::l,i,row=>by
  simp only[ZG8]
  split
  ·rw [ZHE s l];simp
  ·exact ZHE s l _ _
theorem ZHw (s:Nat):∀(l:List Int) (i:Nat) (row:List Bool) (k:Nat),(ZG8 s l i row)[k]?=some true↔row[k]?=some true∨(k<row.length∧∃x∈Zhj l s i,x.toNat=k)
 | [],i,row,k=>by simp [ZG8,Zhj]
 | x::l,i,row,k=>by
  simp only[ZG8,Zhj]
  split
  ·rw [ZHw s l,ZIk,BG]
   by_cases hx:x.toNat=k
   ·by_cases hk:k<row.length
    ·simp [hx,hk]
    ·rw [if_neg (fun h=>hk h.2)]
     simp [hk]
   ·rw [if_neg (fun h=>hx h.1)]
    simp [hx]
  ·exact ZHw s l _ _ _
theorem ZIQ {f:QZ} (h:Zur f) {s:Nat} (hs:s≤9223372036854775807):∃l,ZFY f ((s:Nat):Int)=some l∧Lab l f.beliefs.nodes.toNat (UnF f s):=by
 have hn0:=h.n0
 have hn1:=h.n1
 have ha1:=h.a1
 have hlen0:(ZG8 s f.assumed 0 (A4 f.beliefs.nodes.toNat false)).length=f.beliefs.nodes.toNat:=by rw [ZHE];simp
 have h0:ZHM f s (ZG8 s f.assumed 0 (A4 f.beliefs.nodes.toNat false)):=by
  refine ⟨hlen0,fun i hi=>?_⟩
  rcases (ZHw s _ _ _ _).1 hi with hi | ⟨_,x,mx,rfl⟩
  ·by_cases hi':i<f.beliefs.nodes.toNat
   ·rw [ZGM hi'] at hi;simp at hi
   ·rw [AM (by simp;omega)] at hi;simp at hi
  ·obtain ⟨j,h1,h2⟩:=Zea.1 mx
   rw [AW (h.a x (AF h1)).1]
   exact ZIV.2 (.inl ⟨j,h1,by simpa using h2⟩)
 generalize hrow0:ZG8 s f.assumed 0 (A4 f.beliefs.nodes.toNat false)=row0 at *
 have hfold:∀(q:List Nat) (row:List Bool),ZHM f s row→ZHM f s (q.foldl (fun r _=>ZF1 f.beliefs.reasons r) row)∧leB row (q.foldl (fun r _=>ZF1 f.beliefs.reasons r) row):=by
  intro q
  induction q with
  | nil=>intro row hr;exact ⟨hr,leB.refl _⟩
  | cons k q ih=>
   intro row hr
   rw [A5]
   obtain ⟨a,b⟩:=ih _ (ZHM.pass h _ _ (fun _ hq=>hq) hr)
   exact ⟨a,(ZG5 _ _).trans b⟩
 obtain ⟨hF,hle⟩:=hfold (AN 0 (f.beliefs.nodes.toNat+1)) row0 h0
 have hfix:=ZIs (R:=f.beliefs.reasons) (n:=f.beliefs.nodes.toNat) (AN 0 (f.beliefs.nodes.toNat+1)) row0 hlen0 (by simp;omega)
 refine ⟨(AN 0 (f.beliefs.nodes.toNat+1)).foldl (fun r _=>ZF1 f.beliefs.reasons r) row0,?_,hF.len,fun i hi=>⟨hF.snd i,fun hd=>?_⟩⟩
 ·unfold ZFY
  rw [Zh _ ⟨hn0,by omega⟩,Zal (fun l i row=>Yp _ (ZG8 s l i row,0)) (fun l i row=>row.length=f.beliefs.nodes.toNat∧∀x∈l,0≤x∧x.toNat<f.beliefs.nodes.toNat) (fun i row _=>rfl) (fun x l i row hI=>by
   left
   obtain ⟨hl,hx⟩:=hI
   obtain ⟨x0,x1⟩:=hx x (by simp)
   rw [Zh _ (by omega)]
   simp only[ZIN hs]
   by_cases hb:s.testBit i=true
   ·rw [if_pos hb,Zh _ ⟨x0,by omega⟩,ZJc hl x1,A0]
    exact ⟨_,rfl,⟨by simpa using hl,fun y my=>hx y (by simp [my])⟩,by simp only[ZG8,if_pos hb]⟩
   ·rw [if_neg hb]
    exact ⟨_,rfl,⟨hl,fun y my=>hx y (by simp [my])⟩,by simp only[ZG8,if_neg hb]⟩) f.assumed 0 _ ⟨by simp,h.a⟩,hrow0]
  refine Zl8 (f:=fun r _=>ZF1 f.beliefs.reasons r) (fin:=fun row=>some row) (fun _ row=>row.length=f.beliefs.nodes.toNat) (f.beliefs.nodes.toNat+1) ?_ ?_ (f.beliefs.nodes.toNat+1) 0 row0 (by omega) hlen0
  ·intro k row hk hl
   refine ⟨?_,by rw [ZGO,hl]⟩
   show (if decide (((k:Nat):Int)≤f.beliefs.nodes)=true then _ else _)=_
   rw [if_pos (by simp;omega),YM (f:=ZGU) (fun _ row=>row.length=f.beliefs.nodes.toNat) hl (fun j r row' mr _ _ hl'=>by
    obtain ⟨f0,f1,f2,f3⟩:=h.R r mr
    refine ⟨?_,by rw [ZGP,hl']⟩
    rw [Zif (f:=fun u y=>u&&gB row' y),ZJb]
    ·rw [Zh _ ⟨f0,by omega⟩,ZJc hl' f1,A0]
     unfold ZGU
     cases gB row' r.for_<;>simp
    ·intro i y u my
     obtain ⟨y0,y1⟩:=f2 y my
     cases u with
     | false=>rfl
     | true=>
      rw [if_pos rfl,Zh _ ⟨y0,by omega⟩,ZJc hl' y1];rfl)]
   rw [ZGG (by omega)]
   rfl
  ·intro row hl
   show (if decide (((f.beliefs.nodes.toNat+1:Nat):Int)≤f.beliefs.nodes)=true then _ else _)=_
   rw [if_neg (by simp;omega)]
   rfl
 ·have closed:∀x,UnF f s x→gB ((AN 0 (f.beliefs.nodes.toNat+1)).foldl (fun r _=>ZF1 f.beliefs.reasons r) row0) x=true:=by
   intro x hx
   induction hx with
   | mk r hr _ ih=>
    rcases A2.1 hr with m | m
    ·have:=ZH9 hF.len r m (h.R r m).2.1 ih
     rwa [hfix] at this
    ·obtain ⟨y,my,rfl⟩:=AB.1 m
     refine hle.g (ZGL.2 ?_)
     rw [←hrow0,ZHw]
     obtain ⟨j,h1,_⟩:=Zea.1 my
     refine .inr ⟨?_,y,my,rfl⟩
     rw [BF]
     exact (h.a y (AF h1)).2
  have:=ZGL.1 (closed _ hd)
  simpa using this
section
def MF (f:QZ):Nat:=2 ^ f.assumed.length
theorem ZGY {f:QZ} (h:f.assumed.length≤6):ZCy .i64 1 ((f.assumed.length:Nat):Int)=((MF f:Nat):Int)∧MF f≤64:=by
 have:=ZJm (n:=((f.assumed.length:Nat):Int)) (by omega) (by omega)
 rw [AL] at this
 exact this
theorem ZJt (f:QZ):0<MF f:=Nat.two_pow_pos _
def inS (f:QZ) (s:Int):Bool:=decide (0≤s)&&decide (s<((MF f:Nat):Int))
theorem ZHu {f:QZ} {s:Nat}:inS f ((s:Nat):Int)=decide (s<MF f):=by
 unfold inS
 rw [show decide (0≤((s:Nat):Int))=true by simp,AH,A9]
 simp
theorem Zur.a6 {f:QZ} (h:ZpX f=true):f.assumed.length≤6:=(Zur.of h).a1
theorem ZGh {f:QZ} (h:ZpX f=true) (hs:ZGg f) (s:Int):ZF6 f s=some (inS f s):=by
 unfold ZF6 inS
 have h6:=Zur.a6 h
 obtain ⟨e,e64⟩:=ZGY h6
 have hp:=ZJt f
 rw [ZIc hs,h,A0,if_pos rfl,Zh _ (by omega),e,YW (by omega) (by omega),ZiD]
 rw [A0]
 congr 2
 rw [A9];simp;omega
open Classical
theorem ZIi {f:QZ} (h:ZpX f=true) {s:Nat} (hs:s<MF f):∃l,ZGQ f ((s:Nat):Int)=some l∧Lab l f.beliefs.nodes.toNat (UnF f s)∧ZGw f.bad l=some (decide (ZBo f s)):=by
 have hF:=Zur.of h
 have:=(ZGY hF.a1).2
 obtain ⟨l,e,hl⟩:=ZIU hF (s:=s) (by omega)
 refine ⟨l,e,hl,?_⟩
 rw [ZIA hl hF.b]
 congr 1
 rw [A9,decide_eq_true_iff,decide_eq_true_iff]
 exact Iff.rfl
theorem ZG2 {f:QZ} (h:ZpX f=true) {s:Nat} (hs:s<MF f):∃l,ZFY f ((s:Nat):Int)=some l∧Lab l f.beliefs.nodes.toNat (UnF f s):=by
 have hF:=Zur.of h
 have:=(ZGY hF.a1).2
 exact ZIQ hF (s:=s) (by omega)
theorem ZJa {f:QZ} (h:ZpX f=true) (hs:ZGg f) {s:Nat} (h1:s<MF f):ZFT f ((s:Nat):Int)=some (decide (ZBo f s)):=by
 obtain ⟨l,e1,e2⟩:=ZG2 h h1
 have hF:=Zur.of h
 unfold ZFT
 rw [ZGh h hs,ZHu,A0,decide_eq_true h1,if_pos rfl,e1,A0,ZU (p:=fun y=>decide (¬UnF f s y)) (r:=false)]
 ·have:f.bad.all (fun y=>decide (¬UnF f s y))=decide (ZBo f s):=by
   rw [A9,A7,decide_eq_true_iff]
   exact forall_congr' fun y=>forall_congr' fun _=>decide_eq_true_iff
  rw [this]
  by_cases hh:ZBo f s
  ·rw [decide_eq_true hh];rfl
  ·rw [decide_eq_false hh];rfl
 ·intro i x mx
  obtain ⟨h0,hx⟩:=hF.b x mx
  obtain ⟨b,q1,q2⟩:=e2.at h0 hx
  rw [Zh _ ⟨h0,by rw [e2.len];omega⟩,q1,A0]
  by_cases hD:UnF f s x
  ·rw [q2.2 hD];simp [hD]
  ·have:b=false:=by cases b with
    | false=>rfl
    | true=>exact absurd (q2.1 rfl) hD
   rw [this];simp [hD]
def ZGe:List Bool→Nat→List Int
 | [],_=>[]
 | b::l,i=>(if b then [((i:Nat):Int)] else [])++ZGe l (i+1)
theorem ZHH {x:Int}:∀{l:List Bool} {i:Nat},x∈ZGe l i↔∃j,l[j]?=some true∧x=((i+j:Nat):Int)
 | [],i=>by simp [ZGe]
 | b::l,i=>by
  rw [ZGe,A2,ZHH (l:=l)]
  constructor
  ·rintro (h | ⟨j,h1,h2⟩)
   ·cases b with
    | false=>simp at h
    | true=>exact ⟨0,by simp,by simpa using h⟩
   ·exact ⟨j+1,by simpa using h1,by rw [h2];omega⟩
  ·rintro ⟨j,h1,h2⟩
   cases j with
   | zero=>left;simp at h1;simp [h1,h2]
   | succ j=>right;exact ⟨j,by simpa using h1,by rw [h2];omega⟩
theorem ZJn {ρ:Type} {l:List Bool} (hl:l.length≤1000000) {fin:List Int→Option ρ}:Zo (σ:=List Int) (fun (i9:Nat) (x10:Bool) row_6=>if x10=true then chk (row_6.length+1≤1073741824) <| some (.inl (row_6++[((i9:Nat):Int)])) else some (.inl row_6)) fin l 0 []=fin (ZGe l 0):=by
 rw [Zal (fun l i acc=>fin (acc++ZGe l i)) (fun l i acc=>acc.length+l.length≤1000000) (fun i acc _=>by simp [ZGe]) (fun x l i acc hI=>by
  left
  simp only[A6] at hI
  cases x with
  | true=>
   rw [if_pos rfl,Zh _ (by omega)]
   exact ⟨_,rfl,by simp;omega,by simp [ZGe]⟩
  | false=>exact ⟨_,rfl,by omega,by simp [ZGe]⟩) l 0 [] (by simpa using hl)]
 simp
theorem ZJk {l:List Bool} {n:Nat} {D:Int→Prop} (h:Lab l n D) (hD:∀x,D x→0≤x∧x.toNat<n) (x:Int):x∈ZGe l 0↔D x:=by
 rw [ZHH]
 constructor
 ·rintro ⟨j,h1,rfl⟩
  have hj:j<n:=by rw [←h.len];exact (AJ.1 h1).1
  obtain ⟨b,q1,q2⟩:=h.at (y:=((0+j:Nat):Int)) (by omega) (by omega)
  have e:(((0+j:Nat):Int)).toNat=j:=by omega
  rw [e,h1] at q1
  simp only[BL] at q1
  exact q2.1 q1.symm
 ·intro hd
  obtain ⟨h0,h1⟩:=hD x hd
  obtain ⟨b,q1,q2⟩:=h.at h0 h1
  rw [q2.2 hd] at q1
  exact ⟨x.toNat,q1,by omega⟩
theorem UnF.node {f:QZ} (h:ZpX f=true) {s:Nat} {x:Int} (hx:UnF f s x):0≤x∧x.toNat<f.beliefs.nodes.toNat:=Der.node ((Zur.of h).RF s) hx
theorem ZIK {f:QZ} (h:ZpX f=true) (hs:ZGg f) {s:Nat} (h1:s<MF f):∃r,ZF4 f ((s:Nat):Int)=some r∧∀x,x∈r↔UnF f s x:=by
 obtain ⟨l,e1,e2⟩:=ZG2 h h1
 have hF:=Zur.of h
 have:=hF.n1
 refine ⟨ZGe l 0,?_,ZJk e2 fun x=>UnF.node h⟩
 unfold ZF4
 rw [ZGh h hs,ZHu,A0,decide_eq_true h1,if_pos rfl,e1,A0,ZJn (by rw [e2.len];omega)]
theorem ZIO (l:List Int) (x:Int):ZHv l x=some (ZxR l x):=Zqf l x
theorem ZJg {l:List Int} {x:Int} {P:Prop} (h:x∈l↔P):ZxR l x=decide P:=by
 rw [A9,ZqQ,h];simp
def ZG3 (f:QZ) (x:Int) (s:Nat):Prop:=ZBo f s∧UnF f s x
theorem ZJi {f:QZ} {x:Int} {s:Nat}:(if decide (ZBo f s)=true then (some (decide (UnF f s x)):Option Bool) else some false)=some (decide (ZG3 f x s)):=by
 by_cases h:ZBo f s
 ·simp [ZG3,h]
 ·simp [ZG3,h]
theorem ZIP {f:QZ} (h:ZpX f=true) (hs:ZGg f) (x:Int) {s:Nat} (h1:s<MF f):ZF3 f x ((s:Nat):Int)=some (decide (ZG3 f x s)):=by
 obtain ⟨r,e1,e2⟩:=ZIK h hs h1
 unfold ZF3
 rw [ZJa h hs h1,A0,e1,A0,ZIO,A0,ZJg (e2 x),ZJi]
def ZGT (p:Nat→Bool) (row:List Int) (k:Nat):List Int:=if p k then row++[((k:Nat):Int)] else row
def ZGX (p:Nat→Bool) (m:Nat):List Int:=(AN 0 m).foldl (ZGT p) []
theorem ZHP (p:Nat→Bool) (row:List Int) (k:Nat):(ZGT p row k).length≤row.length+1:=by
 unfold ZGT;split<;>simp
theorem ZHY (p:Nat→Bool):∀(d k:Nat) (row:List Int),row.Pairwise (·<·)→(∀y∈row,y<((k:Nat):Int))→((AN k d).foldl (ZGT p) row).Pairwise (·<·)∧((AN k d).foldl (ZGT p) row).length≤row.length+d∧∀y,y∈(AN k d).foldl (ZGT p) row↔y∈row∨∃j,k≤j∧j<k+d∧y=((j:Nat):Int)∧p j=true
 | 0,k,row,h1,h2=>by
  refine ⟨by simpa using h1,by simp,fun y=>?_⟩
  simp only[List.range'_zero,List.foldl_nil]
  exact ⟨.inl,fun h=>h.elim id fun ⟨j,a,b,_⟩=>by omega⟩
 | d+1,k,row,h1,h2=>by
  have hq:(ZGT p row k).Pairwise (·<·)∧∀y∈ZGT p row k,y<((k+1:Nat):Int):=by
   unfold ZGT
   split
   ·refine ⟨BH.2 ⟨h1,List.pairwise_singleton _ _,fun a ma b mb=>?_⟩,fun y my=>?_⟩
    ·rw [AE.1 mb];exact h2 a ma
    ·rcases A2.1 my with m | m
     ·have:=h2 y m;omega
     ·rw [AE.1 m];omega
   ·exact ⟨h1,fun y my=>by have:=h2 y my;omega⟩
  obtain ⟨a1,a2,a3⟩:=ZHY p d (k+1) (ZGT p row k) hq.1 hq.2
  rw [List.range'_succ,A5]
  refine ⟨a1,by have:=ZHP p row k;omega,fun y=>?_⟩
  rw [a3]
  have h3:y∈ZGT p row k↔y∈row∨(y=((k:Nat):Int)∧p k=true):=by
   unfold ZGT
   split
   ·rename_i hc;simp [hc]
   ·rename_i hc;simp [hc]
  rw [h3]
  constructor
  ·rintro ((h | ⟨h,h'⟩) | ⟨j,q1,q2,q3,q4⟩)
   ·exact .inl h
   ·exact .inr ⟨k,by omega,by omega,h,h'⟩
   ·exact .inr ⟨j,by omega,by omega,q3,q4⟩
  ·rintro (h | ⟨j,q1,q2,q3,q4⟩)
   ·exact .inl (.inl h)
   ·by_cases e:j=k
    ·subst e;exact .inl (.inr ⟨q3,q4⟩)
    ·exact .inr ⟨j,by omega,by omega,q3,q4⟩
theorem ZGR (p:Nat→Bool) (m:Nat):(ZGX p m).Pairwise (·<·)∧(ZGX p m).length≤m∧∀y,y∈ZGX p m↔∃k,k<m∧y=((k:Nat):Int)∧p k=true:=by
 obtain ⟨h1,h2,h3⟩:=ZHY p m 0 [] AZ (by simp)
 refine ⟨h1,by simpa [ZGX] using h2,fun y=>?_⟩
 rw [ZGX,h3]
 simp
theorem ZH7 {p:Nat→Bool} {m:Nat} (s:Nat):ZJo (ZGX p m) s↔s<m∧p s=true:=by
 show ((s:Nat):Int)∈_↔_
 rw [(ZGR p m).2.2]
 constructor
 ·rintro ⟨k,a,b,c⟩
  have:s=k:=by omega
  subst this;exact ⟨a,c⟩
 ·rintro ⟨a,c⟩;exact ⟨s,a,rfl,c⟩
theorem ZHX {f:QZ} (h6:f.assumed.length≤6) {keep:Int→Option Bool} {p:Nat→Bool} (hk:∀s:Nat,s<MF f→keep ((s:Nat):Int)=some (p s)):ZGf f keep=some (ZGX p (MF f)):=by
 obtain ⟨e,e64⟩:=ZGY h6
 unfold ZGf
 rw [Zh _ (by omega)]
 refine (Zl8 (f:=ZGT p) (fin:=fun row=>some row) (fun k row=>row.length≤k) (MF f) ?_ ?_ (MF f) 0 [] (by omega) (by simp))
 ·intro k row hk' hI
  refine ⟨?_,by have:=ZHP p row k;omega⟩
  rw [e]
  show (if decide (((k:Nat):Int)<((MF f:Nat):Int))=true then _ else _)=_
  rw [if_pos (by simp only[decide_eq_true_eq];omega),hk k hk',A0,ZGG (by omega)]
  unfold ZGT
  cases p k with
  | false=>simp
  | true=>simp only[if_true];rw [Zh _ (by omega)]
 ·intro row _
  rw [e]
  show (if decide (((MF f:Nat):Int)<((MF f:Nat):Int))=true then _ else _)=_
  rw [if_neg (by simp)];rfl
noncomputable def lbB (f:QZ) (x:Int) (s:Nat):Bool:=decide (ZG3 f x s)
theorem ZHh {f:QZ} (h:ZpX f=true) (hs:ZGg f) (x:Int):ZFZ f x=ZFQ (ZGX (lbB f x) (MF f)):=by
 have hn:(∀s,lbB f x s=false)→ZGX (lbB f x) (MF f)=[]:=fun hh=>by
  refine List.eq_nil_iff_forall_not_mem.2 fun y my=>?_
  obtain ⟨k,_,_,hk⟩:=((ZGR _ _).2.2 y).1 my
  rw [hh k] at hk
  simp at hk
 have h0:ZFQ []=some []:=by rw [ZGa [] (by simp)];simp [Zkx]
 have hno:¬(0≤x∧x.toNat<f.beliefs.nodes.toNat)→∀s,lbB f x s=false:=fun hh s=>by
  unfold lbB
  refine decide_eq_false fun hp=>hh (UnF.node h hp.2)
 unfold ZFZ
 rw [ZIf hs,h,A0,if_pos rfl]
 have hF:=Zur.of h
 have:=hF.n0
 by_cases q1:x<0
 ·rw [if_pos (by simpa using q1),hn (hno (by omega)),h0]
 rw [if_neg (by simpa using q1)]
 by_cases q2:f.beliefs.nodes≤x
 ·rw [if_pos (by simpa using q2),hn (hno (by omega)),h0]
 rw [if_neg (by simpa using q2),ZHX (Zur.a6 h) (p:=lbB f x)]
 ·rw [A0]
  cases ZFQ (ZGX (lbB f x) (MF f))<;>rfl
 ·intro s h1
  obtain ⟨l,e1,e2,e3⟩:=ZIi h h1
  show ZF2 _ _ _=_
  unfold ZF2
  obtain ⟨b,b1,b2⟩:=e2.at (y:=x) (by omega) (by omega)
  rw [e1,A0,Zh _ ⟨by omega,by rw [e2.len];omega⟩,b1,A0,e3]
  unfold lbB
  by_cases hD:UnF f s x
  ·rw [b2.2 hD];simp [hD,ZG3]
  ·have:b=false:=by cases b with
    | false=>rfl
    | true=>exact absurd (b2.1 rfl) hD
   rw [this];simp [hD,ZG3]
theorem ZIq {f:QZ} (h:ZpX f=true) (hs:ZGg f) (x:Int):ZF7 f x=ZFS (ZGX (lbB f x) (MF f)):=by
 obtain ⟨e,e64⟩:=ZGY (Zur.a6 h)
 unfold ZF7
 refine (Zl8 (f:=ZGT (lbB f x)) (fin:=fun row=>ZFS row) (fun k row=>row.length≤k) (MF f) ?_ ?_ (MF f) 0 [] (by omega) (by simp))
 ·intro k row hk' hI
  refine ⟨?_,by have:=ZHP (lbB f x) row k;omega⟩
  show (ZF6 f ((k:Nat):Int)).bind _=_
  rw [ZGh h hs,ZHu,A0,decide_eq_true hk',if_pos rfl,ZIP h hs x hk',A0,ZGG (by omega)]
  unfold ZGT
  rw [show decide (ZG3 f x k)=lbB f x k from rfl]
  cases lbB f x k with
  | false=>simp
  | true=>simp only[if_true];rw [Zh _ (by omega)]
 ·intro row _
  show (ZF6 f ((MF f:Nat):Int)).bind _=_
  rw [ZGh h hs,ZHu,A0,decide_eq_false (by omega),if_neg (by simp)]
theorem ZIX {f:QZ} (h:ZpX f=true) (p:Nat→Bool):Fit (ZGX p (MF f))∧(ZGX p (MF f)).length≤64:=by
 have h64:=(ZGY (Zur.a6 h)).2
 obtain ⟨_,h2,h3⟩:=ZGR p (MF f)
 exact ⟨fun y my=>by obtain ⟨k,a,rfl,_⟩:=(h3 y).1 my;omega,by omega⟩
theorem ZI6 {f:QZ} (h:ZpX f=true) (p:Nat→Bool):∃r,ZFQ (ZGX p (MF f))=some r∧Zu2 r (fun s=>s<MF f∧p s=true)∧(∀y∈r,0≤y∧y<((MF f:Nat):Int)∧p y.toNat=true)∧r.length≤64:=by
 obtain ⟨hf,hl⟩:=ZIX h p
 obtain ⟨r,r1,r2,r3,r4⟩:=ZHr (ZGX p (MF f)) (by omega) hf
 refine ⟨r,r1,⟨r2.1,fun y=>?_⟩,fun y my=>?_,by omega⟩
 ·rw [r2.2]
  rw [Zw3 (Cof.of fun n hn=>(ZH7 n).1 hn) (Cof.of fun n hn=>(ZH7 n).2 hn)]
 ·obtain ⟨k,a,rfl,b⟩:=((ZGR p (MF f)).2.2 y).1 (r3 y my)
  exact ⟨by omega,by omega,by simpa using b⟩
theorem ZIr {f:QZ} (h:ZpX f=true) (hs:ZGg f) (x:Int):∃r,ZFZ f x=some r∧Zu2 r (fun s=>s<MF f∧lbB f x s=true)∧(∀y∈r,0≤y∧y<((MF f:Nat):Int)∧lbB f x y.toNat=true)∧r.length≤64:=by
 rw [ZHh h hs];exact ZI6 h _
theorem ZIo {f:QZ} (h:ZpX f=true) (hs:ZGg f) (x:Int):ZF7 f x=ZFZ f x:=by
 rw [ZIq h hs,ZHh h hs,ZHB _ (by have:=(ZIX h (lbB f x)).2;omega)]
end
section
open Classical
theorem ZIT {R:List Zg} (h:R.all ZDL=true):ZFD R:=fun r mr x mx hk=>by
 have h1:=A7.1 h r mr
 unfold ZDL at h1
 rw [A1] at h1
 have h2:=A7.1 h1.1 x mx
 rw [hk] at h2
 simp at h2
structure ZHs (R:List Zg) (base F:List Zb):Prop where
 g:Z0 R base F
 h60:(ZZ R F base).length≤60
 h6:base.length≤6
 m:R.all ZDL=true
theorem ZHs.mono {R:List Zg} {base F:List Zb} (h:ZHs R base F):ZFD R:=ZIT h.m
theorem ZHs.frame {R:List Zg} {base F:List Zb} (h:ZHs R base F) (bad:ByteArray):ZpX (Zws R F base bad)=true∧ZGg (Zws R F base bad):=by
 have hl:=h.g.len
 have h60:=h.h60
 have h6:=h.h6
 have hd:((ZZ R F base).drop base.length).length≤60:=by rw [List.length_drop];omega
 obtain ⟨n1,n2,n3⟩:=Yv F base
 obtain ⟨b1,b2⟩:=Zrl (p:=fun f=>decide (f.rel=bad)) (l:=F) (i:=0)
 have hin:∀x∈Qr F base,0≤x∧x<((F.length:Nat):Int):=fun x mx=>by
  obtain ⟨f,_,e,e0⟩:=(n2 x).1 mx
  have:=(ZjE e e0).1
  omega
 constructor
 ·unfold ZpX ZbZ Zws
  simp only[A1,decide_eq_true_eq]
  refine ⟨⟨by omega,by omega,hd,A7.2 fun x mx=>?_⟩,by omega,ZuP hin n1,ZuP (fun x mx=>?_) b1,A7.2 fun x mx=>?_⟩
  ·have mg:=BI mx
   obtain ⟨o1,o2,o3⟩:=Zun h.g x mg
   obtain ⟨u1,u2⟩:=(Zee h.g mg).up
   unfold ZsD
   simp only[A1,decide_eq_true_eq]
   exact ⟨o1.1,by omega,ZuP (fun y my=>by have:=o2 y my;omega) u1,ZuP (fun y my=>by have:=o3 y my;omega) u2⟩
  ·obtain ⟨j,f,h1,_,e⟩:=ZrA.1 mx
   have:=(AJ.1 h1).1
   omega
  ·obtain ⟨r,mr,t,_,a,_,rfl⟩:=(ZGm h.g x).1 mx
   unfold ZxX
   rw [decide_eq_true_iff]
   show Qr F (ZiJ r t)=[]
   rw [ZFB h.mono mr t]
   rfl
 ·refine ⟨fun x mx=>?_,by show ((ZZ R F base).drop base.length).length≤_;omega,by show (Qr F base).length≤_;omega,by show (ZmP _ F 0).length≤_;omega⟩
  have:=Zfg h.g (BI mx)
  omega
theorem ZGN (s:Nat):∀(l:List Int) (i:Nat),(Zhj l s i).Sublist l
 | [],_=>by simp [Zhj]
 | x::l,i=>by
  unfold Zhj
  split
  ·exact (ZGN s l (i+1)).cons_cons x
  ·exact (ZGN s l (i+1)).cons x
theorem ZPk {F base:List Zb} (hF:Zg3 F) (s:Nat):Zg3 (ZGi F base s):=by
 unfold ZGi Zg3
 rw [List.pairwise_map]
 obtain ⟨n1,n2,_⟩:=Yv F base
 have hs:=ZGN s (Qr F base) 0
 refine List.Pairwise.imp_of_mem (R:=(·<·)) ?_ (n1.sublist hs)
 intro x y mx my hxy
 obtain ⟨f,_,e,e0⟩:=(n2 x).1 (hs.subset mx)
 obtain ⟨g,_,k,k0⟩:=(n2 y).1 (hs.subset my)
 have hx:=(ZjE e e0).1
 have hy:=(ZjE k k0).1
 have h1:ZFu F x=F[x.toNat]:=by unfold ZFu;rw [A8 hx.2]
 have h2:ZFu F y=F[y.toNat]:=by unfold ZFu;rw [A8 hy.2]
 rw [h1,h2]
 exact Ap.1 hF _ _ hx.2 hy.2 (by omega)
theorem ZPl {a b:List Zb} (ha:Zg3 a) (hb:Zg3 b) (h:∀f∈a,f∈b):a.Sublist b:=by
 have:a=b.filter fun f=>decide (f∈a):=Zk8 ha (ZwZ BJ hb) fun x=>by
  rw [AU,decide_eq_true_iff]
  exact ⟨fun m=>⟨h x m,m⟩,fun m=>m.2⟩
 rw [this]
 exact BJ
theorem ZHs.pick {R:List Zg} {base F:List Zb} (h:ZHs R base F) (s:Nat):(ZGi F base s).Sublist base:=ZPl (ZPk h.g.good.asc s) (ZcT h.g.facts) (ZI0 h.g.good.inc)
end
section
open Go.RowKit
def ZLi:Nat→Nat→List UInt8→List UInt8
 | 0,_,acc=>acc
 | f+1,k,acc=>if k=0 then acc else ZLi f (k / 10) ((48+Aq (k % 10))::acc)
def ZMb (k:Nat):ByteArray:=⟨(109::ZLi (k+1) k []).toArray⟩
theorem ZLm (W:World) (z:Int):(convert 22 9 (.slice (some ⟨W.heap.size,0,none⟩) 1 1)).run Tryz.prog (W.alloc (.cells #[.int .u8 z] 5))=.ok (.string ⟨#[Aq z.toNat]⟩) (W.alloc (.cells #[.int .u8 z] 5)):=by
 rw [run_convert_bytes_string _ _ _ _ _ _ _ Tryz.underlying22 Tryz.underlying5 Tryz.underlying9,run_bytesToString _ _ _ _ [z] (by simp [loadCells,go_sem])]
 rfl
set_option maxHeartbeats 800000 in
set_option maxRecDepth 100000 in
theorem ZLU (k:Nat) (w:World) (h0:1≤k) (h1:k≤4611686018427387904):
  Calls Tryz.prog 99 #[.int .i64 k] w fun e w'=>e=.returned (.string (ZMb k))∧Below w.heap.size w w':=by
 have hle:¬((k:Int)≤0):=by omega
 have kc:=ZLm
 go_enter Tryz.func99,Tryz.ntmps99
 go_wp2
 go_loopw [0,3] (fun i s wr=>∃(f q:Nat) (acc:List UInt8),i=.int .i64 q∧s=.string ⟨acc.toArray⟩∧q≤k∧q<f∧acc.length+q≤k∧Hid (ZLi f q acc=ZLi (k+1) k [])∧Hid (Below w.heap.size w wr)) (fun i _ _=>(intOf i).toNat)
 case atStart=>exact ⟨k+1,k,[],rfl,rfl,Ag _,by omega,by simp,Lib.hid rfl,Below.refl _ _⟩
 case round=>
  obtain ⟨f,q,acc,rfl,rfl,hqk,hqf,hal,HE,HB⟩:=hrel
  by_cases hq:0<q
  ·have hq':(0:Int)<q:=by omega
   have HEn:Hid (ZLi (f - 1) (q / 10) ((48+Aq (q % 10))::acc)=ZLi (k+1) k []):=by
    rw [Hid,←HE.out]
    obtain ⟨f,rfl⟩:∃g,f=g+1:=⟨f - 1,by omega⟩
    rw [ZLi,if_neg (by omega)];rfl
   go_wp2
   go_roundw
   case rel=>exact ⟨f - 1,q / 10,_,by go_num,congrArg Value.string (by rw [BK];simp),by omega,by omega,by simp only[A6];omega,HEn,HB.out.alloc HB.out.size _⟩
   case measure=>simp [intOf];omega
  ·obtain rfl:q=0:=by omega
   have e:Hid (ZLi (k+1) k []=acc):=by
    rw [Hid,←HE.out]
    obtain ⟨f,rfl⟩:∃g,f=g+1:=⟨f - 1,by omega⟩
    simp [ZLi]
   have hq':¬(0:Int)<(0:Nat):=by omega
   go_wp2
   go_ret
   exact ⟨congrArg (fun s=>Ending.returned (.string s)) (by rw [ZMb,e.out,BK];simp),HB.out⟩
theorem ZMi:∀(f k:Nat) (acc:List UInt8),(ZLi f k acc).length≤acc.length+f
 | 0,_,acc=>by simp [ZLi]
 | f+1,k,acc=>by
  rw [ZLi]
  split
  ·omega
  ·have:=ZMi f (k / 10) ((48+Aq (k % 10))::acc)
   simp at this;omega
theorem ZMo (k:Nat) (h:k≤4611686018427387904):(ZMb k).size≤9223372036854775807:=by
 have:=ZMi (k+1) k []
 simp [ZMb,B5] at this ⊢
 omega
end
section
open Go.RowKit
def mTx (k:Int):ByteArray:=ZMb k.toNat
theorem ZJ1 (k:Int) (w:World) (h0:1≤k) (h1:k≤4611686018427387904):
  Calls Tryz.prog 99 #[.int .i64 k] w fun e w'=>e=.returned (.string (mTx k))∧Below w.heap.size w w':=by
 obtain ⟨n,rfl⟩:=AR (show 0≤k by omega)
 exact ZLU n w (by omega) (by omega)
theorem ZKw (k:Int) (h:k≤4611686018427387904):(mTx k).size≤9223372036854775807:=ZMo _ (by omega)
def ZJI:Int→List ByteArray→List ByteArray
 | _,[]=>[]
 | k,_::r=>mTx k::ZJI (k+1) r
def ZJA (k:Int) (l:List ByteArray):Int:=k+l.length
theorem ZKf (k:Int) (l:List ByteArray):(ZJI k l).length=l.length:=by induction l generalizing k with | nil=>rfl | cons x r ih=>simp [ZJI,ih]
theorem ZJ3 (k:Int) (l:List ByteArray):k≤ZJA k l:=by unfold ZJA;omega
theorem ZKy (k:Int) (l:List ByteArray):ZJA k l≤k+16 * ZrM l:=by unfold ZJA ZrM;omega
def ZKK (k:Int) (x:Zb):Zb:=⟨mTx (k),ZJI (k+1) x.args⟩
def ZJP (k:Int) (x:Zb):Int:=ZJA (k+1) x.args
def ZJ4:Int→List Zb→List Zb
 | _,[]=>[]
 | k,x::r=>ZKK k x::ZJ4 (ZJP k x) r
def ZJy:Int→List Zb→Int
 | k,[]=>k
 | k,x::r=>ZJy (ZJP k x) r
theorem ZMk (k:Int) (l:List Zb):(ZJ4 k l).length=l.length:=by induction l generalizing k with | nil=>rfl | cons x r ih=>simp [ZJ4,ih]
theorem ZKO (k:Int) (x:Zb):k≤ZJP k x:=by
 unfold ZJP
 have:=ZJ3 (k+1) x.args
 omega
theorem ZKs (k:Int) (l:List Zb):k≤ZJy k l:=by
 induction l generalizing k with
 | nil=>exact Ae _
 | cons x r ih=>exact Af (ZKO k x) (ih _)
theorem ZL6 (k:Int) (x:Zb):ZJP k x≤k+1+16 * ZgB x:=by
 unfold ZJP
 have:=ZKy (k+1) x.args
 simp only[ZgB]
 omega
theorem ZK7 (k:Int) (l:List Zb):ZJy k l≤k+16 * Zc1 l:=by
 induction l generalizing k with
 | nil=>simp [ZJy,Zc1]
 | cons x r ih=>
  have h1:=ZL6 k x
  have h2:=ih (ZJP k x)
  simp only[ZJy,Zc1,A6,AO,AT] at h2 ⊢
  omega
def ZK5 (k:Int) (x:Zt):Zt:=⟨(k),⟨mTx (k+1),ZJI (k+1+1) x.pattern.args⟩,mTx (ZJA (k+1+1) x.pattern.args),mTx (ZJA (k+1+1) x.pattern.args+1)⟩
def ZJ7 (k:Int) (x:Zt):Int:=ZJA (k+1+1) x.pattern.args+1+1
def ZKi:Int→List Zt→List Zt
 | _,[]=>[]
 | k,x::r=>ZK5 k x::ZKi (ZJ7 k x) r
def ZJQ:Int→List Zt→Int
 | k,[]=>k
 | k,x::r=>ZJQ (ZJ7 k x) r
theorem ZMg (k:Int) (l:List Zt):(ZKi k l).length=l.length:=by induction l generalizing k with | nil=>rfl | cons x r ih=>simp [ZKi,ih]
theorem ZLg (k:Int) (x:Zt):k≤ZJ7 k x:=by
 unfold ZJ7
 have:=ZJ3 (k+1+1) x.pattern.args
 omega
theorem ZKJ (k:Int) (l:List Zt):k≤ZJQ k l:=by
 induction l generalizing k with
 | nil=>exact Ae _
 | cons x r ih=>exact Af (ZLg k x) (ih _)
theorem ZMa (k:Int) (x:Zt):ZJ7 k x≤k+4+16 * ZJY x:=by
 unfold ZJ7
 have:=ZKy (k+1+1) x.pattern.args
 simp only[ZJY,ZJH]
 omega
theorem ZL0 (k:Int) (l:List Zt):ZJQ k l≤k+16 * ZJR l:=by
 induction l generalizing k with
 | nil=>simp [ZJQ,ZJR]
 | cons x r ih=>
  have h1:=ZMa k x
  have h2:=ih (ZJ7 k x)
  simp only[ZJQ,ZJR,A6,AO,AT] at h2 ⊢
  omega
def ZKA (k:Int) (x:Zz):Zz:=⟨(k),⟨mTx (k+1),ZJI (k+1+1) x.pattern.args⟩⟩
def ZJU (k:Int) (x:Zz):Int:=ZJA (k+1+1) x.pattern.args
def ZJ5:Int→List Zz→List Zz
 | _,[]=>[]
 | k,x::r=>ZKA k x::ZJ5 (ZJU k x) r
def ZJT:Int→List Zz→Int
 | k,[]=>k
 | k,x::r=>ZJT (ZJU k x) r
theorem ZLB (k:Int) (l:List Zz):(ZJ5 k l).length=l.length:=by induction l generalizing k with | nil=>rfl | cons x r ih=>simp [ZJ5,ih]
theorem ZK3 (k:Int) (x:Zz):k≤ZJU k x:=by
 unfold ZJU
 have:=ZJ3 (k+1+1) x.pattern.args
 omega
theorem ZKz (k:Int) (l:List Zz):k≤ZJT k l:=by
 induction l generalizing k with
 | nil=>exact Ae _
 | cons x r ih=>exact Af (ZK3 k x) (ih _)
theorem ZLD (k:Int) (x:Zz):ZJU k x≤k+2+16 * ZJN x:=by
 unfold ZJU
 have:=ZKy (k+1+1) x.pattern.args
 simp only[ZJN,ZJH]
 omega
theorem ZLy (k:Int) (l:List Zz):ZJT k l≤k+16 * ZJJ l:=by
 induction l generalizing k with
 | nil=>simp [ZJT,ZJJ]
 | cons x r ih=>
  have h1:=ZLD k x
  have h2:=ih (ZJU k x)
  simp only[ZJT,ZJJ,A6,AO,AT] at h2 ⊢
  omega
def ZK4 (k:Int) (x:Zg):Zg:=⟨mTx (k),(k+1),ZKi (k+1+1) x.cond,ZJ5 (ZJQ (k+1+1) x.cond) x.thn⟩
def ZJ8 (k:Int) (x:Zg):Int:=ZJT (ZJQ (k+1+1) x.cond) x.thn
def ZKr:Int→List Zg→List Zg
 | _,[]=>[]
 | k,x::r=>ZK4 k x::ZKr (ZJ8 k x) r
def ZJS:Int→List Zg→Int
 | k,[]=>k
 | k,x::r=>ZJS (ZJ8 k x) r
theorem ZLh (k:Int) (x:Zg):k≤ZJ8 k x:=by
 unfold ZJ8
 have:=ZKJ (k+1+1) x.cond
 have:=ZKz (ZJQ (k+1+1) x.cond) x.thn
 omega
theorem ZK8 (k:Int) (l:List Zg):k≤ZJS k l:=by
 induction l generalizing k with
 | nil=>exact Ae _
 | cons x r ih=>exact Af (ZLh k x) (ih _)
theorem ZL2 (k:Int) (x:Zg):ZJ8 k x≤k+2+16 * ZJO x:=by
 unfold ZJ8
 have:=ZL0 (k+1+1) x.cond
 have:=ZLy (ZJQ (k+1+1) x.cond) x.thn
 simp only[ZJO]
 omega
theorem ZLS (k:Int) (l:List Zg):ZJS k l≤k+16 * ZJL l:=by
 induction l generalizing k with
 | nil=>simp [ZJS,ZJL]
 | cons x r ih=>
  have h1:=ZL2 k x
  have h2:=ih (ZJ8 k x)
  simp only[ZJS,ZJL,A6,AO,AT] at h2 ⊢
  omega
def ZPp:Int→List (List Zb)→List (List Zb)
 | _,[]=>[]
 | k,x::r=>ZJ4 k x::ZPp (ZJy k x) r
def ZPo:Int→List (List Zb)→Int
 | k,[]=>k
 | k,x::r=>ZPo (ZJy k x) r
def ZPr (l:List (List Zb)):Nat:=l.length+(l.map Zc1).sum
theorem ZPC (k:Int) (l:List (List Zb)):(ZPp k l).length=l.length:=by induction l generalizing k with | nil=>rfl | cons x r ih=>simp [ZPp,ih]
theorem ZPt (k:Int) (l:List (List Zb)):k≤ZPo k l:=by
 induction l generalizing k with
 | nil=>exact Ae _
 | cons x r ih=>exact Af (ZKs k x) (ih _)
theorem ZPz (k:Int) (l:List (List Zb)):ZPo k l≤k+16 * ZPr l:=by
 induction l generalizing k with
 | nil=>simp [ZPo,ZPr]
 | cons x r ih=>
  have h1:=ZK7 k x
  have h2:=ih (ZJy k x)
  simp only[ZPo,ZPr,A6,AO,AT] at h2 ⊢
  omega
end
section
open Classical
theorem ZHK {F:List Zb} {x:Int} (h0:0≤x) (h1:x<((F.length:Nat):Int)):F[x.toNat]?=some (ZFu F x):=by
 unfold ZFu
 rw [A8 (show x.toNat<F.length by omega)]
theorem ZH5 {F:List Zb} {x:Int} (h0:0≤x) (h1:x<((F.length:Nat):Int)):ZFu F x∈F:=AF (ZHK h0 h1)
theorem ZHU {F:List Zb} (ha:∀f∈F,f.args.length≤1048576) (fr:QZ) (hA:∀x∈fr.assumed,0≤x∧x<((F.length:Nat):Int)) (hl:fr.assumed.length≤1000) {s:Nat} (hs:s≤9223372036854775807):ZGd F fr ((s:Nat):Int)=some ((Zhj fr.assumed s 0).map (ZFu F)):=by
 unfold ZGd
 rw [Zal (fun l i acc=>some (acc++(Zhj l s i).map (ZFu F))) (fun l i acc=>acc.length+l.length≤1000∧∀x∈l,0≤x∧x<((F.length:Nat):Int)) (fun i acc _=>by simp [Zhj]) (fun x l i acc hI=>by
  left
  obtain ⟨h1,h2⟩:=hI
  obtain ⟨x0,x1⟩:=h2 x (by simp)
  simp only[A6] at h1
  rw [Zh _ (by omega)]
  simp only[ZIN hs]
  by_cases hb:s.testBit i=true
  ·rw [if_pos hb,show atI F x=some (ZFu F x) by unfold atI;rw [if_pos x0];exact ZHK x0 x1,A0,Xb _ (ha _ (ZH5 x0 x1)),A0,Zh _ (by omega)]
   exact ⟨_,rfl,⟨by simp;omega,fun y my=>h2 y (by simp [my])⟩,by simp [Zhj,hb]⟩
  ·rw [if_neg hb]
   exact ⟨_,rfl,⟨by omega,fun y my=>h2 y (by simp [my])⟩,by simp [Zhj,hb]⟩) fr.assumed 0 [] ⟨by simpa using hl,hA⟩]
 simp
theorem ZIl {F:List Zb} (ha:∀f∈F,f.args.length≤1048576) {ρ:Type} {l:List Int} (hA:∀x∈l,0≤x∧x<((F.length:Nat):Int)) (hl:l.length≤1000) {fin:List Zb→Option ρ}:Zo (σ:=(List Zb))
  (fun (i71:Nat) (x72:Int) row_66=>
   chk (0≤x72∧x72<((F.length:Nat):Int)) <|
   (F[(AG x72)]?).bind fun x73=>
   (YA x73).bind fun v74=>
   chk (row_66.length+1≤1073741824) <|
   some (.inl (row_66++[v74]))) fin l 0 []=fin (l.map (ZFu F)):=by
 rw [Zjo (g:=ZFu F)]
 ·rfl
 ·intro j x s mx hs
  simp only[Aa,AA] at hs
  obtain ⟨x0,x1⟩:=hA x mx
  rw [Zh _ ⟨x0,x1⟩,ZHK x0 x1,A0,YN _ (ha _ (ZH5 x0 x1)),A0,Zh _ (by omega)]
def ZJw (R:List Zg) (base:List Zb) (bad:ByteArray) (f:Zb) (L:List (List Zb)) (ok:Bool):Prop:=(ok=false∧L=[])∨(ok=true∧∃F r,ZHs R base F∧Zu2 r (fun s=>s<MF (Zws R F base bad)∧lbB (Zws R F base bad) (ZY F f) s=true)∧r.length≤64∧L=r.map fun y=>ZGi F base y.toNat)
theorem ZJf {F base:List Zb}:∀x∈Qr F base,0≤x∧x<((F.length:Nat):Int):=fun x mx=>by
 obtain ⟨f,_,e,e0⟩:=((Yv F base).2.1 x).1 mx
 have:=(ZjE e e0).1
 omega
theorem ZIj {R:List Zg} (hR:Zbc R) (base:List Zb) (hb20:base.length≤1048576) (bad:ByteArray) (f:Zb):∃L ok,ZGy R base bad f=some (L,ok)∧ZGt R base bad f=some (L,ok)∧ZJw R base bad f L ok:=by
 obtain ⟨F,fr,ok,h1,h2,h3⟩:=ZId hR base hb20 bad
 unfold ZGy ZGt
 rw [h1,h2,A0,A0]
 rcases h3 with ⟨rfl,rfl,rfl⟩ | ⟨rfl,hG,h60,h6,hm,rfl⟩
 ·exact ⟨_,_,rfl,rfl,.inl ⟨rfl,rfl⟩⟩
 ·have hW:ZHs R base F:=⟨hG,h60,h6,hm⟩
  obtain ⟨hfr,hsm⟩:=hW.frame bad
  have hargs:∀f∈F,f.args.length≤1048576:=fun f mf=>by have:=YY (hG.good.ok f mf);omega
  obtain ⟨r,r1,r2,r3,r4⟩:=ZIr hfr hsm (ZY F f)
  have hn3:=(Yv F base).2.2
  have hin:∀x∈(Zws R F base bad).assumed,0≤x∧x<((F.length:Nat):Int):=ZJf
  have hal:(Zws R F base bad).assumed.length≤1000:=by show (Qr F base).length≤1000;omega
  have h64:=(ZGY (Zur.a6 hfr)).2
  refine ⟨r.map fun y=>ZGi F base y.toNat,true,?_,?_,.inr ⟨rfl,F,r,hW,r2,r4,rfl⟩⟩
  ·rw [if_pos rfl,Zb5,A0,ZIo hfr hsm,r1,A0,Zjo (g:=fun y=>ZGi F base y.toNat)]
   ·rfl
   ·intro j y s my hs
    simp only[Aa,AA] at hs
    obtain ⟨y0,y1,_⟩:=r3 y my
    have hy:y=((y.toNat:Nat):Int):=by omega
    rw [hy,ZHU hargs _ hin hal (by omega),A0,Zh _ (by omega),AL]
    rfl
  ·rw [if_pos rfl,Zam,A0,r1,A0,Zjo (g:=fun y=>ZGi F base y.toNat)]
   ·rfl
   ·intro j y s my hs
    simp only[Aa,AA] at hs
    obtain ⟨y0,y1,_⟩:=r3 y my
    have hy:y=((y.toNat:Nat):Int):=by omega
    rw [hy,ZHg _ (by omega) (by show (Zws R F base bad).assumed.length≤1000000;omega),A0,ZIl hargs (fun x mx=>hin x ((ZGN _ _ _).subset mx)) (by have:=ZGD y.toNat (Zws R F base bad).assumed 0;omega),Zh _ (by omega),AL]
    rfl
theorem ZJw.cost {R:List Zg} {base:List Zb} {bad:ByteArray} {f:Zb} {L:List (List Zb)} {ok:Bool} (h:ZJw R base bad f L ok):L.length≤1048576∧ZPr L≤1048576:=by
 rcases h with ⟨_,rfl⟩ | ⟨_,F,r,hW,_,h64,rfl⟩
 ·simp [ZPr]
 ·have one:∀l∈r.map (fun y=>ZGi F base y.toNat),Zc1 l≤1000:=fun l ml=>by
   obtain ⟨y,_,rfl⟩:=AB.1 ml
   have hsub:=hW.pick y.toNat
   have h1:=hsub.length_le
   have h6:=hW.h6
   have h2:((ZGi F base y.toNat).map ZgB).sum≤(ZGi F base y.toNat).length * 64:=Zhg fun x mx=>Zn3 (hW.g.good.ok x (hW.g.good.inc x (hsub.subset mx)))
   unfold Zc1
   omega
  have h3:((r.map fun y=>ZGi F base y.toNat).map Zc1).sum≤(r.map fun y=>ZGi F base y.toNat).length * 1000:=Zhg fun x mx=>one x mx
  unfold ZPr
  rw [AX] at h3 ⊢
  omega
theorem ZPA (aRules:List Zg) (cz:ZJL aRules≤1048576) (_:(fun ds=>∀d∈ds,ZMv d) aRules) (aBase:List Zb) (cf:Zc1 aBase≤1048576) (_:(fun ds=>∀d∈ds,ZMm d) aBase) (aBad:ByteArray) (_:aBad.size≤1048576) (aF:Zb) (_:ZgB aF≤1048576) (_:ZMm aF):∃r b,ZGy aRules aBase aBad aF=some (r,b)∧ZGt aRules aBase aBad aF=some (r,b)∧(r.length≤1048576∧ZPr r≤1048576):=by
 have hF:aBase.length≤1048576:=by unfold Zc1 at cf;omega
 obtain ⟨r,b,h1,h2,h3⟩:=ZIj (ZL9 cz) aBase hF aBad aF
 exact ⟨r,b,h1,h2,h3.cost⟩
end
end Go.Proofs.YtfehfkfdfmcgfaaGreatDoor
