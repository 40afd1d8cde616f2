/- Texts of this proof, joined: R14, S14, F6, F7, M13, P13, F8, S15, S16, S17, P11, L13C, Q11, R11, S18, S19, S20, S21, S22, S23. What each holds is said at its theorems. -/
import Derived.Test.YtojnhepgnbhaaaaGreatDoorAskPatternQ2
set_option linter.unusedSimpArgs false
set_option linter.unusedVariables false
namespace Go.Proofs.YtojnhepgnbhaaaaGreatDoor
section
variable {α σ ρ:Type} {body:Nat→α→σ→Option (σ ⊕ ρ)}
theorem Zmg (I:List α→σ→Prop) (Q:ρ→Prop):∀(l pre:List α) (s:σ),I pre s→(∀p x s,x∈l→p.length<pre.length+l.length→I p s→(∃s',body p.length x s=some (.inl s')∧I (p++[x]) s')∨∃r,body p.length x s=some (.inr r)∧Q r)→
  (∃s',(∀fin:σ→Option ρ,Zp body fin l pre.length s=fin s')∧I (pre++l) s')∨∃r,(∀fin:σ→Option ρ,Zp body fin l pre.length s=some r)∧Q r
 | [],pre,s,h,_=>.inl ⟨s,fun _=>rfl,by simpa using h⟩
 | x::l,pre,s,h,hs=>by
  rcases hs pre x s (by simp) (by simp) h with ⟨s',e,h'⟩ | ⟨r,e,h'⟩
  ·rcases Zmg I Q l (pre++[x]) s' h' fun p y s m hp hI=>hs p y s (by simp [m]) (by simp at hp ⊢;omega) hI with ⟨s2,e2,h2⟩ | ⟨r,e2,h2⟩
   ·refine .inl ⟨s2,fun fin=>?_,by simpa using h2⟩
    rw [Ye e]
    simpa using e2 fin
   ·refine .inr ⟨r,fun fin=>?_,h2⟩
    rw [Ye e]
    simpa using e2 fin
  ·exact .inr ⟨r,fun fin=>Yy e,h'⟩
theorem Zbo (I:List α→σ→Prop) (Q:ρ→Prop) (l:List α) (s:σ) (h:I [] s) (hs:∀p x s,x∈l→p.length<l.length→I p s→(∃s',body p.length x s=some (.inl s')∧I (p++[x]) s')∨∃r,body p.length x s=some (.inr r)∧Q r):
  (∃s',(∀fin:σ→Option ρ,Zp body fin l 0 s=fin s')∧I l s')∨∃r,(∀fin:σ→Option ρ,Zp body fin l 0 s=some r)∧Q r:=by
 have:=Zmg I Q l [] s h fun p x s m hp hI=>hs p x s m (by simpa using hp) hI
 simpa using this
theorem Zez (I:List α→σ→Prop) (l:List α) (s:σ) (h:I [] s) (hs:∀p x s,x∈l→p.length<l.length→I p s→∃s',body p.length x s=some (.inl s')∧I (p++[x]) s'):∃s',(∀fin:σ→Option ρ,Zp body fin l 0 s=fin s')∧I l s':=by
 rcases Zbo I (fun _=>False) l s h fun p x s m hp hI=>.inl (hs p x s m hp hI) with h | ⟨_,_,h⟩
 ·exact h
 ·exact h.elim
end
def XM (r:Zf):List ByteArray:=r.thn.filterMap fun x=>if x.kind=1∨x.kind=2 then some x.pattern.rel else none
def Yr (r:Zf):List ByteArray:=r.cond.filterMap fun x=>if x.kind=1∨x.kind=2 then some x.pattern.rel else none
theorem ZoM (r:Zf):(XM r).length≤r.thn.length:=List.length_filterMap_le _ _
theorem Zlh (r:Zf):(Yr r).length≤r.cond.length:=List.length_filterMap_le _ _
theorem ZgI (r:Zf) (h:r.thn.length≤1048576):Qm r=some (ZR (XM r)):=by
 unfold Qm
 rw [YY (g:=fun x:Zr=>if x.kind=1∨x.kind=2 then some x.pattern.rel else none)]
 ·have:=ZoM r
  simp only [List.nil_append]
  show (Yp (XM r)).bind _=_
  rw [X9 _ (by omega)]
  rfl
 ·intro j x s _ hs
  simp at hs
  by_cases h1:x.kind=1
  ·simp only [h1,beq_self_eq_true,if_true];rw [Zj _ (by omega)];rfl
  ·by_cases h2:x.kind=2
   ·have:((2:Int)==1)=false:=by decide
    simp only [h2,this,Bool.false_eq_true,if_false,beq_self_eq_true,if_true];rw [Zj _ (by omega)];rfl
   ·simp [h1,h2]
theorem Znt (r:Zf) (h:r.cond.length≤1048576):ZbA r=some (ZR (Yr r)):=by
 unfold ZbA
 rw [YY (g:=fun x:Zm=>if x.kind=1∨x.kind=2 then some x.pattern.rel else none)]
 ·have:=Zlh r
  simp only [List.nil_append]
  show (Yp (Yr r)).bind _=_
  rw [X9 _ (by omega)]
  rfl
 ·intro j x s _ hs
  simp at hs
  by_cases h1:x.kind=1
  ·simp only [h1,beq_self_eq_true,if_true];rw [Zj _ (by omega)];rfl
  ·by_cases h2:x.kind=2
   ·have:((2:Int)==1)=false:=by decide
    simp only [h2,this,Bool.false_eq_true,if_false,beq_self_eq_true,if_true];rw [Zj _ (by omega)];rfl
   ·simp [h1,h2]
theorem Ziy {α:Type} (kd:α→Int) (f:α→ByteArray):∀(l:List α) (acc:List ByteArray),l.foldl (fun s x=>if kd x=1∨kd x=2 then Qk s (f x) else s) acc=(l.filterMap fun x=>if kd x=1∨kd x=2 then some (f x) else none).foldl Qk acc
 | [],_=>rfl
 | x::l,acc=>by
  rw [List.foldl_cons,Ziy kd f l]
  by_cases h:kd x=1∨kd x=2<;>simp [h]
theorem ZgO (r:Zf) (h:r.thn.length≤1048576):QW r=some (ZR (XM r)):=by
 unfold QW
 rw [ZaR (f:=fun s (x:Zr)=>if x.kind=1∨x.kind=2 then Qk s x.pattern.rel else s) (fun j s=>s.length≤j) (by simp)]
 ·congr 1
  exact Ziy (fun x:Zr=>x.kind) (fun x=>x.pattern.rel) r.thn []
 ·intro j x s _ _ hl hI
  have:=ZcC x.pattern.rel s
  by_cases h1:x.kind=1
  ·simp only [h1,beq_self_eq_true,if_true,true_or];rw [Qh _ _ (by omega)];exact ⟨rfl,by omega⟩
  ·by_cases h2:x.kind=2
   ·have:((2:Int)==1)=false:=by decide
    simp only [h2,this,Bool.false_eq_true,if_false,beq_self_eq_true,if_true,or_true];rw [Qh _ _ (by omega)];exact ⟨rfl,by omega⟩
   ·simp [h1,h2];omega
theorem ZnC (r:Zf) (h:r.cond.length≤1048576):Zbx r=some (ZR (Yr r)):=by
 unfold Zbx
 rw [ZaR (f:=fun s (x:Zm)=>if x.kind=1∨x.kind=2 then Qk s x.pattern.rel else s) (fun j s=>s.length≤j) (by simp)]
 ·congr 1
  exact Ziy (fun x:Zm=>x.kind) (fun x=>x.pattern.rel) r.cond []
 ·intro j x s _ _ hl hI
  have:=ZcC x.pattern.rel s
  by_cases h1:x.kind=1
  ·simp only [h1,beq_self_eq_true,if_true,true_or];rw [Qh _ _ (by omega)];exact ⟨rfl,by omega⟩
  ·by_cases h2:x.kind=2
   ·have:((2:Int)==1)=false:=by decide
    simp only [h2,this,Bool.false_eq_true,if_false,beq_self_eq_true,if_true,or_true];rw [Qh _ _ (by omega)];exact ⟨rfl,by omega⟩
   ·simp [h1,h2];omega
def Zhy (R:List Zf) (x y:ByteArray):Prop:=∃r∈R,x∈XM r∧y∈Yr r
inductive XC (R:List Zf) (a:ByteArray):ByteArray→Prop
 | one {y:ByteArray}:Zhy R a y→XC R a y
 | next {x y:ByteArray}:XC R a x→Zhy R x y→XC R a y
theorem XC.step {R:List Zf} {a x y:ByteArray} (hx:x=a∨XC R a x) (h:Zhy R x y):XC R a y:=by
 rcases hx with rfl | hx
 ·exact .one h
 ·exact .next hx h
structure ZbJ (R:List Zf):Prop where
 s:∀r∈R,Zbf r
 n:(R.flatMap Yr).length≤1048576
theorem ZfE {m:List (ByteArray × Bool)} {k y:ByteArray}:Q6 (Ze1 m k true) y false=if y=k then true else Q6 m y false:=by
 unfold Q6
 induction m with
 | nil=>
  by_cases h:y=k<;>simp [Ze1,Zfc,h]
 | cons p r ih=>
  simp only [Ze1]
  by_cases h:k=p.1
  ·subst h
   rw [if_pos rfl]
   by_cases h2:y=p.1
   ·simp [Zfc,h2]
   ·simp [Zfc,h2]
  ·rw [if_neg h]
   by_cases h2:y=p.1
   ·subst h2
    have:¬p.1=k:=fun e=>h e.symm
    simp [Zfc,this]
   ·simp only [Zfc,if_neg h2];exact ih
def Zb3 (m:List (ByteArray × Bool)) (y:ByteArray):Prop:=Q6 m y false=true
def Zft (U:List ByteArray) (m:List (ByteArray × Bool)):Nat:=U.countP fun y=>!Q6 m y false
theorem ZiC {α:Type} {p q:α→Bool}:∀{l:List α},(∀x∈l,p x=true→q x=true)→∀y∈l,p y=false→q y=true→l.countP p+1≤l.countP q
 | x::l,h,y,hy,h1,h2=>by
  rw [List.countP_cons,List.countP_cons]
  have hle:l.countP p≤l.countP q:=List.countP_mono_left fun z mz=>h z (by simp [mz])
  have hx:=h x (by simp)
  rcases List.mem_cons.1 hy with rfl | hy
  ·simp [h1,h2];omega
  ·have ih:=ZiC (p:=p) (q:=q) (l:=l) (fun z mz=>h z (by simp [mz])) y hy h1 h2
   cases hp:p x with
   | true=>simp [hx hp];omega
   | false=>cases q x<;>simp<;>omega
structure Zo7 (U:List ByteArray) (P:ByteArray→Prop) (s0 s:List (ByteArray × Bool) × List ByteArray):Prop where
 mono:∀y,Zb3 s0.1 y→Zb3 s.1 y
 fresh:∀y,Zb3 s.1 y→Zb3 s0.1 y∨(P y∧y∈s.2)
 sub:∀y∈s0.2,y∈s.2
 row:∀y∈s.2,y∈s0.2∨Zb3 s.1 y
 cnt:Zft U s.1+s.2.length≤Zft U s0.1+s0.2.length
theorem Zo7.refl (U:List ByteArray) (P:ByteArray→Prop) (s:List (ByteArray × Bool) × List ByteArray):Zo7 U P s s:=⟨fun _ h=>h,fun _ h=>.inl h,fun _ h=>h,fun _ h=>.inl h,Nat.le_refl _⟩
theorem Zo7.push {U:List ByteArray} {P:ByteArray→Prop} {s0:List (ByteArray × Bool) × List ByteArray} {m:List (ByteArray × Bool)} {row:List ByteArray} (h:Zo7 U P s0 (m,row)) {y:ByteArray} (hy:Q6 m y false=false) (hU:y∈U) (hP:P y):Zo7 U P s0 (Ze1 m y true,row++[y]):=by
 have hS:∀z,Zb3 (Ze1 m y true) z↔z=y∨Zb3 m z:=fun z=>by
  unfold Zb3
  rw [ZfE]
  by_cases e:z=y<;>simp [e]
 refine ⟨fun z hz=>(hS z).2 (.inr (h.mono z hz)),fun z hz=>?_,fun z hz=>List.mem_append.2 (.inl (h.sub z hz)),fun z hz=>?_,?_⟩
 ·rcases (hS z).1 hz with rfl | hz
  ·exact .inr ⟨hP,by simp⟩
  ·exact (h.fresh z hz).imp id fun ⟨a,b⟩=>⟨a,List.mem_append.2 (.inl b)⟩
 ·rcases List.mem_append.1 hz with hz | hz
  ·exact (h.row z hz).imp id fun hh=>(hS z).2 (.inr hh)
  ·exact .inr ((hS z).2 (.inl (by simpa using hz)))
 ·have h1:=h.cnt
  have h2:Zft U (Ze1 m y true)+1≤Zft U m:=ZiC (fun z _ hz=>by
   rw [ZfE] at hz
   by_cases e:z=y
   ·simp [e] at hz
   ·simpa [e] using hz) y hU (by rw [ZfE];simp) (by simp [hy])
  show _+(row++[y]).length≤_
  rw [List.length_append]
  simp only at h1 ⊢
  simp
  omega
theorem ZiQ {σ ρ:Type} {body:σ→Option (σ ⊕ ρ)} {s s':σ} (h:body s=some (.inl s')):Zdu body s=Zdu body s':=by rw [Zic,h]
theorem Zef {σ ρ:Type} {body:σ→Option (σ ⊕ ρ)} {s:σ} {r:ρ} (h:body s=some (.inr r)):Zdu body s=some r:=by rw [Zic,h]
theorem ZlI {R:List Zf} (hR:ZbJ R) (a:ByteArray):∃m,ZcM R a=some m∧∀y,Zb3 m y↔XC R a y:=by
 have hU:∀r∈R,∀y∈Yr r,y∈R.flatMap Yr:=fun r mr y my=>List.mem_flatMap.2 ⟨r,mr,my⟩
 have key:∀(n:Nat) (m:List (ByteArray × Bool)) (row:List ByteArray),Zft (R.flatMap Yr) m+row.length≤n→n≤1048577→(∀y,Zb3 m y→XC R a y)→(∀y∈row,y=a∨Zb3 m y)→(∀z,(z=a∨Zb3 m z)→z∈row∨∀y,Zhy R z y→Zb3 m y)→
   ∃m',Zdu (σ:=(List (ByteArray × Bool)) × (List ByteArray)) (fun s=>
   match s with
   | (mp_42,row_43)=>
   if (decide (0<((row_43.length:Nat):Int)))=true then
    chk (0≤0∧0<((row_43.length:Nat):Int)) <|
    (row_43[(Int.toNat 0)]?).bind fun x44=>
    chk (0≤1∧1≤((row_43.length:Nat):Int)) <|
    Zp (σ:=(List (ByteArray × Bool)) × (List ByteArray))
     (fun (i72:Nat) (x73:Zf) s=>
      match s with
      | (mp_57,row_58)=>
      (Qm x73).bind fun v74=>
      (Xh v74 x44).bind fun v75=>
      if v75=true then
       (ZbA x73).bind fun v76=>
       Zp (σ:=(List (ByteArray × Bool)) × (List ByteArray))
        (fun (i83:Nat) (x84:ByteArray) s=>
         match s with
         | (mp_80,row_81)=>
         if (Q6 mp_80 x84 false)=true then
          some (.inl (mp_80,row_81))
         else
          chk (row_81.length+1≤1073741824) <|
          some (.inl ((Ze1 mp_80 x84 true),(row_81++[x84]))))
        (fun s=>
         match s with
         | (mp_80,row_81)=>
         some (.inl (mp_80,row_81)))
        v76 0 (mp_57,row_58)
      else
       some (.inl (mp_57,row_58)))
     (fun s=>
      match s with
      | (mp_57,row_58)=>
      some (.inl (mp_57,row_58)))
     R 0 (mp_42,(List.drop (Int.toNat 1) row_43))
   else
    some (.inr mp_42)) (m,row)=some m'∧∀y,Zb3 m' y↔XC R a y:=by
  intro n
  induction n with
  | zero=>
   intro m row hn _ h1 h2 h3
   have hr:row=[]:=List.eq_nil_of_length_eq_zero (by omega)
   subst hr
   refine ⟨m,by rw [Zic];rfl,fun y=>⟨h1 y,fun hy=>?_⟩⟩
   induction hy with
   | one h=>exact ((h3 _ (.inl rfl)).resolve_left (by simp)) _ h
   | next _ h ih=>exact ((h3 _ (.inr ih)).resolve_left (by simp)) _ h
  | succ n ih=>
   intro m row hn hN h1 h2 h3
   cases row with
   | nil=>
    refine ⟨m,by rw [Zic];rfl,fun y=>⟨h1 y,fun hy=>?_⟩⟩
    induction hy with
    | one h=>exact ((h3 _ (.inl rfl)).resolve_left (by simp)) _ h
    | next _ h ih=>exact ((h3 _ (.inr ih)).resolve_left (by simp)) _ h
   | cons x rest=>
    have hx:x=a∨XC R a x:=(h2 x (by simp)).imp id (h1 x)
    have hn':Zft (R.flatMap Yr) m+rest.length≤n:=by simp at hn;omega
    obtain ⟨s',e,hg,hd⟩:=Zez (ρ:=((List (ByteArray × Bool)) × (List ByteArray)) ⊕ (List (ByteArray × Bool))) (body:=fun (i72:Nat) (x73:Zf) (s:(List (ByteArray × Bool)) × (List ByteArray))=>
      match s with
      | (mp_57,row_58)=>
      (Qm x73).bind fun v74=>
      (Xh v74 x).bind fun v75=>
      if v75=true then
       (ZbA x73).bind fun v76=>
       Zp (σ:=(List (ByteArray × Bool)) × (List ByteArray))
        (fun (i83:Nat) (x84:ByteArray) s=>
         match s with
         | (mp_80,row_81)=>
         if (Q6 mp_80 x84 false)=true then
          some (.inl (mp_80,row_81))
         else
          chk (row_81.length+1≤1073741824) <|
          some (.inl ((Ze1 mp_80 x84 true),(row_81++[x84]))))
        (fun s=>
         match s with
         | (mp_80,row_81)=>
         some (.inl (mp_80,row_81)))
        v76 0 (mp_57,row_58)
      else
       some (.inl (mp_57,row_58))) (fun pre s=>Zo7 (R.flatMap Yr) (XC R a) (m,rest) s∧∀r∈pre,x∈XM r→∀y∈Yr r,Zb3 s.1 y) R (m,rest) ⟨Zo7.refl _ _ _,by simp⟩ fun p r s mr hp hI=>by
     obtain ⟨mp,rw_⟩:=s
     obtain ⟨hg,hd⟩:=hI
     have hsm:=hR.s r mr
     show ∃s',(Qm r).bind _=_∧_
     rw [ZgI r hsm.tl]
     simp only [Option.bind_some]
     rw [QY]
     simp only [Option.bind_some]
     by_cases hw:x∈XM r
     ·have hh:YE (ZR (XM r)) x=true:=by rw [X8,ZW];exact hw
      rw [if_pos hh,Znt r hsm.cl]
      simp only [Option.bind_some]
      obtain ⟨s2,e2,hg2,hd2⟩:=Zez (ρ:=((List (ByteArray × Bool)) × (List ByteArray)) ⊕ (((List (ByteArray × Bool)) × (List ByteArray)) ⊕ (List (ByteArray × Bool)))) (body:=fun (i83:Nat) (x84:ByteArray) (s:(List (ByteArray × Bool)) × (List ByteArray))=>
         match s with
         | (mp_80,row_81)=>
         if (Q6 mp_80 x84 false)=true then
          some (.inl (mp_80,row_81))
         else
          chk (row_81.length+1≤1073741824) <|
          some (.inl ((Ze1 mp_80 x84 true),(row_81++[x84])))) (fun pre s=>Zo7 (R.flatMap Yr) (XC R a) (m,rest) s∧(∀y,Zb3 mp y→Zb3 s.1 y)∧∀y∈pre,Zb3 s.1 y) (ZR (Yr r)) (mp,rw_) ⟨hg,fun _ h=>h,by simp⟩ fun p y s my hp hI=>by
       obtain ⟨m2,row2⟩:=s
       obtain ⟨g2,g3,g4⟩:=hI
       have hyr:y∈Yr r:=ZW.1 my
       by_cases hs:Q6 m2 y false=true
       ·refine ⟨(m2,row2),by simp only [hs,if_true],g2,g3,fun z mz=>?_⟩
        rcases List.mem_append.1 mz with mz | mz
        ·exact g4 z mz
        ·rw [List.mem_singleton.1 mz];exact hs
       ·have hf:Q6 m2 y false=false:=by simpa using hs
        have hc:=g2.cnt
        have hG:=g2.push hf (hU r mr y hyr) (XC.step hx ⟨r,mr,hw,hyr⟩)
        have hmono:∀z,Zb3 m2 z→Zb3 (Ze1 m2 y true) z:=fun z hz=>by
         unfold Zb3 at *;rw [ZfE];by_cases e:z=y<;>simp [e,hz]
        refine ⟨(Ze1 m2 y true,row2++[y]),?_,hG,fun z hz=>hmono z (g3 z hz),fun z mz=>?_⟩
        ·simp only [hf,Bool.false_eq_true,if_false]
         rw [Zj _ (by simp only at hc;omega)]
        ·rcases List.mem_append.1 mz with mz | mz
         ·exact hmono z (g4 z mz)
         ·rw [List.mem_singleton.1 mz];unfold Zb3;rw [ZfE];simp
      refine ⟨s2,by rw [e2],hg2,fun q mq hq y my=>?_⟩
      rcases List.mem_append.1 mq with mq | mq
      ·exact hd2.1 y (hd q mq hq y my)
      ·rw [List.mem_singleton.1 mq] at my
       exact hd2.2 y (ZW.2 my)
     ·have hh:YE (ZR (XM r)) x=false:=by
       cases hq:YE (ZR (XM r)) x with
       | false=>rfl
       | true=>rw [X8,ZW] at hq;exact absurd hq hw
      refine ⟨(mp,rw_),by rw [if_neg (by rw [hh];simp)],hg,fun q mq hq=>?_⟩
      rcases List.mem_append.1 mq with mq | mq
      ·exact hd q mq hq
      ·rw [List.mem_singleton.1 mq] at hq;exact absurd hq hw
    obtain ⟨m',row'⟩:=s'
    obtain ⟨m2,r1,r2⟩:=ih m' row' (by have:=hg.cnt;simp only at this;omega) (by omega)
     (fun y hy=>(hg.fresh y hy).elim (h1 y) fun h=>h.1)
     (fun y hy=>by
      rcases hg.row y hy with h | h
      ·exact (h2 y (by simp [show y∈rest from h])).imp id (hg.mono y)
      ·exact .inr h)
     (fun z hz=>by
      have old:(z=a∨Zb3 m z)→z∈row'∨∀y,Zhy R z y→Zb3 m' y:=fun hz=>by
       rcases h3 z hz with h | h
       ·rcases List.mem_cons.1 h with rfl | h
        ·exact .inr fun y ⟨r,mr,hw,hy⟩=>hd r mr hw y hy
        ·exact .inl (hg.sub z h)
       ·exact .inr fun y hy=>hg.mono y (h y hy)
      rcases hz with hz | hz
      ·exact old (.inl hz)
      ·rcases hg.fresh z hz with h | ⟨_,h⟩
       ·exact old (.inr h)
       ·exact .inl h)
    refine ⟨m2,(ZiQ ?_).trans r1,r2⟩
    show (if decide (0<(((x::rest).length:Nat):Int))=true then _ else _)=_
    rw [if_pos (decide_eq_true (by simp only [List.length_cons];omega)),Zj _ (by simp only [List.length_cons];omega)]
    show chk _ (Zp _ _ R 0 (m,rest))=_
    rw [Zj _ (by simp only [List.length_cons];omega)]
    exact e _
 unfold ZcM
 refine key (Zft (R.flatMap Yr) []+1) [] [a] (by simp) ?_ (fun y hy=>by simp [Zb3,Q6,Zfc] at hy) (fun y hy=>.inl (by simpa using hy)) (fun z hz=>.inl ?_)
 ·have:=hR.n
  have h2:Zft (R.flatMap Yr) []≤(R.flatMap Yr).length:=List.countP_le_length
  omega
 ·rcases hz with rfl | hz
  ·simp
  ·simp [Zb3,Q6,Zfc] at hz
def ZiH (U row:List ByteArray):Nat:=U.countP fun y=>!YE row y
theorem Zmf {row:List ByteArray} {y z:ByteArray}:YE (row++[y]) z=true↔YE row z=true∨z=y:=by
 rw [X8,X8,List.mem_append,List.mem_singleton]
theorem Zn3 {U row:List ByteArray} {y:ByteArray} (hU:y∈U) (hy:YE row y=false):ZiH U (row++[y])+1≤ZiH U row:=
 ZiC (fun z _ hz=>by
  cases h:YE row z with
  | false=>rfl
  | true=>have:=Zmf (y:=y).2 (.inl h);rw [this] at hz;simp at hz) y hU (by have:=Zmf (row:=row) (y:=y) (z:=y).2 (.inr rfl);rw [this];rfl) (by rw [hy];rfl)
open Classical
theorem Zjy {R:List Zf} (hR:ZbJ R) (a b:ByteArray):Za0 R a b=some (decide (XC R a b)):=by
 have hU:∀r∈R,∀y∈Yr r,y∈R.flatMap Yr:=fun r mr y my=>List.mem_flatMap.2 ⟨r,mr,my⟩
 unfold Za0
 have key:∀(n u:Nat) (row:List ByteArray),ZiH (R.flatMap Yr) row+row.length≤n+u→n+u≤1048577→u≤row.length→(∀y∈row,y=a∨XC R a y)→a∈row→(∀i x,i<u→row[i]?=some x→∀y,Zhy R x y→y∈row∧y≠b)→
   Zdu (σ:=(List ByteArray) × Int)
  (fun s=>
   match s with
   | (row_55,u_56)=>
   if (decide (u_56<((row_55.length:Nat):Int)))=true then
    Zp (σ:=(List ByteArray))
     (fun (i93:Nat) (x94:Zf) row_74=>
      (QW x94).bind fun v95=>
      chk (0≤u_56∧u_56<((row_74.length:Nat):Int)) <|
      (row_74[(Int.toNat u_56)]?).bind fun x96=>
      (ZS v95 x96).bind fun v97=>
      if v97=true then
       (Zbx x94).bind fun v98=>
       (ZS v98 b).bind fun v99=>
       if v99=true then
        some (.inr (.inr true))
       else
        Zp (σ:=(List ByteArray))
         (fun (i108:Nat) (x109:ByteArray) row_105=>
          (ZS row_105 x109).bind fun v110=>
          if v110=true then
           some (.inl row_105)
          else
           chk (row_105.length+1≤1073741824) <|
           some (.inl (row_105++[x109])))
         (fun row_105=>
          some (.inl row_105))
         v98 0 row_74
      else
       some (.inl row_74))
     (fun row_74=>
      some (.inl (row_74,(IntKind.i64.wrap (u_56+1)))))
     R 0 row_55
   else
    some (.inr false))
  (row,((u:Nat):Int))=some (decide (XC R a b)):=by
  intro n
  have fin:∀(u:Nat) (row:List ByteArray),u=row.length→a∈row→(∀i x,i<u→row[i]?=some x→∀y,Zhy R x y→y∈row∧y≠b)→¬XC R a b:=fun u row hu ha hc hb=>by
   have all:∀y,XC R a y→y∈row∧y≠b:=fun y hy=>by
    have one:∀x,x∈row→∀y,Zhy R x y→y∈row∧y≠b:=fun x mx y h=>by
     obtain ⟨i,hi⟩:=List.mem_iff_getElem?.1 mx
     exact hc i x (by rw [hu];exact (List.getElem?_eq_some_iff.1 hi).1) hi y h
    induction hy with
    | one h=>exact one a ha _ h
    | next _ h ih=>exact one _ ih.1 _ h
   exact (all b hb).2 rfl
  have stop:∀(u:Nat) (row:List ByteArray),u=row.length→a∈row→(∀i x,i<u→row[i]?=some x→∀y,Zhy R x y→y∈row∧y≠b)→decide (XC R a b)=false:=fun u row h1 h2 h3=>decide_eq_false (fin u row h1 h2 h3)
  induction n with
  | zero=>
   intro u row hn _ hu h1 ha hc
   have hu':u=row.length:=by omega
   rw [stop u row hu' ha hc]
   refine Zef ?_
   show (if decide (((u:Nat):Int)<((row.length:Nat):Int))=true then _ else _)=_
   rw [if_neg (by rw [decide_eq_true_iff];omega)]
  | succ n ih=>
   intro u row hn hN hu h1 ha hc
   by_cases hlt:u<row.length
   ·have hx:row[u]?=some row[u]:=List.getElem?_eq_getElem hlt
    generalize row[u]=x at hx
    have hxr:x=a∨XC R a x:=h1 x (List.mem_of_getElem? hx)
    rcases Zbo (ρ:=((List ByteArray) × Int) ⊕ Bool) (body:=fun (i93:Nat) (x94:Zf) (row_74:List ByteArray)=>
      (QW x94).bind fun v95=>
      chk (0≤((u:Nat):Int)∧((u:Nat):Int)<((row_74.length:Nat):Int)) <|
      (row_74[(Int.toNat ((u:Nat):Int))]?).bind fun x96=>
      (ZS v95 x96).bind fun v97=>
      if v97=true then
       (Zbx x94).bind fun v98=>
       (ZS v98 b).bind fun v99=>
       if v99=true then
        some (.inr (.inr true))
       else
        Zp (σ:=(List ByteArray))
         (fun (i108:Nat) (x109:ByteArray) row_105=>
          (ZS row_105 x109).bind fun v110=>
          if v110=true then
           some (.inl row_105)
          else
           chk (row_105.length+1≤1073741824) <|
           some (.inl (row_105++[x109])))
         (fun row_105=>
          some (.inl row_105))
         v98 0 row_74
      else
       some (.inl row_74)) (fun pre r2=>(∃q,r2=row++q)∧ZiH (R.flatMap Yr) r2+r2.length≤n+1+u∧(∀y∈r2,y=a∨XC R a y)∧∀r∈pre,x∈XM r→∀y∈Yr r,y∈r2∧y≠b) (fun z=>z=.inr true∧XC R a b) R row ⟨⟨[],by simp⟩,hn,h1,by simp⟩ fun p r r2 mr hp hI=>by
     obtain ⟨⟨q,rfl⟩,g1,g2,g3⟩:=hI
     have hsm:=hR.s r mr
     have hxq:(row++q)[u]?=some x:=by rw [List.getElem?_append_left hlt];exact hx
     rw [ZgO r hsm.tl,Option.bind_some,Zj _ (by simp;omega),Int.toNat_natCast,hxq,Option.bind_some,YW,Option.bind_some]
     by_cases hw:x∈XM r
     ·have hh:YE (ZR (XM r)) x=true:=by rw [X8,ZW];exact hw
      rw [if_pos hh,ZnC r hsm.cl,Option.bind_some,YW,Option.bind_some]
      by_cases hb:b∈Yr r
      ·have hh:YE (ZR (Yr r)) b=true:=by rw [X8,ZW];exact hb
       rw [if_pos hh]
       exact .inr ⟨_,rfl,rfl,XC.step hxr ⟨r,mr,hw,hb⟩⟩
      ·have hh:¬YE (ZR (Yr r)) b=true:=by rw [X8,ZW];exact hb
       rw [if_neg hh]
       obtain ⟨r3,e3,⟨q3,hq3⟩,k1,k2,k3⟩:=Zez (ρ:=(List ByteArray) ⊕ (((List ByteArray) × Int) ⊕ Bool)) (body:=fun (i108:Nat) (x109:ByteArray) (row_105:List ByteArray)=>
          (ZS row_105 x109).bind fun v110=>
          if v110=true then
           some (.inl row_105)
          else
           chk (row_105.length+1≤1073741824) <|
           some (.inl (row_105++[x109]))) (fun pre r3=>(∃q',r3=(row++q)++q')∧ZiH (R.flatMap Yr) r3+r3.length≤n+1+u∧(∀y∈r3,y=a∨XC R a y)∧∀y∈pre,y∈r3) (ZR (Yr r)) (row++q) ⟨⟨[],by simp⟩,g1,g2,by simp⟩ fun p y r3 my hp hI=>by
        obtain ⟨⟨q',rfl⟩,k1,k2,k3⟩:=hI
        have hyr:y∈Yr r:=ZW.1 my
        rw [YW,Option.bind_some]
        by_cases hh:YE (row++q++q') y=true
        ·rw [if_pos hh]
         refine ⟨_,rfl,⟨q',rfl⟩,k1,k2,fun z mz=>?_⟩
         rcases List.mem_append.1 mz with mz | mz
         ·exact k3 z mz
         ·rw [List.mem_singleton.1 mz];exact X8.1 hh
        ·have hf:YE (row++q++q') y=false:=by simpa using hh
         have hab:=Zn3 (hU r mr y hyr) hf
         rw [if_neg hh,Zj _ (by omega)]
         refine ⟨_,rfl,⟨q'++[y],by simp⟩,by rw [List.length_append];simp only [List.length_singleton];omega,fun z mz=>?_,fun z mz=>?_⟩
         ·rcases List.mem_append.1 mz with mz | mz
          ·exact k2 z mz
          ·rw [List.mem_singleton.1 mz];exact .inr (XC.step hxr ⟨r,mr,hw,hyr⟩)
         ·rcases List.mem_append.1 mz with mz | mz
          ·exact List.mem_append.2 (.inl (k3 z mz))
          ·exact List.mem_append.2 (.inr mz)
       refine .inl ⟨r3,e3 _,⟨q++q3,by rw [hq3];simp⟩,k1,k2,fun r' mr' hw' y my=>?_⟩
       rcases List.mem_append.1 mr' with mr' | mr'
       ·have:=g3 r' mr' hw' y my
        exact ⟨by rw [hq3];exact List.mem_append.2 (.inl this.1),this.2⟩
       ·rw [List.mem_singleton.1 mr'] at my
        exact ⟨k3 y (ZW.2 my),fun e=>hb (e ▸ my)⟩
     ·have hh:¬YE (ZR (XM r)) x=true:=by rw [X8,ZW];exact hw
      rw [if_neg hh]
      refine .inl ⟨_,rfl,⟨q,rfl⟩,g1,g2,fun r' mr' hw'=>?_⟩
      rcases List.mem_append.1 mr' with mr' | mr'
      ·exact g3 r' mr' hw'
      ·rw [List.mem_singleton.1 mr'] at hw';exact absurd hw' hw
    with ⟨r2,e,⟨q,rfl⟩,k1,k2,k3⟩ | ⟨z,e,rfl,hb⟩
    ·refine (ZiQ ?_).trans (ih (u+1) (row++q) (by omega) (by omega) (by rw [List.length_append];omega) k2 (List.mem_append.2 (.inl ha)) fun i y hi hy z hz=>?_)
     ·show (if decide (((u:Nat):Int)<((row.length:Nat):Int))=true then _ else _)=_
      rw [if_pos (decide_eq_true (by omega)),e,ZjU (by omega) (by omega)]
      rfl
     ·by_cases hiu:i<u
      ·rw [List.getElem?_append_left (by omega)] at hy
       have:=hc i y hiu hy z hz
       exact ⟨List.mem_append.2 (.inl this.1),this.2⟩
      ·have:i=u:=by omega
       subst this
       rw [List.getElem?_append_left hlt,hx] at hy
       obtain rfl:=Option.some.inj hy
       obtain ⟨r,mr,hw,hr⟩:=hz
       exact k3 r mr hw z hr
    ·rw [decide_eq_true hb]
     refine Zef ?_
     show (if decide (((u:Nat):Int)<((row.length:Nat):Int))=true then _ else _)=_
     rw [if_pos (decide_eq_true (by omega)),e]
   ·have hu':u=row.length:=by omega
    rw [stop u row hu' ha hc]
    refine Zef ?_
    show (if decide (((u:Nat):Int)<((row.length:Nat):Int))=true then _ else _)=_
    rw [if_neg (by rw [decide_eq_true_iff];omega)]
 refine key 1048577 0 [a] ?_ (by omega) (by simp) (fun y hy=>.inl (by simpa using hy)) (by simp) (fun i x hi=>by omega)
 have h1:=hR.n
 have h2:ZiH (R.flatMap Yr) [a]≤(R.flatMap Yr).length:=List.countP_le_length
 simp only [List.length_singleton]
 omega
theorem Zo5 {R:List Zf} (h:Yj R≤1048576):ZbJ R:=by
 unfold Yj at h
 refine ⟨fun r mr=>Zqe (Zlw h mr),?_⟩
 have key:∀l:List Zf,(l.flatMap Yr).length≤(l.map Yq).sum:=by
  intro l
  induction l with
  | nil=>simp
  | cons r l ih=>
   rw [List.flatMap_cons,List.length_append,List.map_cons,List.sum_cons]
   have h1:=Zlh r
   have h2:r.cond.length≤Yq r:=by simp only [Yq,YA];omega
   omega
 have:=key R
 omega
end Go.Proofs.YtojnhepgnbhaaaaGreatDoor
namespace Go.Proofs.YtojnhepgnbhaaaaGreatDoor
theorem Zrv (l:List Zf) (n:ByteArray):∃z,Zat l n=some z:=by
 unfold Zat
 rcases Zbo (ρ:=Int) (body:=fun (i4:Nat) (x5:Zf) (_:Unit)=>
   if (sEq x5.name n)=true then
    some (.inr ((i4:Nat):Int))
   else
    some (.inl ())) (fun _ _=>True) (fun _=>True) l () trivial (fun p x s mx hp _=>by
  cases h:sEq x.name n with
  | true=>exact .inr ⟨_,by rw [if_pos rfl],trivial⟩
  | false=>exact .inl ⟨(),by rw [if_neg (by simp)],trivial⟩) with ⟨s,e,_⟩ | ⟨z,e,_⟩
 ·exact ⟨-1,e _⟩
 ·exact ⟨z,e _⟩
noncomputable def ZiU (l:List Zf) (n:ByteArray):Int:=(Zat l n).getD 0
theorem ZgY (l:List Zf) (n:ByteArray):Zat l n=some (ZiU l n):=by
 obtain ⟨z,h⟩:=Zrv l n
 unfold ZiU
 rw [h];rfl
theorem ZlK (l:List Zf) (n:ByteArray):ZeG l n=some (ZiU l n):=ZgY l n
noncomputable def ZfH (R:List Zf) (j:Nat) (r:Zf):Bool:=Qj r&&(ZiU R r.name==((j:Nat):Int))
noncomputable def YI (R:List Zf):Bool:=decide (R.length≤6)&&Zbr (ZfH R) R 0
theorem ZlX {R:List Zf} (h:∀r∈R,Zbf r):ZcX R=some (YI R):=by
 unfold ZcX YI
 by_cases h6:R.length≤6
 ·rw [if_neg (by simp;omega),decide_eq_true h6,Bool.true_and,X7 (p:=ZfH R) (r:=false)]
  ·cases Zbr (ZfH R) R 0<;>rfl
  ·intro j r hj
   rw [ZiV r (h r (List.mem_of_getElem? hj)),Option.bind_some,ZgY]
   unfold ZfH
   simp only [Option.bind_some,Nat.zero_add]
   cases Qj r with
   | false=>rfl
   | true=>
    by_cases hf:ZiU R r.name=((j:Nat):Int)
    ·simp [hf]
    ·have e:(ZiU R r.name==((j:Nat):Int))=false:=by simpa using hf
     simp [e,hf]
 ·rw [if_pos (by simp;omega),decide_eq_false h6];rfl
theorem ZlA {R:List Zf} (h:∀r∈R,Zbf r):Zde R=some (YI R):=by
 unfold Zde YI
 rw [X7 (p:=ZfH R) (r:=false)]
 ·have:decide (((R.length:Nat):Int)≤6)=decide (R.length≤6):=by rw [Bool.eq_iff_iff];simp;omega
  rw [this]
  cases Zbr (ZfH R) R 0<;>simp
 ·intro j r hj
  rw [Zji r (h r (List.mem_of_getElem? hj)),Option.bind_some,ZlK]
  unfold ZfH
  simp only [Option.bind_some,Nat.zero_add]
  cases Qj r with
  | false=>rfl
  | true=>
   by_cases hf:ZiU R r.name=((j:Nat):Int)
   ·simp [hf]
   ·have e:(ZiU R r.name==((j:Nat):Int))=false:=by simpa using hf
    simp [e,hf]
open Classical
noncomputable def ZkX (R:List Zf) (rel w:ByteArray):Bool:=!sEq w rel&&!decide (XC R rel w)
noncomputable def Zg3 (R:List Zf) (r:Zf) (x:Zm):Bool:=!(x.kind==2)||(ZR (XM r)).all (ZkX R x.pattern.rel)
noncomputable def Xq (R:List Zf) (r:Zf):Bool:=Z2 r&&r.cond.all (Zg3 R r)
theorem Ze6 {R:List Zf} (hR:ZbJ R):Za7 R=some (YI R&&R.all (Xq R)):=by
 unfold Za7
 rw [ZlX hR.s,Option.bind_some]
 cases YI R with
 | false=>rfl
 | true=>
  rw [if_pos rfl,Yf (p:=Xq R) (r:=false)]
  ·cases R.all (Xq R)<;>rfl
  ·intro i r mr
   have hsm:=hR.s r mr
   rw [Zlt r hsm,Option.bind_some]
   unfold Xq
   cases Z2 r with
   | false=>rfl
   | true=>
    rw [if_pos rfl,Yf (p:=Zg3 R r) (r:=.inr false)]
    ·cases r.cond.all (Zg3 R r)<;>rfl
    ·intro i x mx
     unfold Zg3
     by_cases hk:x.kind=2
     ·obtain ⟨m,e,hm⟩:=ZlI hR x.pattern.rel
      rw [if_neg (by simp [hk]),e,Option.bind_some,ZgI r hsm.tl,Option.bind_some,Yf (p:=ZkX R x.pattern.rel) (r:=.inr (.inr false))]
      ·rw [show (!(x.kind==2))=false by simp [hk],Bool.false_or]
       cases (ZR (XM r)).all (ZkX R x.pattern.rel)<;>rfl
      ·intro i w mw
       unfold ZkX
       have:Q6 m w false=decide (XC R x.pattern.rel w):=by
        rw [Bool.eq_iff_iff,decide_eq_true_iff];exact hm w
       rw [this]
       cases sEq w x.pattern.rel<;>cases decide (XC R x.pattern.rel w)<;>rfl
     ·rw [if_pos (by simp [hk]),show (!(x.kind==2))=true by simp [hk]];rfl
theorem Zrx {α ρ:Type} {r:ρ}:∀(l:List α),Zp (σ:=Unit) (fun (_:Nat) (_:α) _=>some (.inr r)) (fun _=>some r) l 0 ()=some r
 | []=>rfl
 | _::_=>rfl
theorem ZsU (x y:ByteArray):sEq x y=sEq y x:=by
 rw [Bool.eq_iff_iff,ZT,ZT]
 exact eq_comm
theorem Ze9 {R:List Zf} (hR:ZbJ R):Zbg R=some (YI R&&R.all (Xq R)):=by
 unfold Zbg
 rw [Yf (p:=Xq R) (r:=false)]
 ·rw [ZlA hR.s,Option.bind_some]
  cases R.all (Xq R)<;>simp
 ·intro i r mr
  have hsm:=hR.s r mr
  rw [Zky r hsm,Option.bind_some]
  unfold Xq
  cases Z2 r with
  | false=>rfl
  | true=>
   rw [if_pos rfl,ZgO r hsm.tl,Option.bind_some,Yf (p:=Zg3 R r) (r:=.inr false)]
   ·cases r.cond.all (Zg3 R r)<;>rfl
   ·intro i x mx
    unfold Zg3
    by_cases hk:x.kind=2
    ·rw [Yf (p:=ZkX R x.pattern.rel) (r:=.inr (.inr false))]
     ·rw [show (!(x.kind==2))=false by simp [hk],Bool.false_or]
      cases (ZR (XM r)).all (ZkX R x.pattern.rel)<;>rfl
     ·intro i w mw
      rw [if_pos (by simp [hk]),Zjy hR,ZsU]
      unfold ZkX
      cases sEq w x.pattern.rel<;>cases decide (XC R x.pattern.rel w)<;>rfl
    ·have hf:(x.kind==2)=false:=by simp [hk]
     simp only [hf,Bool.false_eq_true,if_false]
     rw [Zrx]
     rfl
end Go.Proofs.YtojnhepgnbhaaaaGreatDoor
namespace Go.Proofs.YtojnhepgnbhaaaaGreatDoor
open Classical
noncomputable def ZeF (F:List Zc) (i:Nat) (x:Zc):Bool:=YV x&&(if i=0 then true else match F[i - 1]? with | some y=>decide (Zdt y x<0) | none=>true)
noncomputable def YQ (F:List Zc):Bool:=decide (F.length≤24)&&Zbr (ZeF F) F 0
theorem ZkY {α:Type} {p:Nat→α→Bool} {q:α→Bool} (h:∀i x,p i x=true→q x=true):∀{l:List α} {i:Nat},Zbr p l i=true→∀x∈l,q x=true
 | [],_,_=>by simp
 | y::l,i,ha=>by
  simp only [Zbr,Bool.and_eq_true] at ha
  intro x mx
  rcases List.mem_cons.1 mx with rfl | mx
  ·exact h i _ ha.1
  ·exact ZkY h ha.2 x mx
theorem ZdP {F:List Zc} (h:YQ F=true):F.length≤24∧∀f∈F,YV f=true:=by
 unfold YQ at h
 rw [Bool.and_eq_true,decide_eq_true_iff] at h
 refine ⟨h.1,ZkY (fun i x hx=>?_) h.2⟩
 unfold ZeF at hx
 rw [Bool.and_eq_true] at hx
 exact hx.1
theorem X4 {f:Zc} (h:YV f=true):f.args.length≤3:=by
 unfold YV at h
 simp only [Bool.and_eq_true,decide_eq_true_iff] at h
 exact h.1.2
theorem Zmv {F:List Zc} (hl:F.length≤1048576) {i:Nat} {x:Zc} (hx:F[i]?=some x):
  (if YV x=true then (if (decide (0<((i:Nat):Int)))=true then (atI F (IntKind.i64.wrap (((i:Nat):Int) - 1))).bind fun x11=>(some (Zdt x11 x)).bind fun v12=>if (decide (0≤v12))=true then some (.inr false) else some (.inl ()) else some (.inl ())) else some (.inr false):Option (Unit ⊕ Bool))
   = some (bif ZeF F i x then .inl () else .inr false):=by
 have hi:=(List.getElem?_eq_some_iff.1 hx).1
 unfold ZeF
 cases YV x with
 | false=>rfl
 | true=>
  rw [if_pos rfl]
  by_cases h0:i=0
  ·subst h0
   rw [if_neg (by simp)]
   simp
  ·have hg:F[i - 1]?=some F[i - 1]:=List.getElem?_eq_getElem (by omega)
   rw [if_pos (by simp;omega),show ((i:Nat):Int) - 1=((i - 1:Nat):Int) by omega,ZdA (by omega) (by omega),Zcm,hg,Option.bind_some,Option.bind_some,if_neg h0]
   by_cases hc:Zdt F[i - 1] x<0
   ·rw [if_neg (by simpa using hc)]
    simp [hc]
   ·rw [if_pos (by simpa using hc)]
    simp [hc]
theorem Zgx (F:List Zc):ZcU F=some (YQ F):=by
 unfold ZcU YQ
 by_cases h:F.length≤24
 ·rw [if_neg (by simp;omega),decide_eq_true h,X7 (p:=ZeF F) (r:=false)]
  ·cases Zbr (ZeF F) F 0<;>rfl
  ·intro j x hx
   rw [Nat.zero_add,Zi8,Option.bind_some]
   simp only [Zdx]
   exact Zmv (by omega) hx
 ·rw [if_pos (by simp;omega),decide_eq_false h]
  rfl
theorem ZgZ (F:List Zc) (hl:F.length≤1048576):ZcW F=some (YQ F):=by
 unfold ZcW YQ
 rw [X7 (p:=ZeF F) (r:=false)]
 ·have:decide (((F.length:Nat):Int)≤24)=decide (F.length≤24):=by rw [Bool.eq_iff_iff];simp;omega
  rw [this]
  cases Zbr (ZeF F) F 0<;>simp
 ·intro j x hx
  rw [Nat.zero_add,ZiZ,Option.bind_some]
  simp only [ZdG]
  exact Zmv hl hx
theorem ZfX (l:List Zc) (hl:l.length≤1048576) (h:∀f∈l,f.args.length≤1048576):ZaF l=some l:=by
 unfold ZaF
 rw [Zov (g:=fun y=>y)]
 ·simp
 ·intro j y s my hs
  rw [Xd y (h y my),Option.bind_some,Zj _ (by simp at hs;omega)]
theorem ZdV (l:List Zc) (hl:l.length≤1048576) (h:∀f∈l,f.args.length≤1048576):Zax l=some l:=by
 unfold Zax
 rw [Zov (g:=fun y=>y)]
 ·simp
 ·intro j y s my hs
  rw [XE y (h y my),Option.bind_some,Zj _ (by simp at hs;omega)]
structure Zsr (F:List Zc) (t:Zt):Prop where
 bind:t.binding.length≤6
 len:t.facts.length≤4
 args:∀f∈t.facts,f.args.length≤3
theorem Zlu.s {p:List Zm} {F:List Zc} {t:Zt} (h:Zlu p F t) (hp:p.length≤4) (hF:∀f∈F,f.args.length≤3):Zsr F t:=
 ⟨QN h.bind,by have:=h.len;omega,fun f mf=>hF f (h.sub f mf)⟩
theorem ZmX {ρ:Type} {x:Zm} {F:List Zc} {body:Nat→Zt→List Zt→Option (List Zt ⊕ ρ)} {fin:List Zt→Option ρ} (hF:F.length≤24) (ts:List Zt) (hts:ts.length≤331776)
  (hb:∀i t row,t∈ts→row.length≤10000000→body i t row=some (.inl (row++Zil x F t))):Zp body fin ts 0 []=fin (Zfe x F ts):=by
 have hst:Zfe x F []=[]:=rfl
 rw [←hst,ZaP (fun p=>Zfe x F p) ts]
 intro p t q e
 have hl:=Zkj x F hF p
 have hp:p.length≤ts.length:=by rw [e];simp
 rw [hb _ _ _ (by rw [e];simp) (by omega)]
 unfold Zfe
 rw [List.flatMap_append]
 simp
theorem ZgK (l:List Zm) (F:List Zc) (hl:l.length≤4) (hF:F.length≤24) (hA:∀f∈F,f.args.length≤3):Zaw l F=some (ZQ l F):=by
 unfold Zaw
 have h0:ZQ [] F=[({ facts:=[],binding:=[] }:Zt)]:=rfl
 rw [←h0,ZaP (fun p=>ZQ p F) l]
 intro p x q e
 have hpl:p.length+(q.length+1)=l.length:=by rw [e,List.length_append,List.length_cons]
 rw [Zcj]
 refine ZmX (fin:=fun r=>(some (Sum.inl r):Option (List Zt ⊕ List Zt))) hF (ZQ p F) (ZeB F hF p (by omega)) (fun i t row mt hr=>?_)
 have ht:=(Zd8 F p t mt).s (by omega) hA
 unfold Zil
 by_cases hk:x.kind=1
 ·rw [if_neg (by simpa using hk),if_pos hk,YY (g:=fun f=>(Za5 x.pattern f t.binding).map fun b=>({ facts:=t.facts++[f],binding:=b }:Zt))]
  intro j f s mf hs
  rw [Zfw,Option.bind_some,ZeO]
  cases hm:Za5 x.pattern f t.binding with
  | none=>simp
  | some b=>
   simp only [Option.isSome_some,if_true]
   rw [ZfX _ (by have:=ht.len;omega) (fun g mg=>by have:=ht.args g mg;omega),Option.bind_some,Xd f (by have:=hA f mf;omega),Option.bind_some,Zj _ (by have:=ht.len;omega),Zj _ (by omega)]
   rfl
 ·rw [if_pos (by simpa using hk),if_neg hk,Zj4 _ _ _ (by omega) (fun f mf=>by have:=hA f mf;omega),Option.bind_some]
  split
  ·rw [Zj _ (by omega)]
  ·simp
theorem ZnT {F:List Zc} {t:Zt} (ht:Zsr F t):Zfp t=some t:=by
 unfold Zfp ZbX
 rw [ZdV _ (by have:=ht.len;omega) (fun g mg=>by have:=ht.args g mg;omega),Option.bind_some,Zj _ (by have:=ht.bind;omega)]
 rfl
theorem Zoz (ts:List Zt) (x:Zm) (F:List Zc) (hts:ts.length≤331776) (hF:F.length≤24) (hA:∀f∈F,f.args.length≤3) (ht:∀t∈ts,Zsr F t):Zf1 ts x F=some (Zfe x F ts):=by
 unfold Zf1
 refine ZmX (fin:=fun r=>some r) hF ts hts (fun i t row mt hr=>?_)
 have ht:=ht t mt
 have htb:=ht.bind
 unfold Zil
 by_cases hk:x.kind=1
 ·rw [if_neg (by simpa using hk),if_pos hk,YY (g:=fun f=>(Za5 x.pattern f t.binding).map fun b=>({ facts:=t.facts++[f],binding:=b }:Zt))]
  intro j f s mf hs
  rw [ZfT _ _ _ (by omega),Option.bind_some,ZeO]
  cases hm:Za5 x.pattern f t.binding with
  | none=>simp
  | some b=>
   simp only [Option.isSome_some,if_true]
   rw [ZdV _ (by have:=ht.len;omega) (fun g mg=>by have:=ht.args g mg;omega),Option.bind_some,XE f (by have:=hA f mf;omega),Option.bind_some,Zj _ (by have:=ht.len;omega),Zj _ (by omega)]
   rfl
 ·rw [if_pos (by simpa using hk),if_neg hk,ZkA _ _ _ (by omega) (by omega) (fun f mf=>by have:=hA f mf;omega),Option.bind_some]
  split
  ·rw [ZnT ht,Option.bind_some,Zj _ (by omega)]
  ·simp
theorem ZgQ (l:List Zm) (F:List Zc) (hl:l.length≤4) (hF:F.length≤24) (hA:∀f∈F,f.args.length≤3):Zay l F=some (ZQ l F):=by
 unfold Zay
 have h0:ZQ [] F=[({ facts:=[],binding:=[] }:Zt)]:=rfl
 rw [←h0,ZaP (fun p=>ZQ p F) l]
 intro p x q e
 have hpl:p.length+(q.length+1)=l.length:=by rw [e,List.length_append,List.length_cons]
 rw [Zcj,Zoz _ _ _ (ZeB F hF p (by omega)) hF hA (fun t mt=>(Zd8 F p t mt).s (by omega) hA)]
 rfl
theorem ZhQ {R:List Zf} (h:YI R=true):R.length≤6∧∀r∈R,Qj r=true:=by
 unfold YI at h
 rw [Bool.and_eq_true,decide_eq_true_iff] at h
 refine ⟨h.1,ZkY (fun i x hx=>?_) h.2⟩
 unfold ZfH at hx
 rw [Bool.and_eq_true] at hx
 exact hx.1
theorem Zq9 {r:Zf} (h:Qj r=true):∀a∈r.thn,a.kind=1→Z1 a.pattern=true∧∀v∈a.pattern.args,Yt v=true→v∈YK r.cond:=by
 intro a ma hk
 unfold Qj at h
 simp only [Bool.and_eq_true] at h
 have ha:=List.all_eq_true.1 h.1.2 a ma
 rw [Bool.and_eq_true] at ha
 obtain ⟨h1,h2⟩:=ha
 unfold Xu at h1
 rw [if_pos (.inl hk)] at h1
 refine ⟨h1,fun v mv hv=>?_⟩
 have:=List.all_eq_true.1 h2 v (Zbq.2 ⟨mv,hv⟩)
 rw [X8] at this
 unfold YJ at this
 rw [ZW,List.take_length] at this
 exact this
end Go.Proofs.YtojnhepgnbhaaaaGreatDoor
namespace Go.Proofs.YtojnhepgnbhaaaaGreatDoor
open Classical
theorem Zgl {α:Type}:∀{l m:List α},l.Nodup→(∀x∈l,x∈m)→l.length≤m.length
 | [],_,_,_=>Nat.zero_le _
 | x::l,m,h,hs=>by
  rw [List.nodup_cons] at h
  have hx:x∈m:=hs x (by simp)
  have h2:=Zgl (m:=m.erase x) h.2 (fun y my=>(List.mem_erase_of_ne (fun e=>h.1 (by rw [←e];exact my))).2 (hs y (by simp [my])))
  rw [List.length_erase_of_mem hx] at h2
  have:=List.length_pos_of_mem hx
  simp only [List.length_cons]
  omega
theorem Zp2 {α:Type} {l m:List α} (hl:l.Nodup) (hs:∀x∈l,x∈m) (hm:m.length≤l.length):∀x∈m,x∈l:=fun x mx=>by
 refine Classical.byContradiction fun hn=>?_
 have:=Zgl (l:=x::l) (m:=m) (List.nodup_cons.2 ⟨hn,hl⟩) (fun y my=>by
  rcases List.mem_cons.1 my with rfl | my
  ·exact mx
  ·exact hs y my)
 simp only [List.length_cons] at this
 omega
theorem ZhF (x:Zc):¬Zdt x x<0:=by rw [(Zdy.eq x x).2 rfl];omega
theorem Zkl {l:List Zc} (h:Ziv l):l.Nodup:=List.Pairwise.imp (fun {a b} hab e=>by subst e;exact ZhF a hab) h
theorem ZkB:∀{a b:List Zc},Ziv a→Ziv b→(∀x,x∈a↔x∈b)→a=b
 | [],[],_,_,_=>rfl
 | [],y::b,_,_,h=>by have:=(h y).2 (by simp);simp at this
 | x::a,[],_,_,h=>by have:=(h x).1 (by simp);simp at this
 | x::a,y::b,ha,hb,h=>by
  unfold Ziv at ha hb
  rw [List.pairwise_cons] at ha hb
  have e:x=y:=by
   rcases List.mem_cons.1 ((h x).1 (by simp)) with e | h1
   ·exact e
   ·rcases List.mem_cons.1 ((h y).2 (by simp)) with e | h2
    ·exact e.symm
    ·exact absurd (Zdy.tr _ _ _ (ha.1 y h2) (hb.1 x h1)) (ZhF x)
  subst e
  rw [ZkB ha.2 hb.2 fun z=>?_]
  constructor
  ·intro hz
   rcases List.mem_cons.1 ((h z).1 (by simp [hz])) with e | hz2
   ·subst e;exact absurd (ha.1 z hz) (ZhF z)
   ·exact hz2
  ·intro hz
   rcases List.mem_cons.1 ((h z).2 (by simp [hz])) with e | hz2
   ·subst e;exact absurd (hb.1 z hz) (ZhF z)
   ·exact hz2
theorem Zih {f:Zc}:∀{l:List Zc},f∉l→(Zdq l f).length=l.length+1
 | [],_=>rfl
 | x::l,h=>by
  simp only [List.mem_cons,not_or] at h
  simp only [Zdq]
  split
  ·rw [List.length_cons,Zih h.2];rfl
  ·rw [if_neg (fun e=>h.1 ((Zdy.eq _ _).1 e).symm)]
   rfl
def Zav (r:Zf):List Zm:=r.cond.filter fun x=>x.kind != 2
theorem Zrn {r:Zf}:∀x∈Zav r,¬x.kind=2:=fun x mx=>by
 have:=(List.mem_filter.1 mx).2
 simpa using this
theorem Zc5 (r:Zf):(Zav r).length≤r.cond.length:=List.length_filter_le _ _
theorem Zpc (l:List Zm):YK (l.filter fun x=>x.kind != 2)=YK l:=by
 induction l with
 | nil=>rfl
 | cons x l ih=>
  by_cases hx:x.kind=2
  ·rw [List.filter_cons_of_neg (by simpa using hx),ih]
   simp [YK,hx]
  ·rw [List.filter_cons_of_pos (by simpa using hx)]
   unfold YK at ih ⊢
   rw [List.flatMap_cons,List.flatMap_cons,ih]
theorem Zbv (r:Zf) (h:r.cond.length≤1048576):YU r=some (Zav r):=by
 unfold YU Zav
 rw [ZdE (p:=fun x:Zm=>x.kind != 2)]
 ·simp
 ·intro j x s mx hs
  split
  ·rw [Zj _ (by simp at hs;omega)]
  ·rfl
theorem Zeu (r:Zf) (h:r.cond.length≤1048576):XQ r=some (Zav r):=Zbv r h
theorem ZoF {F G:List Zc} (h:∀f∈F,f∈G):∀{l:List Zm},(∀x∈l,¬x.kind=2)→∀t∈ZQ l F,t∈ZQ l G:=by
 have:∀n (l:List Zm),l.length=n→(∀x∈l,¬x.kind=2)→∀t∈ZQ l F,t∈ZQ l G:=by
  intro n
  induction n with
  | zero=>intro l hl _ t mt;rw [List.eq_nil_of_length_eq_zero hl] at mt ⊢;exact mt
  | succ n ih=>
   intro l hl hk
   obtain ⟨p,x,rfl⟩:∃p x,l=p++[x]:=⟨l.dropLast,l.getLast (by intro e;simp [e] at hl),(List.dropLast_concat_getLast _).symm⟩
   intro t mt
   rw [Zcj] at mt ⊢
   obtain ⟨s,ms,mt⟩:=List.mem_flatMap.1 mt
   refine List.mem_flatMap.2 ⟨s,ih p (by simpa using hl) (fun y my=>hk y (by simp [my])) s ms,?_⟩
   unfold Zil at mt ⊢
   by_cases h1:x.kind=1
   ·rw [if_pos h1] at mt ⊢
    obtain ⟨f,mf,e⟩:=List.mem_filterMap.1 mt
    exact List.mem_filterMap.2 ⟨f,h f mf,e⟩
   ·have h2:=hk x (by simp)
    have e:ZfD x s.binding G=ZfD x s.binding F:=by unfold ZfD;simp only [if_neg h1,if_neg h2]
    rw [if_neg h1] at mt ⊢
    rw [e]
    exact mt
 intro l hk
 exact this _ l rfl hk
theorem Zhs {F:List Zc} (h:YQ F=true):Ziv F:=by
 unfold YQ at h
 rw [Bool.and_eq_true] at h
 have hadj:∀i y x,F[i]?=some y→F[i+1]?=some x→Zdt y x<0:=fun i y x hy hx=>by
  have:=Zm3 h.2 (i+1) x hx
  unfold ZeF at this
  rw [Bool.and_eq_true,Nat.zero_add,if_neg (by omega),Nat.add_sub_cancel,hy] at this
  simpa using this.2
 have key:∀(l:List Zc),(∀i y x,l[i]?=some y→l[i+1]?=some x→Zdt y x<0)→Ziv l:=by
  intro l
  induction l with
  | nil=>intro _;exact List.Pairwise.nil
  | cons a l ih=>
   intro hl
   have hp:=ih (fun i y x hy hx=>hl (i+1) y x (by simpa using hy) (by simpa using hx))
   unfold Ziv at hp ⊢
   rw [List.pairwise_cons]
   refine ⟨fun x mx=>?_,hp⟩
   cases l with
   | nil=>simp at mx
   | cons b l=>
    have hab:=hl 0 a b rfl rfl
    rcases List.mem_cons.1 mx with rfl | mx
    ·exact hab
    ·rw [List.pairwise_cons] at hp
     exact Zdy.tr _ _ _ hab (hp.1 x mx)
 exact key F hadj
def Yx (a:Zr) (t:Zt):Zc:=(Ze4 (Ze8 a.pattern t.binding)).1
def ZhE (R:List Zf) (G:List Zc):Prop:=∀r∈R,∀t∈ZQ (Zav r) G,∀a∈r.thn,Yx a t∈G
structure Cl (R:List Zf) (base G:List Zc):Prop where
 asc:Ziv G
 base:∀f∈base,f∈G
 closed:ZhE R G
structure Zeq (R:List Zf) (base F:List Zc):Prop where
 asc:Ziv F
 ok:∀f∈F,YV f=true
 inc:∀f∈base,f∈F
 low:∀G,Cl R base G→∀f∈F,f∈G
def ZlQ (R:List Zf) (base:List Zc):Prop:=∀G,Cl R base G→25≤G.length
theorem Zeq.over {R:List Zf} {base F:List Zc} (h:Zeq R base F) (hl:25≤F.length):ZlQ R base:=fun G hG=>Nat.le_trans hl (Zgl (Zkl h.asc) (h.low G hG))
theorem Zeq.add {R:List Zf} {base F:List Zc} (h:Zeq R base F) {f:Zc} (hf:YV f=true) (hin:∀G,Cl R base G→f∈G):Zeq R base (Zdq F f) where
 asc:=Zoq h.asc
 ok:=fun g mg=>by
  rcases Zac.1 mg with rfl | mg
  ·exact hf
  ·exact h.ok g mg
 inc:=fun g mg=>Zac.2 (.inr (h.inc g mg))
 low:=fun G hG g mg=>by
  rcases Zac.1 mg with rfl | mg
  ·exact hin G hG
  ·exact h.low G hG g mg
theorem Zjh {b:List Zl} (hb:Z0 b=true):∀{p l:List ByteArray},Zd9 p b=some l→l.all ZO=true∧l.length=p.length
 | [],l,h=>by
  simp only [Zd9,Option.some.injEq] at h
  subst h
  simp
 | a::p,l,h=>by
  simp only [Zd9] at h
  obtain ⟨v,hv,h⟩:=Option.bind_eq_some_iff.1 h
  obtain ⟨l',hl',rfl⟩:=Option.map_eq_some_iff.1 h
  obtain ⟨h1,h2⟩:=Zjh hb hl'
  have ha:ZO v=true:=by
   unfold XN at hv
   split at hv
   ·rename_i ha
    obtain rfl:=Option.some.inj hv
    exact ha
   ·split at hv
    ·obtain ⟨x,mx,_,rfl⟩:=Zq5 hv
     unfold Z0 at hb
     rw [Bool.and_eq_true] at hb
     have:=(Zq1 hb.2 x mx).1
     unfold ZeH at this
     rw [Bool.and_eq_true] at this
     exact this.2
    ·simp at hv
  simp [ha,h1,h2]
theorem ZqT {r:Zf} {F:List Zc} {t:Zt} (hr:Z2 r=true) (ht:t∈ZQ (Zav r) F) {a:Zr} (ma:a∈r.thn):YV (Yx a t)=true:=by
 unfold Z2 at hr
 simp only [Bool.and_eq_true] at hr
 have hk:a.kind=1:=by
  have:=List.all_eq_true.1 hr.2 a ma
  simpa using this
 have htk:=Zd8 F _ t ht
 obtain ⟨h1,h2⟩:=Zq9 hr.1.1 a ma hk
 have hp:=h1
 unfold Z1 at hp
 simp only [Bool.and_eq_true,decide_eq_true_iff] at hp
 obtain ⟨l,e,_⟩:=Zj0 (b:=t.binding) hp.2 (fun v mv hv=>htk.vars v (by
  unfold Zav
  rw [Zpc]
  exact h2 v mv hv))
 obtain ⟨h3,h4⟩:=Zjh htk.bind e
 have:Ze8 a.pattern t.binding=some { rel:=a.pattern.rel,args:=l }:=by
  unfold Ze8
  rw [if_pos ⟨h1,htk.bind⟩,e]
  rfl
 unfold Yx
 rw [this]
 show YV { rel:=a.pattern.rel,args:=l }=true
 unfold YV
 simp only [Bool.and_eq_true,decide_eq_true_iff]
 exact ⟨⟨hp.1.1,by omega⟩,h3⟩
theorem Zeq.derived {R:List Zf} {base F:List Zc} (h:Zeq R base F) {r:Zf} (mr:r∈R) {t:Zt} (mt:t∈ZQ (Zav r) F) {a:Zr} (ma:a∈r.thn):∀G,Cl R base G→Yx a t∈G:=
 fun G hG=>hG.closed r mr t (ZoF (h.low G hG) Zrn t mt) a ma
def Res (R:List Zf) (base:List Zc) (x:List Zc × Bool):Prop:=
 (x.2=true∧Zeq R base x.1∧x.1.length≤24∧ZhE R x.1)∨(x.2=false∧x.1=[]∧ZlQ R base)
theorem Res.uniq {R:List Zf} {base:List Zc} {x y:List Zc × Bool} (hx:Res R base x) (hy:Res R base y):x=y:=by
 obtain ⟨F,b⟩:=x
 obtain ⟨G,c⟩:=y
 rcases hx with ⟨h1,h2,h3,h4⟩ | ⟨h1,h2,h3⟩<;>rcases hy with ⟨k1,k2,k3,k4⟩ | ⟨k1,k2,k3⟩<;>simp only at h1 h2 h3 k1 k2 k3<;>subst h1<;>subst k1
 ·have e:F=G:=ZkB h2.asc k2.asc fun f=>⟨fun hf=>h2.low G ⟨k2.asc,k2.inc,k4⟩ f hf,fun hf=>k2.low F ⟨h2.asc,h2.inc,h4⟩ f hf⟩
  rw [e]
 ·have:=k3 F ⟨h2.asc,h2.inc,h4⟩
  omega
 ·have:=h3 G ⟨k2.asc,k2.inc,k4⟩
  omega
 ·rw [h2,k2]
structure ZhI (R:List Zf) (base row0:List Zc) (s:List Zc × Bool):Prop where
 good:Zeq R base s.1
 len:s.1.length≤24
 sub:∀f∈row0,f∈s.1
 grow:s.2=true→row0.length<s.1.length
 same:s.2=false→s.1=row0
theorem ZrF {ρ:Type} {R:List Zf} {base row0:List Zc} {r:Zf} (mr:r∈R) (hr:Z2 r=true) {rowS:List Zc} (hS:Zeq R base rowS) {t:Zt} (mt:t∈ZQ (Zav r) rowS) {q:ρ}
  {body:Nat→Zr→(List Zc × Bool)→Option ((List Zc × Bool) ⊕ ρ)}
  (hb:∀i a s,body i a s=(Yh s.1 (Yx a t)).bind fun v836=>if (decide (0≤v836))=true then some (.inl s) else if (decide (24≤((s.1.length:Nat):Int)))=true then some (.inr q) else (X2 s.1 (Yx a t)).bind fun v837=>some (.inl (v837,true)))
  (s:List Zc × Bool) (h:ZhI R base row0 s):
  (∃s',(∀fin:(List Zc × Bool)→Option ρ,Zp body fin r.thn 0 s=fin s')∧ZhI R base row0 s'∧(s'.2=false→s.2=false∧∀a∈r.thn,Yx a t∈row0))∨((∀fin:(List Zc × Bool)→Option ρ,Zp body fin r.thn 0 s=some q)∧ZlQ R base):=by
 rcases Zbo (body:=body) (fun p s'=>ZhI R base row0 s'∧(s'.2=false→s.2=false∧∀a∈p,Yx a t∈row0)) (fun x=>x=q∧ZlQ R base) r.thn s ⟨h,fun hs=>⟨hs,by simp⟩⟩ (fun p a s' ma hp hI=>by
  obtain ⟨hP,hC⟩:=hI
  rw [hb]
  obtain ⟨z,hz,hz2⟩:=ZlU s'.1 (Yx a t)
  rw [hz,Option.bind_some]
  have hok:=ZqT hr mt ma
  have hin:=hS.derived mr mt ma
  by_cases hm:Yx a t∈s'.1
  ·left
   have hz3:¬z<0:=fun h=>hz2.1 h hm
   rw [if_pos (by simp;omega)]
   refine ⟨s',rfl,hP,fun hs=>⟨(hC hs).1,fun b mb=>?_⟩⟩
   rcases List.mem_append.1 mb with mb | mb
   ·exact (hC hs).2 b mb
   ·simp at mb
    subst mb
    rw [←hP.same hs]
    exact hm
  ·have hz3:=hz2.2 hm
   rw [if_neg (by simp;omega)]
   by_cases h24:24≤s'.1.length
   ·right
    rw [if_pos (by simp;omega)]
    refine ⟨q,rfl,rfl,(hP.good.add hok hin).over ?_⟩
    rw [Zih hm]
    omega
   ·left
    rw [if_neg (by simp;omega),Znm _ _ hm (by omega) (fun f mf=>by have:=X4 (hP.good.ok f mf);omega) (by have:=X4 hok;omega),Option.bind_some]
    refine ⟨_,rfl,⟨hP.good.add hok hin,by rw [Zih hm];omega,fun f mf=>Zac.2 (.inr (hP.sub f mf)),fun _=>?_,fun h=>by simp at h⟩,fun h=>by simp at h⟩
    rw [Zih hm]
    have:=Zgl (l:=row0) (m:=s'.1)
    cases hs:s'.2 with
    | true=>have:=hP.grow hs;omega
    | false=>rw [hP.same hs];omega) with ⟨s',e,h'⟩ | ⟨x,e,rfl,h'⟩
 ·exact .inl ⟨s',e,h'⟩
 ·exact .inr ⟨e,h'⟩
theorem ZrI {ρ:Type} {R:List Zf} {base row0:List Zc} {r:Zf} (mr:r∈R) (hr:Z2 r=true) {q:ρ}
  {ab:Zt→Nat→Zr→(List Zc × Bool)→Option ((List Zc × Bool) ⊕ ((List Zc × Bool) ⊕ ρ))} {body:Nat→Zt→(List Zc × Bool)→Option ((List Zc × Bool) ⊕ ρ)}
  (hab:∀t i a s,ab t i a s=(Yh s.1 (Yx a t)).bind fun v836=>if (decide (0≤v836))=true then some (.inl s) else if (decide (24≤((s.1.length:Nat):Int)))=true then some (.inr (.inr q)) else (X2 s.1 (Yx a t)).bind fun v837=>some (.inl (v837,true)))
  (hb:∀i t s,body i t s=Zp (ab t) (fun s=>some (.inl s)) r.thn 0 s)
  (s:List Zc × Bool) (h:ZhI R base row0 s):
  (∃s',(∀fin:(List Zc × Bool)→Option ρ,Zp body fin (ZQ (Zav r) s.1) 0 s=fin s')∧ZhI R base row0 s'∧(s'.2=false→s.2=false∧∀t∈ZQ (Zav r) row0,∀a∈r.thn,Yx a t∈row0))∨((∀fin:(List Zc × Bool)→Option ρ,Zp body fin (ZQ (Zav r) s.1) 0 s=some q)∧ZlQ R base):=by
 rcases Zbo (body:=body) (fun p s'=>ZhI R base row0 s'∧(s'.2=false→s.2=false∧∀t∈p,∀a∈r.thn,Yx a t∈row0)) (fun x=>x=q∧ZlQ R base) (ZQ (Zav r) s.1) s ⟨h,fun hs=>⟨hs,by simp⟩⟩ (fun p t s' mt hp hI=>by
  obtain ⟨hP,hC⟩:=hI
  rw [hb]
  rcases ZrF mr hr h.good mt (hab t) s' hP with ⟨s2,e2,hP2,hC2⟩ | ⟨e2,ho⟩
  ·left
   refine ⟨s2,e2 _,hP2,fun hs=>?_⟩
   obtain ⟨k1,k2⟩:=hC2 hs
   obtain ⟨k3,k4⟩:=hC k1
   refine ⟨k3,fun u mu=>?_⟩
   rcases List.mem_append.1 mu with mu | mu
   ·exact k4 u mu
   ·simp at mu
    subst mu
    exact k2
  ·exact .inr ⟨q,e2 _,rfl,ho⟩) with ⟨s',e,hP,hC⟩ | ⟨x,e,rfl,h'⟩
 ·refine .inl ⟨s',e,hP,fun hs=>?_⟩
  obtain ⟨k1,k2⟩:=hC hs
  exact ⟨k1,by rw [h.same k1] at k2;exact k2⟩
 ·exact .inr ⟨e,h'⟩
theorem Zw0 {ρ:Type} {R:List Zf} {base row0:List Zc} (hL:∀r∈R,Z2 r=true) (h0:Zeq R base row0) (hl0:row0.length≤24) {q:ρ}
  {ab:Zt→Nat→Zr→(List Zc × Bool)→Option ((List Zc × Bool) ⊕ ((List Zc × Bool) ⊕ ((List Zc × Bool) ⊕ ρ)))} {tb:Zf→Nat→Zt→(List Zc × Bool)→Option ((List Zc × Bool) ⊕ ((List Zc × Bool) ⊕ ρ))} {body:Nat→Zf→(List Zc × Bool)→Option ((List Zc × Bool) ⊕ ρ)}
  (hab:∀t i a s,ab t i a s=(Yh s.1 (Yx a t)).bind fun v836=>if (decide (0≤v836))=true then some (.inl s) else if (decide (24≤((s.1.length:Nat):Int)))=true then some (.inr (.inr (.inr q))) else (X2 s.1 (Yx a t)).bind fun v837=>some (.inl (v837,true)))
  (htb:∀r i t s,tb r i t s=Zp (ab t) (fun s=>some (.inl s)) r.thn 0 s)
  (hb:∀i r s,r∈R→s.1.length≤24→(∀f∈s.1,YV f=true)→body i r s=Zp (tb r) (fun s=>some (.inl s)) (ZQ (Zav r) s.1) 0 s):
  (∃s',(∀fin:(List Zc × Bool)→Option ρ,Zp body fin R 0 (row0,false)=fin s')∧ZhI R base row0 s'∧(s'.2=false→ZhE R row0))∨((∀fin:(List Zc × Bool)→Option ρ,Zp body fin R 0 (row0,false)=some q)∧ZlQ R base):=by
 rcases Zbo (body:=body) (fun p s'=>ZhI R base row0 s'∧(s'.2=false→∀r∈p,∀t∈ZQ (Zav r) row0,∀a∈r.thn,Yx a t∈row0)) (fun x=>x=q∧ZlQ R base) R (row0,false) ⟨⟨h0,hl0,fun f mf=>mf,fun h=>by simp at h,fun _=>rfl⟩,by simp⟩ (fun p r s' mr hp hI=>by
  obtain ⟨hP,hC⟩:=hI
  rw [hb _ _ _ mr hP.len hP.good.ok]
  rcases ZrI (q:=.inr q) mr (hL r mr) (hab) (htb r) s' hP with ⟨s2,e2,hP2,hC2⟩ | ⟨e2,ho⟩
  ·left
   refine ⟨s2,e2 _,hP2,fun hs=>?_⟩
   obtain ⟨k1,k2⟩:=hC2 hs
   intro u mu
   rcases List.mem_append.1 mu with mu | mu
   ·exact hC k1 u mu
   ·simp at mu
    subst mu
    exact k2
  ·exact .inr ⟨q,e2 _,rfl,ho⟩) with ⟨s',e,hP,hC⟩ | ⟨x,e,rfl,h'⟩
 ·exact .inl ⟨s',e,hP,hC⟩
 ·exact .inr ⟨e,h'⟩
theorem ZsW {R:List Zf} {base:List Zc} {body:(List Zc × Bool)→Option ((List Zc × Bool) ⊕ (List Zc × Bool))} (stop:∀row,body (row,false)=some (.inr (row,true)))
  (pass:∀row,Zeq R base row→row.length≤24→(∃s',body (row,true)=some (.inl s')∧ZhI R base row s'∧(s'.2=false→ZhE R row))∨(body (row,true)=some (.inr ([],false))∧ZlQ R base)) (hbase:Zeq R base base) (hF24:base.length≤24):∃x,Zdu body (base,true)=some x∧Res R base x:=by
 have key:∀n row,Zeq R base row→row.length≤24→25≤row.length+n→∃x,Zdu body (row,true)=some x∧Res R base x:=by
  intro n
  induction n with
  | zero=>intro row _ h3 h4;omega
  | succ n ih=>
   intro row hg hl hn
   rcases pass row hg hl with ⟨⟨row',u⟩,e,hP,hC⟩ | ⟨e,ho⟩
   ·rw [ZiQ e]
    cases u with
    | true=>
     have:=hP.grow rfl
     exact ih row' hP.good hP.len (by simp only at this;omega)
    | false=>
     have hs:=hP.same rfl
     simp only at hs
     subst hs
     exact ⟨_,Zef (stop _),.inl ⟨rfl,hP.good,hP.len,hC rfl⟩⟩
   ·exact ⟨_,Zef e,.inr ⟨rfl,rfl,ho⟩⟩
 exact key 25 base hbase hF24 (by omega)
theorem Zgm {R:List Zf} (hR:ZbJ R) (base:List Zc):(¬(YI R&&R.all (Xq R))=true∨¬YQ base=true→Yv R base=some ([],false))∧((YI R&&R.all (Xq R))=true→YQ base=true→∃x,Yv R base=some x∧Res R base x):=by
 constructor
 ·intro h
  unfold Yv
  rw [Ze6 hR,Option.bind_some]
  split
  ·rename_i h1
   rw [Zgx,Option.bind_some,if_neg (h.resolve_left (fun h=>h h1))]
  ·rfl
 ·intro h1 h2
  have hL:∀r∈R,Z2 r=true:=fun r mr=>by
   rw [Bool.and_eq_true] at h1
   have:=List.all_eq_true.1 h1.2 r mr
   unfold Xq at this
   rw [Bool.and_eq_true] at this
   exact this.1
  have hrl:∀r∈R,r.cond.length≤4:=fun r mr=>by
   have:=hL r mr
   unfold Z2 at this
   simp only [Bool.and_eq_true] at this
   exact (ZbU this.1.1).1
  obtain ⟨hF24,hFF⟩:=ZdP h2
  have hbase:Zeq R base base:=⟨Zhs h2,hFF,fun f mf=>mf,fun G hG f mf=>hG.base f mf⟩
  unfold Yv
  rw [Ze6 hR,Option.bind_some,if_pos h1,Zgx,Option.bind_some,if_pos h2,ZfX _ (by omega) (fun f mf=>by have:=X4 (hFF f mf);omega),Option.bind_some]
  refine ZsW (fun row=>rfl) (fun row hg hl=>?_) hbase hF24
  have hgen:=Zw0 (ρ:=(List Zc × Bool) ⊕ (List Zc × Bool)) (q:=.inr ([],false)) hL hg hl
   (ab:=fun t _ a s=>(Yh s.1 (Yx a t)).bind fun v836=>if (decide (0≤v836))=true then some (.inl s) else if (decide (24≤((s.1.length:Nat):Int)))=true then some (.inr (.inr (.inr (.inr ([],false))))) else (X2 s.1 (Yx a t)).bind fun v837=>some (.inl (v837,true)))
   (tb:=fun r _ t s=>Zp (fun _ a s=>(Yh s.1 (Yx a t)).bind fun v836=>if (decide (0≤v836))=true then some (.inl s) else if (decide (24≤((s.1.length:Nat):Int)))=true then some (.inr (.inr (.inr (.inr ([],false))))) else (X2 s.1 (Yx a t)).bind fun v837=>some (.inl (v837,true))) (fun s=>some (.inl s)) r.thn 0 s)
   (body:=fun _ r s=>(YU r).bind fun v757=>(Zaw v757 s.1).bind fun v758=>Zp (fun _ t s=>Zp (fun _ a s=>(Ql a.pattern t.binding).bind fun v835=>(Yh s.1 v835.1).bind fun v836=>if (decide (0≤v836))=true then some (.inl s) else if (decide (24≤((s.1.length:Nat):Int)))=true then some (.inr (.inr (.inr (.inr ([],false))))) else (X2 s.1 v835.1).bind fun v837=>some (.inl (v837,true))) (fun s=>some (.inl s)) r.thn 0 s) (fun s=>some (.inl s)) v758 0 s)
   (fun _ _ _ _=>rfl) (fun _ _ _ _=>rfl) (fun i r s mr hs hok=>by
    show (YU r).bind _=_
    rw [Zbv r (by have:=hrl r mr;omega),Option.bind_some,ZgK _ _ (by have:=Zc5 r;have:=hrl r mr;omega) hs (fun f mf=>X4 (hok f mf)),Option.bind_some]
    simp only [Zd5,Option.bind_some]
    rfl)
  rcases hgen with ⟨s',e,hP,hC⟩ | ⟨e,ho⟩
  ·exact .inl ⟨s',e (fun s=>some (.inl s)),hP,hC⟩
  ·exact .inr ⟨e (fun s=>some (.inl s)),ho⟩
structure ZkE (R:List Zf) (base l:List Zc) (row:List Zc):Prop where
 good:Zeq R base row
 sub:∀f∈l,f∈row
theorem Zxz {ρ:Type} {R:List Zf} {base l:List Zc} {r:Zf} (mr:r∈R) (hr:Z2 r=true) (hS:Zeq R base l) {t:Zt} (mt:t∈ZQ (Zav r) l) {N:Nat} (hN:N≤1000000) (ht2:r.thn.length≤2)
  {body:Nat→Zr→List Zc→Option (List Zc ⊕ ρ)} (hb:∀i a row,body i a row=(ZbK row (Yx a t)).bind fun v=>some (.inl v)) (row:List Zc) (h:ZkE R base l row) (hlen:row.length≤N):
  ∃row',(∀fin:List Zc→Option ρ,Zp body fin r.thn 0 row=fin row')∧ZkE R base l row'∧row'.length≤N+2∧(∀f∈row,f∈row')∧∀a∈r.thn,Yx a t∈row':=by
 obtain ⟨row',e,h1,h2,h3,h4⟩:=Zez (body:=body) (fun p row'=>ZkE R base l row'∧row'.length≤N+p.length∧(∀f∈row,f∈row')∧∀a∈p,Yx a t∈row') r.thn row ⟨h,by simpa using hlen,fun f mf=>mf,by simp⟩ (fun p a row' ma hp hI=>by
  obtain ⟨h1,h2,h3,h4⟩:=hI
  have hok:=ZqT hr mt ma
  rw [hb,Zp5 _ _ (by omega) (fun f mf=>by have:=X4 (h1.good.ok f mf);omega) (by have:=X4 hok;omega),Option.bind_some]
  refine ⟨_,rfl,⟨h1.good.add hok (hS.derived mr mt ma),fun f mf=>Zac.2 (.inr (h1.sub f mf))⟩,?_,fun f mf=>Zac.2 (.inr (h3 f mf)),fun b mb=>?_⟩
  ·have:=Zpn (Yx a t) row'
   simp only [List.length_append,List.length_singleton]
   omega
  ·rcases List.mem_append.1 mb with mb | mb
   ·exact Zac.2 (.inr (h4 b mb))
   ·simp at mb
    subst mb
    exact Zac.2 (.inl rfl))
 exact ⟨row',e,h1,by omega,h3,h4⟩
theorem Zu8 {ρ:Type} {R:List Zf} {base l:List Zc} {r:Zf} (mr:r∈R) (hr:Z2 r=true) (hS:Zeq R base l) (hl24:l.length≤24) (hc4:r.cond.length≤4) (ht2:r.thn.length≤2)
  {body:Nat→Zt→List Zc→Option (List Zc ⊕ ρ)} (hb:∀i t row,t∈ZQ (Zav r) l→body i t row=Zp (fun (_:Nat) (a:Zr) row=>(ZbK row (Yx a t)).bind fun v=>(some (.inl v):Option (List Zc ⊕ (List Zc ⊕ ρ)))) (fun row=>some (.inl row)) r.thn 0 row) (row:List Zc) (h:ZkE R base l row) (hlen:row.length≤24):
  ∃row',(∀fin:List Zc→Option ρ,Zp body fin (ZQ (Zav r) l) 0 row=fin row')∧ZkE R base l row'∧(∀f∈row,f∈row')∧∀t∈ZQ (Zav r) l,∀a∈r.thn,Yx a t∈row':=by
 have hn:=ZeB l hl24 (Zav r) (by have:=Zc5 r;omega)
 obtain ⟨row',e,h1,h2,h3,h4⟩:=Zez (body:=body) (fun p row'=>ZkE R base l row'∧row'.length≤24+2 * p.length∧(∀f∈row,f∈row')∧∀t∈p,∀a∈r.thn,Yx a t∈row') (ZQ (Zav r) l) row ⟨h,by simpa using hlen,fun f mf=>mf,by simp⟩ (fun p t row' mt hp hI=>by
  obtain ⟨h1,h2,h3,h4⟩:=hI
  rw [hb _ _ _ mt]
  obtain ⟨row2,e2,k1,k2,k3,k4⟩:=Zxz (ρ:=List Zc ⊕ ρ) (body:=fun (_:Nat) (a:Zr) row=>(ZbK row (Yx a t)).bind fun v=>some (.inl v)) mr hr hS mt (N:=24+2 * p.length) (by omega) ht2 (fun _ _ _=>rfl) row' h1 h2
  refine ⟨row2,e2 _,k1,by simp only [List.length_append,List.length_singleton];omega,fun f mf=>k3 f (h3 f mf),fun u mu a ma=>?_⟩
  rcases List.mem_append.1 mu with mu | mu
  ·exact k3 _ (h4 u mu a ma)
  ·simp at mu
   subst mu
   exact k4 a ma)
 exact ⟨row',e,h1,h3,h4⟩
theorem Zgr {R:List Zf} (hR:ZbJ R) (base:List Zc) (hb20:base.length≤1048576):(¬(YI R&&R.all (Xq R))=true∨¬YQ base=true→Yu R base=some ([],false))∧((YI R&&R.all (Xq R))=true→YQ base=true→∃x,Yu R base=some x∧Res R base x):=by
 constructor
 ·intro h
  unfold Yu
  rw [Ze9 hR,Option.bind_some]
  split
  ·rename_i h1
   rw [ZgZ _ hb20,Option.bind_some,if_neg (h.resolve_left (fun h=>h h1))]
  ·rfl
 ·intro h1 h2
  have hL:∀r∈R,Z2 r=true:=fun r mr=>by
   rw [Bool.and_eq_true] at h1
   have:=List.all_eq_true.1 h1.2 r mr
   unfold Xq at this
   rw [Bool.and_eq_true] at this
   exact this.1
  have hrl:∀r∈R,r.cond.length≤4∧r.thn.length≤2:=fun r mr=>by
   have:=hL r mr
   unfold Z2 at this
   simp only [Bool.and_eq_true] at this
   exact ZbU this.1.1
  obtain ⟨hF24,hFF⟩:=ZdP h2
  have hbase:Zeq R base base:=⟨Zhs h2,hFF,fun f mf=>mf,fun G hG f mf=>hG.base f mf⟩
  unfold Yu
  rw [Ze9 hR,Option.bind_some,if_pos h1,ZgZ _ hb20,Option.bind_some,if_pos h2,ZdV _ (by omega) (fun f mf=>by have:=X4 (hFF f mf);omega),Option.bind_some]
  refine ZsW (fun row=>rfl) (fun l hg hl=>?_) hbase hF24
  rcases Zbo (σ:=List Zc) (ρ:=(List Zc × Bool) ⊕ (List Zc × Bool)) (body:=fun (_:Nat) (r:Zf) row=>(XQ r).bind fun v745=>(Zay v745 l).bind fun v746=>Zp (fun _ t row=>Zp (fun _ a row=>(Xi a.pattern t.binding).bind fun v802=>(ZbK row v802.1).bind fun v803=>some (.inl v803)) (fun row=>some (.inl row)) r.thn 0 row) (fun row=>if (decide (24<((row.length:Nat):Int)))=true then some (.inr (.inr ([],false))) else some (.inl row)) v746 0 row)
   (fun p row=>ZkE R base l row∧row.length≤24∧∀r∈p,∀t∈ZQ (Zav r) l,∀a∈r.thn,Yx a t∈row) (fun x=>x=.inr ([],false)∧ZlQ R base) R l ⟨⟨hg,fun f mf=>mf⟩,hl,by simp⟩ (fun p r row mr hp hI=>by
    obtain ⟨i1,i2,i3⟩:=hI
    obtain ⟨hc4,ht2⟩:=hrl r mr
    obtain ⟨row',e,k1,k3,k4⟩:=Zu8 (ρ:=List Zc ⊕ ((List Zc × Bool) ⊕ (List Zc × Bool))) (body:=fun (_:Nat) (t:Zt) row=>Zp (fun _ a row=>(Xi a.pattern t.binding).bind fun v802=>(ZbK row v802.1).bind fun v803=>some (.inl v803)) (fun row=>some (.inl row)) r.thn 0 row) mr (hL r mr) hg hl hc4 ht2 (fun i t row mt=>by
     have hb6:=QN (Zd8 l _ t mt).bind
     have e1:∀p,Xi p t.binding=some (Ze4 (Ze8 p t.binding)):=fun p=>Zg0 p t.binding (by omega)
     simp only [e1,Option.bind_some]
     rfl) row i1 i2
    simp only [Zeu r (by omega),Option.bind_some,ZgQ (Zav r) l (by have:=Zc5 r;omega) hl (fun f mf=>X4 (hg.ok f mf)),e]
    by_cases h24:24<row'.length
    ·rw [if_pos (by simp;omega)]
     exact .inr ⟨_,rfl,rfl,k1.good.over (by omega)⟩
    ·rw [if_neg (by simp;omega)]
     refine .inl ⟨_,rfl,k1,by omega,fun u mu t mt a ma=>?_⟩
     rcases List.mem_append.1 mu with mu | mu
     ·exact k3 _ (i3 u mu t mt a ma)
     ·simp at mu
      subst mu
      exact k4 t mt a ma) with ⟨row,e,hP,hlen,hC⟩ | ⟨x,e,rfl,ho⟩
  ·left
   refine ⟨_,e (fun row=>some (.inl (row,decide (((l.length:Nat):Int)<((row.length:Nat):Int))))),?_⟩
   by_cases hlt:l.length<row.length
   ·have hd:decide (((l.length:Nat):Int)<((row.length:Nat):Int))=true:=by simpa using hlt
    rw [hd]
    exact ⟨⟨hP.good,hlen,hP.sub,fun _=>hlt,fun h=>by simp at h⟩,fun h=>by simp at h⟩
   ·have hd:decide (((l.length:Nat):Int)<((row.length:Nat):Int))=false:=by simpa using hlt
    have hback:=Zp2 (Zkl hg.asc) hP.sub (by omega)
    have heq:row=l:=ZkB hP.good.asc hg.asc fun f=>⟨hback f,hP.sub f⟩
    rw [hd]
    exact ⟨⟨hP.good,hlen,hP.sub,fun h=>by simp at h,fun _=>heq⟩,fun _ r mr t mt a ma=>hback _ (hC r mr t mt a ma)⟩
  ·exact .inr ⟨e (fun row=>some (.inl (row,decide (((l.length:Nat):Int)<((row.length:Nat):Int))))),ho⟩
theorem Zhp {R:List Zf} (hR:ZbJ R) (base:List Zc) (hb20:base.length≤1048576):∃x,Yu R base=some x∧Yv R base=some x∧(x=([],false)∨(YI R&&R.all (Xq R))=true∧YQ base=true∧Res R base x):=by
 obtain ⟨s1,s2⟩:=Zgr hR base hb20
 obtain ⟨i1,i2⟩:=Zgm hR base
 by_cases h1:(YI R&&R.all (Xq R))=true
 ·by_cases h2:YQ base=true
  ·obtain ⟨x,e1,r1⟩:=s2 h1 h2
   obtain ⟨y,e2,r2⟩:=i2 h1 h2
   rw [←r1.uniq r2] at e2
   exact ⟨x,e1,e2,.inr ⟨h1,h2,r1⟩⟩
  ·exact ⟨_,s1 (.inr h2),i1 (.inr h2),.inl rfl⟩
 ·exact ⟨_,s1 (.inl h1),i1 (.inl h1),.inl rfl⟩
theorem ZjT {α:Type} {f:α→Nat} {N:Nat}:∀{l:List α},(∀x∈l,f x≤N)→(l.map f).sum≤l.length * N
 | [],_=>by simp
 | x::l,h=>by
  have h1:=h x (by simp)
  have h2:=ZjT (l:=l) fun y my=>h y (by simp [my])
  simp only [List.map_cons,List.sum_cons,List.length_cons,Nat.add_mul]
  omega
theorem Zre {f:Zc} (h:YV f=true):YP f≤64:=by
 unfold YV Qi at h
 simp only [Bool.and_eq_true,decide_eq_true_eq,List.all_eq_true] at h
 obtain ⟨⟨⟨h1,_⟩,h2⟩,h3⟩:=h
 have h4:=(Zbh h1).2
 have h5:(f.args.map ByteArray.size).sum≤f.args.length * 8:=ZjT fun x mx=>(Zbh (h3 x mx)).2
 unfold YP Xm
 omega
end Go.Proofs.YtojnhepgnbhaaaaGreatDoor
namespace Go.Proofs.YtojnhepgnbhaaaaGreatDoor
def Zem (m n:Nat):Prop:=m &&& n=m
theorem ZhL {m n:Nat}:Zem m n↔∀i,m.testBit i=true→n.testBit i=true:=by
 constructor
 ·intro h i hi
  have:=congrArg (fun z=>z.testBit i) h
  simp only [Nat.testBit_and,hi,Bool.true_and] at this
  exact this
 ·intro h
  refine Nat.eq_of_testBit_eq fun i=>?_
  rw [Nat.testBit_and]
  cases hm:m.testBit i with
  | false=>rfl
  | true=>rw [h i hm];rfl
theorem ZmV (m:Nat):Zem m m:=ZhL.2 fun _ h=>h
theorem ZeN {a b c:Nat} (h1:Zem a b) (h2:Zem b c):Zem a c:=ZhL.2 fun i h=>ZhL.1 h2 i (ZhL.1 h1 i h)
theorem ZnK {m n:Nat} (h:Zem m n):m≤n:=by
 have:=Nat.and_le_right (n:=m) (m:=n)
 rw [show m &&& n=m from h] at this
 exact this
theorem ZmJ {a b:Nat} (h1:Zem a b) (h2:Zem b a):a=b:=Nat.le_antisymm (ZnK h1) (ZnK h2)
def Zob (A:Nat→Prop) (y:Nat):Prop:=A y∧∀t,A t→Zem t y→t=y
theorem Zsa {A:Nat→Prop}:∀(n a:Nat),a≤n→A a→∃b,Zob A b∧Zem b a
 | n,a,hn,ha=>by
  by_cases h:∃t,A t∧Zem t a∧t≠a
  ·obtain ⟨t,h1,h2,h3⟩:=h
   have hlt:t<a:=Nat.lt_of_le_of_ne (ZnK h2) h3
   cases n with
   | zero=>omega
   | succ n=>
    obtain ⟨b,h4,h5⟩:=Zsa n t (by omega) h1
    exact ⟨b,h4,ZeN h5 h2⟩
  ·exact ⟨a,⟨ha,fun t ht hp=>Classical.byContradiction fun hne=>h ⟨t,ht,hp,hne⟩⟩,ZmV a⟩
theorem ZvT {A:Nat→Prop} {a:Nat} (h:A a):∃b,Zob A b∧Zem b a:=Zsa a a (Nat.le_refl _) h
def Cof (A B:Nat→Prop):Prop:=∀y,A y→∃x,B x∧Zem x y
theorem Cof.trans {A B C:Nat→Prop} (h1:Cof A B) (h2:Cof B C):Cof A C:=fun y hy=>by
 obtain ⟨x,hx,p⟩:=h1 y hy
 obtain ⟨z,hz,q⟩:=h2 x hx
 exact ⟨z,hz,ZeN q p⟩
theorem Cof.of {A B:Nat→Prop} (h:∀y,A y→B y):Cof A B:=fun y hy=>⟨y,h y hy,ZmV y⟩
theorem Cof.min (A:Nat→Prop):Cof A (Zob A):=fun _ hy=>ZvT hy
theorem Zt4 {A B:Nat→Prop} (h1:Cof A B) (h2:Cof B A):∀y,Zob A y↔Zob B y:=by
 have key:∀{A B:Nat→Prop},Cof A B→Cof B A→∀y,Zob A y→Zob B y:=by
  intro A B h1 h2 y hy
  obtain ⟨x,hx,p⟩:=h1 y hy.1
  obtain ⟨x',hx',p'⟩:=h2 x hx
  have e:x'=y:=hy.2 x' hx' (ZeN p' p)
  subst e
  have e2:=ZmJ p p'
  subst e2
  refine ⟨hx,fun t ht pt=>?_⟩
  obtain ⟨u,hu,pu⟩:=h2 t ht
  have e3:=hy.2 u hu (ZeN pu pt)
  subst e3
  exact ZmJ pt pu
 exact fun y=>⟨key h1 h2 y,key h2 h1 y⟩
def meets (a b:Nat):Prop:=a &&& b≠0
def ZsK (r:List Int) (A:Nat→Prop):Prop:=r.Pairwise (·<·)∧∀y:Int,y∈r↔0≤y∧Zob A y.toNat
theorem Zk7:∀{a b:List Int},a.Pairwise (·<·)→b.Pairwise (·<·)→(∀x,x∈a↔x∈b)→a=b
 | [],[],_,_,_=>rfl
 | [],y::b,_,_,h=>by have:=(h y).2 (by simp);simp at this
 | x::a,[],_,_,h=>by have:=(h x).1 (by simp);simp at this
 | x::a,y::b,ha,hb,h=>by
  rw [List.pairwise_cons] at ha hb
  have hxy:x=y:=by
   have h1:=(h x).1 (by simp)
   have h2:=(h y).2 (by simp)
   rcases List.mem_cons.1 h1 with e | h1
   ·exact e
   ·rcases List.mem_cons.1 h2 with e | h2
    ·exact e.symm
    ·have:=hb.1 x h1;have:=ha.1 y h2;omega
  subst hxy
  rw [Zk7 ha.2 hb.2 fun z=>?_]
  constructor
  ·intro hz
   rcases List.mem_cons.1 ((h z).1 (by simp [hz])) with e | hz'
   ·subst e;have:=ha.1 z hz;omega
   ·exact hz'
  ·intro hz
   rcases List.mem_cons.1 ((h z).2 (by simp [hz])) with e | hz'
   ·subst e;have:=hb.1 z hz;omega
   ·exact hz'
theorem ZsK.eq {r r':List Int} {A B:Nat→Prop} (h:ZsK r A) (h':ZsK r' B) (h1:Cof A B) (h2:Cof B A):r=r':=
 Zk7 h.1 h'.1 fun y=>by rw [h.2,h'.2,Zt4 h1 h2]
end Go.Proofs.YtojnhepgnbhaaaaGreatDoor
namespace Go.Proofs.YtojnhepgnbhaaaaGreatDoor
def Ztx (l:List Int) (x:Int):Bool:=l.any fun y=>y==x
theorem Zo6 {l:List Int} {x:Int}:Ztx l x=true↔x∈l:=by simp [Ztx]
theorem ZnV (l:List Int) (x:Int):ZfY l x=some (Ztx l x):=by
 unfold ZfY Ztx
 rw [ZcB (p:=fun y=>y==x) (r:=true)]
 ·cases l.any fun y=>y==x<;>simp
 ·intro i y _
  cases y==x<;>simp
theorem Zrl {l:List Int} {x:Int}:x∈Zi5 l↔x∈l:=(List.mergeSort_perm l _).mem_iff
theorem ZqZ {l:List Int} (h:l.Nodup):(Zi5 l).Pairwise (·<·):=by
 have h1:(Zi5 l).Pairwise fun x y=>decide (x≤y)=true:=List.pairwise_mergeSort (fun a b c h1 h2=>by simp at *;omega) (fun a b=>by simp;omega) l
 have h2:(Zi5 l).Nodup:=(List.mergeSort_perm l _).nodup_iff.2 h
 have h3:(Zi5 l).Pairwise (·≠·):=h2
 exact (h1.and h3).imp fun ⟨a,b⟩=>by simp at a;omega
def Zdp:List Int→Int→List Int
 | [],x=>[x]
 | y::l,x=>if y<x then y::Zdp l x else if y=x then y::l else x::y::l
theorem Zn8 (l:List Int) (x:Int) (h:l.length+1≤1073741824):ZfJ l x=some (Zdp l x):=by
 unfold ZfJ
 refine (Zad (fun l _ (st:List Int × Bool)=>some (if st.2=true then st.1++l else st.1++Zdp l x)) (fun l _ (st:List Int × Bool)=>st.1.length+l.length+(if st.2=true then 0 else 1)≤1073741824) ?_ ?_ l 0 ([],false) (by simpa using h)).trans (by simp)
 ·rintro i ⟨row,d⟩ hI
  cases d with
  | true=>simp
  | false=>simp only [Bool.false_eq_true,if_false,Zdp];simp at hI;rw [Zj _ (by omega)]
 ·rintro y l i ⟨row,d⟩ hI
  left
  cases d with
  | true=>
   simp at hI
   exact ⟨(row++[y],true),by simp only [if_true];rw [Zj _ (by omega)],by simp;omega,by simp⟩
  | false=>
   simp at hI
   by_cases h1:x≤y
   ·by_cases h2:y=x
    ·subst h2
     exact ⟨(row++[y],true),by simp;rw [Zj _ (by omega)],by simp;omega,by simp [Zdp]⟩
    ·exact ⟨(row++[x]++[y],true),by simp [h1,h2];rw [Zj _ (by omega),Zj _ (by omega)],by simp;omega,by simp [Zdp,h2,show ¬y<x by omega]⟩
   ·exact ⟨(row++[y],false),by simp [h1];rw [Zj _ (by omega)],by simp;omega,by simp [Zdp,show y<x by omega]⟩
theorem Zls {x y:Int}:∀{l:List Int},y∈Zdp l x↔y=x∨y∈l
 | []=>by simp [Zdp]
 | z::l=>by
  simp only [Zdp]
  split
  ·rw [List.mem_cons,Zls,List.mem_cons]
   constructor
   ·rintro (h | h | h)<;>simp [h]
   ·rintro (h | h | h)<;>simp [h]
  ·split
   ·rename_i h;subst h;simp
   ·simp
theorem ZnQ {x:Int}:∀{l:List Int},l.Pairwise (·<·)→(Zdp l x).Pairwise (·<·)
 | [],_=>by simp [Zdp]
 | z::l,h=>by
  rw [List.pairwise_cons] at h
  simp only [Zdp]
  split
  ·rw [List.pairwise_cons]
   refine ⟨fun y hy=>?_,ZnQ h.2⟩
   rcases Zls.1 hy with rfl | hy
   ·assumption
   ·exact h.1 y hy
  ·split
   ·rw [List.pairwise_cons];exact h
   ·rw [List.pairwise_cons,List.pairwise_cons]
    refine ⟨fun y hy=>?_,h⟩
    rcases List.mem_cons.1 hy with rfl | hy
    ·omega
    ·have:=h.1 y hy;omega
theorem Zo8 (x:Int):∀l:List Int,(Zdp l x).length≤l.length+1
 | []=>by simp [Zdp]
 | z::l=>by
  simp only [Zdp]
  split
  ·have:=Zo8 x l;simp;omega
  ·split<;>simp
end Go.Proofs.YtojnhepgnbhaaaaGreatDoor
namespace Go.Proofs.YtojnhepgnbhaaaaGreatDoor
open Classical
section
variable {α σ ρ:Type} {body:Nat→α→σ→Option (σ ⊕ ρ)} {fin:σ→Option ρ}
theorem Zks (st:List α→σ) (ok:List α→Prop) [DecidablePred ok] (q:ρ) (l:List α) (h0:ok []) (mono:∀p r,l=p++r→ok l→ok p)
  (h:∀p x r,l=p++x::r→ok p→body p.length x (st p)=if ok (p++[x]) then some (.inl (st (p++[x]))) else some (.inr q)):Zp body fin l 0 (st [])=if ok l then fin (st l) else some q:=by
 have key:∀(r pre:List α),l=pre++r→ok pre→Zp body fin r pre.length (st pre)=if ok l then fin (st l) else some q:=by
  intro r
  induction r with
  | nil=>intro pre e hp;rw [List.append_nil] at e;subst e;rw [if_pos hp];rfl
  | cons x r ih=>
   intro pre e hp
   have hx:=h pre x r e hp
   have e2:l=(pre++[x])++r:=by rw [e];simp
   by_cases hk:ok (pre++[x])
   ·rw [if_pos hk] at hx
    rw [Ye hx]
    simpa using ih (pre++[x]) e2 hk
   ·rw [if_neg hk] at hx
    rw [Yy hx,if_neg fun hl=>hk (mono _ _ e2 hl)]
 exact key l [] rfl h0
end
noncomputable def Ztv:List Zc→Zc→Nat→Int
 | [],_,_=>-1
 | x::l,f,i=>if x=f then ((i:Nat):Int) else Ztv l f (i+1)
noncomputable def Y0 (l:List Zc) (f:Zc):Int:=Ztv l f 0
theorem ZbO (l:List Zc) (f:Zc):Yh l f=some (Y0 l f):=by
 unfold Yh Y0
 generalize 0=i
 induction l generalizing i with
 | nil=>rfl
 | cons x l ih=>
  by_cases hx:x=f
  ·rw [Yy (r:=((i:Nat):Int)) (by rw [ZbM,Option.bind_some,if_pos (decide_eq_true hx)])]
   simp [Ztv,hx]
  ·rw [Ye (s':=()) (by rw [ZbM,Option.bind_some,if_neg (by simpa using hx)]),ih (i+1)]
   simp [Ztv,hx]
theorem Zd6 (l:List Zc) (f:Zc):Zau l f=some (Y0 l f):=ZbO l f
theorem ZB4 {f:Zc}:∀{l:List Zc} {i:Nat},(f∉l∧Ztv l f i=-1)∨∃j,Ztv l f i=((i+j:Nat):Int)∧l[j]?=some f
 | [],i=>.inl ⟨by simp,rfl⟩
 | x::l,i=>by
  unfold Ztv
  by_cases hx:x=f
  ·rw [if_pos hx];exact .inr ⟨0,by simp,by simp [hx]⟩
  ·rw [if_neg hx]
   rcases ZB4 (f:=f) (l:=l) (i:=i+1) with ⟨h1,h2⟩ | ⟨j,h1,h2⟩
   ·exact .inl ⟨by simp only [List.mem_cons,not_or];exact ⟨fun e=>hx e.symm,h1⟩,h2⟩
   ·exact .inr ⟨j+1,by rw [h1];congr 1;omega,by simpa using h2⟩
theorem ZBH (l:List Zc) (f:Zc):(f∉l∧Y0 l f=-1)∨∃j,Y0 l f=((j:Nat):Int)∧l[j]?=some f:=by
 have:=ZB4 (f:=f) (l:=l) (i:=0)
 simpa [Y0] using this
theorem ZBY {l:List Zc} {f:Zc} (h:f∈l):∃j,Y0 l f=((j:Nat):Int)∧l[j]?=some f:=(ZBH l f).resolve_left fun h'=>h'.1 h
noncomputable def Zas (F l:List Zc):List Int:=l.foldl (fun row f=>if 0≤Y0 F f then Zdp row (Y0 F f) else row) []
theorem Zg6 (F:List Zc):∀(l:List Zc) (row:List Int),row.Pairwise (·<·)→(l.foldl (fun row f=>if 0≤Y0 F f then Zdp row (Y0 F f) else row) row).Pairwise (·<·)∧(∀x,x∈l.foldl (fun row f=>if 0≤Y0 F f then Zdp row (Y0 F f) else row) row↔x∈row∨∃f∈l,Y0 F f=x∧0≤x)∧(l.foldl (fun row f=>if 0≤Y0 F f then Zdp row (Y0 F f) else row) row).length≤row.length+l.length
 | [],row,h=>⟨h,by simp,by simp⟩
 | f::l,row,h=>by
  rw [List.foldl_cons]
  by_cases h0:0≤Y0 F f
  ·rw [if_pos h0]
   obtain ⟨h1,h2,h3⟩:=Zg6 F l (Zdp row (Y0 F f)) (ZnQ h)
   have:=Zo8 (Y0 F f) row
   refine ⟨h1,fun x=>?_,by simp only [List.length_cons];omega⟩
   rw [h2,Zls]
   constructor
   ·rintro ((rfl | h) | ⟨g,mg,e⟩)
    ·exact .inr ⟨f,by simp,rfl,h0⟩
    ·exact .inl h
    ·exact .inr ⟨g,by simp [mg],e⟩
   ·rintro (h | ⟨g,mg,e,e0⟩)
    ·exact .inl (.inr h)
    ·rcases List.mem_cons.1 mg with rfl | mg
     ·exact .inl (.inl e.symm)
     ·exact .inr ⟨g,mg,e,e0⟩
  ·rw [if_neg h0]
   obtain ⟨h1,h2,h3⟩:=Zg6 F l row h
   refine ⟨h1,fun x=>?_,by simp only [List.length_cons];omega⟩
   rw [h2]
   constructor
   ·rintro (h | ⟨g,mg,e⟩)
    ·exact .inl h
    ·exact .inr ⟨g,by simp [mg],e⟩
   ·rintro (h | ⟨g,mg,e,e0⟩)
    ·exact .inl h
    ·rcases List.mem_cons.1 mg with rfl | mg
     ·rw [e] at h0;exact absurd e0 h0
     ·exact .inr ⟨g,mg,e,e0⟩
theorem ZdK (F l:List Zc):(Zas F l).Pairwise (·<·)∧(∀x,x∈Zas F l↔∃f∈l,Y0 F f=x∧0≤x)∧(Zas F l).length≤l.length:=by
 obtain ⟨h1,h2,h3⟩:=Zg6 F l [] List.Pairwise.nil
 exact ⟨h1,fun x=>by rw [Zas,h2];simp,by simpa [Zas] using h3⟩
theorem ZnX (F p:List Zc) (f:Zc):Zas F (p++[f])=if 0≤Y0 F f then Zdp (Zas F p) (Y0 F f) else Zas F p:=by rw [Zas,List.foldl_append];rfl
theorem ZgL (F l:List Zc) (h:l.length≤1000000):Zbz F l=some (Zas F l):=by
 unfold Zbz
 have h0:Zas F []=[]:=rfl
 rw [←h0,ZaP (fun p=>Zas F p) l]
 intro p f q e
 have hp:p.length≤l.length:=by rw [e];simp
 have:=(ZdK F p).2.2
 rw [Zd6,Option.bind_some,ZnX]
 by_cases h0:0≤Y0 F f
 ·rw [if_pos (by simpa using h0),if_pos h0,Zn8 _ _ (by omega)]
  rfl
 ·rw [if_neg (by simpa using h0),if_neg h0]
noncomputable def ZaW (F l:List Zc):List Int:=l.foldl (fun row f=>if 0≤Y0 F f∧Y0 F f∉row then row++[Y0 F f] else row) []
theorem Zjb (F p:List Zc) (f:Zc):ZaW F (p++[f])=if 0≤Y0 F f∧Y0 F f∉ZaW F p then ZaW F p++[Y0 F f] else ZaW F p:=by rw [ZaW,List.foldl_append];rfl
theorem Zjt (F:List Zc):∀n (l:List Zc),l.length=n→(ZaW F l).Nodup∧(∀x,x∈ZaW F l↔∃f∈l,Y0 F f=x∧0≤x)∧(ZaW F l).length≤l.length:=by
 intro n
 induction n with
 | zero=>intro l hl;rw [List.eq_nil_of_length_eq_zero hl];simp [ZaW]
 | succ n ih=>
  intro l hl
  obtain ⟨p,f,rfl⟩:∃p f,l=p++[f]:=⟨l.dropLast,l.getLast (by intro e;simp [e] at hl),(List.dropLast_concat_getLast _).symm⟩
  obtain ⟨h1,h2,h3⟩:=ih p (by simpa using hl)
  rw [Zjb]
  by_cases hc:0≤Y0 F f∧Y0 F f∉ZaW F p
  ·rw [if_pos hc]
   refine ⟨by rw [List.nodup_append];exact ⟨h1,by simp,fun a ha b hb e=>by simp at hb;subst hb;subst e;exact hc.2 ha⟩,fun x=>?_,by simp;omega⟩
   rw [List.mem_append,h2]
   constructor
   ·rintro (⟨g,mg,e⟩ | h)
    ·exact ⟨g,by simp [mg],e⟩
    ·simp at h;subst h;exact ⟨f,by simp,rfl,hc.1⟩
   ·rintro ⟨g,mg,e,e0⟩
    rcases List.mem_append.1 mg with mg | mg
    ·exact .inl ⟨g,mg,e,e0⟩
    ·simp at mg;subst mg;exact .inr (by simp [e])
  ·rw [if_neg hc]
   refine ⟨h1,fun x=>?_,by simp;omega⟩
   rw [h2]
   constructor
   ·rintro ⟨g,mg,e⟩
    exact ⟨g,by simp [mg],e⟩
   ·rintro ⟨g,mg,e,e0⟩
    rcases List.mem_append.1 mg with mg | mg
    ·exact ⟨g,mg,e,e0⟩
    ·simp at mg;subst mg
     have:Y0 F g∈ZaW F p:=Classical.byContradiction fun hn=>hc ⟨by rw [e];exact e0,hn⟩
     rw [e] at this
     exact (h2 x).1 this
theorem Zhv (F l:List Zc) (h:l.length≤1000000):Zcy F l=some (Zas F l):=by
 unfold Zcy
 have h0:ZaW F []=[]:=rfl
 rw [←h0,ZaP (fun p=>ZaW F p) l]
 ·obtain ⟨h1,h2,h3⟩:=Zjt F _ l rfl
  obtain ⟨k1,k2,_⟩:=ZdK F l
  simp only [ZeM]
  rw [Zj _ (by omega),Option.bind_some,Zk7 (ZqZ h1) k1 fun x=>by rw [Zrl,h2,k2]]
 ·intro p f q e
  have hp:p.length≤l.length:=by rw [e];simp
  have h3:=(Zjt F _ p rfl).2.2
  rw [ZbO,Option.bind_some,Zjb]
  by_cases h0:0≤Y0 F f
  ·rw [if_pos (by simpa using h0),ZnV,Option.bind_some]
   by_cases hm:Y0 F f∈ZaW F p
   ·rw [if_pos (Zo6.2 hm),if_neg (fun h=>h.2 hm)]
   ·rw [if_neg (by rw [Zo6];exact hm),if_pos ⟨h0,hm⟩,Zj _ (by omega)]
    rfl
  ·rw [if_neg (by simpa using h0),if_neg (fun h=>h0 h.1)]
theorem ZdW (a b:List Int):Zbt a b=some (decide (a=b)):=by
 unfold Zbt
 by_cases h:a.length=b.length
 ·rw [if_neg (by simp;omega),X7 (p:=fun i x=>decide (b[i]?=some x)) (r:=false)]
  ·have:Zbr (fun i x=>decide (b[i]?=some x)) a 0=decide (a=b):=by
    rw [Bool.eq_iff_iff,decide_eq_true_iff]
    constructor
    ·intro ha
     apply List.ext_getElem?
     intro i
     by_cases hi:i<a.length
     ·have hx:=List.getElem?_eq_getElem hi
      have:=Zm3 ha i _ hx
      simp only [Nat.zero_add,decide_eq_true_eq] at this
      rw [hx,this]
     ·rw [List.getElem?_eq_none (by omega),List.getElem?_eq_none (by omega)]
    ·rintro rfl
     have:∀(l pre:List Int),Zbr (fun i x=>decide ((pre++l)[i]?=some x)) l pre.length=true:=by
      intro l
      induction l with
      | nil=>intro pre;rfl
      | cons x l ih=>
       intro pre
       simp only [Zbr,Bool.and_eq_true,decide_eq_true_eq]
       refine ⟨by simp,?_⟩
       have:=ih (pre++[x])
       simpa using this
     simpa using this a []
   rw [this]
   cases decide (a=b)<;>rfl
  ·intro j x hx
   have hj:=(List.getElem?_eq_some_iff.1 hx).1
   have hb:b[j]?=some b[j]:=List.getElem?_eq_getElem (by omega)
   rw [Nat.zero_add,Zcm,hb,Option.bind_some]
   by_cases he:x=b[j]
   ·simp [he]
   ·have:¬b[j]=x:=fun e=>he e.symm
    simp [he,this]
 ·rw [if_pos (by simp;omega),decide_eq_false (fun e=>h (by rw [e]))]
theorem Zal (a b:List Int):Zbc a b=some (decide (a=b)):=ZdW a b
theorem ZkS {a b:Zh} (h1:a.for_=b.for_) (h2:a.inn=b.inn) (h3:a.outs=b.outs):a=b:=by
 cases a;cases b;simp only at h1 h2 h3;subst h1 h2 h3;rfl
theorem ZjF (a b:Zh):Zbb a b=some (decide (a=b)):=by
 unfold Zbb
 by_cases h1:a.for_=b.for_
 ·rw [if_pos (by simpa using h1),ZdW,Option.bind_some]
  by_cases h2:a.inn=b.inn
  ·rw [if_pos (decide_eq_true h2),ZdW,Option.bind_some]
   congr 1
   rw [Bool.eq_iff_iff,decide_eq_true_iff,decide_eq_true_iff]
   exact ⟨ZkS h1 h2,fun e=>by rw [e]⟩
  ·rw [if_neg (by simpa using h2),decide_eq_false (fun e=>h2 (by rw [e]))]
 ·rw [if_neg (by simpa using h1),decide_eq_false (fun e=>h1 (by rw [e]))]
theorem ZkM (l:List Zh) (r:Zh):ZaK l r=some (decide (r∈l)):=by
 unfold ZaK
 rw [ZcB (p:=fun x=>decide (x=r)) (r:=true)]
 ·have:l.any (fun x=>decide (x=r))=decide (r∈l):=by
   rw [Bool.eq_iff_iff,List.any_eq_true,decide_eq_true_iff]
   exact ⟨fun ⟨x,mx,e⟩=>by rw [decide_eq_true_iff] at e;rw [←e];exact mx,fun h=>⟨r,h,by simp⟩⟩
  rw [this]
  cases decide (r∈l)<;>rfl
 ·intro i x mx
  rw [ZjF,Option.bind_some]
  cases decide (x=r)<;>rfl
theorem Zni (l:List Zh) (r:Zh):∃z,Zec l r=some z∧(0≤z↔r∈l):=by
 unfold Zec
 generalize 0=i
 induction l generalizing i with
 | nil=>exact ⟨-1,rfl,by simp⟩
 | cons x l ih=>
  by_cases hx:x=r
  ·subst hx
   refine ⟨((i:Nat):Int),Yy ?_,by simp⟩
   rw [if_pos (by simp),Zal,Option.bind_some,if_pos (by simp),Zal,Option.bind_some,if_pos (by simp)]
  ·obtain ⟨z,e,hz⟩:=ih (i+1)
   refine ⟨z,(Ye ?_).trans e,by rw [hz,List.mem_cons];exact ⟨.inr,fun h=>h.resolve_left fun e=>hx e.symm⟩⟩
   by_cases h1:x.for_=r.for_
   ·rw [if_pos (by simpa using h1),Zal,Option.bind_some]
    by_cases h2:x.inn=r.inn
    ·rw [if_pos (decide_eq_true h2),Zal,Option.bind_some,if_neg (by simpa using fun e=>hx (ZkS h1 h2 e))]
    ·rw [if_neg (by simpa using h2)]
   ·rw [if_neg (by simpa using h1)]
noncomputable def ZrB (r:Zf) (t:Zt):List Zc:=(r.cond.filter fun x=>x.kind==2).map fun x=>(Ze4 (Ze8 x.pattern t.binding)).1
noncomputable def Yi (F:List Zc) (r:Zf) (t:Zt) (a:Zr):Zh:={ for_:=Y0 F (Yx a t),inn:=Zas F t.facts,outs:=Zas F (ZrB r t) }
theorem ZoR {ρ:Type} {r:Zf} {t:Zt} (hr:r.cond.length≤1000000) {fin:List Zc→Option ρ} {body:Nat→Zm→List Zc→Option (List Zc ⊕ ρ)}
  (hb:∀i x row,row.length≤1000000→body i x row=if (x.kind==2)=true then some (.inl (row++[(Ze4 (Ze8 x.pattern t.binding)).1])) else some (.inl row)):Zp body fin r.cond 0 []=fin (ZrB r t):=by
 rw [YY (g:=fun x:Zm=>if (x.kind==2)=true then some (Ze4 (Ze8 x.pattern t.binding)).1 else none)]
 ·rw [List.nil_append]
  congr 1
  unfold ZrB
  induction r.cond with
  | nil=>rfl
  | cons x l ih=>
   by_cases hx:(x.kind==2)=true
   ·simp only [List.filterMap_cons,List.filter_cons,hx,if_true,List.map_cons,ih]
   ·simp only [List.filterMap_cons,List.filter_cons,hx,if_false,ih]
    simp
 ·intro j x s mx hs
  rw [hb _ _ _ (by simp at hs;omega)]
  by_cases hx:(x.kind==2)=true
  ·rw [if_pos hx,if_pos hx]
   rfl
  ·rw [if_neg hx,if_neg hx]
   simp
theorem ZkZ (r:Zf) (t:Zt):(ZrB r t).length≤r.cond.length:=by
 rw [ZrB,List.length_map]
 exact List.length_filter_le _ _
theorem Zj2 {F:List Zc} {r:Zf} {t:Zt} (hr:r.cond.length≤4) (ht:Zsr F t) {j:Nat} {a:Zr} (ha:r.thn[j]?=some a):ZaT r ((j:Nat):Int) t F=some (Yi F r t a):=by
 have hb:=ht.bind
 have hl:=ht.len
 have e1:∀p,Xi p t.binding=some (Ze4 (Ze8 p t.binding)):=fun p=>Zg0 p t.binding (by omega)
 unfold ZaT
 rw [Zcm,ha,Option.bind_some,e1,Option.bind_some,ZoR (t:=t) (by omega) (fun i x row hrow=>by rw [e1,Option.bind_some,Zj _ (by omega)])]
 have:=ZkZ r t
 rw [Zd6,Option.bind_some,ZgL _ _ (by omega),Option.bind_some,ZgL _ _ (by omega),Option.bind_some]
 rfl
noncomputable def ZiR (l:List Zh) (r:Zh):List Zh:=if r∈l then l else l++[r]
theorem ZsD (l:List Zh) (r:Zh):l.length≤(ZiR l r).length∧(ZiR l r).length≤l.length+1:=by
 unfold ZiR
 split<;>simp
theorem ZmQ:∀(c l:List Zh),l.length≤(c.foldl ZiR l).length∧(c.foldl ZiR l).length≤l.length+c.length
 | [],l=>by simp
 | r::c,l=>by
  have h1:=ZmQ c (ZiR l r)
  have h2:=ZsD l r
  simp only [List.foldl_cons,List.length_cons]
  omega
theorem Zj9 {α β:Type} {g:α→List β} {N:Nat}:∀{l:List α},(∀x∈l,(g x).length≤N)→(l.flatMap g).length≤N * l.length
 | [],_=>by simp
 | x::l,h=>by
  have h1:=h x (by simp)
  have h2:=Zj9 (l:=l) fun y my=>h y (by simp [my])
  rw [List.flatMap_cons,List.length_append,List.length_cons,Nat.mul_add]
  omega
noncomputable def QA {β:Type} (s:List Zh × List β) (p:Zh × β):List Zh × List β:=if p.1∈s.1 then s else (s.1++[p.1],s.2++[p.2])
theorem ZcO {β:Type}:∀(c:List (Zh × β)) (s:List Zh × List β),(c.foldl QA s).1=(c.map Prod.fst).foldl ZiR s.1∧(s.2.length=s.1.length→(c.foldl QA s).2.length=(c.foldl QA s).1.length)
 | [],s=>⟨rfl,fun h=>h⟩
 | p::c,s=>by
  obtain ⟨h1,h2⟩:=ZcO c (QA s p)
  have e:(QA s p).1=ZiR s.1 p.1:=by unfold QA ZiR;split<;>rfl
  refine ⟨by rw [List.foldl_cons,h1,e];rfl,fun h=>h2 ?_⟩
  unfold QA
  split
  ·exact h
  ·simp [h]
theorem Zh5 {β:Type} (c:List (Zh × β)) (s:List Zh × List β):s.1.length≤(c.foldl QA s).1.length∧(c.foldl QA s).1.length≤s.1.length+c.length:=by
 have:=ZmQ (c.map Prod.fst) s.1
 rw [(ZcO c s).1]
 simpa using this
section
variable {β:Type} (o:Zf→Zt→β) (F:List Zc)
noncomputable def Zl5 (r:Zf) (t:Zt):List (Zh × β):=r.thn.map fun a=>(Yi F r t a,o r t)
noncomputable def ZkG (r:Zf):List (Zh × β):=(ZQ (Zav r) F).flatMap (Zl5 o F r)
noncomputable def ZcT (base:List Zc):List Zh:=base.map fun f=>{ for_:=Y0 F f,inn:=[],outs:=[] }
noncomputable def Zan (z:β) (R:List Zf) (base:List Zc):List Zh × List β:=(R.flatMap (ZkG o F)).foldl QA (ZcT F base,base.map fun _=>z)
theorem Zpi (r:Zf) (t:Zt):(Zl5 o F r t).length=r.thn.length:=by simp [Zl5]
end
noncomputable def ZyV (F:List Zc) (r:Zf) (t:Zt):List Zh:=r.thn.map (Yi F r t)
noncomputable def Zsl (F:List Zc) (r:Zf):List Zh:=(ZQ (Zav r) F).flatMap (ZyV F r)
noncomputable def Zak (R:List Zf) (F base:List Zc):List Zh:=(R.flatMap (Zsl F)).foldl ZiR (ZcT F base)
theorem Zja {β:Type} (o:Zf→Zt→β) (F:List Zc) (z:β) (R:List Zf) (base:List Zc):(Zan o F z R base).1=Zak R F base∧(Zan o F z R base).2.length=(Zak R F base).length:=by
 obtain ⟨h1,h2⟩:=ZcO (R.flatMap (ZkG o F)) (ZcT F base,base.map fun _=>z)
 have e:(R.flatMap (ZkG o F)).map Prod.fst=R.flatMap (Zsl F):=by
  rw [List.map_flatMap]
  congr 1
  funext r
  rw [ZkG,Zsl,List.map_flatMap]
  congr 1
  funext t
  simp [Zl5,ZyV]
 have h3:(Zan o F z R base).1=Zak R F base:=by unfold Zan Zak;rw [h1,e]
 refine ⟨h3,?_⟩
 rw [←h3]
 exact h2 (by simp [ZcT])
section
variable {β ρ:Type} {o:Zf→Zt→β} {F:List Zc}
theorem ZmG {base:List Zc} (hl:base.length≤1000000) {z:β} {fin:List Zh × List β→Option ρ} {body:Nat→Zc→List Zh × List β→Option ((List Zh × List β) ⊕ ρ)}
  (hb:∀i f a b,a.length≤1000000→b.length≤1000000→body i f (a,b)=some (.inl (a++[{ for_:=Y0 F f,inn:=[],outs:=[] }],b++[z]))):Zp body fin base 0 ([],[])=fin (ZcT F base,base.map fun _=>z):=by
 have h0:(([],[]):List Zh × List β)=(ZcT F [],([]:List Zc).map fun _=>z):=rfl
 rw [h0,ZaP (fun p=>(ZcT F p,p.map fun _=>z)) base]
 intro p f q e
 have hp:p.length≤base.length:=by rw [e];simp
 rw [hb _ _ _ _ (by rw [ZcT,List.length_map];omega) (by rw [List.length_map];omega)]
 simp [ZcT]
theorem ZuR {r:Zf} {t:Zt} (hr2:r.thn.length≤2) {fin:List Zh × List β→Option ρ} {body:Nat→Zr→List Zh × List β→Option ((List Zh × List β) ⊕ ρ)} {s:List Zh × List β} (hl:s.1.length≤99999998) (hs:s.2.length=s.1.length)
  (hb:∀i a c d,c.length≤100000000→d.length≤100000000→body i a (c,d)=if decide (Yi F r t a∈c)=true then some (.inl (c,d)) else some (.inl (c++[Yi F r t a],d++[o r t]))):Zp body fin r.thn 0 s=fin ((Zl5 o F r t).foldl QA s):=by
 have h0:s=((([]:List Zr).map fun a=>(Yi F r t a,o r t))).foldl QA s:=rfl
 conv=>lhs;rw [h0]
 rw [ZaP (fun p:List Zr=>(p.map fun a=>(Yi F r t a,o r t)).foldl QA s) r.thn]
 ·rfl
 ·intro p a q e
  have hp:p.length≤r.thn.length:=by rw [e];simp
  have h1:=Zh5 (p.map fun a=>(Yi F r t a,o r t)) s
  have h2:=(ZcO (p.map fun a=>(Yi F r t a,o r t)) s).2 hs
  rw [List.length_map] at h1
  rw [List.map_append,List.foldl_append]
  generalize (p.map fun a=>(Yi F r t a,o r t)).foldl QA s=u at h1 h2 ⊢
  obtain ⟨c,d⟩:=u
  simp only at h1 h2
  rw [hb _ _ _ _ (by omega) (by omega)]
  show _=some (Sum.inl (QA (c,d) (Yi F r t a,o r t)))
  unfold QA
  by_cases hm:Yi F r t a∈c
  ·rw [if_pos (decide_eq_true hm),if_pos hm]
  ·rw [if_neg (by simpa using hm),if_neg hm]
theorem ZrT {α:Type} {g:α→List (Zh × β)} {L:List α} {M N:Nat} (hg:∀x∈L,(g x).length≤N) {fin:List Zh × List β→Option ρ} {body:Nat→α→List Zh × List β→Option ((List Zh × List β) ⊕ ρ)} {s:List Zh × List β} (hl:s.1.length+N * L.length≤M) (hs:s.2.length=s.1.length)
  (hb:∀i x u,x∈L→u.1.length≤M→u.2.length=u.1.length→body i x u=some (.inl ((g x).foldl QA u))):Zp body fin L 0 s=fin ((L.flatMap g).foldl QA s):=by
 have h0:s=(([]:List α).flatMap g).foldl QA s:=rfl
 conv=>lhs;rw [h0]
 rw [ZaP (fun p=>(p.flatMap g).foldl QA s) L]
 intro p x q e
 have hp:p.length≤L.length:=by rw [e];simp
 have h1:=Zh5 (p.flatMap g) s
 have h2:=(ZcO (p.flatMap g) s).2 hs
 have h3:=Zj9 (l:=p) (g:=g) (N:=N) fun y my=>hg y (by rw [e];simp [my])
 have h4:=Nat.mul_le_mul_left N hp
 rw [hb _ _ _ (by rw [e];simp) (by omega) h2,List.flatMap_append,List.foldl_append]
 simp
theorem ZuW {r:Zf} {t:Zt} {q:ρ} {fin:List Zh × List β→Option ρ} {body:Nat→Zr→List Zh × List β→Option ((List Zh × List β) ⊕ ρ)} {s:List Zh × List β} (hl:s.1.length≤60) (hs:s.2.length=s.1.length)
  (hb:∀j a c d,r.thn[j]?=some a→c.length≤60→d.length≤60→body j a (c,d)=if Yi F r t a∈c then some (.inl (c,d)) else if 60≤c.length then some (.inr q) else some (.inl (c++[Yi F r t a],d++[o r t]))):Zp body fin r.thn 0 s=if ((Zl5 o F r t).foldl QA s).1.length≤60 then fin ((Zl5 o F r t).foldl QA s) else some q:=by
 have h0:s=((([]:List Zr).map fun a=>(Yi F r t a,o r t))).foldl QA s:=rfl
 conv=>lhs;rw [h0]
 rw [Zks (fun p:List Zr=>(p.map fun a=>(Yi F r t a,o r t)).foldl QA s) (fun p=>((p.map fun a=>(Yi F r t a,o r t)).foldl QA s).1.length≤60) q r.thn (by simpa using hl) (fun p c e h=>by
  rw [e,List.map_append,List.foldl_append] at h
  exact Nat.le_trans (Zh5 _ _).1 h)]
 ·rfl
 ·intro p a c e h60
  have h2:=(ZcO (p.map fun a=>(Yi F r t a,o r t)) s).2 hs
  rw [List.map_append,List.foldl_append]
  generalize (p.map fun a=>(Yi F r t a,o r t)).foldl QA s=u at h60 h2 ⊢
  obtain ⟨x,y⟩:=u
  simp only at h60 h2
  rw [hb _ _ _ _ (by rw [e];simp) h60 (by omega)]
  show _=if (QA (x,y) (Yi F r t a,o r t)).1.length≤60 then some (Sum.inl (QA (x,y) (Yi F r t a,o r t))) else some (Sum.inr q)
  unfold QA
  by_cases hm:Yi F r t a∈x
  ·rw [if_pos hm,if_pos hm,if_pos h60]
  ·rw [if_neg hm,if_neg hm]
   by_cases h1:60≤x.length
   ·rw [if_pos h1,if_neg (by simp;omega)]
   ·rw [if_neg h1,if_pos (by simp;omega)]
theorem Zss {α:Type} {g:α→List (Zh × β)} {L:List α} {q:ρ} {fin:List Zh × List β→Option ρ} {body:Nat→α→List Zh × List β→Option ((List Zh × List β) ⊕ ρ)} {s:List Zh × List β} (hl:s.1.length≤60) (hs:s.2.length=s.1.length)
  (hb:∀i x u,x∈L→u.1.length≤60→u.2.length=u.1.length→body i x u=if ((g x).foldl QA u).1.length≤60 then some (.inl ((g x).foldl QA u)) else some (.inr q)):Zp body fin L 0 s=if ((L.flatMap g).foldl QA s).1.length≤60 then fin ((L.flatMap g).foldl QA s) else some q:=by
 have h0:s=(([]:List α).flatMap g).foldl QA s:=rfl
 conv=>lhs;rw [h0]
 rw [Zks (fun p=>(p.flatMap g).foldl QA s) (fun p=>((p.flatMap g).foldl QA s).1.length≤60) q L (by simpa using hl) (fun p c e h=>by
  rw [e,List.flatMap_append,List.foldl_append] at h
  exact Nat.le_trans (Zh5 _ _).1 h)]
 intro p x c e h60
 have h2:=(ZcO (p.flatMap g) s).2 hs
 rw [hb _ _ _ (by rw [e];simp) h60 h2,List.flatMap_append,List.foldl_append]
 simp
end
def noB:ZK:={ nodes:=0,reasons:=[] }
def Znv (r:Zf) (t:Zt):Zaj:={ rule:=r.name,facts:=t.facts }
def ZnS (r:Zf) (t:Zt):Xx:={ rule:=r.name,token:=t }
def noI:Zaj:={ rule:=⟨#[]⟩,facts:=[] }
def noS:Xx:={ rule:=⟨#[]⟩,token:={ facts:=[],binding:=[] } }
def Zqj {β:Type} (F:List Zc) (g:List Zh × List β):List Zc × ZK × List β × Bool:=if 60<g.1.length then ([],noB,[],false) else (F,{ nodes:=((F.length:Nat):Int),reasons:=g.1 },g.2,true)
structure Qu (R:List Zf) (base F:List Zc):Prop where
 logical:(YI R&&R.all (Xq R))=true
 facts:YQ base=true
 good:Zeq R base F
 len:F.length≤24
 closed:ZhE R F
theorem Qu.rule {R:List Zf} {base F:List Zc} (h:Qu R base F) {r:Zf} (mr:r∈R):Z2 r=true∧r.cond.length≤4∧r.thn.length≤2:=by
 have h1:=h.logical
 rw [Bool.and_eq_true] at h1
 have h2:=List.all_eq_true.1 h1.2 r mr
 unfold Xq at h2
 rw [Bool.and_eq_true] at h2
 have h3:=h2.1
 unfold Z2 at h3
 simp only [Bool.and_eq_true] at h3
 exact ⟨h2.1,ZbU h3.1.1⟩
theorem Qu.toks {R:List Zf} {base F:List Zc} (h:Qu R base F) {r:Zf} (mr:r∈R):(ZQ (Zav r) F).length≤331776:=ZeB F h.len (Zav r) (by have:=Zc5 r;have:=(h.rule mr).2.1;omega)
theorem Qu.tokS {R:List Zf} {base F:List Zc} (h:Qu R base F) {r:Zf} (mr:r∈R) {t:Zt} (mt:t∈ZQ (Zav r) F):Zsr F t:=(Zd8 F _ t mt).s (by have:=Zc5 r;have:=(h.rule mr).2.1;omega) fun f mf=>X4 (h.good.ok f mf)
theorem Zpd {R:List Zf} {base F:List Zc} (h:Qu R base F) (hp:Yv R base=some (F,true)):Zbe R base=some (Zqj F (Zan Znv F noI R base)):=by
 have h6:R.length≤6:=by have:=h.logical;rw [Bool.and_eq_true] at this;exact (ZhQ this.1).1
 have hb24:=(ZdP h.facts).1
 unfold Zbe
 rw [hp,Option.bind_some,if_pos rfl,ZmG (F:=F) (z:=noI) (by omega)]
 ·show Zp _ _ R 0 (ZcT F base,base.map fun _=>noI)=_
  rw [ZrT (g:=ZkG Znv F) (N:=663552) (M:=90000000)]
  ·show (if decide (60<(((Zan Znv F noI R base).1.length:Nat):Int))=true then _ else _)=_
   unfold Zqj
   by_cases h60:60<(Zan Znv F noI R base).1.length
   ·rw [if_pos (decide_eq_true (by omega)),if_pos h60]
    rfl
   ·rw [if_neg (fun h=>h60 (by have:=of_decide_eq_true h;omega)),if_neg h60]
    rfl
  ·intro r mr
   obtain ⟨_,_,h2⟩:=h.rule mr
   have h3:=h.toks mr
   have:=Zj9 (l:=ZQ (Zav r) F) (g:=Zl5 Znv F r) (N:=2) fun x _=>by rw [Zpi];omega
   unfold ZkG
   omega
  ·simp only [ZcT,List.length_map];omega
  ·simp [ZcT]
  ·intro i r u mr hu hu2
   obtain ⟨c,d⟩:=u
   obtain ⟨_,h1,h2⟩:=h.rule mr
   have h3:=h.toks mr
   simp only at hu hu2
   show (YU r).bind _=_
   rw [Zbv r (by omega),Option.bind_some,ZgK _ _ (by have:=Zc5 r;omega) h.len (fun f mf=>X4 (h.good.ok f mf)),Option.bind_some,ZrT (g:=Zl5 Znv F r) (N:=2) (M:=99999998)]
   ·rfl
   ·intro t mt
    rw [Zpi]
    exact h2
   ·simp only;omega
   ·exact hu2
   ·intro j t v mt hv hv2
    obtain ⟨c2,d2⟩:=v
    simp only at hv hv2
    have ht:=h.tokS mr mt
    have hl:=ht.len
    have ha:=ZkZ r t
    show Zp _ _ r.cond 0 []=_
    rw [ZoR (t:=t) (by omega) (fun i x row hrow=>by rw [Zd5,Option.bind_some,Zj _ (by omega)])]
    rw [ZuR (o:=Znv) (F:=F) (t:=t) h2 (s:=(c2,d2)) hv hv2]
    ·intro k a x y hx hy
     show (Ql a.pattern t.binding).bind _=_
     rw [Zd5,Option.bind_some,ZbO,Option.bind_some,Zhv _ _ (by omega),Option.bind_some,Zhv _ _ (by omega),Option.bind_some]
     show (ZaK x (Yi F r t a)).bind _=_
     rw [ZkM,Option.bind_some]
     by_cases hm:Yi F r t a∈x
     ·rw [if_pos (decide_eq_true hm),if_pos (decide_eq_true hm)]
     ·rw [if_neg (by simpa using hm),if_neg (by simpa using hm),Zj _ (by omega),Zj _ (by omega)]
      rfl
 ·intro i f a b ha hb
  show (Yh F f).bind _=_
  rw [ZbO,Option.bind_some,Zj _ (by omega),Zj _ (by omega)]
  rfl
theorem Zpp {R:List Zf} {base F:List Zc} (h:Qu R base F) (hp:Yu R base=some (F,true)):XG R base=some (Zqj F (Zan ZnS F noS R base)):=by
 have h6:R.length≤6:=by have:=h.logical;rw [Bool.and_eq_true] at this;exact (ZhQ this.1).1
 have hb24:=(ZdP h.facts).1
 unfold XG
 rw [hp,Option.bind_some,if_pos rfl,ZmG (F:=F) (z:=noS) (by omega)]
 ·show Zp _ _ R 0 (ZcT F base,base.map fun _=>noS)=_
  rw [Zss (g:=ZkG ZnS F) (q:=([],noB,[],false))]
  ·show (if (Zan ZnS F noS R base).1.length≤60 then _ else _)=_
   unfold Zqj
   by_cases h60:60<(Zan ZnS F noS R base).1.length
   ·rw [if_neg (by omega),if_pos h60]
   ·rw [if_pos (by omega),if_neg h60]
    rfl
  ·simp only [ZcT,List.length_map];omega
  ·simp [ZcT]
  ·intro i r u mr hu hu2
   obtain ⟨c,d⟩:=u
   obtain ⟨_,h1,h2⟩:=h.rule mr
   simp only at hu hu2
   show (XQ r).bind _=_
   rw [Zeu r (by omega),Option.bind_some,ZgQ _ _ (by have:=Zc5 r;omega) h.len (fun f mf=>X4 (h.good.ok f mf)),Option.bind_some,Zss (g:=Zl5 ZnS F r) (q:=.inr ([],noB,[],false)) (s:=(c,d)) hu hu2]
   ·rfl
   ·intro j t v mt hv hv2
    obtain ⟨c2,d2⟩:=v
    simp only at hv hv2
    have ht:=h.tokS mr mt
    show Zp _ _ r.thn 0 (c2,d2)=_
    rw [ZuW (o:=ZnS) (F:=F) (t:=t) (q:=.inr (.inr ([],noB,[],false))) (s:=(c2,d2)) hv hv2]
    ·intro k a x y ha hx hy
     show (ZaT r ((k:Nat):Int) t F).bind _=_
     rw [Zj2 h1 ht ha,Option.bind_some]
     obtain ⟨z,hz,hz2⟩:=Zni x (Yi F r t a)
     rw [hz,Option.bind_some]
     by_cases hm:Yi F r t a∈x
     ·rw [if_pos (by simpa using hz2.2 hm),if_pos hm]
     ·rw [if_neg (by simpa using fun h0=>hm (hz2.1 h0)),if_neg hm]
      by_cases h60:60≤x.length
      ·rw [if_pos (by simp;omega),if_pos h60]
       rfl
      ·rw [if_neg (by simp;omega),if_neg h60,Zj _ (by omega),Zj _ (by omega)]
       rfl
 ·intro i f a b ha hb
  show (Zau F f).bind _=_
  rw [Zd6,Option.bind_some,Zj _ (by omega),Zj _ (by omega)]
  rfl
theorem Zpf {R:List Zf} (hR:ZbJ R) (base:List Zc) (hb20:base.length≤1048576):(Zbe R base=some ([],noB,[],false)∧XG R base=some ([],noB,[],false))∨∃F,Qu R base F∧Zbe R base=some (Zqj F (Zan Znv F noI R base))∧XG R base=some (Zqj F (Zan ZnS F noS R base)):=by
 obtain ⟨⟨F,b⟩,h1,h2,h3⟩:=Zhp hR base hb20
 have no:b=false→(Zbe R base=some ([],noB,[],false)∧XG R base=some ([],noB,[],false)):=fun e=>by
  subst e
  unfold Zbe XG
  rw [h1,h2]
  exact ⟨rfl,rfl⟩
 rcases h3 with h3 | ⟨h3,h4,⟨h5,h6,h7,h8⟩ | ⟨h5,_⟩⟩
 ·simp only [Prod.mk.injEq] at h3
  exact .inl (no h3.2)
 ·simp only at h5
  subst h5
  have hG:Qu R base F:=⟨h3,h4,h6,h7,h8⟩
  exact .inr ⟨F,hG,Zpd hG h2,Zpp hG h1⟩
 ·exact .inl (no h5)
def ZnM (R:List Zf) (base F:List Zc) (b:ZK) (ok:Bool):Prop:=(ok=false∧F=[]∧b=noB)∨(ok=true∧Qu R base F∧b={ nodes:=((F.length:Nat):Int),reasons:=Zak R F base }∧(Zak R F base).length≤60)
theorem Zhd {R:List Zf} (hR:ZbJ R) (base:List Zc) (hb20:base.length≤1048576):∃F b ok,Xz R base=some (F,b,ok)∧Xw R base=some (F,b,ok)∧ZnM R base F b ok:=by
 unfold Xz Xw
 rcases Zpf hR base hb20 with ⟨h1,h2⟩ | ⟨F,hG,h1,h2⟩
 ·rw [h1,h2]
  exact ⟨_,_,_,rfl,rfl,.inl ⟨rfl,rfl,rfl⟩⟩
 ·obtain ⟨e1,_⟩:=Zja Znv F noI R base
  obtain ⟨e2,_⟩:=Zja ZnS F noS R base
  rw [h1,h2]
  unfold Zqj
  rw [e1,e2]
  by_cases h60:60<(Zak R F base).length
  ·rw [if_pos h60,if_pos h60]
   exact ⟨_,_,_,rfl,rfl,.inl ⟨rfl,rfl,rfl⟩⟩
  ·rw [if_neg h60,if_neg h60]
   exact ⟨_,_,_,rfl,rfl,.inr ⟨rfl,hG,rfl,Nat.le_of_not_lt h60⟩⟩
theorem Zpb {r:Zh}:∀{c l:List Zh},r∈c.foldl ZiR l↔r∈l∨r∈c
 | [],l=>by simp
 | x::c,l=>by
  rw [List.foldl_cons,Zpb]
  have:r∈ZiR l x↔r∈l∨r=x:=by
   unfold ZiR
   split
   ·rename_i h
    exact ⟨.inl,fun h'=>h'.elim id fun e=>e ▸ h⟩
   ·simp
  rw [this,List.mem_cons,or_assoc]
theorem Zp4 {R:List Zf} {F base:List Zc} {x:Zh}:x∈Zak R F base↔(∃f∈base,x={ for_:=Y0 F f,inn:=[],outs:=[] })∨∃r∈R,∃t∈ZQ (Zav r) F,∃a∈r.thn,x=Yi F r t a:=by
 unfold Zak
 rw [Zpb]
 constructor
 ·rintro (h | h)
  ·obtain ⟨f,mf,e⟩:=List.mem_map.1 h
   exact .inl ⟨f,mf,e.symm⟩
  ·obtain ⟨r,mr,h⟩:=List.mem_flatMap.1 h
   obtain ⟨t,mt,h⟩:=List.mem_flatMap.1 h
   obtain ⟨a,ma,e⟩:=List.mem_map.1 h
   exact .inr ⟨r,mr,t,mt,a,ma,e.symm⟩
 ·rintro (⟨f,mf,e⟩ | ⟨r,mr,t,mt,a,ma,e⟩)
  ·exact .inl (List.mem_map.2 ⟨f,mf,e.symm⟩)
  ·exact .inr (List.mem_flatMap.2 ⟨r,mr,List.mem_flatMap.2 ⟨t,mt,List.mem_map.2 ⟨a,ma,e.symm⟩⟩⟩)
theorem Znq {R:List Zf} {base F:List Zc} (h:Qu R base F) {x:Zh} (mx:x∈Zak R F base):x.inn.length≤4∧x.outs.length≤4:=by
 rcases Zp4.1 mx with ⟨f,_,rfl⟩ | ⟨r,mr,t,mt,a,_,rfl⟩
 ·exact ⟨Nat.zero_le _,Nat.zero_le _⟩
 ·have h1:=(h.tokS mr mt).len
  have h2:=ZkZ r t
  have h3:=(h.rule mr).2.1
  exact ⟨Nat.le_trans (ZdK F t.facts).2.2 h1,Nat.le_trans (ZdK F (ZrB r t)).2.2 (by omega)⟩
theorem ZnM.small {R:List Zf} {base F:List Zc} {b:ZK} {ok:Bool} (h:ZnM R base F b ok):F.length≤1048576∧Yd F≤1048576∧ZaN b≤1048576:=by
 rcases h with ⟨_,rfl,rfl⟩ | ⟨_,hG,rfl,h60⟩
 ·simp [Yd,ZaN,noB,ZaG]
 ·have h1:=hG.len
  have h2:(F.map YP).sum≤F.length * 64:=ZjT fun x mx=>Zre (hG.good.ok x mx)
  have h3:((Zak R F base).map Zc7).sum≤(Zak R F base).length * 64:=ZjT fun x mx=>by
   obtain ⟨k1,k2⟩:=Znq hG mx
   unfold Zc7
   omega
  refine ⟨by omega,?_,?_⟩
  ·unfold Yd
   omega
  ·unfold ZaN ZaG
   simp only
   omega
end Go.Proofs.YtojnhepgnbhaaaaGreatDoor
namespace Go.Proofs.YtojnhepgnbhaaaaGreatDoor
open Classical
def mx (a b:Int):Int:=if a<b then b else a
theorem ZDi (a b:Int):a≤mx a b∧b≤mx a b:=by unfold mx;split<;>omega
theorem ZDt {a b c:Int} (h1:a≤c) (h2:b≤c):mx a b≤c:=by unfold mx;split<;>omega
theorem ZCK (g:Int→Int):∀(l:List Int) (m:Int),m≤l.foldl (fun m y=>mx m (g y)) m∧∀y∈l,g y≤l.foldl (fun m y=>mx m (g y)) m
 | [],m=>⟨Int.le_refl _,by simp⟩
 | x::l,m=>by
  obtain ⟨h1,h2⟩:=ZCK g l (mx m (g x))
  have h3:=ZDi m (g x)
  refine ⟨by rw [List.foldl_cons];omega,fun y my=>?_⟩
  rw [List.foldl_cons]
  rcases List.mem_cons.1 my with rfl | my
  ·omega
  ·exact h2 y my
theorem ZCJ {g:Int→Int} {T:Int}:∀{l:List Int} {m:Int},m≤T→(∀y∈l,g y≤T)→l.foldl (fun m y=>mx m (g y)) m≤T
 | [],_,h,_=>h
 | x::l,m,h,hl=>ZCJ (l:=l) (ZDt h (hl x (by simp))) fun y my=>hl y (by simp [my])
def OkN (n:Nat) (r:Zh):Prop:=(0≤r.for_∧r.for_.toNat<n)∧(∀y∈r.inn,0≤y∧y.toNat<n)∧∀y∈r.outs,0≤y∧y.toNat<n
def lvN (row:List Int) (i:Nat):Int:=(row[i]?).getD 0
theorem ZAh (row:List Int) (i j:Nat) (v:Int):lvN (row.set i v) j=if j=i∧i<row.length then v else lvN row j:=by
 unfold lvN
 rw [List.getElem?_set]
 by_cases h:i=j
 ·subst h
  by_cases h2:i<row.length
  ·simp [h2]
  ·simp [h2]
 ·have:¬j=i:=fun e=>h e.symm
  simp [h,this]
theorem ZAM {a b:List Int} (hl:a.length=b.length) (h:∀i,i<a.length→lvN a i=lvN b i):a=b:=by
 apply List.ext_getElem?
 intro i
 by_cases hi:i<a.length
 ·have:=h i hi
  unfold lvN at this
  rw [List.getElem?_eq_getElem hi,List.getElem?_eq_getElem (by omega)] at this ⊢
  simpa using this
 ·rw [List.getElem?_eq_none (by omega),List.getElem?_eq_none (by omega)]
def ZBa (row:List Int) (r:Zh):Int:=r.outs.foldl (fun m y=>mx m (lvN row y.toNat+1)) (r.inn.foldl (fun m y=>mx m (lvN row y.toNat)) (lvN row r.for_.toNat))
theorem ZCb (row:List Int) (r:Zh):lvN row r.for_.toNat≤ZBa row r∧(∀y∈r.inn,lvN row y.toNat≤ZBa row r)∧∀y∈r.outs,lvN row y.toNat+1≤ZBa row r:=by
 obtain ⟨h1,h2⟩:=ZCK (fun y=>lvN row y.toNat) r.inn (lvN row r.for_.toNat)
 obtain ⟨h3,h4⟩:=ZCK (fun y=>lvN row y.toNat+1) r.outs (r.inn.foldl (fun m y=>mx m (lvN row y.toNat)) (lvN row r.for_.toNat))
 exact ⟨Int.le_trans h1 h3,fun y my=>Int.le_trans (h2 y my) h3,h4⟩
theorem ZDo {row:List Int} {r:Zh} {T:Int} (h1:lvN row r.for_.toNat≤T) (h2:∀y∈r.inn,lvN row y.toNat≤T) (h3:∀y∈r.outs,lvN row y.toNat+1≤T):ZBa row r≤T:=
 ZCJ (g:=fun y=>lvN row y.toNat+1) (ZCJ (g:=fun y=>lvN row y.toNat) h1 h2) h3
def ZAc (row:List Int) (r:Zh):List Int:=row.set r.for_.toNat (ZBa row r)
def Q2 (R:List Zh) (row:List Int):List Int:=R.foldl ZAc row
theorem ZAu (row:List Int) (r:Zh):(ZAc row r).length=row.length:=by simp [ZAc]
theorem ZAK:∀(R:List Zh) (row:List Int),(Q2 R row).length=row.length
 | [],_=>rfl
 | r::R,row=>(ZAK R (ZAc row r)).trans (ZAu row r)
theorem ZAR (row:List Int) (r:Zh) (i:Nat):lvN row i≤lvN (ZAc row r) i:=by
 unfold ZAc
 rw [ZAh]
 split
 ·rename_i h
  rw [h.1]
  exact (ZCb row r).1
 ·exact Int.le_refl _
theorem ZAm:∀(R:List Zh) (row:List Int) (i:Nat),lvN row i≤lvN (Q2 R row) i
 | [],_,_=>Int.le_refl _
 | r::R,row,i=>Int.le_trans (ZAR row r i) (ZAm R (ZAc row r) i)
theorem ZBE {row:List Int} {r:Zh} (h:¬lvN row r.for_.toNat<ZBa row r):ZAc row r=row:=by
 have e:ZBa row r=lvN row r.for_.toNat:=by have:=(ZCb row r).1;omega
 refine ZAM (ZAu row r) fun i _=>?_
 unfold ZAc
 rw [ZAh]
 split
 ·rename_i h;rw [h.1,e]
 ·rfl
structure ZBs (R:List Zh) (t:Nat→Int):Prop where
 pos:∀i,0≤t i
 inn:∀r∈R,∀y∈r.inn,t y.toNat≤t r.for_.toNat
 outs:∀r∈R,∀y∈r.outs,t y.toNat+1≤t r.for_.toNat
theorem ZBx {R:List Zh} {t:Nat→Int} (ht:ZBs R t) {r:Zh} (mr:r∈R) {row:List Int} (h:∀i,lvN row i≤t i) (i:Nat):lvN (ZAc row r) i≤t i:=by
 unfold ZAc
 rw [ZAh]
 split
 ·rename_i hi
  rw [hi.1]
  exact ZDo (h _) (fun y my=>Int.le_trans (h _) (ht.inn r mr y my)) fun y my=>by have:=h y.toNat;have:=ht.outs r mr y my;omega
 ·exact h i
theorem ZAx {R:List Zh} {t:Nat→Int} (ht:ZBs R t):∀{l:List Zh},(∀r∈l,r∈R)→∀{row:List Int},(∀i,lvN row i≤t i)→∀i,lvN (Q2 l row) i≤t i
 | [],_,_,h=>h
 | r::l,hl,row,h=>ZAx ht (l:=l) (fun x mx=>hl x (by simp [mx])) (ZBx ht (hl r (by simp)) h)
theorem ZA0 {n:Nat}:∀{R:List Zh} {row:List Int},row.length=n→(∀r∈R,OkN n r)→∀r∈R,(∀y∈r.inn,lvN row y.toNat≤lvN (Q2 R row) r.for_.toNat)∧∀y∈r.outs,lvN row y.toNat+1≤lvN (Q2 R row) r.for_.toNat
 | [],_,_,_,r,mr=>by simp at mr
 | q::R,row,hl,hR,r,mr=>by
  have hs:=ZAm R (ZAc row q)
  show (∀y∈r.inn,lvN row y.toNat≤lvN (Q2 R (ZAc row q)) r.for_.toNat)∧∀y∈r.outs,lvN row y.toNat+1≤lvN (Q2 R (ZAc row q)) r.for_.toNat
  rcases List.mem_cons.1 mr with rfl | mr
  ·have h0:=(hR r (by simp)).1.2
   have e:lvN (ZAc row r) r.for_.toNat=ZBa row r:=by
    unfold ZAc
    rw [ZAh,if_pos ⟨rfl,by omega⟩]
   have h1:=hs r.for_.toNat
   rw [e] at h1
   obtain ⟨_,h2,h3⟩:=ZCb row r
   exact ⟨fun y my=>Int.le_trans (h2 y my) h1,fun y my=>Int.le_trans (h3 y my) h1⟩
  ·obtain ⟨h2,h3⟩:=ZA0 (n:=n) (R:=R) (row:=ZAc row q) (by rw [ZAu,hl]) (fun x mx=>hR x (by simp [mx])) r mr
   refine ⟨fun y my=>Int.le_trans (ZAR row q _) (h2 y my),fun y my=>?_⟩
   have:=ZAR row q y.toNat
   have:=h3 y my
   omega
structure ZAj (n:Nat) (R:List Zh) (L:List Int):Prop where
 len:L.length=n
 sol:ZBs R (lvN L)
 least:∀t,ZBs R t→∀i,lvN L i≤t i
theorem ZAj.uniq {n:Nat} {R:List Zh} {L M:List Int} (h:ZAj n R L) (k:ZAj n R M):L=M:=
 ZAM (h.len.trans k.len.symm) fun i _=>Int.le_antisymm (h.least _ k.sol i) (k.least _ h.sol i)
theorem ZC5 {n:Nat} {R:List Zh} {row:List Int} (hl:row.length=n) (hR:∀r∈R,OkN n r) (h0:∀i,0≤lvN row i) (hle:∀t,ZBs R t→∀i,lvN row i≤t i) (h:Q2 R row=row):ZAj n R row:=by
 have:=ZA0 hl hR
 rw [h] at this
 exact ⟨hl,⟨h0,fun r mr=>(this r mr).1,fun r mr=>(this r mr).2⟩,hle⟩
noncomputable def ZA6 (n:Nat) (L row:List Int):Nat:=(List.range n).countP fun i=>decide (¬lvN row i=lvN L i)
theorem ZBI {n:Nat} {R:List Zh} {L row:List Int} (hL:ZAj n R L) (hl:row.length=n) (hR:∀r∈R,OkN n r) (h0:∀i,0≤lvN row i) (hle:∀i,lvN row i≤lvN L i):ZA6 n L row=0∨ZA6 n L (Q2 R row)+1≤ZA6 n L row:=by
 have hs:=ZAx hL.sol (l:=R) (fun _ h=>h) hle
 have hge:=ZAm R row
 by_cases hz:∃i,i<n∧¬lvN row i=lvN L i∧lvN (Q2 R row) i=lvN L i
 ·right
  obtain ⟨i,hi,h1,h2⟩:=hz
  refine ZiC (fun j _ hj=>?_) i (List.mem_range.2 hi) (by simpa using h2) (by simpa using h1)
  simp only [decide_eq_true_eq] at hj ⊢
  intro e
  have:=hs j
  have:=hge j
  omega
 ·left
  have hno:∀i,i<n→¬lvN row i=lvN L i→lvN (Q2 R row) i≤lvN L i - 1:=fun i hi h1=>by
   have h2:¬lvN (Q2 R row) i=lvN L i:=fun h=>hz ⟨i,hi,h1,h⟩
   have:=hs i
   omega
  let t:Nat→Int:=fun i=>if i<n∧¬lvN row i=lvN L i then lvN L i - 1 else lvN L i
  have tle:∀i,t i≤lvN L i:=fun i=>by simp only [t];split<;>omega
  have key:∀(x y:Nat) (d:Int),0≤d→x<n→lvN L y+d≤lvN L x→lvN row y+d≤lvN (Q2 R row) x→t y+d≤t x:=fun x y d hd hx h1 h2=>by
   by_cases hA:x<n∧¬lvN row x=lvN L x
   ·have e:t x=lvN L x - 1:=if_pos hA
    have h3:=hno x hA.1 hA.2
    by_cases hB:y<n∧¬lvN row y=lvN L y
    ·have e2:t y=lvN L y - 1:=if_pos hB
     omega
    ·have e2:t y=lvN L y:=if_neg hB
     by_cases hy:y<n
     ·have h4:lvN row y=lvN L y:=Classical.byContradiction fun h=>hB ⟨hy,h⟩
      omega
     ·have h4:lvN row y=0:=by unfold lvN;rw [List.getElem?_eq_none (by omega)];rfl
      have h5:lvN L y=0:=by unfold lvN;rw [List.getElem?_eq_none (by rw [hL.len];omega)];rfl
      omega
   ·have e:t x=lvN L x:=if_neg hA
    have:=tle y
    omega
  have ht:ZBs R t:=⟨fun i=>by
   simp only [t]
   split
   ·rename_i h
    have:=h0 i;have:=hle i;have:=h.2
    omega
   ·exact hL.sol.pos i,fun r mr y my=>by
    have h1:=hL.sol.inn r mr y my
    have h2:=(ZA0 hl hR r mr).1 y my
    have:=key r.for_.toNat y.toNat 0 (Int.le_refl _) (hR r mr).1.2 (by omega) (by omega)
    omega,fun r mr y my=>key r.for_.toNat y.toNat 1 (by omega) (hR r mr).1.2 (hL.sol.outs r mr y my) ((ZA0 hl hR r mr).2 y my)⟩
  unfold ZA6
  rw [List.countP_eq_zero]
  intro i hi
  simp only [decide_eq_true_eq,Classical.not_not]
  refine Classical.byContradiction fun h=>?_
  have h1:=hL.least t ht i
  have e:t i=lvN L i - 1:=if_pos ⟨List.mem_range.1 hi,h⟩
  omega
noncomputable def ZCQ (R:List Zh):Nat→List Int→List Int
 | 0,row=>row
 | k+1,row=>ZCQ R k (Q2 R row)
theorem ZBA {n:Nat} {R:List Zh} {L:List Int} (hL:ZAj n R L) (hR:∀r∈R,OkN n r):∀(k:Nat) (row:List Int),row.length=n→(∀i,0≤lvN row i)→(∀i,lvN row i≤lvN L i)→ZA6 n L row≤k→ZCQ R k row=L
 | 0,row,hl,h0,hle,hk=>by
  show row=L
  refine ZAM (hl.trans hL.len.symm) fun i hi=>?_
  have:ZA6 n L row=0:=by omega
  unfold ZA6 at this
  rw [List.countP_eq_zero] at this
  simpa using this i (List.mem_range.2 (by omega))
 | k+1,row,hl,h0,hle,hk=>by
  refine ZBA hL hR k (Q2 R row) (by rw [ZAK,hl]) (fun i=>Int.le_trans (h0 i) (ZAm R row i)) (ZAx hL.sol (fun _ h=>h) hle) ?_
  rcases ZBI hL hl hR h0 hle with h | h
  ·have:ZA6 n L (Q2 R row)=0:=by
    have e:row=L:=by
     refine ZAM (hl.trans hL.len.symm) fun i hi=>?_
     unfold ZA6 at h
     rw [List.countP_eq_zero] at h
     simpa using h i (List.mem_range.2 (by omega))
    unfold ZA6
    rw [List.countP_eq_zero]
    intro i hi
    have h1:=ZAx hL.sol (l:=R) (fun _ h=>h) hle i
    have h2:=ZAm R row i
    rw [e] at h1 h2 ⊢
    simp only [decide_eq_true_eq,Classical.not_not]
    omega
   omega
  ·omega
def ZBn (R:List Zh) (x y:Int):Prop:=∃r∈R,r.for_=x∧(y∈r.inn∨y∈r.outs)
inductive ZAi (R:List Zh) (x:Int):Int→Prop
 | one {y:Int}:ZBn R x y→ZAi R x y
 | step {y z:Int}:ZAi R x y→ZBn R y z→ZAi R x z
theorem ZAi.head {R:List Zh} {x y z:Int} (h:ZBn R x y) (k:ZAi R y z):ZAi R x z:=by
 induction k with
 | one h1=>exact .step (.one h) h1
 | step _ h1 ih=>exact .step ih h1
def ZCg (R:List Zh):Prop:=∀r∈R,∀y∈r.outs,y≠r.for_∧¬ZAi R y r.for_
noncomputable def ZAZ (n:Nat) (R:List Zh) (i:Nat):Int:=if i<n then (((List.range n).countP fun j=>decide (j=i∨ZAi R ((i:Nat):Int) ((j:Nat):Int)):Nat):Int) - 1 else 0
theorem ZBW {α:Type} {p q:α→Bool}:∀{l:List α},(∀x∈l,p x=true→q x=true)→l.countP p≤l.countP q
 | [],_=>Nat.le_refl _
 | x::l,h=>by
  have ih:=ZBW (l:=l) fun y my=>h y (by simp [my])
  have hx:=h x (by simp)
  simp only [List.countP_cons]
  cases hp:p x with
  | true=>rw [hx hp];simpa using ih
  | false=>simp;omega
theorem ZCI {n:Nat} {R:List Zh} (hR:∀r∈R,OkN n r) (hS:ZCg R):ZBs R (ZAZ n R)∧∀i,ZAZ n R i<n∨ZAZ n R i=0:=by
 have hx:∀i,i<n→ZAZ n R i=(((List.range n).countP fun j=>decide (j=i∨ZAi R ((i:Nat):Int) ((j:Nat):Int)):Nat):Int) - 1:=fun i hi=>if_pos hi
 refine ⟨⟨fun i=>?_,fun r mr y my=>?_,fun r mr y my=>?_⟩,fun i=>?_⟩
 ·by_cases hi:i<n
  ·rw [hx i hi]
   have:0<(List.range n).countP fun j=>decide (j=i∨ZAi R ((i:Nat):Int) ((j:Nat):Int)):=List.countP_pos_iff.2 ⟨i,List.mem_range.2 hi,by simp⟩
   omega
  ·unfold ZAZ;rw [if_neg hi];exact Int.le_refl _
 ·obtain ⟨⟨f0,f1⟩,f2,_⟩:=hR r mr
  obtain ⟨y0,y1⟩:=f2 y my
  rw [hx _ y1,hx _ f1]
  have ey:((y.toNat:Nat):Int)=y:=Int.toNat_of_nonneg y0
  have ef:((r.for_.toNat:Nat):Int)=r.for_:=Int.toNat_of_nonneg f0
  have hd:ZBn R r.for_ y:=⟨r,mr,rfl,.inl my⟩
  have:=ZBW (l:=List.range n) (p:=fun j=>decide (j=y.toNat∨ZAi R ((y.toNat:Nat):Int) ((j:Nat):Int))) (q:=fun j=>decide (j=r.for_.toNat∨ZAi R ((r.for_.toNat:Nat):Int) ((j:Nat):Int))) (fun j _ hj=>by
   simp only [decide_eq_true_eq,ey,ef] at hj ⊢
   rcases hj with rfl | hj
   ·exact .inr (by rw [ey];exact .one hd)
   ·exact .inr (.head hd hj))
  omega
 ·obtain ⟨⟨f0,f1⟩,_,f3⟩:=hR r mr
  obtain ⟨y0,y1⟩:=f3 y my
  rw [hx _ y1,hx _ f1]
  have ey:((y.toNat:Nat):Int)=y:=Int.toNat_of_nonneg y0
  have ef:((r.for_.toNat:Nat):Int)=r.for_:=Int.toNat_of_nonneg f0
  have hd:ZBn R r.for_ y:=⟨r,mr,rfl,.inr my⟩
  obtain ⟨s1,s2⟩:=hS r mr y my
  have:=ZiC (l:=List.range n) (p:=fun j=>decide (j=y.toNat∨ZAi R ((y.toNat:Nat):Int) ((j:Nat):Int))) (q:=fun j=>decide (j=r.for_.toNat∨ZAi R ((r.for_.toNat:Nat):Int) ((j:Nat):Int))) (fun j _ hj=>by
   simp only [decide_eq_true_eq,ey,ef] at hj ⊢
   rcases hj with rfl | hj
   ·exact .inr (by rw [ey];exact .one hd)
   ·exact .inr (.head hd hj)) r.for_.toNat (List.mem_range.2 f1) (by
    simp only [decide_eq_false_iff_not,ey,ef,not_or]
    exact ⟨fun e=>s1 (by rw [←ey,←ef,e]),s2⟩) (by simp)
  omega
 ·by_cases hi:i<n
  ·left
   rw [hx i hi]
   have:=List.countP_le_length (p:=fun j=>decide (j=i∨ZAi R ((i:Nat):Int) ((j:Nat):Int))) (l:=List.range n)
   rw [List.length_range] at this
   omega
  ·right;unfold ZAZ;rw [if_neg hi]
end Go.Proofs.YtojnhepgnbhaaaaGreatDoor
namespace Go.Proofs.YtojnhepgnbhaaaaGreatDoor
open Classical
def rdN (row:List Int) (y:Int):Int:=(row[y.toNat]?).getD (-1)
def ZBi (row:List Int) (k:Nat) (r:Zh):Prop:=(∀y∈r.inn,0≤rdN row y∧rdN row y<((k:Nat):Int))∧∀y∈r.outs,rdN row y<0
def ZAP (row l:List Int) (k:Int):List Int:=l.foldl (fun s x=>s.set x.toNat k) row
theorem ZCw (k:Int):∀(l row:List Int),(ZAP row l k).length=row.length
 | [],_=>rfl
 | x::l,row=>(ZCw k l (row.set x.toNat k)).trans (by simp)
theorem ZBt (k:Int):∀(l row:List Int) (i:Nat),(ZAP row l k)[i]?=if (∃x∈l,x.toNat=i)∧i<row.length then some k else row[i]?
 | [],row,i=>by simp [ZAP]
 | x::l,row,i=>by
  have ih:=ZBt k l (row.set x.toNat k) i
  show (ZAP (row.set x.toNat k) l k)[i]?=_
  rw [ih,List.length_set,List.getElem?_set]
  by_cases h2:i<row.length
  ·by_cases h1:∃y∈l,y.toNat=i
   ·have:∃y∈x::l,y.toNat=i:=by obtain ⟨y,m,e⟩:=h1;exact ⟨y,by simp [m],e⟩
    rw [if_pos ⟨h1,h2⟩,if_pos ⟨this,h2⟩]
   ·rw [if_neg (fun h=>h1 h.1)]
    by_cases h3:x.toNat=i
    ·rw [if_pos h3,if_pos (by omega),if_pos ⟨⟨x,by simp,h3⟩,h2⟩]
    ·rw [if_neg h3,if_neg]
     rintro ⟨⟨y,m,e⟩,_⟩
     rcases List.mem_cons.1 m with rfl | m
     ·exact h3 e
     ·exact h1 ⟨y,m,e⟩
  ·have e:row[i]?=none:=List.getElem?_eq_none (by omega)
   by_cases h3:x.toNat=i
   ·have:¬x.toNat<row.length:=by omega
    simp [h2,e,h3]
   ·simp [h2,e,h3]
theorem ZCO {row l m:List Int} {k:Int} (h:∀i,(∃x∈l,x.toNat=i)↔∃x∈m,x.toNat=i):ZAP row l k=ZAP row m k:=by
 apply List.ext_getElem?
 intro i
 rw [ZBt,ZBt]
 by_cases hc:(∃x∈l,x.toNat=i)∧i<row.length
 ·rw [if_pos hc,if_pos ⟨(h i).1 hc.1,hc.2⟩]
 ·rw [if_neg hc,if_neg fun h'=>hc ⟨(h i).2 h'.1,h'.2⟩]
def ZAN (row:List Int):Nat:=row.countP fun v=>decide (v<0)
theorem ZBJ {k:Int} (hk:0≤k):∀(row:List Int) (i:Nat),ZAN (row.set i k)≤ZAN row∧(∀v,row[i]?=some v→v<0→ZAN (row.set i k)+1≤ZAN row)
 | [],i=>by simp [ZAN]
 | v::row,0=>by
  simp only [List.set_cons_zero,ZAN,List.countP_cons]
  have:¬k<0:=by omega
  refine ⟨by simp [this],fun u hu hn=>?_⟩
  simp at hu;subst hu
  simp [this,hn]
 | v::row,i+1=>by
  obtain ⟨h1,h2⟩:=ZBJ hk row i
  simp only [List.set_cons_succ,ZAN,List.countP_cons] at *
  refine ⟨by omega,fun u hu hn=>?_⟩
  have:=h2 u (by simpa using hu) hn
  omega
theorem ZB7 {k:Int} (hk:0≤k):∀(l row:List Int),ZAN (ZAP row l k)≤ZAN row
 | [],_=>Nat.le_refl _
 | x::l,row=>Nat.le_trans (ZB7 hk l (row.set x.toNat k)) (ZBJ hk row _).1
noncomputable def ZAb (R:List Zh) (L:List Int) (s:Int) (row:List Int) (k:Nat):List Int:=R.filterMap fun r=>if lvN L r.for_.toNat=s∧rdN row r.for_<0∧ZBi row k r then some r.for_ else none
theorem ZAX {R:List Zh} {L:List Int} {s:Int} {row:List Int} {k:Nat} {x:Int}:x∈ZAb R L s row k↔∃r∈R,r.for_=x∧lvN L x.toNat=s∧rdN row x<0∧ZBi row k r:=by
 unfold ZAb
 rw [List.mem_filterMap]
 constructor
 ·rintro ⟨r,mr,h⟩
  split at h
  ·rename_i hc
   obtain rfl:=Option.some.inj h
   exact ⟨r,mr,rfl,hc⟩
  ·simp at h
 ·rintro ⟨r,mr,rfl,h⟩
  exact ⟨r,mr,by rw [if_pos h]⟩
structure RIn (n:Nat) (row:List Int) (k:Nat):Prop where
 len:row.length=n
 val:∀i,i<n→∃v,row[i]?=some v∧(v=-1∨(0≤v∧v<((k:Nat):Int)))
 few:k+ZAN row≤n
theorem RIn.next {n:Nat} {R:List Zh} {L row:List Int} {s:Int} {k:Nat} (hR:∀r∈R,OkN n r) (h:RIn n row k) (hc:ZAb R L s row k≠[]):RIn n (ZAP row (ZAb R L s row k) ((k:Nat):Int)) (k+1)∧ZAN (ZAP row (ZAb R L s row k) ((k:Nat):Int))+1≤ZAN row:=by
 have hd:ZAN (ZAP row (ZAb R L s row k) ((k:Nat):Int))+1≤ZAN row:=by
  cases e:ZAb R L s row k with
  | nil=>exact absurd e hc
  | cons x l=>
   have mx:x∈ZAb R L s row k:=by rw [e];simp
   obtain ⟨r,mr,rfl,_,h2,_⟩:=ZAX.1 mx
   obtain ⟨v,hv,_⟩:=h.val r.for_.toNat (hR r mr).1.2
   have h3:v<0:=by unfold rdN at h2;rw [hv] at h2;exact h2
   have h4:=(ZBJ (k:=((k:Nat):Int)) (by omega) row r.for_.toNat).2 v hv h3
   have h5:=ZB7 (k:=((k:Nat):Int)) (by omega) l (row.set r.for_.toNat ((k:Nat):Int))
   exact Nat.le_trans (Nat.succ_le_succ h5) h4
 refine ⟨⟨by rw [ZCw,h.len],fun i hi=>?_,by have:=h.few;omega⟩,hd⟩
 rw [ZBt]
 obtain ⟨v,hv,hv2⟩:=h.val i hi
 split
 ·exact ⟨_,rfl,.inr ⟨by omega,by omega⟩⟩
 ·refine ⟨v,hv,?_⟩
  rcases hv2 with hv2 | ⟨h1,h2⟩
  ·exact .inl hv2
  ·exact .inr ⟨h1,by omega⟩
noncomputable def ZAg (R:List Zh) (L:List Int) (s:Int):Nat→List Int→Nat→List Int × Nat
 | 0,row,k=>(row,k)
 | f+1,row,k=>if ZAb R L s row k=[] then (row,k) else ZAg R L s f (ZAP row (ZAb R L s row k) ((k:Nat):Int)) (k+1)
theorem ZAL {n:Nat} {R:List Zh} {L:List Int} {s:Int} (hR:∀r∈R,OkN n r):∀(f:Nat) (row:List Int) (k:Nat),RIn n row k→ZAN row≤f→RIn n (ZAg R L s f row k).1 (ZAg R L s f row k).2∧ZAb R L s (ZAg R L s f row k).1 (ZAg R L s f row k).2=[]
 | 0,row,k,h,hf=>by
  refine ⟨h,Classical.byContradiction fun hc=>?_⟩
  have:=(h.next hR hc).2
  omega
 | f+1,row,k,h,hf=>by
  unfold ZAg
  by_cases hc:ZAb R L s row k=[]
  ·rw [if_pos hc];exact ⟨h,hc⟩
  ·rw [if_neg hc]
   obtain ⟨h1,h2⟩:=h.next hR hc
   exact ZAL hR f _ _ h1 (by omega)
theorem ZCY {R:List Zh} {L:List Int} {s:Int} (hs:∀r∈R,¬lvN L r.for_.toNat=s) (f:Nat) (row:List Int) (k:Nat):ZAg R L s f row k=(row,k):=by
 cases f with
 | zero=>rfl
 | succ f=>
  unfold ZAg
  rw [if_pos]
  rw [List.eq_nil_iff_forall_not_mem]
  intro x mx
  obtain ⟨r,mr,rfl,h,_⟩:=ZAX.1 mx
  exact hs r mr h
noncomputable def ZAf (R:List Zh) (L:List Int) (n:Nat) (l:List Nat) (st:List Int × Nat):List Int × Nat:=l.foldl (fun st s=>ZAg R L ((s:Nat):Int) n st.1 st.2) st
theorem ZBC {n:Nat} {R:List Zh} {L:List Int} (hR:∀r∈R,OkN n r):∀(l:List Nat) (st:List Int × Nat),RIn n st.1 st.2→RIn n (ZAf R L n l st).1 (ZAf R L n l st).2
 | [],_,h=>h
 | s::l,st,h=>ZBC hR l _ (ZAL hR n st.1 st.2 h (by have:=h.few;omega)).1
theorem ZCn (R:List Zh) (L:List Int) (n:Nat) (l:List Nat) (s:Nat) (st:List Int × Nat):ZAf R L n (l++[s]) st=ZAg R L ((s:Nat):Int) n (ZAf R L n l st).1 (ZAf R L n l st).2:=by
 unfold ZAf
 rw [List.foldl_append]
 rfl
theorem ZCt {n:Nat} {R:List Zh} {L:List Int} {a b:Nat} (h1:∀r∈R,lvN L r.for_.toNat<((a:Nat):Int)) (h2:∀r∈R,lvN L r.for_.toNat<((b:Nat):Int)) (st:List Int × Nat):ZAf R L n (List.range a) st=ZAf R L n (List.range b) st:=by
 have key:∀(a d:Nat),(∀r∈R,lvN L r.for_.toNat<((a:Nat):Int))→ZAf R L n (List.range (a+d)) st=ZAf R L n (List.range a) st:=by
  intro a d ha
  induction d with
  | zero=>rfl
  | succ d ih=>
   rw [show a+(d+1)=(a+d)+1 by omega,List.range_succ,ZCn,ih,ZCY]
   intro r mr e
   have:=ha r mr
   omega
 rcases Nat.le_total a b with h | h
 ·have:=key a (b - a) h1
  rw [show a+(b - a)=b by omega] at this
  exact this.symm
 ·have:=key b (a - b) h2
  rw [show b+(a - b)=a by omega] at this
  exact this
end Go.Proofs.YtojnhepgnbhaaaaGreatDoor
namespace Go.Proofs.YtojnhepgnbhaaaaGreatDoor
open Classical
theorem ZDn (F:List Zc):∀n (l:List Zm),l.length=n→∀t∈ZQ l F,∀f∈t.facts,∃x∈l,x.kind=1∧x.pattern.rel=f.rel:=by
 intro n
 induction n with
 | zero=>
  intro l h t mt f mf
  rw [List.eq_nil_of_length_eq_zero h] at mt
  simp [ZQ] at mt
  subst mt
  simp [ZtY] at mf
 | succ n ih=>
  intro l h
  obtain ⟨p,x,rfl⟩:∃p x,l=p++[x]:=⟨l.dropLast,l.getLast (by intro e;simp [e] at h),(List.dropLast_concat_getLast _).symm⟩
  intro t mt f mf
  rw [Zcj] at mt
  obtain ⟨s,ms,mt⟩:=List.mem_flatMap.1 mt
  have old:f∈s.facts→∃y∈p++[x],y.kind=1∧y.pattern.rel=f.rel:=fun hf=>by
   obtain ⟨y,my,hy⟩:=ih p (by simpa using h) s ms f hf
   exact ⟨y,by simp [my],hy⟩
  unfold Zil at mt
  by_cases hk:x.kind=1
  ·rw [if_pos hk] at mt
   obtain ⟨g,mg,hg⟩:=List.mem_filterMap.1 mt
   obtain ⟨b,hb,rfl⟩:=Option.map_eq_some_iff.1 hg
   simp only [List.mem_append,List.mem_singleton] at mf
   rcases mf with mf | rfl
   ·exact old mf
   ·refine ⟨x,by simp,hk,?_⟩
    unfold Za5 at hb
    split at hb
    ·rename_i hc
     unfold ZhZ at hc
     simp only [Bool.and_eq_true,decide_eq_true_eq,ZT] at hc
     first | exact hc.1.2 | exact hc.2 | exact hc.1.1.2 | exact hc.2.1 | exact hc.1.2.1
    ·simp at hb
  ·rw [if_neg hk] at mt
   split at mt
   ·simp at mt;subst mt;exact old mf
   ·simp at mt
def ZAQ (F:List Zc) (x:Int):ByteArray:=match F[x.toNat]? with | some f=>f.rel | none=>⟨#[]⟩
theorem ZBk {F:List Zc} {f:Zc} {x:Int} (e:Y0 F f=x) (h0:0≤x):(0≤x∧x.toNat<F.length)∧ZAQ F x=f.rel∧f∈F:=by
 rcases ZBH F f with ⟨_,h2⟩ | ⟨j,h1,h2⟩
 ·omega
 ·have ej:x.toNat=j:=by omega
  refine ⟨⟨h0,?_⟩,?_,List.mem_of_getElem? h2⟩
  ·rw [ej];exact (List.getElem?_eq_some_iff.1 h2).1
  ·unfold ZAQ;rw [ej,h2]
structure ZDy (R:List Zf) (F:List Zc) (x:Zh):Prop where
 node:0≤x.for_∧x.for_.toNat<F.length
 inn:∀y∈x.inn,(0≤y∧y.toNat<F.length)∧Zhy R (ZAQ F x.for_) (ZAQ F y)
 outs:∀y∈x.outs,(0≤y∧y.toNat<F.length)∧Zhy R (ZAQ F x.for_) (ZAQ F y)∧ZAQ F y≠ZAQ F x.for_∧¬XC R (ZAQ F y) (ZAQ F x.for_)
 up:x.inn.Pairwise (·<·)∧x.outs.Pairwise (·<·)
theorem ZAF {R:List Zf} {base F:List Zc} (h:Qu R base F) {x:Zh} (mx:x∈Zak R F base):ZDy R F x:=by
 rcases Zp4.1 mx with ⟨f,mf,rfl⟩ | ⟨r,mr,t,mt,a,ma,rfl⟩
 ·obtain ⟨j,h1,h2⟩:=ZBY (h.good.inc f mf)
  have:=(List.getElem?_eq_some_iff.1 h2).1
  exact ⟨⟨by simp only;omega,by simp only;omega⟩,by simp,by simp,List.Pairwise.nil,List.Pairwise.nil⟩
 ·have hin:Yx a t∈F:=h.closed r mr t mt a ma
  obtain ⟨j,h1,h2⟩:=ZBY hin
  have hr:=(h.rule mr).1
  have hr2:=hr
  unfold Z2 at hr2
  simp only [Bool.and_eq_true] at hr2
  have hk:a.kind=1:=by
   have:=List.all_eq_true.1 hr2.2 a ma
   simpa using this
  obtain ⟨hn,hrel,_⟩:=ZBk (F:=F) (f:=Yx a t) rfl (by rw [h1];omega)
  have hok:=h.good.ok _ hin
  have hname:∀p b,YV (Ze4 (Ze8 p b)).1=true→(Ze4 (Ze8 p b)).1.rel=p.rel:=fun p b hf=>by
   cases hi:Ze8 p b with
   | none=>
    rw [hi] at hf
    exact absurd hf (by decide)
   | some g=>
    unfold Ze8 at hi
    split at hi
    ·obtain ⟨l,_,rfl⟩:=Option.map_eq_some_iff.1 hi
     rfl
    ·simp at hi
  have hfor:ZAQ F (Y0 F (Yx a t))=a.pattern.rel:=hrel.trans (hname a.pattern t.binding hok)
  have hw:a.pattern.rel∈XM r:=List.mem_filterMap.2 ⟨a,ma,by rw [if_pos (.inl hk)]⟩
  refine ⟨hn,fun y my=>?_,fun y my=>?_,(ZdK F _).1,(ZdK F _).1⟩
  ·obtain ⟨f,mf,e,e0⟩:=((ZdK F t.facts).2.1 y).1 my
   obtain ⟨k1,k2,_⟩:=ZBk e e0
   obtain ⟨c,mc,ck,cr⟩:=ZDn F _ (Zav r) rfl t mt f mf
   refine ⟨k1,r,mr,?_,?_⟩
   ·show ZAQ F (Y0 F (Yx a t))∈_
    rw [hfor];exact hw
   ·rw [k2,←cr]
    exact List.mem_filterMap.2 ⟨c,(List.mem_filter.1 mc).1,by rw [if_pos (.inl ck)]⟩
  ·obtain ⟨f,mf,e,e0⟩:=((ZdK F (ZrB r t)).2.1 y).1 my
   obtain ⟨k1,k2,k3⟩:=ZBk e e0
   obtain ⟨c,mc,rfl⟩:=List.mem_map.1 mf
   obtain ⟨mc,ck⟩:=List.mem_filter.1 mc
   have cr:=hname c.pattern t.binding (h.good.ok _ k3)
   have hy:ZAQ F y=c.pattern.rel:=k2.trans cr
   have hfor':ZAQ F (Yi F r t a).for_=a.pattern.rel:=hfor
   have hlog:ZkX R c.pattern.rel a.pattern.rel=true:=by
    have h1:=h.logical
    rw [Bool.and_eq_true] at h1
    have h2:=List.all_eq_true.1 h1.2 r mr
    unfold Xq at h2
    rw [Bool.and_eq_true] at h2
    have h3:=List.all_eq_true.1 h2.2 c mc
    unfold Zg3 at h3
    rw [ck] at h3
    simp only [Bool.not_true,Bool.false_or] at h3
    exact List.all_eq_true.1 h3 _ (ZW.2 hw)
   unfold ZkX at hlog
   simp only [Bool.and_eq_true,Bool.not_eq_true',decide_eq_false_iff_not] at hlog
   rw [hfor',hy]
   refine ⟨k1,⟨r,mr,hw,List.mem_filterMap.2 ⟨c,mc,by rw [if_pos (.inr (by simpa using ck))]⟩⟩,fun e=>?_,hlog.2⟩
   have:=ZC3.1 hlog.1
   exact this e.symm
theorem ZC4 {R:List Zf} {base F:List Zc} (h:Qu R base F):∀x∈Zak R F base,OkN F.length x:=fun x mx=>by
 have hf:=ZAF h mx
 exact ⟨hf.node,fun y my=>(hf.inn y my).1,fun y my=>(hf.outs y my).1⟩
theorem ZCe {R:List Zf} {base F:List Zc} (h:Qu R base F):ZCg (Zak R F base):=by
 have hstep:∀x y,ZBn (Zak R F base) x y→Zhy R (ZAQ F x) (ZAQ F y):=fun x y ⟨r,mr,e,hy⟩=>by
  have hf:=ZAF h mr
  subst e
  rcases hy with hy | hy
  ·exact (hf.inn y hy).2
  ·exact (hf.outs y hy).2.1
 have hreach:∀x y,ZAi (Zak R F base) x y→XC R (ZAQ F x) (ZAQ F y):=fun x y hd=>by
  induction hd with
  | one h1=>exact .one (hstep _ _ h1)
  | step _ h1 ih=>exact .next ih (hstep _ _ h1)
 intro r mr y my
 obtain ⟨_,_,h2,h3⟩:=(ZAF h mr).outs y my
 exact ⟨fun e=>h2 (by rw [e]),fun hd=>h3 (hreach _ _ hd)⟩
end Go.Proofs.YtojnhepgnbhaaaaGreatDoor
namespace Go.Proofs.YtojnhepgnbhaaaaGreatDoor
def OkR (n:Nat) (r:Zh):Prop:=0≤r.for_∧r.for_.toNat<n∧(∀y∈r.inn,0≤y∧y.toNat<n)∧r.outs=[]
inductive Der (R:List Zh):Int→Prop
 | mk (r:Zh):r∈R→(∀y∈r.inn,Der R y)→Der R r.for_
theorem Der.mono {R R':List Zh} (h:∀r∈R,r∈R') {x:Int} (hx:Der R x):Der R' x:=by
 induction hx with
 | mk r hr _ ih=>exact .mk r (h r hr) ih
theorem Der.node {R:List Zh} {n:Nat} (h:∀r∈R,OkR n r) {x:Int} (hx:Der R x):0≤x∧x.toNat<n:=by
 cases hx with
 | mk r hr _=>exact ⟨(h r hr).1,(h r hr).2.1⟩
structure ZBT (R:List Zh) (n:Nat) (row:List Int) (k:Nat):Prop where
 len:row.length=n
 val:∀(i:Nat) (v:Int),row[i]?=some v→v=-1∨(0≤v∧v<((k:Nat):Int)∧Der R ((i:Nat):Int))
def ZBL (row:List Int) (y:Int):Bool:=match row[y.toNat]? with | some v=>decide (0≤v) | none=>false
def ZDs (row:List Int) (r:Zh):Bool:=r.inn.all (ZBL row)
theorem ZBT.at {R:List Zh} {n k:Nat} {row:List Int} (h:ZBT R n row k) {y:Int} (hy:y.toNat<n):∃v,row[y.toNat]?=some v∧(v=-1∨(0≤v∧v<((k:Nat):Int))):=by
 have hl:y.toNat<row.length:=by rw [h.len];exact hy
 refine ⟨row[y.toNat],List.getElem?_eq_getElem hl,?_⟩
 rcases h.val _ _ (List.getElem?_eq_getElem hl) with h1 | ⟨h1,h2,_⟩
 ·exact .inl h1
 ·exact .inr ⟨h1,h2⟩
def ZCr (row:List Int) (R:List Zh):List Int:=R.filterMap fun r=>if !ZBL row r.for_&&ZDs row r then some r.for_ else none
def ZA8 (row:List Int) (l:List Int) (k:Int):List Int:=l.foldl (fun s x=>s.set x.toNat k) row
theorem ZBz (k:Int):∀(l row:List Int),(ZA8 row l k).length=row.length
 | [],_=>rfl
 | x::l,row=>by rw [ZA8,List.foldl_cons];exact (ZBz k l _).trans (by simp)
theorem ZBU (k:Int):∀(l row:List Int) (i:Nat),(ZA8 row l k)[i]?=if (∃x∈l,x.toNat=i)∧i<row.length then some k else row[i]?
 | [],row,i=>by simp [ZA8]
 | x::l,row,i=>by
  have ih:=ZBU k l (row.set x.toNat k) i
  rw [ZA8,List.foldl_cons]
  show (ZA8 (row.set x.toNat k) l k)[i]?=_
  rw [ih,List.length_set,List.getElem?_set]
  by_cases h1:∃y∈l,y.toNat=i
  ·by_cases h2:i<row.length
   ·have:∃y∈x::l,y.toNat=i:=by obtain ⟨y,m,e⟩:=h1;exact ⟨y,by simp [m],e⟩
    simp [h1,h2,this]
   ·simp [h2]
    intro e;omega
  ·by_cases h3:x.toNat=i
   ·by_cases h2:i<row.length
    ·have:∃y∈x::l,y.toNat=i:=⟨x,by simp,h3⟩
     rw [if_neg (fun h=>h1 h.1),if_pos h3,if_pos (by omega),if_pos ⟨this,h2⟩]
    ·rw [if_neg (fun h=>h2 h.2),if_pos h3,if_neg (by omega),if_neg (fun h=>h2 h.2)]
     simp;omega
   ·have:¬∃y∈x::l,y.toNat=i:=by
     rintro ⟨y,m,e⟩
     rcases List.mem_cons.1 m with rfl | m
     ·exact h3 e
     ·exact h1 ⟨y,m,e⟩
    rw [if_neg (fun h=>h1 h.1),if_neg h3,if_neg (fun h=>this h.1)]
theorem ZBX {row:List Int} {R:List Zh} {x:Int}:x∈ZCr row R↔∃r∈R,ZBL row r.for_=false∧ZDs row r=true∧r.for_=x:=by
 simp only [ZCr,List.mem_filterMap,Option.ite_none_right_eq_some,Option.some.injEq,Bool.and_eq_true,Bool.not_eq_true']
 constructor
 ·rintro ⟨r,h1,⟨h2,h3⟩,h4⟩;exact ⟨r,h1,h2,h3,h4⟩
 ·rintro ⟨r,h1,h2,h3,h4⟩;exact ⟨r,h1,⟨h2,h3⟩,h4⟩
theorem ZDc {R:List Zh} {n k:Nat} {row:List Int} (h:ZBT R n row k) {y:Int} (hy:y.toNat<n):(ZBL row y=true↔∃v,row[y.toNat]?=some v∧0≤v)∧(ZBL row y=false↔row[y.toNat]?=some (-1)):=by
 obtain ⟨v,hv,hv2⟩:=h.at hy
 simp only [ZBL,hv,decide_eq_true_eq,Option.some.injEq,decide_eq_false_iff_not]
 constructor
 ·constructor
  ·intro h;exact ⟨v,rfl,h⟩
  ·rintro ⟨u,rfl,h⟩;exact h
 ·omega
theorem ZBT.set_der {R:List Zh} {n k:Nat} {row:List Int} (h:ZBT R n row k) {y:Int} (h0:0≤y) (hs:ZBL row y=true):Der R y:=by
 unfold ZBL at hs
 split at hs
 ·rename_i v hv
  rcases h.val _ _ hv with rfl | ⟨_,_,h3⟩
  ·simp at hs
  ·rwa [Int.toNat_of_nonneg h0] at h3
 ·simp at hs
theorem ZBT.next {R:List Zh} {n k:Nat} {row:List Int} (h:ZBT R n row k) (hR:∀r∈R,OkR n r):ZBT R n (ZA8 row (ZCr row R) ((k:Nat):Int)) (k+1):=by
 refine ⟨by rw [ZBz,h.len],fun i v hv=>?_⟩
 rw [ZBU] at hv
 split at hv
 ·rename_i hc
  simp only [Option.some.injEq] at hv
  subst hv
  obtain ⟨⟨x,mx,rfl⟩,_⟩:=hc
  obtain ⟨r,h1,h2,h3,rfl⟩:=ZBX.1 mx
  refine .inr ⟨by omega,by omega,?_⟩
  obtain ⟨f0,f1,f2,f3⟩:=hR r h1
  rw [Int.toNat_of_nonneg f0]
  refine .mk r h1 fun y my=>h.set_der (f2 y my).1 ?_
  exact List.all_eq_true.1 h3 y my
 ·rcases h.val i v hv with h1 | ⟨h1,h2,h3⟩
  ·exact .inl h1
  ·exact .inr ⟨h1,by omega,h3⟩
structure ZDx (R:List Zh) (n:Nat) (row:List Int):Prop where
 len:row.length=n
 iff:∀(i:Nat),i<n→((∃v,row[i]?=some v∧0≤v)↔Der R ((i:Nat):Int))
theorem ZBT.fin {R:List Zh} {n k:Nat} {row:List Int} (h:ZBT R n row k) (hR:∀r∈R,OkR n r) (he:ZCr row R=[]):ZDx R n row:=by
 have closed:∀x,Der R x→ZBL row x=true:=by
  intro x hx
  induction hx with
  | mk r hr _ ih=>
   cases hs:ZBL row r.for_ with
   | true=>rfl
   | false=>
    have:r.for_∈ZCr row R:=ZBX.2 ⟨r,hr,hs,List.all_eq_true.2 ih,rfl⟩
    rw [he] at this
    simp at this
 refine ⟨h.len,fun i hi=>?_⟩
 have hi':(((i:Nat):Int)).toNat<n:=by simpa using hi
 have h1:=(ZDc h hi').1
 simp only [Int.toNat_natCast] at h1
 rw [←h1]
 exact ⟨fun hs=>h.set_der (by omega) hs,closed _⟩
end Go.Proofs.YtojnhepgnbhaaaaGreatDoor
namespace Go.Proofs.YtojnhepgnbhaaaaGreatDoor
theorem ZBj (x a b:Int):ZaU x a b=some (decide (a≤x)&&decide (x≤b)):=by
 unfold ZaU
 cases decide (a≤x)<;>simp
end Go.Proofs.YtojnhepgnbhaaaaGreatDoor
namespace Go.Proofs.YtojnhepgnbhaaaaGreatDoor
structure Lab (l:List Bool) (n:Nat) (D:Int→Prop):Prop where
 len:l.length=n
 iff:∀i:Nat,i<n→(l[i]?=some true↔D ((i:Nat):Int))
theorem Lab.at {l:List Bool} {n:Nat} {D:Int→Prop} (h:Lab l n D) {y:Int} (h0:0≤y) (h1:y.toNat<n):∃b,l[y.toNat]?=some b∧(b=true↔D y):=by
 have hl:y.toNat<l.length:=by rw [h.len];exact h1
 refine ⟨l[y.toNat],List.getElem?_eq_getElem hl,?_⟩
 have:=h.iff y.toNat h1
 rw [List.getElem?_eq_getElem hl,Option.some.injEq,Int.toNat_of_nonneg h0] at this
 exact this
theorem Lab.eq {l l':List Bool} {n:Nat} {D D':Int→Prop} (h:Lab l n D) (h':Lab l' n D') (hD:∀x,D x↔D' x):l=l':=by
 apply List.ext_getElem?
 intro i
 by_cases hi:i<n
 ·have h1:=h.iff i hi
  have h2:=h'.iff i hi
  have q1:i<l.length:=by rw [h.len];exact hi
  have q2:i<l'.length:=by rw [h'.len];exact hi
  rw [List.getElem?_eq_getElem q1] at h1 ⊢
  rw [List.getElem?_eq_getElem q2] at h2 ⊢
  rw [hD,←h2] at h1
  simp only [Option.some.injEq] at h1
  rw [Bool.eq_iff_iff.2 h1]
 ·rw [List.getElem?_eq_none (by rw [h.len];omega),List.getElem?_eq_none (by rw [h'.len];omega)]
/- the bits of a set -/
def ZAY:List Int→Nat→Nat→List Int
 | [],_,_=>[]
 | x::l,s,i=>if s.testBit i=true then x::ZAY l s (i+1) else ZAY l s (i+1)
theorem ZAD {s:Nat} {x:Int}:∀{l:List Int} {i:Nat},x∈ZAY l s i↔∃j,l[j]?=some x∧s.testBit (i+j)=true
 | [],i=>⟨fun h=>by simp [ZAY] at h,fun ⟨j,h,_⟩=>by simp at h⟩
 | y::l,i=>by
  have ih:=ZAD (s:=s) (x:=x) (l:=l) (i:=i+1)
  have key:(∃j,l[j]?=some x∧s.testBit (i+1+j)=true)↔∃j,(y::l)[j+1]?=some x∧s.testBit (i+(j+1))=true:=
   ⟨fun ⟨j,h1,h2⟩=>⟨j,by simpa using h1,by rw [show i+(j+1)=i+1+j by omega];exact h2⟩,fun ⟨j,h1,h2⟩=>⟨j,by simpa using h1,by rw [show i+1+j=i+(j+1) by omega];exact h2⟩⟩
  simp only [ZAY]
  constructor
  ·intro h
   split at h
   ·rename_i hb
    rcases List.mem_cons.1 h with rfl | h
    ·exact ⟨0,by simp,by simpa using hb⟩
    ·obtain ⟨j,h1,h2⟩:=key.1 (ih.1 h);exact ⟨j+1,h1,h2⟩
   ·obtain ⟨j,h1,h2⟩:=key.1 (ih.1 h);exact ⟨j+1,h1,h2⟩
  ·rintro ⟨j,h1,h2⟩
   cases j with
   | zero=>
    simp at h1;subst h1
    rw [if_pos (by simpa using h2)];simp
   | succ j=>
    have:=ih.2 (key.2 ⟨j,h1,h2⟩)
    split
    ·simp [this]
    ·exact this
def ZC8 (x:Int):Zh:={ for_:=x,inn:=[],outs:=[] }
structure ZC0 (f:ZAG):Prop where
 n0:0≤f.beliefs.nodes
 n1:f.beliefs.nodes≤24
 r1:f.beliefs.reasons.length≤60
 R:∀r∈f.beliefs.reasons,OkR f.beliefs.nodes.toNat r
 a1:f.assumed.length≤6
 a:∀x∈f.assumed,0≤x∧x.toNat<f.beliefs.nodes.toNat
 b:∀x∈f.bad,0≤x∧x.toNat<f.beliefs.nodes.toNat
 asc:f.assumed.Pairwise (·<·)
 inn:∀r∈f.beliefs.reasons,r.inn.Pairwise (·<·)
theorem ZC1 {n:Nat} {l:List Int} (h:l.Pairwise (·<·)) (hb:∀x∈l,0≤x∧x.toNat<n):l.length≤n:=by
 have:∀(l:List Int) (lo:Int),l.Pairwise (·<·)→(∀x∈l,lo≤x∧x<n)→(l.length:Int)≤max 0 (n - lo):=by
  intro l
  induction l with
  | nil=>intro lo _ _;simp;omega
  | cons x l ih=>
   intro lo hp hb
   rw [List.pairwise_cons] at hp
   have h1:=hb x (by simp)
   have:=ih (x+1) hp.2 fun y my=>⟨by have:=hp.1 y my;omega,(hb y (by simp [my])).2⟩
   simp only [List.length_cons]
   omega
 have:=this l 0 h fun x mx=>by have:=hb x mx;omega
 omega
def RF (f:ZAG) (s:Nat):List Zh:=f.beliefs.reasons++(ZAY f.assumed s 0).map ZC8
def UnF (f:ZAG) (s:Nat) (x:Int):Prop:=Der (RF f s) x
theorem ZC0.RF {f:ZAG} (h:ZC0 f) (s:Nat):∀r∈RF f s,OkR f.beliefs.nodes.toNat r:=fun r mr=>by
 rcases List.mem_append.1 mr with m | m
 ·exact h.R r m
 ·obtain ⟨x,mx,rfl⟩:=List.mem_map.1 m
  obtain ⟨j,h1,_⟩:=ZAD.1 mx
  have:=h.a x (List.mem_of_getElem? h1)
  exact ⟨this.1,this.2,by simp [ZC8],rfl⟩
theorem ZC0.small {f:ZAG} (h:ZC0 f):∀r∈f.beliefs.reasons,r.inn.length≤1073741824∧r.outs.length≤1073741824:=fun r mr=>by
 have h1:=ZC1 (h.inn r mr) (h.R r mr).2.2.1
 have h2:=(h.R r mr).2.2.2
 have:=h.n1
 rw [h2]
 simp
 omega
theorem UnF.mono {f:ZAG} {s t:Nat} (h:Zem s t) {x:Int} (hx:UnF f s x):UnF f t x:=by
 refine Der.mono (fun r mr=>?_) hx
 rcases List.mem_append.1 mr with m | m
 ·exact List.mem_append.2 (.inl m)
 ·obtain ⟨y,my,rfl⟩:=List.mem_map.1 m
  obtain ⟨j,h1,h2⟩:=ZAD.1 my
  exact List.mem_append.2 (.inr (List.mem_map.2 ⟨y,ZAD.2 ⟨j,h1,ZhL.1 h _ h2⟩,rfl⟩))
def ZDu (f:ZAG) (s:Nat):Prop:=∀y∈f.bad,¬UnF f s y
theorem ZDu.anti {f:ZAG} {s t:Nat} (h:Zem s t) (hc:ZDu f t):ZDu f s:=fun y my hy=>hc y my (hy.mono h)
end Go.Proofs.YtojnhepgnbhaaaaGreatDoor
namespace Go.Proofs.YtojnhepgnbhaaaaGreatDoor
def ZCc (l:List Int) (n:Int) (i:Nat) (x:Int):Bool:=decide (0≤x)&&(decide (x<n)&&(decide (i=0)||(match l[i - 1]? with | some y=>decide (y<x) | none=>false)))
def ZA7 (l:List Int) (n:Int):Bool:=Zbr (ZCc l n) l 0
theorem ZDq {l:List Int} {j:Nat} {x:Int} (hl:l.length≤1000000000) (hj:l[j]?=some x) (h0:0<j):∃y,l[j - 1]?=some y∧atI l (IntKind.i64.wrap (((j:Nat):Int) - 1))=some y:=by
 have hlt:=(List.getElem?_eq_some_iff.1 hj).1
 have hg:l[j - 1]?=some l[j - 1]:=List.getElem?_eq_getElem (by omega)
 refine ⟨l[j - 1],hg,?_⟩
 have hw:IntKind.i64.wrap (((j:Nat):Int) - 1)=((j - 1:Nat):Int):=by rw [ZjU (by omega) (by omega)];omega
 rw [hw]
 unfold atI
 rw [if_pos (by omega),Int.toNat_natCast,hg]
theorem ZBc (l:List Int) (n:Int) (hl:l.length≤1000000000):ZAp l n=some (ZA7 l (IntKind.i64.wrap (n - 1)+1)):=by
 unfold ZAp ZA7
 generalize IntKind.i64.wrap (n - 1)=m
 rw [X7 (p:=ZCc l (m+1)) (r:=false)]
 ·cases Zbr (ZCc l (m+1)) l 0<;>rfl
 ·intro j x hj
  rw [Nat.zero_add,ZBj,Option.bind_some]
  unfold ZCc
  by_cases h1:x<0
  ·rw [show decide (0≤x)=false by simp;omega];rfl
  ·rw [show decide (0≤x)=true by simp;omega]
   by_cases h2:m<x
   ·rw [show decide (x≤m)=false by simp;omega,show decide (x<m+1)=false by simp;omega];rfl
   ·rw [show decide (x≤m)=true by simp;omega,show decide (x<m+1)=true by simp;omega]
    by_cases h3:j=0
    ·subst h3;rfl
    ·obtain ⟨y,e1,e2⟩:=ZDq hl hj (by omega)
     rw [show (true&&true)=true from rfl,if_pos rfl,if_pos (by simp;omega),e2,Option.bind_some,e1]
     by_cases h4:x≤y
     ·rw [if_pos (by simpa using h4)]
      simp [h3,show ¬y<x by omega]
     ·rw [if_neg (by simpa using h4)]
      simp [h3,show y<x by omega]
theorem ZB1 (l:List Int) (n:Int) (hl:l.length≤1000000000) (h0:0≤n) (h1:n≤1000000000):ZAp l n=some (ZA7 l n):=by
 rw [ZBc l n hl,ZjU (by omega) (by omega)]
 congr 2
 omega
theorem ZBm {l:List Int} {n:Int} (h:ZA7 l n=true):(∀x∈l,0≤x∧x<n)∧l.Pairwise (·<·):=by
 have key:∀(j:Nat) (x:Int),l[j]?=some x→ZCc l n j x=true:=fun j x hj=>by
  have:=Zm3 h j x hj
  rwa [Nat.zero_add] at this
 refine ⟨fun x mx=>?_,?_⟩
 ·obtain ⟨j,hj⟩:=List.mem_iff_getElem?.1 mx
  have:=key j x hj
  simp only [ZCc,Bool.and_eq_true,decide_eq_true_eq] at this
  exact ⟨this.1,this.2.1⟩
 ·have step:∀j (h1:j+1<l.length),l[j]'(by omega)<l[j+1]:=fun j h1=>by
   have:=key (j+1) _ (List.getElem?_eq_getElem h1)
   simp only [ZCc,Bool.and_eq_true,decide_eq_true_eq,Bool.or_eq_true,Nat.add_sub_cancel] at this
   rw [List.getElem?_eq_getElem (show j<l.length by omega)] at this
   rcases this.2.2 with h2 | h2
   ·omega
   ·simpa using h2
  rw [List.pairwise_iff_getElem]
  intro i j hi hj hij
  obtain ⟨d,rfl⟩:∃d,j=i+1+d:=⟨j - i - 1,by omega⟩
  induction d with
  | zero=>exact step i hj
  | succ d ih=>exact Int.lt_trans (ih (by omega) (by omega)) (step (i+1+d) (by omega))
theorem ZDd {l:List Int} {n:Int} (h1:∀x∈l,0≤x∧x<n) (h2:l.Pairwise (·<·)):ZA7 l n=true:=by
 have key:∀(q pre:List Int),l=pre++q→Zbr (ZCc l n) q pre.length=true:=by
  intro q
  induction q with
  | nil=>intro _ _;rfl
  | cons x q ih=>
   intro pre e
   simp only [Zbr,Bool.and_eq_true]
   refine ⟨?_,?_⟩
   ·have hx:=h1 x (by rw [e];simp)
    simp only [ZCc,Bool.and_eq_true,decide_eq_true_eq,Bool.or_eq_true]
    refine ⟨hx.1,hx.2,?_⟩
    by_cases h0:pre.length=0
    ·exact .inl h0
    ·right
     have hlt:pre.length - 1<pre.length:=by omega
     have hg:l[pre.length - 1]?=some pre[pre.length - 1]:=by rw [e,List.getElem?_append_left hlt,List.getElem?_eq_getElem hlt]
     rw [hg]
     rw [e,List.pairwise_append] at h2
     simpa using h2.2.2 _ (List.getElem_mem hlt) x (by simp)
   ·have:=ih (pre++[x]) (by rw [e];simp)
    simpa using this
 exact key l [] rfl
def ZCR (n:Int) (r:Zh):Bool:=decide (0≤r.for_)&&(decide (r.for_<n)&&(ZA7 r.inn n&&ZA7 r.outs n))
def ZAn (b:ZK):Bool:=decide (0≤b.nodes)&&(decide (b.nodes≤24)&&(decide (b.reasons.length≤60)&&b.reasons.all (ZCR b.nodes)))
def ZDk (b:ZK):Prop:=∀r∈b.reasons,r.inn.length≤1000000000∧r.outs.length≤1000000000
theorem ZBw {b:ZK} (h:ZDk b) (hl:b.reasons.length≤1000000000):ZAr b=some (ZAn b):=by
 unfold ZAr ZAn
 by_cases hn:0≤b.nodes∧b.nodes≤24
 ·have hw:IntKind.i64.wrap (b.nodes - 1)=b.nodes - 1:=ZjU (by omega) (by omega)
  rw [Yf (p:=ZCR b.nodes) (r:=false)]
  ·rw [ZBj,show decide (0≤b.nodes)=true by simp;omega,show decide (b.nodes≤24)=true by simp;omega]
   simp only [Option.bind_some,Bool.and_self,if_true,Bool.true_and]
   have hc:decide (((b.reasons.length:Nat):Int)≤60)=decide (b.reasons.length≤60):=by rw [Bool.eq_iff_iff];simp;omega
   rw [hc]
   cases b.reasons.all (ZCR b.nodes)<;>cases decide (b.reasons.length≤60)<;>rfl
  ·intro i r mr
   obtain ⟨s1,s2⟩:=h r mr
   rw [ZBj,hw,ZB1 _ _ s1 hn.1 (by omega),ZB1 _ _ s2 hn.1 (by omega)]
   unfold ZCR
   have hc:decide (r.for_≤b.nodes - 1)=decide (r.for_<b.nodes):=by rw [Bool.eq_iff_iff];simp;omega
   rw [hc]
   simp only [Option.bind_some]
   cases decide (0≤r.for_)<;>cases decide (r.for_<b.nodes)<;>cases ZA7 r.inn b.nodes<;>cases ZA7 r.outs b.nodes<;>rfl
 ·have hf:(decide (0≤b.nodes)&&(decide (b.nodes≤24)&&(decide (b.reasons.length≤60)&&b.reasons.all (ZCR b.nodes))))=false:=by
   by_cases h0:0≤b.nodes
   ·have:decide (b.nodes≤24)=false:=by simp;omega
    rw [this];simp
   ·have:decide (0≤b.nodes)=false:=by simp;omega
    rw [this];simp
  rw [hf,Yf (p:=fun r=>decide (0≤r.for_)&&(decide (r.for_≤IntKind.i64.wrap (b.nodes - 1))&&(ZA7 r.inn (IntKind.i64.wrap (b.nodes - 1)+1)&&ZA7 r.outs (IntKind.i64.wrap (b.nodes - 1)+1)))) (r:=false)]
  ·rw [ZBj]
   have:(decide (0≤b.nodes)&&decide (b.nodes≤24))=false:=by
    cases h1:decide (0≤b.nodes)<;>cases h2:decide (b.nodes≤24)<;>simp at h1 h2 ⊢
    omega
   rw [this]
   split<;>rfl
  ·intro i r mr
   obtain ⟨s1,s2⟩:=h r mr
   rw [ZBj,ZBc _ _ s1,ZBc _ _ s2]
   simp only [Option.bind_some]
   cases decide (0≤r.for_)<;>cases decide (r.for_≤IntKind.i64.wrap (b.nodes - 1))<;>cases ZA7 r.inn (IntKind.i64.wrap (b.nodes - 1)+1)<;>cases ZA7 r.outs (IntKind.i64.wrap (b.nodes - 1)+1)<;>rfl
def ZDr (r:Zh):Bool:=decide (r.outs=[])
def ZCF (f:ZAG):Bool:=ZAn f.beliefs&&(decide (f.assumed.length≤6)&&(ZA7 f.assumed f.beliefs.nodes&&(ZA7 f.bad f.beliefs.nodes&&f.beliefs.reasons.all ZDr)))
theorem ZC0.of {f:ZAG} (h:ZCF f=true):ZC0 f:=by
 simp only [ZCF,ZAn,Bool.and_eq_true,decide_eq_true_eq] at h
 obtain ⟨⟨h1,h2,h3,h4⟩,h5,h6,h7,h8⟩:=h
 have hn:∀{x:Int},0≤x→x<f.beliefs.nodes→x.toNat<f.beliefs.nodes.toNat:=fun {x} a b=>by omega
 have ha:=ZBm h6
 have hb:=ZBm h7
 have hr:∀r∈f.beliefs.reasons,OkR f.beliefs.nodes.toNat r∧r.inn.Pairwise (·<·):=fun r mr=>by
  have:=List.all_eq_true.1 h4 r mr
  simp only [ZCR,Bool.and_eq_true,decide_eq_true_eq] at this
  obtain ⟨q1,q2,q3,q4⟩:=this
  have q5:=List.all_eq_true.1 h8 r mr
  simp only [ZDr,decide_eq_true_eq] at q5
  exact ⟨⟨q1,hn q1 q2,fun y my=>⟨((ZBm q3).1 y my).1,hn ((ZBm q3).1 y my).1 ((ZBm q3).1 y my).2⟩,q5⟩,(ZBm q3).2⟩
 exact ⟨h1,h2,h3,fun r mr=>(hr r mr).1,h5,fun x mx=>⟨(ha.1 x mx).1,hn (ha.1 x mx).1 (ha.1 x mx).2⟩,fun x mx=>⟨(hb.1 x mx).1,hn (hb.1 x mx).1 (hb.1 x mx).2⟩,ha.2,fun r mr=>(hr r mr).2⟩
end Go.Proofs.YtojnhepgnbhaaaaGreatDoor
namespace Go.Proofs.YtojnhepgnbhaaaaGreatDoor
open Classical
def ZC6 (row:List Bool):Nat:=row.countP fun v=>!v
theorem ZCz:∀(row:List Bool) (i:Nat),row[i]?=some false→ZC6 (row.set i true)+1=ZC6 row
 | [],i,h=>by simp at h
 | v::row,0,h=>by
  simp at h;subst h
  simp [ZC6]
 | v::row,i+1,h=>by
  have ih:=ZCz row i (by simpa using h)
  simp only [ZC6,List.set_cons_succ,List.countP_cons] at *
  omega
def ZAI (s:List Bool × List Int) (y:Int):List Bool × List Int:=if s.1[y.toNat]?=some true then s else (s.1.set y.toNat true,s.2++[y])
structure ZAe (n:Nat) (R:List Zh) (x:Int) (s:List Bool × List Int):Prop where
 len:s.1.length=n
 row:∃t,s.2=x::t∧(∀y∈t,(0≤y∧y.toNat<n)∧ZAi R x y∧s.1[y.toNat]?=some true)∧(∀y:Int,0≤y→s.1[y.toNat]?=some true→y∈t)∧t.length+ZC6 s.1=n
structure ZAS (s u:List Bool × List Int):Prop where
 mono:∀i:Nat,s.1[i]?=some true→u.1[i]?=some true
 more:∃v,u.2=s.2++v
theorem ZAS.refl (s:List Bool × List Int):ZAS s s:=⟨fun _ h=>h,[],by simp⟩
theorem ZAS.trans {s t u:List Bool × List Int} (h:ZAS s t) (k:ZAS t u):ZAS s u:=⟨fun i hi=>k.mono i (h.mono i hi),by
 obtain ⟨a,ha⟩:=h.more
 obtain ⟨b,hb⟩:=k.more
 exact ⟨a++b,by rw [hb,ha,List.append_assoc]⟩⟩
theorem ZDa {row:List Bool} {j:Nat} (hj:j<row.length) (i:Nat):(row.set j true)[i]?=if j=i then some true else row[i]?:=by
 rw [List.getElem?_set]
 by_cases e:j=i
 ·rw [if_pos e,if_pos e,if_pos hj]
 ·rw [if_neg e,if_neg e]
theorem ZCW {n:Nat} {R:List Zh} {x y:Int} {s:List Bool × List Int} (h:ZAe n R x s) (hy:0≤y∧y.toNat<n) (hd:ZAi R x y):ZAe n R x (ZAI s y)∧ZAS s (ZAI s y)∧(ZAI s y).1[y.toNat]?=some true:=by
 unfold ZAI
 by_cases hs:s.1[y.toNat]?=some true
 ·rw [if_pos hs];exact ⟨h,.refl s,hs⟩
 ·rw [if_neg hs]
  have hl:y.toNat<s.1.length:=by rw [h.len];exact hy.2
  have hf:s.1[y.toNat]?=some false:=by
   rw [List.getElem?_eq_getElem hl] at hs ⊢
   cases hv:s.1[y.toNat] with
   | true=>rw [hv] at hs;exact absurd rfl hs
   | false=>rfl
  have hset:=ZDa hl
  obtain ⟨t,t1,t2,t3,t4⟩:=h.row
  have hmono:∀i:Nat,s.1[i]?=some true→(s.1.set y.toNat true)[i]?=some true:=fun i hi=>by
   rw [hset]
   split
   ·rfl
   ·exact hi
  refine ⟨⟨by simp [h.len],t++[y],by simp [t1],fun z mz=>?_,fun z z0 hz=>?_,?_⟩,⟨hmono,[y],rfl⟩,by rw [hset,if_pos rfl]⟩
  ·rcases List.mem_append.1 mz with mz | mz
   ·obtain ⟨a,b,c⟩:=t2 z mz
    exact ⟨a,b,hmono _ c⟩
   ·simp at mz;subst mz
    exact ⟨hy,hd,by rw [hset,if_pos rfl]⟩
  ·rw [hset] at hz
   by_cases e:y.toNat=z.toNat
   ·have:z=y:=by omega
    simp [this]
   ·rw [if_neg e] at hz
    exact List.mem_append.2 (.inl (t3 z z0 hz))
  ·have:=ZCz s.1 y.toNat hf
   simp only [List.length_append,List.length_singleton]
   omega
theorem ZB3 {n:Nat} {R:List Zh} {x:Int}:∀{l:List Int} {s:List Bool × List Int},ZAe n R x s→(∀y∈l,(0≤y∧y.toNat<n)∧ZAi R x y)→ZAe n R x (l.foldl ZAI s)∧ZAS s (l.foldl ZAI s)∧∀y∈l,(l.foldl ZAI s).1[y.toNat]?=some true
 | [],s,h,_=>⟨h,.refl s,by simp⟩
 | y::l,s,h,hl=>by
  obtain ⟨a1,a2,a3⟩:=ZCW h (hl y (by simp)).1 (hl y (by simp)).2
  obtain ⟨b1,b2,b3⟩:=ZB3 (l:=l) a1 fun z mz=>hl z (by simp [mz])
  exact ⟨b1,a2.trans b2,fun z mz=>by
   rcases List.mem_cons.1 mz with rfl | mz
   ·exact b2.mono _ a3
   ·exact b3 z mz⟩
noncomputable def ZAT (z:Int) (s:List Bool × List Int) (r:Zh):List Bool × List Int:=if r.for_=z then (r.inn++r.outs).foldl ZAI s else s
theorem ZDg {n:Nat} {R:List Zh} {x z:Int} (hR:∀r∈R,OkN n r) (hz:z=x∨ZAi R x z) {r:Zh} (mr:r∈R) (e:r.for_=z):∀y∈r.inn++r.outs,(0≤y∧y.toNat<n)∧ZAi R x y:=fun y my=>by
 have hy:=List.mem_append.1 my
 have hd:ZBn R z y:=⟨r,mr,e,hy⟩
 refine ⟨hy.elim ((hR r mr).2.1 y) ((hR r mr).2.2 y),?_⟩
 rcases hz with rfl | hz
 ·exact .one hd
 ·exact .step hz hd
theorem ZCV {n:Nat} {R:List Zh} {x z:Int} (hR:∀r∈R,OkN n r) (hz:z=x∨ZAi R x z) {s:List Bool × List Int} (h:ZAe n R x s) {r:Zh} (mr:r∈R):ZAe n R x (ZAT z s r)∧ZAS s (ZAT z s r)∧(r.for_=z→∀y∈r.inn++r.outs,(ZAT z s r).1[y.toNat]?=some true):=by
 unfold ZAT
 by_cases e:r.for_=z
 ·rw [if_pos e]
  obtain ⟨a1,a2,a3⟩:=ZB3 h (ZDg hR hz mr e)
  exact ⟨a1,a2,fun _=>a3⟩
 ·rw [if_neg e]
  exact ⟨h,.refl s,fun h=>absurd h e⟩
theorem ZCE {n:Nat} {R:List Zh} {x z:Int} (hR:∀r∈R,OkN n r) (hz:z=x∨ZAi R x z):∀{l:List Zh} {s:List Bool × List Int},(∀r∈l,r∈R)→ZAe n R x s→ZAe n R x (l.foldl (ZAT z) s)∧ZAS s (l.foldl (ZAT z) s)∧∀r∈l,r.for_=z→∀y∈r.inn++r.outs,(l.foldl (ZAT z) s).1[y.toNat]?=some true
 | [],s,_,h=>⟨h,.refl s,by simp⟩
 | r::l,s,hl,h=>by
  obtain ⟨a1,a2,a3⟩:=ZCV hR hz h (hl r (by simp))
  obtain ⟨b1,b2,b3⟩:=ZCE hR hz (l:=l) (fun q mq=>hl q (by simp [mq])) a1
  exact ⟨b1,a2.trans b2,fun q mq e y my=>by
   rcases List.mem_cons.1 mq with rfl | mq
   ·exact b2.mono _ (a3 e y my)
   ·exact b3 q mq e y my⟩
theorem ZAe.at {n:Nat} {R:List Zh} {x:Int} {s:List Bool × List Int} (h:ZAe n R x s) {i:Nat} {z:Int} (hi:s.2[i]?=some z):z=x∨ZAi R x z:=by
 obtain ⟨t,t1,t2,_⟩:=h.row
 have:=List.mem_of_getElem? hi
 rw [t1] at this
 exact (List.mem_cons.1 this).imp id fun m=>(t2 z m).2.1
theorem ZAe.fin {n:Nat} {R:List Zh} {x:Int} (hR:∀r∈R,OkN n r) {out:List Bool} {todo:List Int} (hI:ZAe n R x (out,todo)) (hC:∀j z,j<todo.length→todo[j]?=some z→∀y,ZBn R z y→out[y.toNat]?=some true):out.length=n∧∀y:Int,0≤y→(out[y.toNat]?=some true↔ZAi R x y):=by
 obtain ⟨t,t1,t2,t3,t4⟩:=hI.row
 simp only at t1 t4
 refine ⟨hI.len,fun y y0=>⟨fun hy=>(t2 y (t3 y y0 hy)).2.1,fun hy=>?_⟩⟩
 have hcl:∀z∈todo,∀y,ZBn R z y→out[y.toNat]?=some true:=fun z mz=>by
  obtain ⟨j,hj,e⟩:=List.getElem_of_mem mz
  exact hC j z hj (by rw [List.getElem?_eq_getElem hj,e])
 have h0:∀a b,ZBn R a b→0≤b:=fun a b ⟨r,mr,_,hb⟩=>hb.elim (fun h=>((hR r mr).2.1 b h).1) fun h=>((hR r mr).2.2 b h).1
 have:∀y,ZAi R x y→0≤y∧out[y.toNat]?=some true:=fun y hd=>by
  induction hd with
  | one h=>exact ⟨h0 _ _ h,hcl x (by rw [t1];simp) _ h⟩
  | step _ h ih=>exact ⟨h0 _ _ h,hcl _ (by rw [t1];exact List.mem_cons_of_mem _ (t3 _ ih.1 ih.2)) _ h⟩
 exact (this y hy).2
theorem ZCH {σ ρ:Type} {n:Nat} {R:List Zh} {x:Int} (hR:∀r∈R,OkN n r) (st:List Bool→List Int→Nat→σ) (g:List Bool→ρ) {body:σ→Option (σ ⊕ ρ)}
  (h1:∀out todo i z,ZAe n R x (out,todo)→i<n+1→todo[i]?=some z→(z=x∨ZAi R x z)→body (st out todo i)=some (.inl (st (R.foldl (ZAT z) (out,todo)).1 (R.foldl (ZAT z) (out,todo)).2 (i+1))))
  (h2:∀out todo,ZAe n R x (out,todo)→body (st out todo todo.length)=some (.inr (g out))):
  ∀m out todo i,ZAe n R x (out,todo)→i≤todo.length→n+1 - i≤m→(∀j z,j<i→todo[j]?=some z→∀y,ZBn R z y→out[y.toNat]?=some true)→∃row,Zdu body (st out todo i)=some (g row)∧row.length=n∧∀y:Int,0≤y→(row[y.toNat]?=some true↔ZAi R x y):=by
 intro m
 induction m with
 | zero=>
  intro out todo i hI hi hm hC
  obtain ⟨t,t1,t2,t3,t4⟩:=hI.row
  simp only at t1 t4
  have:todo.length=t.length+1:=by rw [t1];simp
  have hil:i=todo.length:=by omega
  subst hil
  exact ⟨out,Zef (h2 out todo hI),hI.fin hR hC⟩
 | succ m ih=>
  intro out todo i hI hi hm hC
  by_cases hil:i=todo.length
  ·subst hil
   exact ⟨out,Zef (h2 out todo hI),hI.fin hR hC⟩
  ·have hlt:i<todo.length:=by omega
   obtain ⟨z,hz⟩:∃z,todo[i]?=some z:=⟨_,List.getElem?_eq_getElem hlt⟩
   have hzx:=hI.at (i:=i) (z:=z) hz
   obtain ⟨t,t1,t2,t3,t4⟩:=hI.row
   simp only at t1 t4
   have htl:todo.length=t.length+1:=by rw [t1];simp
   have hin:i<n+1:=by omega
   rw [ZiQ (h1 out todo i z hI hin hz hzx)]
   obtain ⟨b1,b2,b3⟩:=ZCE hR hzx (l:=R) (fun _ h=>h) hI
   obtain ⟨v,hv⟩:=b2.more
   simp only at hv
   refine ih _ _ (i+1) b1 (by rw [hv,List.length_append];omega) (by omega) fun j u hj hu y hd=>?_
   rw [hv] at hu
   rw [List.getElem?_append_left (by omega)] at hu
   by_cases hji:j<i
   ·exact b2.mono _ (hC j u hji hu y hd)
   ·obtain rfl:j=i:=by omega
    rw [hz] at hu
    obtain rfl:=Option.some.inj hu
    obtain ⟨r,mr,e,hy⟩:=hd
    exact b3 r mr e y (List.mem_append.2 hy)
end Go.Proofs.YtojnhepgnbhaaaaGreatDoor
namespace Go.Proofs.YtojnhepgnbhaaaaGreatDoor
open Classical
theorem ZDv {P:Nat→Prop}:∀v,P v→∃v,P v∧∀u,P u→v≤u:=by
 intro v
 induction v using Nat.strongRecOn with
 | ind v ih=>
  intro hv
  by_cases h:∃u,P u∧u<v
  ·obtain ⟨u,hu,hl⟩:=h
   exact ih u hl hu
  ·exact ⟨v,hv,fun u hu=>by
    by_cases hl:u<v
    ·exact absurd ⟨u,hu,hl⟩ h
    ·omega⟩
theorem ZDb {n:Nat} {R:List Zh} (hR:∀r∈R,OkN n r) {t0:Nat→Int} (h0:ZBs R t0):∃L,ZAj n R L:=by
 have hm:∀i:Nat,∃v:Nat,(∃t,ZBs R t∧(t i).toNat=v)∧∀u,(∃t,ZBs R t∧(t i).toNat=u)→v≤u:=fun i=>ZDv _ ⟨t0,h0,rfl⟩
 let m:Nat→Nat:=fun i=>Classical.choose (hm i)
 have m1:∀i,∃t,ZBs R t∧(t i).toNat=m i:=fun i=>(Classical.choose_spec (hm i)).1
 have m2:∀i t,ZBs R t→((m i:Nat):Int)≤t i:=fun i t ht=>by
  have:=(Classical.choose_spec (hm i)).2 _ ⟨t,ht,rfl⟩
  have:=ht.pos i
  show ((Classical.choose (hm i):Nat):Int)≤t i
  omega
 let L:List Int:=(List.range n).map fun i=>((m i:Nat):Int)
 have hL:∀i,i<n→lvN L i=((m i:Nat):Int):=fun i hi=>by
  have:L[i]?=some ((m i:Nat):Int):=by simp [L,hi]
  unfold lvN;rw [this];rfl
 have hL2:∀i,¬i<n→lvN L i=0:=fun i hi=>by
  unfold lvN;rw [List.getElem?_eq_none (by simp [L];omega)];rfl
 refine ⟨L,by simp [L],⟨fun i=>?_,fun r mr y my=>?_,fun r mr y my=>?_⟩,fun t ht i=>?_⟩
 ·by_cases hi:i<n
  ·rw [hL i hi];omega
  ·rw [hL2 i hi];exact Int.le_refl _
 ·obtain ⟨f1,f2,_⟩:=hR r mr
  rw [hL _ f1.2,hL _ (f2 y my).2]
  obtain ⟨t,ht,e⟩:=m1 r.for_.toNat
  have:=m2 y.toNat t ht
  have:=ht.inn r mr y my
  have:=ht.pos r.for_.toNat
  omega
 ·obtain ⟨f1,_,f3⟩:=hR r mr
  rw [hL _ f1.2,hL _ (f3 y my).2]
  obtain ⟨t,ht,e⟩:=m1 r.for_.toNat
  have:=m2 y.toNat t ht
  have:=ht.outs r mr y my
  have:=ht.pos r.for_.toNat
  omega
 ·by_cases hi:i<n
  ·rw [hL i hi];exact m2 i t ht
  ·rw [hL2 i hi];exact ht.pos i
theorem ZDe {n:Nat} {R:List Zh} (hR:∀r∈R,OkN n r) (hS:ZCg R):∃L,ZAj n R L∧∀i,lvN L i<n∨lvN L i=0:=by
 obtain ⟨h1,h2⟩:=ZCI hR hS
 obtain ⟨L,hL⟩:=ZDb hR h1
 refine ⟨L,hL,fun i=>?_⟩
 have:=hL.least _ h1 i
 have:=hL.sol.pos i
 rcases h2 i with h | h<;>omega
noncomputable def ZAs (s:List Int × Bool) (r:Zh):List Int × Bool:=if lvN s.1 r.for_.toNat<ZBa s.1 r then (ZAc s.1 r,true) else s
theorem ZA1 {n:Nat}:∀{R:List Zh} {s:List Int × Bool},s.1.length=n→(∀r∈R,OkN n r)→(R.foldl ZAs s).1=Q2 R s.1∧((R.foldl ZAs s).2=true↔s.2=true∨Q2 R s.1≠s.1)
 | [],s,_,_=>by simp [Q2]
 | r::R,s,hl,hR=>by
  have hR':∀q∈R,OkN n q:=fun q mq=>hR q (by simp [mq])
  rw [List.foldl_cons]
  show _∧(_↔s.2=true∨Q2 R (ZAc s.1 r)≠s.1)
  by_cases hc:lvN s.1 r.for_.toNat<ZBa s.1 r
  ·have e:ZAs s r=(ZAc s.1 r,true):=if_pos hc
   rw [e]
   obtain ⟨h1,h2⟩:=ZA1 (R:=R) (s:=(ZAc s.1 r,true)) (by rw [ZAu];exact hl) hR'
   refine ⟨h1,iff_of_true (h2.2 (.inl rfl)) (.inr fun he=>?_)⟩
   have h3:=ZAm R (ZAc s.1 r) r.for_.toNat
   rw [he] at h3
   have:lvN (ZAc s.1 r) r.for_.toNat=ZBa s.1 r:=by
    unfold ZAc
    rw [ZAh,if_pos ⟨rfl,by have:=(hR r (by simp)).1.2;omega⟩]
   omega
  ·have e:ZAs s r=s:=if_neg hc
   rw [e,ZBE hc]
   obtain ⟨h1,h2⟩:=ZA1 hl hR'
   refine ⟨h1.trans ?_,h2⟩
   show Q2 R s.1=Q2 R (ZAc s.1 r)
   rw [ZBE hc]
theorem ZBq {n:Nat} {R:List Zh} {L:List Int} (hL:ZAj n R L):Q2 R L=L:=
 ZAM (ZAK R L) fun i _=>Int.le_antisymm (ZAx hL.sol (fun _ h=>h) (fun _=>Int.le_refl _) i) (ZAm R L i)
theorem ZB0 {n:Nat} {L row:List Int} (hl:row.length=n) (hL:L.length=n) (h:ZA6 n L row=0):row=L:=by
 refine ZAM (hl.trans hL.symm) fun i hi=>?_
 unfold ZA6 at h
 rw [List.countP_eq_zero] at h
 simpa using h i (List.mem_range.2 (by omega))
theorem ZCT (n:Nat) (L row:List Int):ZA6 n L row≤n:=by
 have:=List.countP_le_length (p:=fun i=>decide (¬lvN row i=lvN L i)) (l:=List.range n)
 rw [List.length_range] at this
 exact this
theorem ZCD {σ ρ:Type} {n:Nat} {R:List Zh} {L:List Int} (hL:ZAj n R L) (hR:∀r∈R,OkN n r) (st:List Int→Bool→σ) (g:List Int→ρ) {body:σ→Option (σ ⊕ ρ)}
  (h1:∀row,row.length=n→(∀i,0≤lvN row i∧lvN row i≤lvN L i)→body (st row true)=some (.inl (st (R.foldl ZAs (row,false)).1 (R.foldl ZAs (row,false)).2)))
  (h2:∀row,body (st row false)=some (.inr (g row))):
  ∀k row,row.length=n→(∀i,0≤lvN row i∧lvN row i≤lvN L i)→ZA6 n L row≤k→Zdu body (st row true)=some (g L):=by
 have fixed:∀row,row.length=n→(∀i,0≤lvN row i∧lvN row i≤lvN L i)→Q2 R row=row→Zdu body (st row true)=some (g L):=fun row hl h0 e=>by
  obtain ⟨e1,e2⟩:=ZA1 (s:=(row,false)) hl hR
  have e3:(R.foldl ZAs (row,false)).2=false:=by
   cases hb:(R.foldl ZAs (row,false)).2 with
   | false=>rfl
   | true=>
    rcases e2.1 hb with h | h
    ·simp at h
    ·exact absurd e h
  rw [ZiQ (h1 row hl h0),e3,e1]
  have hrow:ZAj n R row:=ZC5 hl hR (fun i=>(h0 i).1) (fun t ht i=>Int.le_trans (h0 i).2 (hL.least t ht i)) e
  show Zdu body (st (Q2 R row) false)=_
  rw [e,Zef (h2 row),hrow.uniq hL]
 intro k
 induction k with
 | zero=>
  intro row hl h0 hk
  have e:row=L:=ZB0 hl hL.len (by omega)
  exact fixed row hl h0 (by rw [e];exact ZBq hL)
 | succ k ih=>
  intro row hl h0 hk
  by_cases e:Q2 R row=row
  ·exact fixed row hl h0 e
  ·obtain ⟨e1,e2⟩:=ZA1 (s:=(row,false)) hl hR
   rw [ZiQ (h1 row hl h0),e2.2 (.inr e),e1]
   refine ih _ (by rw [ZAK];exact hl) (fun i=>⟨Int.le_trans (h0 i).1 (ZAm R row i),ZAx hL.sol (fun _ h=>h) (fun i=>(h0 i).2) i⟩) ?_
   rcases ZBI hL hl hR (fun i=>(h0 i).1) (fun i=>(h0 i).2) with h | h
   ·exact absurd (by rw [ZB0 hl hL.len h];exact ZBq hL) e
   ·show ZA6 n L (Q2 R row)≤k
    omega
/- the reference writes each greater level at once -/
theorem ZDf {row:List Int} {f:Nat} (hf:f<row.length):row.set f (lvN row f)=row:=ZAM (by simp) fun i _=>by
 rw [ZAh]
 split
 ·rename_i h;rw [h.1]
 ·rfl
theorem ZB9 {row:List Int} {f:Nat} (hf:f<row.length):∀(l:List Int) (v:Int),lvN row f≤v→l.foldl (fun s y=>s.set f (mx (lvN s f) (lvN s y.toNat))) (row.set f v)=row.set f (l.foldl (fun m y=>mx m (lvN row y.toNat)) v)
 | [],_,_=>rfl
 | y::l,v,hv=>by
  have e1:lvN (row.set f v) f=v:=by rw [ZAh,if_pos ⟨rfl,hf⟩]
  have e2:mx v (lvN (row.set f v) y.toNat)=mx v (lvN row y.toNat):=by
   rw [ZAh]
   split
   ·rename_i h
    rw [h.1]
    unfold mx
    split<;>split<;>omega
   ·rfl
  rw [List.foldl_cons,List.foldl_cons,e1,e2,List.set_set]
  exact ZB9 hf l _ (Int.le_trans hv (ZDi v _).1)
theorem ZCq {row:List Int} {f:Nat} (hf:f<row.length):∀(l:List Int) (v:Int),(∀y∈l,y.toNat≠f)→l.foldl (fun s y=>s.set f (mx (lvN s f) (lvN s y.toNat+1))) (row.set f v)=row.set f (l.foldl (fun m y=>mx m (lvN row y.toNat+1)) v)
 | [],_,_=>rfl
 | y::l,v,hl=>by
  have e1:lvN (row.set f v) f=v:=by rw [ZAh,if_pos ⟨rfl,hf⟩]
  have e2:lvN (row.set f v) y.toNat=lvN row y.toNat:=by
   rw [ZAh,if_neg fun h=>hl y (by simp) h.1]
  rw [List.foldl_cons,List.foldl_cons,e1,e2,List.set_set]
  exact ZCq hf l _ fun z mz=>hl z (by simp [mz])
theorem ZCN {row:List Int} {r:Zh} (hf:r.for_.toNat<row.length) (hS:∀y∈r.outs,y.toNat≠r.for_.toNat):r.outs.foldl (fun s y=>s.set r.for_.toNat (mx (lvN s r.for_.toNat) (lvN s y.toNat+1))) (r.inn.foldl (fun s y=>s.set r.for_.toNat (mx (lvN s r.for_.toNat) (lvN s y.toNat))) row)=ZAc row r:=by
 have e:=ZB9 hf r.inn (lvN row r.for_.toNat) (Int.le_refl _)
 rw [ZDf hf] at e
 rw [e,ZCq hf _ _ hS]
 rfl
/- rounds -/
theorem ZCy {σ ρ:Type} {n top:Nat} {R:List Zh} {L:List Int} (hR:∀r∈R,OkN n r) (st:List Int→Nat→Nat→σ) (g:List Int→ρ) {body:σ→Option (σ ⊕ ρ)}
  (h1:∀row k s,RIn n row k→s≤top→ZAb R L ((s:Nat):Int) row k≠[]→body (st row k s)=some (.inl (st (ZAP row (ZAb R L ((s:Nat):Int) row k) ((k:Nat):Int)) (k+1) s)))
  (h2:∀row k s,RIn n row k→s≤top→ZAb R L ((s:Nat):Int) row k=[]→body (st row k s)=some (.inl (st row k (s+1))))
  (h3:∀row k,RIn n row k→body (st row k (top+1))=some (.inr (g row))):
  ∀d s row k,s+d=top+1→RIn n row k→Zdu body (st row k s)=some (g (ZAf R L n (List.range' s d) (row,k)).1):=by
 have level:∀f s row k,s≤top→RIn n row k→ZAN row≤f→Zdu body (st row k s)=Zdu body (st (ZAg R L ((s:Nat):Int) f row k).1 (ZAg R L ((s:Nat):Int) f row k).2 (s+1)):=by
  intro f
  induction f with
  | zero=>
   intro s row k hs hI hf
   have hc:ZAb R L ((s:Nat):Int) row k=[]:=Classical.byContradiction fun hc=>by have:=(hI.next hR hc).2;omega
   exact ZiQ (h2 row k s hI hs hc)
  | succ f ih=>
   intro s row k hs hI hf
   unfold ZAg
   by_cases hc:ZAb R L ((s:Nat):Int) row k=[]
   ·rw [if_pos hc]
    exact ZiQ (h2 row k s hI hs hc)
   ·rw [if_neg hc,ZiQ (h1 row k s hI hs hc)]
    obtain ⟨a,b⟩:=hI.next hR hc
    exact ih s _ _ hs a (by omega)
 intro d
 induction d with
 | zero=>
  intro s row k hs hI
  obtain rfl:s=top+1:=by omega
  exact Zef (h3 row k hI)
 | succ d ih=>
  intro s row k hs hI
  have hu:ZAN row≤n:=by have:=hI.few;omega
  rw [level n s row k (by omega) hI hu]
  exact ih (s+1) _ _ (by omega) (ZAL hR n row k hI hu).1
theorem ZBl {row:List Int} {R:List Zh} {L:List Int} {s:Int} {k:Nat} {l:List Int} (h:∀x,x∈l↔x∈ZAb R L s row k):ZAP row l ((k:Nat):Int)=ZAP row (ZAb R L s row k) ((k:Nat):Int)∧(l=[]↔ZAb R L s row k=[]):=by
 refine ⟨ZCO fun i=>?_,?_⟩
 ·constructor
  ·rintro ⟨x,mx,e⟩;exact ⟨x,(h x).1 mx,e⟩
  ·rintro ⟨x,mx,e⟩;exact ⟨x,(h x).2 mx,e⟩
 ·rw [List.eq_nil_iff_forall_not_mem,List.eq_nil_iff_forall_not_mem]
  exact forall_congr' fun x=>not_congr (h x)
theorem ZCL {σ ρ:Type} {n:Nat} {R:List Zh} {L:List Int} {s:Int} (hR:∀r∈R,OkN n r) (st:List Int→Nat→List Int→σ) (g:List Int→Nat→ρ) (cm:List Int→Nat→List Int) (hcm:∀row k x,RIn n row k→(x∈cm row k↔x∈ZAb R L s row k)) {body:σ→Option (σ ⊕ ρ)}
  (h1:∀row k,RIn n row k→cm row k≠[]→RIn n (ZAP row (cm row k) ((k:Nat):Int)) (k+1)→body (st row k (cm row k))=some (.inl (st (ZAP row (cm row k) ((k:Nat):Int)) (k+1) (cm (ZAP row (cm row k) ((k:Nat):Int)) (k+1)))))
  (h2:∀row k,RIn n row k→body (st row k [])=some (.inr (g row k))):
  ∀f row k,RIn n row k→ZAN row≤f→Zdu body (st row k (cm row k))=some (g (ZAg R L s f row k).1 (ZAg R L s f row k).2):=by
 intro f
 induction f with
 | zero=>
  intro row k hI hf
  have hc:ZAb R L s row k=[]:=Classical.byContradiction fun hc=>by have:=(hI.next hR hc).2;omega
  rw [(ZBl fun x=>hcm row k x hI).2.2 hc,Zef (h2 row k hI)]
  rfl
 | succ f ih=>
  intro row k hI hf
  unfold ZAg
  by_cases hc:ZAb R L s row k=[]
  ·rw [if_pos hc,(ZBl fun x=>hcm row k x hI).2.2 hc,Zef (h2 row k hI)]
  ·obtain ⟨e1,e2⟩:=ZBl fun x=>hcm row k x hI
   rw [if_neg hc,ZiQ (h1 row k hI (fun h=>hc (e2.1 h)) (by rw [e1];exact (hI.next hR hc).1)),e1]
   exact ih _ _ (hI.next hR hc).1 (by have:=(hI.next hR hc).2;omega)
end Go.Proofs.YtojnhepgnbhaaaaGreatDoor
namespace Go.Proofs.YtojnhepgnbhaaaaGreatDoor
open Classical
structure ZAl (b:ZK):Prop where
 n0:0≤b.nodes
 n1:b.nodes≤24
 len:b.reasons.length≤60
 ok:∀r∈b.reasons,OkN b.nodes.toNat r
 up:∀r∈b.reasons,r.inn.Pairwise (·<·)∧r.outs.Pairwise (·<·)
 few:∀r∈b.reasons,r.inn.length≤4∧r.outs.length≤4
 strat:ZCg b.reasons
theorem ZAl.of {R:List Zf} {base F:List Zc} (h:Qu R base F) (h60:(Zak R F base).length≤60):ZAl { nodes:=((F.length:Nat):Int),reasons:=Zak R F base }:=by
 have:=h.len
 exact ⟨by simp only;omega,by simp only;omega,h60,fun r mr=>by simpa using ZC4 h r mr,fun r mr=>(ZAF h mr).up,fun r mr=>Znq h mr,ZCe h⟩
theorem ZAi.sub {R Q:List Zh} (h:∀r∈Q,r∈R) {x y:Int} (k:ZAi Q x y):ZAi R x y:=by
 have one:∀a b,ZBn Q a b→ZBn R a b:=fun a b ⟨r,mr,e,hy⟩=>⟨r,h r mr,e,hy⟩
 induction k with
 | one h1=>exact .one (one _ _ h1)
 | step _ h1 ih=>exact .step ih (one _ _ h1)
theorem ZAl.sub {b c:ZK} (h:ZAl b) (hn:c.nodes=b.nodes) (hl:c.reasons.length≤b.reasons.length) (hs:∀r∈c.reasons,r∈b.reasons):ZAl c:=by
 have:=h.len
 exact ⟨by rw [hn];exact h.n0,by rw [hn];exact h.n1,by omega,fun r mr=>by rw [hn];exact h.ok r (hs r mr),fun r mr=>h.up r (hs r mr),fun r mr=>h.few r (hs r mr),fun r mr y my=>by
  obtain ⟨h1,h2⟩:=h.strat r (hs r mr) y my
  exact ⟨h1,fun hd=>h2 (hd.sub hs)⟩⟩
theorem ZAl.valid {b:ZK} (h:ZAl b):ZAn b=true:=by
 unfold ZAn
 have h0:=h.n0
 have h1:=h.n1
 simp only [Bool.and_eq_true,decide_eq_true_eq]
 refine ⟨h.n0,h.n1,h.len,List.all_eq_true.2 fun r mr=>?_⟩
 obtain ⟨⟨f0,f1⟩,f2,f3⟩:=h.ok r mr
 obtain ⟨u1,u2⟩:=h.up r mr
 unfold ZCR
 simp only [Bool.and_eq_true,decide_eq_true_eq]
 exact ⟨f0,by omega,ZDd (fun y my=>by have:=f2 y my;omega) u1,ZDd (fun y my=>by have:=f3 y my;omega) u2⟩
theorem ZAl.small {b:ZK} (h:ZAl b):ZDk b:=fun r mr=>by have:=h.few r mr;omega
def ZA9:List Zh→Nat→Int→List Zh
 | [],_,_=>[]
 | r::l,i,k=>if ((i:Nat):Int)=k then ZA9 l (i+1) k else r::ZA9 l (i+1) k
theorem ZBb {k:Int}:∀{l:List Zh} {i:Nat},(ZA9 l i k).length≤l.length∧∀r∈ZA9 l i k,r∈l
 | [],_=>by simp [ZA9]
 | x::l,i=>by
  obtain ⟨h1,h2⟩:=ZBb (k:=k) (l:=l) (i:=i+1)
  unfold ZA9
  split
  ·exact ⟨by simp;omega,fun r mr=>by simp [h2 r mr]⟩
  ·refine ⟨by simp;omega,fun r mr=>?_⟩
   rcases List.mem_cons.1 mr with rfl | mr
   ·simp
   ·simp [h2 r mr]
def ZK.drop (b:ZK) (k:Int):ZK:={ nodes:=b.nodes,reasons:=ZA9 b.reasons 0 k }
theorem ZAl.drop {b:ZK} (h:ZAl b) (k:Int):ZAl (b.drop k):=h.sub rfl (ZBb).1 (ZBb).2
def ZAt:List Zc→List Int→List Zc
 | f::F,v::l=>if 0≤v then f::ZAt F l else ZAt F l
 | _,_=>[]
theorem ZB2:∀{F:List Zc} {l:List Int},(ZAt F l).length≤F.length∧∀f∈ZAt F l,f∈F
 | [],l=>by simp [ZAt]
 | f::F,[]=>by simp [ZAt]
 | f::F,v::l=>by
  obtain ⟨h1,h2⟩:=ZB2 (F:=F) (l:=l)
  unfold ZAt
  split
  ·refine ⟨by simp;omega,fun g mg=>?_⟩
   rcases List.mem_cons.1 mg with rfl | mg
   ·simp
   ·simp [h2 g mg]
  ·exact ⟨by simp;omega,fun g mg=>by simp [h2 g mg]⟩
noncomputable def lvB (b:ZK):List Int:=if h:∃L,ZAj b.nodes.toNat b.reasons L then Classical.choose h else []
noncomputable def rdB (b:ZK):List Int:=(ZAf b.reasons (lvB b) b.nodes.toNat (List.range b.nodes.toNat) (List.replicate b.nodes.toNat (-1),0)).1
theorem ZAl.lv {b:ZK} (h:ZAl b):ZAj b.nodes.toNat b.reasons (lvB b)∧∀i,0≤lvN (lvB b) i∧(lvN (lvB b) i<b.nodes.toNat∨lvN (lvB b) i=0):=by
 obtain ⟨L,hL,h2⟩:=ZDe h.ok h.strat
 have hex:∃L,ZAj b.nodes.toNat b.reasons L:=⟨L,hL⟩
 have e:lvB b=Classical.choose hex:=dif_pos hex
 have h1:ZAj b.nodes.toNat b.reasons (lvB b):=by rw [e];exact Classical.choose_spec hex
 refine ⟨h1,fun i=>⟨h1.sol.pos i,?_⟩⟩
 rw [h1.uniq hL]
 exact h2 i
theorem ZBo (n:Nat):RIn n (List.replicate n (-1)) 0:=⟨by simp,fun i hi=>⟨-1,by simp [hi],.inl rfl⟩,by
 have:=List.countP_le_length (p:=fun v:Int=>decide (v<0)) (l:=List.replicate n (-1))
 rw [List.length_replicate] at this
 unfold ZAN
 omega⟩
theorem ZAl.rd {b:ZK} (h:ZAl b):(rdB b).length=b.nodes.toNat:=(ZBC h.ok _ _ (ZBo _)).len
end Go.Proofs.YtojnhepgnbhaaaaGreatDoor
namespace Go.Proofs.YtojnhepgnbhaaaaGreatDoor
open Classical
theorem ZA3 {row:List Int} {i:Nat} (h:i<row.length):row[i]?=some (lvN row i):=by
 unfold lvN
 rw [List.getElem?_eq_getElem h]
 rfl
theorem ZCU {x:Int} (h1:-1000000≤x) (h2:x≤1000000):IntKind.i64.wrap x=x:=ZjU (by omega) (by omega)
theorem ZA4 {k:Nat} (h:k<1000000000):IntKind.i64.wrap (((k:Nat):Int)+1)=((k+1:Nat):Int):=Zi (n:=k+1) (by omega) (by omega)
theorem ZCZ (l:List Int) (h:l.length≤1073741824):ZBf l=some l:=Zj _ h
/- what a node depends on -/
theorem ZBV {ρ:Type} {n:Nat} {R:List Zh} {x:Int} {l:List Int} {body:List Bool × List Int × Int→Option ((List Bool × List Int × Int) ⊕ ρ)} (g:List Bool × List Int→ρ)
  (h1:∀s i y,ZAe n R x s→i<l.length→l[i]?=some y→(0≤y∧y.toNat<n)→body (s.1,s.2,((i:Nat):Int))=some (.inl ((ZAI s y).1,(ZAI s y).2,((i+1:Nat):Int))))
  (h2:∀s,body (s.1,s.2,((l.length:Nat):Int))=some (.inr (g s))) (hl:∀y∈l,(0≤y∧y.toNat<n)∧ZAi R x y):
  ∀(rest pre:List Int) (s:List Bool × List Int),l=pre++rest→ZAe n R x s→Zdu body (s.1,s.2,((pre.length:Nat):Int))=some (g (rest.foldl ZAI s))
 | [],pre,s,e,_=>by
  rw [List.append_nil] at e
  subst e
  exact Zef (h2 s)
 | y::rest,pre,s,e,hI=>by
  have hy:l[pre.length]?=some y:=by rw [e];simp
  have my:y∈l:=List.mem_of_getElem? hy
  have hlt:=(List.getElem?_eq_some_iff.1 hy).1
  rw [ZiQ (h1 s pre.length y hI hlt hy (hl y my).1)]
  have:=ZBV g h1 h2 hl rest (pre++[y]) (ZAI s y) (by rw [e];simp) (ZCW hI (hl y my).1 (hl y my).2).1
  simpa using this
theorem ZBM {b:ZK} (h:ZAl b) (x:Int):∃row,ZAC b x=some row∧row.length=b.nodes.toNat∧∀y:Int,0≤y→(row[y.toNat]?=some true↔ZAi b.reasons x y):=by
 have h0:=h.n0
 have h1:=h.n1
 have hn:b.nodes.toNat≤24:=by omega
 unfold ZAC
 rw [Zj _ ⟨h0,by omega⟩]
 have start:ZAe b.nodes.toNat b.reasons x (List.replicate b.nodes.toNat false,[x]):=⟨by simp,[],rfl,by simp,fun y _ hy=>by
  by_cases hl:y.toNat<b.nodes.toNat
  ·simp [hl] at hy
  ·rw [List.getElem?_eq_none (by simp;omega)] at hy;simp at hy,by simp [ZC6,List.countP_replicate]⟩
 refine ZCH h.ok (fun out todo i=>(out,todo,((i:Nat):Int))) (fun r=>r) ?_ ?_ (b.nodes.toNat+1) _ _ 0 start (by simp) (by omega) (fun j z hj=>by omega)
 ·intro out todo i z hI hi hz hzx
  have hlt:=(List.getElem?_eq_some_iff.1 hz).1
  have ht:decide (((i:Nat):Int)<((todo.length:Nat):Int))=true:=decide_eq_true (by omega)
  simp only [ht,if_true]
  rw [ZaR (f:=ZAT z) (fun _ s=>ZAe b.nodes.toNat b.reasons x s∧ZAS (out,todo) s) ⟨hI,.refl _⟩]
  ·rw [ZA4 (by omega)]
  ·intro j r s mr _ _ hs
   obtain ⟨hs1,hs2⟩:=hs
   obtain ⟨k1,k2,_⟩:=ZCV h.ok hzx hs1 mr
   refine ⟨?_,k1,hs2.trans k2⟩
   obtain ⟨a,c⟩:=s
   obtain ⟨v,hv⟩:=hs2.more
   simp only at hv
   have hzc:c[i]?=some z:=by rw [hv,List.getElem?_append_left hlt];exact hz
   have hcl:i<c.length:=(List.getElem?_eq_some_iff.1 hzc).1
   simp only [Int.toNat_natCast]
   rw [Zj _ ⟨by omega,by omega⟩,hzc,Option.bind_some]
   unfold ZAT
   by_cases e:r.for_=z
   ·obtain ⟨f1,f2⟩:=h.few r mr
    have e2:(r.for_ != z)=false:=by simp [e]
    rw [if_pos e,e2]
    simp only [Bool.false_eq_true,if_false]
    rw [ZCZ _ (by omega),Option.bind_some,Zj _ (by omega)]
    have hd:=ZDg h.ok hzx mr e
    refine ZBV (n:=b.nodes.toNat) (R:=b.reasons) (x:=x) (l:=r.inn++r.outs) (fun s=>Sum.inl s) ?_ ?_ hd (r.inn++r.outs) [] (a,c) rfl hs1
    ·intro s u y hu hul hy hyn
     have hlt2:decide (((u:Nat):Int)<((r.inn.length+r.outs.length:Nat):Int))=true:=decide_eq_true (by rw [List.length_append] at hul;omega)
     simp only [hlt2,if_true,Int.toNat_natCast]
     rw [List.length_append] at hul
     rw [Zj _ ⟨by omega,by omega⟩,hy,Option.bind_some]
     have hyl:y.toNat<s.1.length:=by rw [hu.len];exact hyn.2
     rw [Zj _ ⟨hyn.1,by omega⟩,List.getElem?_eq_getElem hyl,Option.bind_some,ZA4 (by omega)]
     unfold ZAI
     obtain ⟨t,t1,_,_,t4⟩:=hu.row
     have hlen:s.2.length=t.length+1:=by rw [t1];simp
     by_cases hb:s.1[y.toNat]=true
     ·rw [if_pos hb,if_pos (by rw [List.getElem?_eq_getElem hyl,hb])]
     ·rw [if_neg hb,if_neg (by rw [List.getElem?_eq_getElem hyl];simpa using hb),Zj _ (by omega)]
    ·intro s
     have hf:decide ((((r.inn++r.outs).length:Nat):Int)<((r.inn.length+r.outs.length:Nat):Int))=false:=decide_eq_false (by rw [List.length_append];omega)
     simp only [hf,Bool.false_eq_true,if_false]
   ·have e2:(r.for_ != z)=true:=by simp [e]
    rw [if_neg e,e2,if_pos rfl]
 ·intro out todo hI
  simp only [ZC,Bool.false_eq_true,if_false]
theorem ZAO {b:ZK} (h:ZAl b):ZAd b=some true:=by
 unfold ZAd
 have h60:=h.len
 rw [ZBw h.small (by omega),h.valid,Option.bind_some,if_pos rfl,Yf (p:=fun _=>true) (r:=true)]
 ·simp
 ·intro i r mr
  rw [Yf (p:=fun _=>true) (r:=.inl ())]
  ·simp
  ·intro j y my
   obtain ⟨k1,k2⟩:=h.strat r mr y my
   obtain ⟨row,e,hl,hd⟩:=ZBM h y
   obtain ⟨⟨f0,f1⟩,_,_⟩:=h.ok r mr
   have ey:(y==r.for_)=false:=by simpa using k1
   have hlt:r.for_.toNat<row.length:=by omega
   have hv:row[r.for_.toNat]=false:=by
    cases hb:row[r.for_.toNat] with
    | false=>rfl
    | true=>exact absurd ((hd r.for_ f0).1 (by rw [List.getElem?_eq_getElem hlt,hb])) k2
   rw [ey]
   simp only [Bool.false_eq_true,if_false]
   rw [e,Option.bind_some,Zj _ ⟨f0,by omega⟩,List.getElem?_eq_getElem hlt,Option.bind_some,hv]
   rfl
/- strata -/
theorem ZBu (n i:Nat):lvN (List.replicate n 0) i=0:=by
 unfold lvN
 by_cases hi:i<n
 ·simp [hi]
 ·rw [List.getElem?_eq_none (by simp;omega)];rfl
theorem ZCu {b:ZK} (h:ZAl b):ZAz b=some (lvB b):=by
 obtain ⟨hL,hv⟩:=h.lv
 have h0:=h.n0
 have h1:=h.n1
 unfold ZAz
 rw [ZAO h,Option.bind_some,if_pos rfl,Zj _ ⟨h0,by omega⟩]
 generalize hn:b.nodes.toNat=n at *
 have walk:∀(body:List Int × Int→Option ((List Int × Int) ⊕ List Int)),(∀row (i:Nat),i≤n→row.length=n→(∀j,0≤lvN row j∧lvN row j≤lvN (lvB b) j)→body (row,((i:Nat):Int))=some (.inl (Q2 b.reasons row,((i+1:Nat):Int))))→(∀row,body (row,((n+1:Nat):Int))=some (.inr row))→
   ∀d i row,i+d=n+1→row.length=n→(∀j,0≤lvN row j∧lvN row j≤lvN (lvB b) j)→Zdu body (row,((i:Nat):Int))=some (ZCQ b.reasons d row):=by
  intro body b1 b2 d
  induction d with
  | zero=>
   intro i row hi hl hb
   obtain rfl:i=n+1:=by omega
   exact Zef (b2 row)
  | succ d ih=>
   intro i row hi hl hb
   rw [ZiQ (b1 row i (by omega) hl hb)]
   exact ih (i+1) _ (by omega) (by rw [ZAK];exact hl) fun j=>⟨Int.le_trans (hb j).1 (ZAm b.reasons row j),ZAx hL.sol (fun _ h=>h) (fun j=>(hb j).2) j⟩
 rw [←ZBA hL (by have:=h.ok;rw [hn] at this;exact this) (n+1) (List.replicate n 0) (by simp) (fun j=>by rw [ZBu];exact Int.le_refl _) (fun j=>by rw [ZBu];exact (hv j).1) (by have:=ZCT n (lvB b) (List.replicate n 0);omega)]
 refine walk _ ?_ ?_ (n+1) 0 _ (by omega) (by simp) (fun j=>by rw [ZBu];exact ⟨Int.le_refl _,(hv j).1⟩)
 ·intro row i hi hl hb
  have ht:decide (((i:Nat):Int)≤b.nodes)=true:=decide_eq_true (by omega)
  simp only [ht,if_true]
  rw [ZaR (f:=ZAc) (fun _ s=>s.length=n∧∀j,0≤lvN s j∧lvN s j≤lvN (lvB b) j) ⟨hl,hb⟩]
  ·rw [ZA4 (by omega)]
   rfl
  ·intro j r s mr _ _ hs
   obtain ⟨hs1,hs2⟩:=hs
   have hok:=h.ok r mr
   rw [hn] at hok
   obtain ⟨⟨f0,f1⟩,f2,f3⟩:=hok
   refine ⟨?_,by rw [ZAu];exact hs1,fun j=>⟨Int.le_trans (hs2 j).1 (ZAR s r j),ZBx hL.sol mr (fun j=>(hs2 j).2) j⟩⟩
   have hout:∀y∈r.outs,y.toNat≠r.for_.toNat:=fun y my e=>(h.strat r mr y my).1 (by have:=f3 y my;omega)
   rw [ZaR (f:=fun u y=>u.set r.for_.toNat (mx (lvN u r.for_.toNat) (lvN u y.toNat))) (fun _ u=>u.length=n∧∀j,j≠r.for_.toNat→lvN u j=lvN s j) ⟨hs1,fun _ _=>rfl⟩]
   ·rw [ZaR (f:=fun u y=>u.set r.for_.toNat (mx (lvN u r.for_.toNat) (lvN u y.toNat+1))) (fun _ u=>u.length=n∧∀j,j≠r.for_.toNat→lvN u j=lvN s j)]
    ·rw [ZCN (by omega) hout]
    ·have e:=ZB9 (row:=s) (f:=r.for_.toNat) (by omega) r.inn (lvN s r.for_.toNat) (Int.le_refl _)
     rw [ZDf (by omega)] at e
     rw [e]
     exact ⟨by simp [hs1],fun j hj=>by rw [ZAh,if_neg fun hh=>hj hh.1]⟩
    ·intro j y u my _ _ hu
     obtain ⟨y0,y1⟩:=f3 y my
     have hy:=hout y my
     have hyv:=hu.2 y.toNat hy
     have hb1:=hs2 y.toNat
     have hb2:=hv y.toNat
     refine ⟨?_,by simp [hu.1],fun j hj=>by rw [ZAh,if_neg fun hh=>hj hh.1];exact hu.2 j hj⟩
     rw [Zj _ ⟨f0,by omega⟩,ZA3 (by omega),Option.bind_some,Zj _ ⟨y0,by omega⟩,ZA3 (by omega),Option.bind_some,ZCU (by omega) (by omega)]
     rfl
   ·intro j y u my _ _ hu
    obtain ⟨y0,y1⟩:=f2 y my
    refine ⟨?_,by simp [hu.1],fun j hj=>by rw [ZAh,if_neg fun hh=>hj hh.1];exact hu.2 j hj⟩
    rw [Zj _ ⟨f0,by omega⟩,ZA3 (by omega),Option.bind_some,Zj _ ⟨y0,by omega⟩,ZA3 (by omega),Option.bind_some]
    rfl
 ·intro row
  have hf:decide (((n+1:Nat):Int)≤b.nodes)=false:=decide_eq_false (by omega)
  simp only [hf,Bool.false_eq_true,if_false]
theorem ZC2 {b:ZK} (h:ZAl b):ZAW b=some (lvB b):=by
 obtain ⟨hL,hv⟩:=h.lv
 have h0:=h.n0
 have h1:=h.n1
 unfold ZAW
 rw [Zj _ ⟨h0,by omega⟩]
 refine ZCD hL h.ok (fun row m=>(row,m)) (fun row=>row) ?_ ?_ b.nodes.toNat _ (by simp) (fun j=>by rw [ZBu];exact ⟨Int.le_refl _,(hv j).1⟩) (ZCT _ _ _)
 ·intro row hl hb
  simp only [if_true]
  rw [ZaR (f:=ZAs) (fun _ s=>s.1.length=b.nodes.toNat∧∀j,0≤lvN s.1 j∧lvN s.1 j≤lvN (lvB b) j) ⟨hl,hb⟩]
  intro j r s mr _ _ hs
  obtain ⟨hs1,hs2⟩:=hs
  obtain ⟨⟨f0,f1⟩,f2,f3⟩:=h.ok r mr
  obtain ⟨row,m⟩:=s
  simp only at hs1 hs2
  refine ⟨?_,?_⟩
  ·dsimp only
   rw [Zj _ ⟨f0,by omega⟩,ZA3 (by omega),Option.bind_some]
   rw [ZBD (f:=fun u y=>mx u (lvN row y.toNat)) fun j y u my=>by
    obtain ⟨y0,y1⟩:=f2 y my
    rw [Zj _ ⟨y0,by omega⟩,ZA3 (by omega),Option.bind_some]
    rfl]
   rw [ZBD (f:=fun u y=>mx u (lvN row y.toNat+1)) fun j y u my=>by
    obtain ⟨y0,y1⟩:=f3 y my
    have hb1:=hs2 y.toNat
    have hb2:=hv y.toNat
    rw [Zj _ ⟨y0,by omega⟩,ZA3 (by omega),Option.bind_some,ZCU (by omega) (by omega)]
    rfl]
   show (if decide (lvN row r.for_.toNat<ZBa row r)=true then some (Sum.inl (row.set r.for_.toNat (ZBa row r),true)) else some (Sum.inl (row,m)))=some (Sum.inl (ZAs (row,m) r))
   unfold ZAs
   by_cases hc:lvN row r.for_.toNat<ZBa row r
   ·rw [if_pos (decide_eq_true hc),if_pos hc]
    rfl
   ·rw [if_neg (by simpa using hc),if_neg hc]
  ·unfold ZAs
   by_cases hc:lvN row r.for_.toNat<ZBa row r
   ·rw [if_pos hc]
    exact ⟨by rw [ZAu];exact hs1,fun j=>⟨Int.le_trans (hs2 j).1 (ZAR row r j),ZBx hL.sol mr (fun j=>(hs2 j).2) j⟩⟩
   ·rw [if_neg hc]
    exact ⟨hs1,hs2⟩
 ·intro row
  rfl
end Go.Proofs.YtojnhepgnbhaaaaGreatDoor
namespace Go.Proofs.YtojnhepgnbhaaaaGreatDoor
open Classical
theorem ZCS {n k:Nat} {row:List Int} (h:RIn n row k) {y:Int} (h0:0≤y) (hy:y.toNat<n):atI row y=some (rdN row y)∧row[y.toNat]?=some (rdN row y):=by
 obtain ⟨v,hv,_⟩:=h.val y.toNat hy
 have e:row[y.toNat]?=some (rdN row y):=by unfold rdN;rw [hv];rfl
 refine ⟨?_,e⟩
 unfold atI
 rw [if_pos h0,e]
noncomputable def ZCa (row:List Int) (k:Nat) (y:Int):Bool:=decide (0≤rdN row y∧rdN row y<((k:Nat):Int))
noncomputable def ZCd (row:List Int) (y:Int):Bool:=decide (rdN row y<0)
theorem ZCx {ρ:Type} {n k:Nat} {row:List Int} (h:RIn n row k) {l:List Int} (hl:∀y∈l,0≤y∧y.toNat<n) {fin:Unit→Option ρ} {z:ρ} {body:Nat→Int→Unit→Option (Unit ⊕ ρ)}
  (hb:∀i y u,body i y u=(atI row y).bind fun x=>if decide (x<0)=true then some (.inr z) else if decide (((k:Nat):Int)≤x)=true then some (.inr z) else some (.inl ())):Zp body fin l 0 ()=if l.all (ZCa row k)=true then fin () else some z:=by
 rw [Yf (p:=ZCa row k) (r:=z)]
 intro i y my
 obtain ⟨y0,y1⟩:=hl y my
 rw [hb,(ZCS h y0 y1).1,Option.bind_some]
 unfold ZCa
 by_cases h1:rdN row y<0
 ·rw [if_pos (decide_eq_true h1),decide_eq_false (by omega)];rfl
 ·rw [if_neg (by simpa using h1)]
  by_cases h2:((k:Nat):Int)≤rdN row y
  ·rw [if_pos (decide_eq_true h2),decide_eq_false (by omega)];rfl
  ·rw [if_neg (by simpa using h2),decide_eq_true (by omega)];rfl
theorem ZCp {ρ:Type} {n k:Nat} {row:List Int} (h:RIn n row k) {l:List Int} (hl:∀y∈l,0≤y∧y.toNat<n) {fin:Unit→Option ρ} {z:ρ} {body:Nat→Int→Unit→Option (Unit ⊕ ρ)}
  (hb:∀i y u,body i y u=(atI row y).bind fun x=>if decide (0≤x)=true then some (.inr z) else some (.inl ())):Zp body fin l 0 ()=if l.all (ZCd row)=true then fin () else some z:=by
 rw [Yf (p:=ZCd row) (r:=z)]
 intro i y my
 obtain ⟨y0,y1⟩:=hl y my
 rw [hb,(ZCS h y0 y1).1,Option.bind_some]
 unfold ZCd
 by_cases h1:0≤rdN row y
 ·rw [if_pos (decide_eq_true h1),decide_eq_false (by omega)];rfl
 ·rw [if_neg (by simpa using h1),decide_eq_true (by omega)];rfl
theorem ZAJ {row:List Int} {k:Nat} {r:Zh}:(r.inn.all (ZCa row k)=true∧r.outs.all (ZCd row)=true)↔ZBi row k r:=by
 simp only [List.all_eq_true,ZCa,ZCd,decide_eq_true_eq]
 exact Iff.rfl
theorem ZB8 {n k:Nat} {row:List Int} (h:RIn n row k) {r:Zh} (hr:OkN n r):ZAk r row ((k:Nat):Int)=some (decide (ZBi row k r)):=by
 unfold ZAk
 rw [ZCx h hr.2.1 fun i y u=>rfl,ZCp h hr.2.2 fun i y u=>rfl]
 by_cases h1:r.inn.all (ZCa row k)=true
 ·rw [if_pos h1]
  by_cases h2:r.outs.all (ZCd row)=true
  ·rw [if_pos h2,decide_eq_true (ZAJ.1 ⟨h1,h2⟩)]
  ·rw [if_neg h2,decide_eq_false fun h=>h2 (ZAJ.2 h).2]
 ·rw [if_neg h1,decide_eq_false fun h=>h1 (ZAJ.2 h).1]
theorem ZCk {n k:Nat} {row:List Int} (h:RIn n row k) {l:List Int} (hl:∀y∈l,0≤y∧y.toNat<n):ZAq l row ((k:Nat):Int)=some (l.all (ZCa row k)):=by
 unfold ZAq
 rw [ZCx h hl fun i y u=>rfl]
 cases l.all (ZCa row k)<;>rfl
theorem ZCP {n k:Nat} {row:List Int} (h:RIn n row k) {l:List Int} (hl:∀y∈l,0≤y∧y.toNat<n):ZAH l row=some (l.all (ZCd row)):=by
 unfold ZAH
 rw [ZCp h hl fun i y u=>rfl]
 cases l.all (ZCd row)<;>rfl
/- the program's rounds -/
theorem ZC9 {n:Nat} {L:List Int} {ρ:Type} {body:List Int × Int × Int→Option ((List Int × Int × Int) ⊕ ρ)} {r:ρ} (hv:∀i,0≤lvN L i∧lvN L i≤((n:Nat):Int))
  (h1:∀k row u,k<n→row.length=n→body (row,((k:Nat):Int),u)=some (.inl (row.set k (-1),((k+1:Nat):Int),mx u (lvN L k))))
  (h2:∀u,0≤u→u≤((n:Nat):Int)→(∀i,i<n→lvN L i≤u)→body (List.replicate n (-1),((n:Nat):Int),u)=some (.inr r)):
  ∀m k row u,k+m=n→row.length=n→(∀i,i<k→row[i]?=some (-1))→0≤u→u≤((n:Nat):Int)→(∀i,i<k→lvN L i≤u)→Zdu body (row,((k:Nat):Int),u)=some r:=by
 intro m
 induction m with
 | zero=>
  intro k row u hk hl hr h0 hu hm
  obtain rfl:k=n:=by omega
  have:row=List.replicate k (-1):=by
   apply List.ext_getElem?
   intro i
   by_cases hi:i<k
   ·rw [hr i hi];simp [hi]
   ·rw [List.getElem?_eq_none (by omega),List.getElem?_eq_none (by simp;omega)]
  rw [this]
  exact Zef (h2 u h0 hu hm)
 | succ m ih=>
  intro k row u hk hl hr h0 hu hm
  rw [ZiQ (h1 k row u (by omega) hl)]
  have hx:=ZDi u (lvN L k)
  refine ih (k+1) _ _ (by omega) (by simp [hl]) (fun i hi=>?_) (by omega) (ZDt hu (hv k).2) fun i hi=>?_
  ·rw [List.getElem?_set]
   by_cases e:k=i
   ·rw [if_pos e,if_pos (by omega)]
   ·rw [if_neg e];exact hr i (by omega)
  ·by_cases e:i=k
   ·rw [e];exact hx.2
   ·exact Int.le_trans (hm i (by omega)) hx.1
theorem ZDp {b:ZK} (h:ZAl b) {t:Nat} (ht:∀i,i<b.nodes.toNat→lvN (lvB b) i≤((t:Nat):Int)):(ZAf b.reasons (lvB b) b.nodes.toNat (List.range' 0 (t+1)) (List.replicate b.nodes.toNat (-1),0)).1=rdB b:=by
 unfold rdB
 rw [←List.range_eq_range',ZCt (a:=t+1) (b:=b.nodes.toNat)]
 ·intro r mr
  have:=ht r.for_.toNat (h.ok r mr).1.2
  omega
 ·intro r mr
  have:=(h.lv.2 r.for_.toNat).2
  have:=(h.ok r mr).1.2
  omega
theorem ZB5 {ρ:Type} {n k:Nat} {row:List Int} (hl:row.length=n) {l:List Int} (hx:∀x∈l,0≤x∧x.toNat<n) {fin:List Int→Option ρ} {body:Nat→Int→List Int→Option (List Int ⊕ ρ)}
  (hb:∀i x s,body i x s=chk (0≤x∧x<((s.length:Nat):Int)) ((s[Int.toNat x]?).bind fun _=>some (.inl (List.set s (Int.toNat x) ((k:Nat):Int))))):Zp body fin l 0 row=fin (ZAP row l ((k:Nat):Int)):=by
 rw [ZaR (f:=fun s x=>s.set x.toNat ((k:Nat):Int)) (fun _ s=>s.length=n) hl]
 ·rfl
 ·intro j x s mx _ _ hs
  obtain ⟨x0,x1⟩:=hx x mx
  refine ⟨?_,by simp [hs]⟩
  rw [hb,Zj _ ⟨x0,by omega⟩,List.getElem?_eq_getElem (show x.toNat<s.length by omega),Option.bind_some]
theorem ZBZ {n:Nat} {R:List Zh} (hR:∀r∈R,OkN n r) {L:List Int} {s:Int} {row:List Int} {k:Nat}:∀x∈ZAb R L s row k,0≤x∧x.toNat<n:=fun x mx=>by
 obtain ⟨r,mr,rfl,_⟩:=ZAX.1 mx
 exact (hR r mr).1
theorem ZBF {b:ZK} (h:ZAl b) {ρ:Type} {row:List Int} {k s:Nat} (hI:RIn b.nodes.toNat row k) {fin:List Int→Option ρ} {body:Nat→Zh→List Int→Option (List Int ⊕ ρ)}
  (hb:∀i r acc,body i r acc=chk (0≤r.for_∧r.for_<(((lvB b).length:Nat):Int)) (((lvB b)[(Int.toNat r.for_)]?).bind fun x111=>
         if (x111==((s:Nat):Int))=true then
          chk (r.for_<((row.length:Nat):Int)) <|
          (row[(Int.toNat r.for_)]?).bind fun x112=>
          if (decide (x112<0))=true then
           (ZAk r row ((k:Nat):Int)).bind fun v113=>
           if v113=true then
            chk (acc.length+1≤1073741824) <|
            some (.inl (acc++[r.for_]))
           else
            some (.inl acc)
          else
           some (.inl acc)
         else
          some (.inl acc))):Zp body fin b.reasons 0 []=fin (ZAb b.reasons (lvB b) ((s:Nat):Int) row k):=by
 have hLl:=h.lv.1.len
 have h60:=h.len
 rw [YY (g:=fun r=>if lvN (lvB b) r.for_.toNat=((s:Nat):Int)∧rdN row r.for_<0∧ZBi row k r then some r.for_ else none)]
 ·rfl
 ·intro j r acc mr ha
  simp only [List.length_nil,Nat.zero_add] at ha
  have hok:=h.ok r mr
  obtain ⟨f0,f1⟩:=hok.1
  rw [hb,Zj _ ⟨f0,by omega⟩,ZA3 (by omega),Option.bind_some]
  by_cases c1:lvN (lvB b) r.for_.toNat=((s:Nat):Int)
  ·rw [if_pos (by simpa using c1),Zj _ (by rw [hI.len];omega),(ZCS hI f0 f1).2,Option.bind_some]
   by_cases c2:rdN row r.for_<0
   ·rw [if_pos (decide_eq_true c2),ZB8 hI hok,Option.bind_some]
    by_cases c3:ZBi row k r
    ·rw [if_pos (decide_eq_true c3),Zj _ (by omega),if_pos ⟨c1,c2,c3⟩];rfl
    ·rw [if_neg (by simpa using c3),if_neg fun hh=>c3 hh.2.2];simp
   ·rw [if_neg (by simpa using c2),if_neg fun hh=>c2 hh.2.1];simp
  ·rw [if_neg (by simpa using c1),if_neg fun hh=>c1 hh.1];simp
theorem ZC7 {b:ZK} (h:ZAl b):ZAU b=some (rdB b):=by
 obtain ⟨hL,hv⟩:=h.lv
 have h0:=h.n0
 have h1:=h.n1
 have h60:=h.len
 unfold ZAU
 rw [ZC2 h,Option.bind_some,Zj _ ⟨h0,by omega⟩]
 have hv':∀i,0≤lvN (lvB b) i∧lvN (lvB b) i≤((b.nodes.toNat:Nat):Int):=fun i=>by have:=hv i;omega
 refine ZC9 (n:=b.nodes.toNat) (L:=lvB b) hv' ?_ ?_ b.nodes.toNat 0 _ 0 (by omega) (by simp) (fun i hi=>by omega) (Int.le_refl _) (by omega) (fun i hi=>by omega)
 ·intro k row u hk hl
  have ht:decide (((k:Nat):Int)<((b.nodes.toNat:Nat):Int))=true:=decide_eq_true (by omega)
  simp only [ht,if_true,Int.toNat_natCast]
  have:=hL.len
  rw [Zj _ ⟨by omega,by omega⟩,List.getElem?_eq_getElem (show k<row.length by omega),Option.bind_some,Zj _ (by omega),ZA3 (by omega),Option.bind_some,ZA4 (by omega)]
  rfl
 ·intro u u0 un um
  simp only [ZC,Bool.false_eq_true,if_false]
  obtain ⟨t,rfl⟩:∃t:Nat,u=((t:Nat):Int):=⟨u.toNat,by omega⟩
  rw [←ZDp h um]
  refine ZCy (top:=t) h.ok (fun row k s=>(row,((k:Nat):Int),((s:Nat):Int))) (fun row=>Sum.inr row) ?_ ?_ ?_ (t+1) 0 _ 0 (by omega) (ZBo _)
  ·intro row k s hI hs hc
   have ht:decide (((s:Nat):Int)≤((t:Nat):Int))=true:=decide_eq_true (by omega)
   simp only [ht,if_true]
   rw [ZBF h hI fun i r acc=>rfl]
   have hl0:((((ZAb b.reasons (lvB b) ((s:Nat):Int) row k).length:Nat):Int)==0)=false:=by
    have:(ZAb b.reasons (lvB b) ((s:Nat):Int) row k).length≠0:=fun e=>hc (List.eq_nil_of_length_eq_zero e)
    simpa using this
   simp only [hl0,Bool.false_eq_true,if_false]
   rw [ZB5 hI.len (ZBZ h.ok) fun i x s=>rfl,ZA4 (by have:=hI.few;omega)]
  ·intro row k s hI hs hc
   have ht:decide (((s:Nat):Int)≤((t:Nat):Int))=true:=decide_eq_true (by omega)
   simp only [ht,if_true]
   rw [ZBF h hI fun i r acc=>rfl,hc,ZA4 (by omega)]
   rfl
  ·intro row k hI
   have hf:decide (((t+1:Nat):Int)≤((t:Nat):Int))=false:=decide_eq_false (by omega)
   simp only [hf,Bool.false_eq_true,if_false]
/- the reference's rounds -/
noncomputable def ZBg (n:Nat) (R:List Zh) (L:List Int) (s:Int) (row:List Int) (k x:Nat):Option Int:=if lvN L x=s∧rdN row ((x:Nat):Int)<0∧R.any (fun r=>decide (r.for_=((x:Nat):Int)∧ZBi row k r))=true then some ((x:Nat):Int) else none
theorem ZB6 {n:Nat} {R:List Zh} (hR:∀r∈R,OkN n r) {L:List Int} {s:Int} {row:List Int} {k:Nat} {x:Int}:x∈(List.range' 0 n).filterMap (ZBg n R L s row k)↔x∈ZAb R L s row k:=by
 rw [ZAX,List.mem_filterMap]
 constructor
 ·rintro ⟨i,mi,hi⟩
  unfold ZBg at hi
  split at hi
  ·rename_i hc
   obtain rfl:=Option.some.inj hi
   obtain ⟨h1,h2,h3⟩:=hc
   obtain ⟨r,mr,hr⟩:=List.any_eq_true.1 h3
   rw [decide_eq_true_iff] at hr
   exact ⟨r,mr,hr.1,by simpa using h1,h2,hr.2⟩
  ·simp at hi
 ·rintro ⟨r,mr,rfl,h1,h2,h3⟩
  obtain ⟨f0,f1⟩:=(hR r mr).1
  have e:((r.for_.toNat:Nat):Int)=r.for_:=Int.toNat_of_nonneg f0
  refine ⟨r.for_.toNat,List.mem_range'.2 ⟨r.for_.toNat,f1,by omega⟩,?_⟩
  unfold ZBg
  rw [if_pos ⟨h1,by rw [e];exact h2,List.any_eq_true.2 ⟨r,mr,by rw [decide_eq_true_iff,e];exact ⟨rfl,h3⟩⟩⟩,e]
theorem ZBr {b:ZK} (h:ZAl b) {row:List Int} {k s:Nat} (hI:RIn b.nodes.toNat row k):ZAo b (lvB b) ((s:Nat):Int) row ((k:Nat):Int)=some ((List.range' 0 b.nodes.toNat).filterMap (ZBg b.nodes.toNat b.reasons (lvB b) ((s:Nat):Int) row k)):=by
 obtain ⟨hL,hv⟩:=h.lv
 have h0:=h.n0
 have h1:=h.n1
 unfold ZAo
 have walk:∀(body:List Int × Int→Option ((List Int × Int) ⊕ List Int)) (G:Nat→Option Int),(∀acc (i:Nat),i<b.nodes.toNat→acc.length≤24→body (acc,((i:Nat):Int))=some (.inl (acc++(G i).toList,((i+1:Nat):Int))))→(∀acc,body (acc,((b.nodes.toNat:Nat):Int))=some (.inr acc))→
   ∀d i acc,i+d=b.nodes.toNat→acc.length≤i→Zdu body (acc,((i:Nat):Int))=some (acc++(List.range' i d).filterMap G):=by
  intro body G b1 b2 d
  induction d with
  | zero=>
   intro i acc hi ha
   obtain rfl:i=b.nodes.toNat:=by omega
   rw [Zef (b2 acc)]
   simp
  | succ d ih=>
   intro i acc hi ha
   rw [ZiQ (b1 acc i (by omega) (by omega)),ih (i+1) _ (by omega) (by rw [List.length_append];cases G i<;>simp<;>omega),List.range'_succ,List.filterMap_cons]
   cases G i<;>simp
 refine walk _ (ZBg b.nodes.toNat b.reasons (lvB b) ((s:Nat):Int) row k) ?_ ?_ b.nodes.toNat 0 [] (by omega) (by simp)
 ·intro acc i hi ha
  have ht:decide (((i:Nat):Int)<b.nodes)=true:=decide_eq_true (by omega)
  have hLl:=hL.len
  have e1:atI (lvB b) ((i:Nat):Int)=some (lvN (lvB b) i):=by rw [Zcm];exact ZA3 (by omega)
  have e2:=(ZCS hI (y:=((i:Nat):Int)) (by omega) (by simpa using hi)).1
  simp only [ht,if_true]
  rw [e1,Option.bind_some,e2,ZA4 (by omega)]
  unfold ZBg
  by_cases c1:lvN (lvB b) i=((s:Nat):Int)
  ·have d1:(lvN (lvB b) i != ((s:Nat):Int))=false:=by simp [c1]
   simp only [d1,Bool.false_eq_true,if_false,Option.bind_some]
   by_cases c2:rdN row ((i:Nat):Int)<0
   ·have d2:decide (0≤rdN row ((i:Nat):Int))=false:=decide_eq_false (by omega)
    simp only [d2,Bool.false_eq_true,if_false]
    rw [ZcB (p:=fun r=>decide (r.for_=((i:Nat):Int)∧ZBi row k r)) (r:=.inl (acc++[((i:Nat):Int)],((i+1:Nat):Int)))]
    ·by_cases c3:b.reasons.any (fun r=>decide (r.for_=((i:Nat):Int)∧ZBi row k r))=true
     ·rw [if_pos c3,if_pos ⟨c1,c2,c3⟩];rfl
     ·rw [if_neg c3,if_neg fun hh=>c3 hh.2.2];simp
    ·intro j r mr
     obtain ⟨f1,f2,f3⟩:=h.ok r mr
     by_cases c3:r.for_=((i:Nat):Int)
     ·rw [if_pos (by simpa using c3),ZCk hI f2,Option.bind_some]
      by_cases c4:r.inn.all (ZCa row k)=true
      ·rw [if_pos c4,ZCP hI f3,Option.bind_some]
       by_cases c5:r.outs.all (ZCd row)=true
       ·rw [if_pos c5,Zj _ (by omega),decide_eq_true ⟨c3,ZAJ.1 ⟨c4,c5⟩⟩];rfl
       ·rw [if_neg c5,decide_eq_false fun hh=>c5 (ZAJ.2 hh.2).2];rfl
      ·rw [if_neg c4,decide_eq_false fun hh=>c4 (ZAJ.2 hh.2).1];rfl
     ·rw [if_neg (by simpa using c3),decide_eq_false fun hh=>c3 hh.1];rfl
   ·have d2:decide (0≤rdN row ((i:Nat):Int))=true:=decide_eq_true (by omega)
    simp only [d2,if_true]
    rw [if_neg fun hh=>c2 hh.2.1];simp
  ·have d1:(lvN (lvB b) i != ((s:Nat):Int))=true:=by simp [c1]
   simp only [d1,if_true]
   rw [if_neg fun hh=>c1 hh.1];simp
 ·intro acc
  have hf:decide (((b.nodes.toNat:Nat):Int)<b.nodes)=false:=decide_eq_false (by omega)
  simp only [hf,Bool.false_eq_true,if_false]
theorem ZCC {b:ZK} (h:ZAl b):ZAB b=some (rdB b):=by
 have h0:=h.n0
 have h1:=h.n1
 unfold ZAB
 rw [ZAO h,Option.bind_some,if_pos rfl,ZCu h,Option.bind_some]
 have walk:∀(body:List Int × Int→Option ((List Int × Int) ⊕ List Int)),(∀(i:Nat),i<b.nodes.toNat→body (List.replicate i (-1),((i:Nat):Int))=some (.inl (List.replicate i (-1)++[-1],((i+1:Nat):Int))))→body (List.replicate b.nodes.toNat (-1),((b.nodes.toNat:Nat):Int))=some (.inr (rdB b))→
   ∀d i,i+d=b.nodes.toNat→Zdu body (List.replicate i (-1),((i:Nat):Int))=some (rdB b):=by
  intro body b1 b2 d
  induction d with
  | zero=>
   intro i hi
   obtain rfl:i=b.nodes.toNat:=by omega
   exact Zef b2
  | succ d ih=>
   intro i hi
   rw [ZiQ (b1 i (by omega)),←ih (i+1) (by omega),List.replicate_succ']
 refine walk _ ?_ ?_ b.nodes.toNat 0 (by omega)
 ·intro i hi
  have ht:decide (((i:Nat):Int)<b.nodes)=true:=decide_eq_true (by omega)
  simp only [ht,if_true]
  rw [Zj _ (by simp;omega),ZA4 (by omega)]
 ·have hf:decide (((b.nodes.toNat:Nat):Int)<b.nodes)=false:=decide_eq_false (by omega)
  simp only [hf,Bool.false_eq_true,if_false]
  have walk2:∀(body:List Int × Int × Int→Option ((List Int × Int × Int) ⊕ ((List Int × Int) ⊕ List Int))),(∀row (k s:Nat),RIn b.nodes.toNat row k→s<b.nodes.toNat→body (row,((k:Nat):Int),((s:Nat):Int))=some (.inl ((ZAg b.reasons (lvB b) ((s:Nat):Int) b.nodes.toNat row k).1,(((ZAg b.reasons (lvB b) ((s:Nat):Int) b.nodes.toNat row k).2:Nat):Int),((s+1:Nat):Int))))→(∀row (k:Nat),body (row,((k:Nat):Int),((b.nodes.toNat:Nat):Int))=some (.inr (.inr row)))→
    ∀d s row k,s+d=b.nodes.toNat→RIn b.nodes.toNat row k→Zdu body (row,((k:Nat):Int),((s:Nat):Int))=some (.inr (ZAf b.reasons (lvB b) b.nodes.toNat (List.range' s d) (row,k)).1):=by
   intro body b1 b2 d
   induction d with
   | zero=>
    intro s row k hs hI
    obtain rfl:s=b.nodes.toNat:=by omega
    exact Zef (b2 row k)
   | succ d ih=>
    intro s row k hs hI
    rw [ZiQ (b1 row k s hI (by omega))]
    exact ih (s+1) _ _ (by omega) (ZAL h.ok b.nodes.toNat row k hI (by have:=hI.few;omega)).1
  have e:rdB b=(ZAf b.reasons (lvB b) b.nodes.toNat (List.range' 0 b.nodes.toNat) (List.replicate b.nodes.toNat (-1),0)).1:=by unfold rdB;rw [List.range_eq_range']
  rw [e]
  refine walk2 _ ?_ ?_ b.nodes.toNat 0 _ 0 (by omega) (ZBo _)
  ·intro row k s hI hs
   have ht:decide (((s:Nat):Int)<b.nodes)=true:=decide_eq_true (by omega)
   simp only [ht,if_true]
   rw [ZBr h hI,Option.bind_some,ZA4 (by omega)]
   refine ZCL (s:=((s:Nat):Int)) h.ok (fun row k l=>(row,l,((k:Nat):Int))) (fun row k=>Sum.inl (row,((k:Nat):Int),((s+1:Nat):Int))) (fun row k=>(List.range' 0 b.nodes.toNat).filterMap (ZBg b.nodes.toNat b.reasons (lvB b) ((s:Nat):Int) row k)) (fun row k x _=>ZB6 h.ok) ?_ ?_ b.nodes.toNat row k hI (by have:=hI.few;omega)
   ·intro row k hI hc hN
    have hlt:decide (0<((((List.range' 0 b.nodes.toNat).filterMap (ZBg b.nodes.toNat b.reasons (lvB b) ((s:Nat):Int) row k)).length:Nat):Int))=true:=by
     have:((List.range' 0 b.nodes.toNat).filterMap (ZBg b.nodes.toNat b.reasons (lvB b) ((s:Nat):Int) row k)).length≠0:=fun e=>hc (List.eq_nil_of_length_eq_zero e)
     exact decide_eq_true (by omega)
    simp only [hlt,if_true]
    rw [ZB5 hI.len (fun x mx=>ZBZ h.ok x (ZB6 h.ok |>.1 mx)) fun i x s=>rfl,ZA4 (by have:=hI.few;omega),ZBr h hN,Option.bind_some]
   ·intro row k hI
    rfl
  ·intro row k
   simp only [hf,Bool.false_eq_true,if_false]
end Go.Proofs.YtojnhepgnbhaaaaGreatDoor
namespace Go.Proofs.YtojnhepgnbhaaaaGreatDoor
open Classical
theorem ZBp {ρ:Type} {l:List Int} (hl:l.length≤1000) {fin:List Bool→Option ρ} {body:Nat→Int→List Bool→Option (List Bool ⊕ ρ)} (hb:∀i x s,body i x s=chk (s.length+1≤1073741824) (some (.inl (s++[decide (0≤x)])))):Zp body fin l 0 []=fin (l.map fun x=>decide (0≤x)):=by
 rw [Zov (g:=fun x=>decide (0≤x))]
 ·rfl
 ·intro j x s _ hs
  simp at hs
  rw [hb,Zj _ (by omega)]
theorem ZCX {b:ZK} (h:ZAl b):ZAV b=some ((rdB b).map fun x=>decide (0≤x)):=by
 unfold ZAV
 have:=h.n1
 rw [ZC7 h,Option.bind_some,ZBp (by rw [h.rd];omega) fun i x s=>rfl]
theorem ZCo {b:ZK} (h:ZAl b):ZAA b=some ((rdB b).map fun x=>decide (0≤x)):=by
 unfold ZAA
 have:=h.n1
 rw [ZCC h,Option.bind_some,ZBp (by rw [h.rd];omega) fun i x s=>rfl]
theorem ZBK {ρ:Type} {fin:List Zc→Option ρ} {body:Nat→Bool→List Zc→Option (List Zc ⊕ ρ)} {F:List Zc} (hF:∀f∈F,f.args.length≤1048576) (hl:F.length≤1000)
  (hb:∀i x s,body i x s=if x=true then (atI F ((i:Nat):Int)).bind fun f=>(Y3 f).bind fun g=>chk (s.length+1≤1073741824) (some (.inl (s++[g]))) else some (.inl s)):
  ∀(rest:List Zc) (l:List Int) (pre acc:List Zc),F=pre++rest→l.length=rest.length→acc.length≤pre.length→Zp body fin (l.map fun x=>decide (0≤x)) pre.length acc=fin (acc++ZAt rest l)
 | [],[],pre,acc,_,_,_=>by simp [Zp,ZAt]
 | [],_::_,_,_,_,e,_=>by simp at e
 | _::_,[],_,_,_,e,_=>by simp at e
 | f::rest,v::l,pre,acc,e,el,ha=>by
  have hf:F[pre.length]?=some f:=by rw [e];simp
  have hlt:=(List.getElem?_eq_some_iff.1 hf).1
  have ih:=fun acc' h'=>ZBK (fin:=fin) hF hl hb rest l (pre++[f]) acc' (by rw [e];simp) (by simpa using el) h'
  simp only [List.length_append,List.length_singleton] at ih
  rw [List.map_cons]
  unfold ZAt
  by_cases hv:0≤v
  ·rw [Ye (s':=acc++[f]) (by
    rw [hb,if_pos (decide_eq_true hv),Zcm,hf,Option.bind_some,Xd _ (hF f (List.mem_of_getElem? hf)),Option.bind_some,Zj _ (by omega)]),ih _ (by simp;omega),if_pos hv]
   simp
  ·rw [Ye (s':=acc) (by rw [hb,if_neg (by simpa using hv)]),ih _ (by omega),if_neg hv]
theorem ZBy {ρ:Type} {fin:List Zc→Option ρ} {body:Nat→Zc→List Zc→Option (List Zc ⊕ ρ)} {L:List Bool} {N:Nat} (hN:N≤1000) {z:List Zc→ρ}
  (hb:∀i x s,body i x s=if decide (((i:Nat):Int)<((L.length:Nat):Int))=true then chk (0≤((i:Nat):Int)∧((i:Nat):Int)<((L.length:Nat):Int)) ((L[i]?).bind fun v=>if v=true then (X1 x).bind fun g=>chk (s.length+1≤1073741824) (some (.inl (s++[g]))) else some (.inl s)) else some (.inr (z s))):
  ∀(rest:List Zc) (l:List Int) (pre:List Bool) (acc:List Zc),(∀f∈rest,f.args.length≤1048576)→L=pre++(l.map fun x=>decide (0≤x))→l.length=rest.length→acc.length≤pre.length→pre.length+rest.length≤N→Zp body fin rest pre.length acc=fin (acc++ZAt rest l)
 | [],[],pre,acc,_,_,_,_,_=>by simp [Zp,ZAt]
 | [],_::_,_,_,_,_,e,_,_=>by simp at e
 | _::_,[],_,_,_,_,e,_,_=>by simp at e
 | f::rest,v::l,pre,acc,hF,e,el,ha,hn=>by
  have hf:L[pre.length]?=some (decide (0≤v)):=by rw [e];simp
  have hlt:=(List.getElem?_eq_some_iff.1 hf).1
  have ih:=fun acc' h'=>ZBy (fin:=fin) hN hb rest l (pre++[decide (0≤v)]) acc' (fun g mg=>hF g (by simp [mg])) (by rw [e];simp) (by simpa using el) h' (by simp at hn ⊢;omega)
  simp only [List.length_append,List.length_singleton] at ih
  simp only [List.length_cons] at hn
  have hx:∀s,body pre.length f s=if 0≤v then chk (s.length+1≤1073741824) (some (.inl (s++[f]))) else some (.inl s):=fun s=>by
   rw [hb,if_pos (decide_eq_true (by omega)),Zj _ ⟨by omega,by omega⟩,hf,Option.bind_some]
   by_cases hv:0≤v
   ·rw [if_pos (decide_eq_true hv),if_pos hv,XE _ (hF f (by simp)),Option.bind_some]
   ·rw [if_neg (by simpa using hv),if_neg hv]
  unfold ZAt
  by_cases hv:0≤v
  ·rw [Ye (s':=acc++[f]) (by rw [hx,if_pos hv,Zj _ (by omega)]),ih _ (by simp;omega),if_pos hv]
   simp
  ·rw [Ye (s':=acc) (by rw [hx,if_neg hv]),ih _ (by omega),if_neg hv]
theorem ZCG {b:ZK} (h:ZAl b) {F:List Zc} (hF:∀f∈F,f.args.length≤1048576) (hn:b.nodes=((F.length:Nat):Int)):ZAy F b=some (ZAt F (rdB b)):=by
 have h1:=h.n1
 have hr:=h.rd
 unfold ZAy
 rw [ZCX h,Option.bind_some]
 exact ZBK hF (by omega) (fun i x s=>rfl) F (rdB b) [] [] rfl (by omega) (Nat.le_refl _)
theorem ZDj {b:ZK} (h:ZAl b) {F:List Zc} (hF:∀f∈F,f.args.length≤1048576) (hn:b.nodes=((F.length:Nat):Int)):ZBh F b=some (ZAt F (rdB b)):=by
 have h1:=h.n1
 have hr:=h.rd
 unfold ZBh
 rw [ZCo h,Option.bind_some]
 exact ZBy (N:=F.length) (by omega) (fun i x s=>rfl) F (rdB b) [] [] hF rfl (by omega) (Nat.le_refl _) (by simp)
theorem Qu.args {R:List Zf} {base F:List Zc} (h:Qu R base F):∀f∈F,f.args.length≤1048576:=fun f mf=>by
 have:=X4 (h.good.ok f mf)
 omega
structure ZDh (M:List Zc):Prop where
 len:M.length≤24
 ok:∀f∈M,YV f=true
theorem ZDh.cost {M:List Zc} (h:ZDh M):M.length≤1048576∧Yd M≤1048576:=by
 have h1:=h.len
 have h2:(M.map YP).sum≤M.length * 64:=ZjT fun x mx=>Zre (h.ok x mx)
 unfold Yd
 omega
theorem ZDl:ZDh []:=⟨by simp,by simp⟩
theorem Qu.few {R:List Zf} {base F:List Zc} (h:Qu R base F) (l:List Int):ZDh (ZAt F l):=by
 have h1:=h.len
 obtain ⟨k1,k2⟩:=ZB2 (F:=F) (l:=l)
 exact ⟨by omega,fun f mf=>h.good.ok f (k2 f mf)⟩
theorem ZCm {R:List Zf} (hR:ZbJ R) (base:List Zc) (hb20:base.length≤1048576):∃M ok,ZAw R base=some (M,ok)∧ZAv R base=some (M,ok)∧ZDh M:=by
 obtain ⟨F,b,ok,h1,h2,h3⟩:=Zhd hR base hb20
 unfold ZAw ZAv
 rw [h1,h2]
 rcases h3 with ⟨rfl,rfl,rfl⟩ | ⟨rfl,hG,rfl,h60⟩
 ·exact ⟨_,_,rfl,rfl,ZDl⟩
 ·have hB:=ZAl.of hG h60
  refine ⟨_,true,?_,?_,hG.few (rdB { nodes:=((F.length:Nat):Int),reasons:=Zak R F base })⟩
  ·rw [Option.bind_some,if_pos rfl,ZDj hB hG.args rfl];rfl
  ·rw [Option.bind_some,if_pos rfl,ZCG hB hG.args rfl];rfl
theorem ZEG {R:List Zf} (hR:ZbJ R) (base:List Zc) (hb20:base.length≤1048576) (p:Zv):∃M ok,ZEx R base p=some (M,ok)∧ZEy R base p=some (M,ok)∧ZDh M:=by
 obtain ⟨M,ok,h1,h2,h3⟩:=ZCm hR base hb20
 unfold ZEx ZEy
 rw [h1,h2,Za6,ZaY]
 simp only [Option.bind_some]
 cases ok with
 | false=>exact ⟨_,_,rfl,rfl,ZDl⟩
 | true=>
  simp only [if_true]
  by_cases hp:Z1 p=true
  ·have hl:=h3.len
   have ha:∀f∈M,f.args.length≤1048576:=fun f mf=>by have:=X4 (h3.ok f mf);omega
   rw [if_pos hp,if_pos hp,ZcF p [] M (by simp) (by omega) ha,Zdl p [] M (by omega) ha]
   refine ⟨_,_,rfl,rfl,⟨?_,fun f mf=>?_⟩⟩
   ·exact Nat.le_trans (List.length_filter_le _ _) hl
   ·exact h3.ok f (List.mem_filter.1 mf).1
  ·rw [if_neg hp,if_neg hp]
   exact ⟨_,_,rfl,rfl,ZDl⟩
theorem ZEC (aRules:List Zf) (cz:Yj aRules≤1048576) (_:(fun ds=>∀d∈ds,ZpL d) aRules) (aBase:List Zc) (cf:Yd aBase≤1048576) (_:(fun ds=>∀d∈ds,ZpO d) aBase) (aP:Zv) (_:Z5 aP≤1048576) (_:Ziu aP):∃r b,ZEx aRules aBase aP=some (r,b)∧ZEy aRules aBase aP=some (r,b)∧(r.length≤1048576∧Yd r≤1048576):=by
 have hF:aBase.length≤1048576:=by unfold Yd at cf;omega
 obtain ⟨r,b,h1,h2,h3⟩:=ZEG (Zo5 cz) aBase hF aP
 exact ⟨r,b,h1,h2,h3.cost⟩
end Go.Proofs.YtojnhepgnbhaaaaGreatDoor
