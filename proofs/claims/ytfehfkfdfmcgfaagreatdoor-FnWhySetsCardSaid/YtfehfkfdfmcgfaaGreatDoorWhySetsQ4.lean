/- Texts of this proof, joined: R11, S18, S19, S20, N1, N2, N4, S21, S22, S23, N5, N8, D4, N9, F9, F10, D5, N10, S11, T11, N11, N12, D6, BInv, BRun, BOps1, BOps2, BOps3. What each holds is said at its theorems. -/
import Derived.Test.YtfehfkfdfmcgfaaGreatDoorWhySetsQ3
import Derived.Test.YtfehfkfdfmcgfaaGreatDoorWhySetsQ2
import Derived.Test.YtfehfkfdfmcgfaaGreatDoorWhySetsQ1
import Derived.Laws.CopyRow
import Derived.Laws.OwnMore
import Derived.Laws.StructEq
set_option linter.unusedSimpArgs false
set_option linter.unusedVariables false
open Array renaming getElem?_eq_some_iff→At
open Bool renaming and_eq_true→A4,eq_iff_iff→AF,false_eq_true→AI,true_and→AW,or_eq_true→Af,false_or→Ap
open Go.ByteArray renaming toList_eq→BB
open Int renaming toNat_natCast→AC,le_refl→AM,toNat→AO,le_trans→AQ,toNat_of_nonneg→Ad
open List renaming getElem?_eq_getElem→A3,replicate→A5,mem_map→A6,range'→A7,mem_of_getElem?→A8,getElem?_eq_some_iff→A9,foldl_cons→AA,mem_append→AE,all_eq_true→AG,mem_cons→AJ,length_append→AK,getElem?_eq_none→AL,mem_filter→AN,pairwise_iff_getElem→AP,length_nil→AR,getElem_mem→AS,mem_flatMap→AT,eq_nil_of_length_eq_zero→AX,length_cons→AY,getElem?_append_left→Aa,mem_filterMap→Ac,mem_of_mem_drop→Ae,pairwise_append→Ag,getElem?_set→Ah,length_singleton→Ai,range→Aj,countP_le_length→Ak,eq_nil_iff_forall_not_mem→Al,range_eq_range'→Am,dropLast_concat_getLast→An,any_eq_true→Aq,mem_iff_getElem?→Aw,countP_cons→Ax,append_assoc→Ay,set_set→Az,length_replicate→B1,range'_succ→B2,map_cons→B3,pairwise_cons→B4,nodup_append→B5,nodup_cons→B6,length_map→B7,mem_singleton→BA,mem_of_mem_take→BC
open List.Sublist renaming refl→B8
open Nat renaming zero_add→AD,add_assoc→AU,lt_trichotomy→Ao,le_refl→Ar,le_trans→As,add_mul→Av,two_pow_pos→B9
open Option renaming bind_some→A0,map_eq_some_iff→AH,bind_eq_some_iff→AZ
open Option.some renaming injEq→AB,inj→Ab
open UInt8 renaming ofNat→Au
namespace Go.Proofs.YtfehfkfdfmcgfaaGreatDoor
def ZoG (l:List Int) (n:Int) (i:Nat) (x:Int):Bool:=decide (0≤x)&&(decide (x<n)&&(decide (i=0)||(match l[i - 1]? with | some y=>decide (y<x) | none=>false)))
def Zh5 (l:List Int) (n:Int):Bool:=Q0 (ZoG l n) l 0
theorem ZxB {l:List Int} {j:Nat} {x:Int} (hl:l.length≤1000000000) (hj:l[j]?=some x) (h0:0<j):∃y,l[j - 1]?=some y∧atI l (IntKind.i64.wrap (((j:Nat):Int) - 1))=some y:=by
 have hlt:=(A9.1 hj).1
 have hg:l[j - 1]?=some l[j - 1]:=A3 (by omega)
 refine ⟨l[j - 1],hg,?_⟩
 have hw:IntKind.i64.wrap (((j:Nat):Int) - 1)=((j - 1:Nat):Int):=by rw [YW (by omega) (by omega)];omega
 rw [hw]
 unfold atI
 rw [if_pos (by omega),AC,hg]
theorem ZG4 (l:List Int) (n:Int) (hl:l.length≤1000000000):ZFP l n=some (Zh5 l n):=by
 unfold ZFP Zh5
 rw [Xu (p:=ZoG l n) (r:=false)]
 ·cases Q0 (ZoG l n) l 0<;>rfl
 ·intro j x hj
  rw [AD]
  unfold ZoG
  by_cases h1:x<0
  ·rw [if_pos (by simpa using h1),show decide (0≤x)=false by simp;omega];rfl
  ·rw [if_neg (by simpa using h1),show decide (0≤x)=true by simp;omega]
   by_cases h2:n≤x
   ·rw [if_pos (by simpa using h2),show decide (x<n)=false by simp;omega];rfl
   ·rw [if_neg (by simpa using h2),show decide (x<n)=true by simp;omega]
    by_cases h3:j=0
    ·subst h3;rfl
    ·obtain ⟨y,e1,e2⟩:=ZxB hl hj (by omega)
     rw [if_pos (by simp;omega),e2,A0,e1]
     by_cases h4:x≤y
     ·rw [if_pos (by simpa using h4)]
      simp [h3,show ¬y<x by omega]
     ·rw [if_neg (by simpa using h4)]
      simp [h3,show y<x by omega]
theorem Zih (l:List Int) (n:Int) (hl:l.length≤1000000000):ZbS l n=some (Zh5 l (IntKind.i64.wrap (n - 1)+1)):=by
 unfold ZbS Zh5
 generalize IntKind.i64.wrap (n - 1)=m
 rw [Xu (p:=ZoG l (m+1)) (r:=false)]
 ·cases Q0 (ZoG l (m+1)) l 0<;>rfl
 ·intro j x hj
  rw [AD,ZiD,A0]
  unfold ZoG
  by_cases h1:x<0
  ·rw [show decide (0≤x)=false by simp;omega];rfl
  ·rw [show decide (0≤x)=true by simp;omega]
   by_cases h2:m<x
   ·rw [show decide (x≤m)=false by simp;omega,show decide (x<m+1)=false by simp;omega];rfl
   ·rw [show decide (x≤m)=true by simp;omega,show decide (x<m+1)=true by simp;omega]
    by_cases h3:j=0
    ·subst h3;rfl
    ·obtain ⟨y,e1,e2⟩:=ZxB hl hj (by omega)
     rw [show (true&&true)=true from rfl,if_pos rfl,if_pos (by simp;omega),e2,A0,e1]
     by_cases h4:x≤y
     ·rw [if_pos (by simpa using h4)]
      simp [h3,show ¬y<x by omega]
     ·rw [if_neg (by simpa using h4)]
      simp [h3,show y<x by omega]
theorem Zou (l:List Int) (n:Int) (hl:l.length≤1000000000) (h0:0≤n) (h1:n≤1000000000):ZbS l n=some (Zh5 l n):=by
 rw [Zih l n hl,YW (by omega) (by omega)]
 congr 2
 omega
theorem ZjZ {l:List Int} {n:Int} (h:Zh5 l n=true):(∀x∈l,0≤x∧x<n)∧l.Pairwise (·<·):=by
 have key:∀(j:Nat) (x:Int),l[j]?=some x→ZoG l n j x=true:=fun j x hj=>by
  have:=Zfo h j x hj
  rwa [AD] at this
 refine ⟨fun x mx=>?_,?_⟩
 ·obtain ⟨j,hj⟩:=Aw.1 mx
  have:=key j x hj
  simp only[ZoG,A4,decide_eq_true_eq] at this
  exact ⟨this.1,this.2.1⟩
 ·have step:∀j (h1:j+1<l.length),l[j]'(by omega)<l[j+1]:=fun j h1=>by
   have:=key (j+1) _ (A3 h1)
   simp only[ZoG,A4,decide_eq_true_eq,Af,Nat.add_sub_cancel] at this
   rw [A3 (show j<l.length by omega)] at this
   rcases this.2.2 with h2 | h2
   ·omega
   ·simpa using h2
  rw [AP]
  intro i j hi hj hij
  obtain ⟨d,rfl⟩:∃d,j=i+1+d:=⟨j - i - 1,by omega⟩
  induction d with
  | zero=>exact step i hj
  | succ d ih=>exact Int.lt_trans (ih (by omega) (by omega)) (step (i+1+d) (by omega))
theorem ZuP {l:List Int} {n:Int} (h1:∀x∈l,0≤x∧x<n) (h2:l.Pairwise (·<·)):Zh5 l n=true:=by
 have key:∀(q pre:List Int),l=pre++q→Q0 (ZoG l n) q pre.length=true:=by
  intro q
  induction q with
  | nil=>intro _ _;rfl
  | cons x q ih=>
   intro pre e
   simp only[Q0,A4]
   refine ⟨?_,?_⟩
   ·have hx:=h1 x (by rw [e];simp)
    simp only[ZoG,A4,decide_eq_true_eq,Af]
    refine ⟨hx.1,hx.2,?_⟩
    by_cases h0:pre.length=0
    ·exact .inl h0
    ·right
     have hlt:pre.length - 1<pre.length:=by omega
     have hg:l[pre.length - 1]?=some pre[pre.length - 1]:=by rw [e,Aa hlt,A3 hlt]
     rw [hg]
     rw [e,Ag] at h2
     simpa using h2.2.2 _ (AS hlt) x (by simp)
   ·have:=ih (pre++[x]) (by rw [e];simp)
    simpa using this
 exact key l [] rfl
def ZsD (n:Int) (r:Zf):Bool:=decide (0≤r.for_)&&(decide (r.for_<n)&&(Zh5 r.inn n&&Zh5 r.outs n))
def ZbZ (b:Zr):Bool:=decide (0≤b.nodes)&&(decide (b.nodes≤24)&&(decide (b.reasons.length≤60)&&b.reasons.all (ZsD b.nodes)))
def ZuY (b:Zr):Prop:=∀r∈b.reasons,r.inn.length≤1000000000∧r.outs.length≤1000000000
theorem ZHA {b:Zr} (h:ZuY b) (hl:b.reasons.length≤1000000000):ZF9 b=some (ZbZ b):=by
 unfold ZF9 ZbZ
 by_cases h0:b.nodes<0
 ·rw [if_pos (by simpa using h0),show decide (0≤b.nodes)=false by simp;omega];rfl
 rw [if_neg (by simpa using h0),show decide (0≤b.nodes)=true by simp;omega]
 by_cases h1:24<b.nodes
 ·rw [if_pos (by simpa using h1),show decide (b.nodes≤24)=false by simp;omega];rfl
 rw [if_neg (by simpa using h1),show decide (b.nodes≤24)=true by simp;omega]
 by_cases h2:60<b.reasons.length
 ·rw [if_pos (by simp;omega),show decide (b.reasons.length≤60)=false by simp;omega];rfl
 rw [if_neg (by simp;omega),show decide (b.reasons.length≤60)=true by simp;omega]
 simp only[AW]
 rw [ZU (p:=ZsD b.nodes) (r:=false)]
 ·cases b.reasons.all (ZsD b.nodes)<;>rfl
 ·intro i r mr
  obtain ⟨s1,s2⟩:=h r mr
  unfold ZsD
  by_cases q1:r.for_<0
  ·rw [if_pos (by simpa using q1),show decide (0≤r.for_)=false by simp;omega];rfl
  rw [if_neg (by simpa using q1),show decide (0≤r.for_)=true by simp;omega]
  by_cases q2:b.nodes≤r.for_
  ·rw [if_pos (by simpa using q2),show decide (r.for_<b.nodes)=false by simp;omega];rfl
  rw [if_neg (by simpa using q2),show decide (r.for_<b.nodes)=true by simp;omega,ZG4 _ _ s1,ZG4 _ _ s2]
  simp only[A0,AW]
  cases Zh5 r.inn b.nodes<;>cases Zh5 r.outs b.nodes<;>rfl
theorem Zlj {b:Zr} (h:ZuY b) (hl:b.reasons.length≤1000000000):Zcr b=some (ZbZ b):=by
 unfold Zcr ZbZ
 by_cases hn:0≤b.nodes∧b.nodes≤24
 ·have hw:IntKind.i64.wrap (b.nodes - 1)=b.nodes - 1:=YW (by omega) (by omega)
  rw [ZU (p:=ZsD b.nodes) (r:=false)]
  ·rw [ZiD,show decide (0≤b.nodes)=true by simp;omega,show decide (b.nodes≤24)=true by simp;omega]
   simp only[A0,Bool.and_self,if_true,AW]
   have hc:decide (((b.reasons.length:Nat):Int)≤60)=decide (b.reasons.length≤60):=by rw [AF];simp;omega
   rw [hc]
   cases b.reasons.all (ZsD b.nodes)<;>cases decide (b.reasons.length≤60)<;>rfl
  ·intro i r mr
   obtain ⟨s1,s2⟩:=h r mr
   rw [ZiD,hw,Zou _ _ s1 hn.1 (by omega),Zou _ _ s2 hn.1 (by omega)]
   unfold ZsD
   have hc:decide (r.for_≤b.nodes - 1)=decide (r.for_<b.nodes):=by rw [AF];simp;omega
   rw [hc]
   simp only[A0]
   cases decide (0≤r.for_)<;>cases decide (r.for_<b.nodes)<;>cases Zh5 r.inn b.nodes<;>cases Zh5 r.outs b.nodes<;>rfl
 ·have hf:(decide (0≤b.nodes)&&(decide (b.nodes≤24)&&(decide (b.reasons.length≤60)&&b.reasons.all (ZsD b.nodes))))=false:=by
   by_cases h0:0≤b.nodes
   ·have:decide (b.nodes≤24)=false:=by simp;omega
    rw [this];simp
   ·have:decide (0≤b.nodes)=false:=by simp;omega
    rw [this];simp
  rw [hf,ZU (p:=fun r=>decide (0≤r.for_)&&(decide (r.for_≤IntKind.i64.wrap (b.nodes - 1))&&(Zh5 r.inn (IntKind.i64.wrap (b.nodes - 1)+1)&&Zh5 r.outs (IntKind.i64.wrap (b.nodes - 1)+1)))) (r:=false)]
  ·rw [ZiD]
   have:(decide (0≤b.nodes)&&decide (b.nodes≤24))=false:=by
    cases h1:decide (0≤b.nodes)<;>cases h2:decide (b.nodes≤24)<;>simp at h1 h2 ⊢
    omega
   rw [this]
   split<;>rfl
  ·intro i r mr
   obtain ⟨s1,s2⟩:=h r mr
   rw [ZiD,Zih _ _ s1,Zih _ _ s2]
   simp only[A0]
   cases decide (0≤r.for_)<;>cases decide (r.for_≤IntKind.i64.wrap (b.nodes - 1))<;>cases Zh5 r.inn (IntKind.i64.wrap (b.nodes - 1)+1)<;>cases Zh5 r.outs (IntKind.i64.wrap (b.nodes - 1)+1)<;>rfl
def ZxX (r:Zf):Bool:=decide (r.outs=[])
def ZpX (f:QZ):Bool:=ZbZ f.beliefs&&(decide (f.assumed.length≤6)&&(Zh5 f.assumed f.beliefs.nodes&&(Zh5 f.bad f.beliefs.nodes&&f.beliefs.reasons.all ZxX)))
structure ZGg (f:QZ):Prop where
 b:ZuY f.beliefs
 r:f.beliefs.reasons.length≤1000000000
 a:f.assumed.length≤1000000000
 bad:f.bad.length≤1000000000
theorem ZH3 {ρ:Type} {fin:Unit→Option ρ} {l:List Zf} {z:ρ}:Zo (σ:=Unit) (fun (_:Nat) (x8:Zf) _=>if (decide (0<((x8.outs.length:Nat):Int)))=true then some (.inr z) else some (.inl ())) fin l 0 ()=if l.all ZxX=true then fin () else some z:=by
 refine ZU fun i r mr=>?_
 unfold ZxX
 cases h:r.outs with
 | nil=>simp
 | cons x q=>simp
theorem ZIf {f:QZ} (h:ZGg f):ZGs f=some (ZpX f):=by
 unfold ZGs ZpX
 rw [ZHA h.b h.r,ZG4 _ _ h.a,ZG4 _ _ h.bad]
 simp only[A0]
 rw [ZH3]
 have hc:decide (6<((f.assumed.length:Nat):Int))=!decide (f.assumed.length≤6):=by rw [AF];simp;omega
 rw [hc]
 cases ZbZ f.beliefs<;>cases decide (f.assumed.length≤6)<;>cases Zh5 f.assumed f.beliefs.nodes<;>cases Zh5 f.bad f.beliefs.nodes<;>cases f.beliefs.reasons.all ZxX<;>rfl
theorem ZIc {f:QZ} (h:ZGg f):ZGp f=some (ZpX f):=by
 unfold ZGp ZpX
 rw [Zlj h.b h.r,ZH3]
 simp only[A0]
 have hc:decide (((f.assumed.length:Nat):Int)≤6)=decide (f.assumed.length≤6):=by rw [AF];simp;omega
 rw [hc]
 cases hb:ZbZ f.beliefs with
 | false=>cases f.beliefs.reasons.all ZxX<;>rfl
 | true=>
  have hn:0≤f.beliefs.nodes∧f.beliefs.nodes≤24:=by
   simp only[ZbZ,A4,decide_eq_true_eq] at hb
   exact ⟨hb.1,hb.2.1⟩
  rw [Zou _ _ h.a hn.1 (by omega),Zou _ _ h.bad hn.1 (by omega)]
  simp only[A0,if_true]
  cases decide (f.assumed.length≤6)<;>cases Zh5 f.assumed f.beliefs.nodes<;>cases Zh5 f.bad f.beliefs.nodes<;>cases f.beliefs.reasons.all ZxX<;>rfl
theorem Zur.of {f:QZ} (h:ZpX f=true):Zur f:=by
 simp only[ZpX,ZbZ,A4,decide_eq_true_eq] at h
 obtain ⟨⟨h1,h2,h3,h4⟩,h5,h6,h7,h8⟩:=h
 have hn:∀{x:Int},0≤x→x<f.beliefs.nodes→x.toNat<f.beliefs.nodes.toNat:=fun {x} a b=>by omega
 have ha:=ZjZ h6
 have hb:=ZjZ h7
 have hr:∀r∈f.beliefs.reasons,OkR f.beliefs.nodes.toNat r∧r.inn.Pairwise (·<·):=fun r mr=>by
  have:=AG.1 h4 r mr
  simp only[ZsD,A4,decide_eq_true_eq] at this
  obtain ⟨q1,q2,q3,q4⟩:=this
  have q5:=AG.1 h8 r mr
  simp only[ZxX,decide_eq_true_eq] at q5
  exact ⟨⟨q1,hn q1 q2,fun y my=>⟨((ZjZ q3).1 y my).1,hn ((ZjZ q3).1 y my).1 ((ZjZ q3).1 y my).2⟩,q5⟩,(ZjZ q3).2⟩
 exact ⟨h1,h2,h3,fun r mr=>(hr r mr).1,h5,fun x mx=>⟨(ha.1 x mx).1,hn (ha.1 x mx).1 (ha.1 x mx).2⟩,fun x mx=>⟨(hb.1 x mx).1,hn (hb.1 x mx).1 (hb.1 x mx).2⟩,ha.2,fun r mr=>(hr r mr).2⟩
section
open Classical
def Zuo (row:List Bool):Nat:=row.countP fun v=>!v
theorem ZqA:∀(row:List Bool) (i:Nat),row[i]?=some false→Zuo (row.set i true)+1=Zuo row
 | [],i,h=>by simp at h
 | v::row,0,h=>by
  simp at h;subst h
  simp [Zuo]
 | v::row,i+1,h=>by
  have ih:=ZqA row i (by simpa using h)
  simp only[Zuo,List.set_cons_succ,Ax] at *
  omega
def ZeR (s:List Bool × List Int) (y:Int):List Bool × List Int:=if s.1[y.toNat]?=some true then s else (s.1.set y.toNat true,s.2++[y])
structure Qc (n:Nat) (R:List Zf) (x:Int) (s:List Bool × List Int):Prop where
 len:s.1.length=n
 row:∃t,s.2=x::t∧(∀y∈t,(0≤y∧y.toNat<n)∧Zaj R x y∧s.1[y.toNat]?=some true)∧(∀y:Int,0≤y→s.1[y.toNat]?=some true→y∈t)∧t.length+Zuo s.1=n
structure ZgZ (s u:List Bool × List Int):Prop where
 mono:∀i:Nat,s.1[i]?=some true→u.1[i]?=some true
 more:∃v,u.2=s.2++v
theorem ZgZ.refl (s:List Bool × List Int):ZgZ s s:=⟨fun _ h=>h,[],by simp⟩
theorem ZgZ.trans {s t u:List Bool × List Int} (h:ZgZ s t) (k:ZgZ t u):ZgZ s u:=⟨fun i hi=>k.mono i (h.mono i hi),by
 obtain ⟨a,ha⟩:=h.more
 obtain ⟨b,hb⟩:=k.more
 exact ⟨a++b,by rw [hb,ha,Ay]⟩⟩
theorem Zvg {row:List Bool} {j:Nat} (hj:j<row.length) (i:Nat):(row.set j true)[i]?=if j=i then some true else row[i]?:=by
 rw [Ah]
 by_cases e:j=i
 ·rw [if_pos e,if_pos e,if_pos hj]
 ·rw [if_neg e,if_neg e]
theorem Zto {n:Nat} {R:List Zf} {x y:Int} {s:List Bool × List Int} (h:Qc n R x s) (hy:0≤y∧y.toNat<n) (hd:Zaj R x y):Qc n R x (ZeR s y)∧ZgZ s (ZeR s y)∧(ZeR s y).1[y.toNat]?=some true:=by
 unfold ZeR
 by_cases hs:s.1[y.toNat]?=some true
 ·rw [if_pos hs];exact ⟨h,.refl s,hs⟩
 ·rw [if_neg hs]
  have hl:y.toNat<s.1.length:=by rw [h.len];exact hy.2
  have hf:s.1[y.toNat]?=some false:=by
   rw [A3 hl] at hs ⊢
   cases hv:s.1[y.toNat] with
   | true=>rw [hv] at hs;exact absurd rfl hs
   | false=>rfl
  have hset:=Zvg hl
  obtain ⟨t,t1,t2,t3,t4⟩:=h.row
  have hmono:∀i:Nat,s.1[i]?=some true→(s.1.set y.toNat true)[i]?=some true:=fun i hi=>by
   rw [hset]
   split
   ·rfl
   ·exact hi
  refine ⟨⟨by simp [h.len],t++[y],by simp [t1],fun z mz=>?_,fun z z0 hz=>?_,?_⟩,⟨hmono,[y],rfl⟩,by rw [hset,if_pos rfl]⟩
  ·rcases AE.1 mz with mz | mz
   ·obtain ⟨a,b,c⟩:=t2 z mz
    exact ⟨a,b,hmono _ c⟩
   ·simp at mz;subst mz
    exact ⟨hy,hd,by rw [hset,if_pos rfl]⟩
  ·rw [hset] at hz
   by_cases e:y.toNat=z.toNat
   ·have:z=y:=by omega
    simp [this]
   ·rw [if_neg e] at hz
    exact AE.2 (.inl (t3 z z0 hz))
  ·have:=ZqA s.1 y.toNat hf
   simp only[AK,Ai]
   omega
theorem Zoz {n:Nat} {R:List Zf} {x:Int}:∀{l:List Int} {s:List Bool × List Int},Qc n R x s→(∀y∈l,(0≤y∧y.toNat<n)∧Zaj R x y)→Qc n R x (l.foldl ZeR s)∧ZgZ s (l.foldl ZeR s)∧∀y∈l,(l.foldl ZeR s).1[y.toNat]?=some true
 | [],s,h,_=>⟨h,.refl s,by simp⟩
 | y::l,s,h,hl=>by
  obtain ⟨a1,a2,a3⟩:=Zto h (hl y (by simp)).1 (hl y (by simp)).2
  obtain ⟨b1,b2,b3⟩:=Zoz (l:=l) a1 fun z mz=>hl z (by simp [mz])
  exact ⟨b1,a2.trans b2,fun z mz=>by
   rcases AJ.1 mz with rfl | mz
   ·exact b2.mono _ a3
   ·exact b3 z mz⟩
noncomputable def Zg0 (z:Int) (s:List Bool × List Int) (r:Zf):List Bool × List Int:=if r.for_=z then (r.inn++r.outs).foldl ZeR s else s
theorem ZvK {n:Nat} {R:List Zf} {x z:Int} (hR:∀r∈R,OkN n r) (hz:z=x∨Zaj R x z) {r:Zf} (mr:r∈R) (e:r.for_=z):∀y∈r.inn++r.outs,(0≤y∧y.toNat<n)∧Zaj R x y:=fun y my=>by
 have hy:=AE.1 my
 have hd:Zj1 R z y:=⟨r,mr,e,hy⟩
 refine ⟨hy.elim ((hR r mr).2.1 y) ((hR r mr).2.2 y),?_⟩
 rcases hz with rfl | hz
 ·exact .one hd
 ·exact .step hz hd
theorem ZsV {n:Nat} {R:List Zf} {x z:Int} (hR:∀r∈R,OkN n r) (hz:z=x∨Zaj R x z) {s:List Bool × List Int} (h:Qc n R x s) {r:Zf} (mr:r∈R):Qc n R x (Zg0 z s r)∧ZgZ s (Zg0 z s r)∧(r.for_=z→∀y∈r.inn++r.outs,(Zg0 z s r).1[y.toNat]?=some true):=by
 unfold Zg0
 by_cases e:r.for_=z
 ·rw [if_pos e]
  obtain ⟨a1,a2,a3⟩:=Zoz h (ZvK hR hz mr e)
  exact ⟨a1,a2,fun _=>a3⟩
 ·rw [if_neg e]
  exact ⟨h,.refl s,fun h=>absurd h e⟩
theorem Zq6 {n:Nat} {R:List Zf} {x z:Int} (hR:∀r∈R,OkN n r) (hz:z=x∨Zaj R x z):∀{l:List Zf} {s:List Bool × List Int},(∀r∈l,r∈R)→Qc n R x s→Qc n R x (l.foldl (Zg0 z) s)∧ZgZ s (l.foldl (Zg0 z) s)∧∀r∈l,r.for_=z→∀y∈r.inn++r.outs,(l.foldl (Zg0 z) s).1[y.toNat]?=some true
 | [],s,_,h=>⟨h,.refl s,by simp⟩
 | r::l,s,hl,h=>by
  obtain ⟨a1,a2,a3⟩:=ZsV hR hz h (hl r (by simp))
  obtain ⟨b1,b2,b3⟩:=Zq6 hR hz (l:=l) (fun q mq=>hl q (by simp [mq])) a1
  exact ⟨b1,a2.trans b2,fun q mq e y my=>by
   rcases AJ.1 mq with rfl | mq
   ·exact b2.mono _ (a3 e y my)
   ·exact b3 q mq e y my⟩
theorem Qc.at {n:Nat} {R:List Zf} {x:Int} {s:List Bool × List Int} (h:Qc n R x s) {i:Nat} {z:Int} (hi:s.2[i]?=some z):z=x∨Zaj R x z:=by
 obtain ⟨t,t1,t2,_⟩:=h.row
 have:=A8 hi
 rw [t1] at this
 exact (AJ.1 this).imp id fun m=>(t2 z m).2.1
theorem Qc.fin {n:Nat} {R:List Zf} {x:Int} (hR:∀r∈R,OkN n r) {out:List Bool} {todo:List Int} (hI:Qc n R x (out,todo)) (hC:∀j z,j<todo.length→todo[j]?=some z→∀y,Zj1 R z y→out[y.toNat]?=some true):out.length=n∧∀y:Int,0≤y→(out[y.toNat]?=some true↔Zaj R x y):=by
 obtain ⟨t,t1,t2,t3,t4⟩:=hI.row
 simp only at t1 t4
 refine ⟨hI.len,fun y y0=>⟨fun hy=>(t2 y (t3 y y0 hy)).2.1,fun hy=>?_⟩⟩
 have hcl:∀z∈todo,∀y,Zj1 R z y→out[y.toNat]?=some true:=fun z mz=>by
  obtain ⟨j,hj,e⟩:=List.getElem_of_mem mz
  exact hC j z hj (by rw [A3 hj,e])
 have h0:∀a b,Zj1 R a b→0≤b:=fun a b ⟨r,mr,_,hb⟩=>hb.elim (fun h=>((hR r mr).2.1 b h).1) fun h=>((hR r mr).2.2 b h).1
 have:∀y,Zaj R x y→0≤y∧out[y.toNat]?=some true:=fun y hd=>by
  induction hd with
  | one h=>exact ⟨h0 _ _ h,hcl x (by rw [t1];simp) _ h⟩
  | step _ h ih=>exact ⟨h0 _ _ h,hcl _ (by rw [t1];exact List.mem_cons_of_mem _ (t3 _ ih.1 ih.2)) _ h⟩
 exact (this y hy).2
theorem Zr6 {σ ρ:Type} {n:Nat} {R:List Zf} {x:Int} (hR:∀r∈R,OkN n r) (st:List Bool→List Int→Nat→σ) (g:List Bool→ρ) {body:σ→Option (σ ⊕ ρ)}
  (h1:∀out todo i z,Qc n R x (out,todo)→i<n+1→todo[i]?=some z→(z=x∨Zaj R x z)→body (st out todo i)=some (.inl (st (R.foldl (Zg0 z) (out,todo)).1 (R.foldl (Zg0 z) (out,todo)).2 (i+1))))
  (h2:∀out todo,Qc n R x (out,todo)→body (st out todo todo.length)=some (.inr (g out))):
  ∀m out todo i,Qc n R x (out,todo)→i≤todo.length→n+1 - i≤m→(∀j z,j<i→todo[j]?=some z→∀y,Zj1 R z y→out[y.toNat]?=some true)→∃row,Yp body (st out todo i)=some (g row)∧row.length=n∧∀y:Int,0≤y→(row[y.toNat]?=some true↔Zaj R x y):=by
 intro m
 induction m with
 | zero=>
  intro out todo i hI hi hm hC
  obtain ⟨t,t1,t2,t3,t4⟩:=hI.row
  simp only at t1 t4
  have:todo.length=t.length+1:=by rw [t1];simp
  have hil:i=todo.length:=by omega
  subst hil
  exact ⟨out,Z2 (h2 out todo hI),hI.fin hR hC⟩
 | succ m ih=>
  intro out todo i hI hi hm hC
  by_cases hil:i=todo.length
  ·subst hil
   exact ⟨out,Z2 (h2 out todo hI),hI.fin hR hC⟩
  ·have hlt:i<todo.length:=by omega
   obtain ⟨z,hz⟩:∃z,todo[i]?=some z:=⟨_,A3 hlt⟩
   have hzx:=hI.at (i:=i) (z:=z) hz
   obtain ⟨t,t1,t2,t3,t4⟩:=hI.row
   simp only at t1 t4
   have htl:todo.length=t.length+1:=by rw [t1];simp
   have hin:i<n+1:=by omega
   rw [Yh (h1 out todo i z hI hin hz hzx)]
   obtain ⟨b1,b2,b3⟩:=Zq6 hR hzx (l:=R) (fun _ h=>h) hI
   obtain ⟨v,hv⟩:=b2.more
   simp only at hv
   refine ih _ _ (i+1) b1 (by rw [hv,AK];omega) (by omega) fun j u hj hu y hd=>?_
   rw [hv] at hu
   rw [Aa (by omega)] at hu
   by_cases hji:j<i
   ·exact b2.mono _ (hC j u hji hu y hd)
   ·obtain rfl:j=i:=by omega
    rw [hz] at hu
    obtain rfl:=Ab hu
    obtain ⟨r,mr,e,hy⟩:=hd
    exact b3 r mr e y (AE.2 hy)
end
section
open Classical
theorem Zyc {P:Nat→Prop}:∀v,P v→∃v,P v∧∀u,P u→v≤u:=by
 intro v
 induction v using Nat.strongRecOn with
 | ind v ih=>
  intro hv
  by_cases h:∃u,P u∧u<v
  ·obtain ⟨u,hu,hl⟩:=h
   exact ih u hl hu
  ·exact ⟨v,hv,fun u hu=>by
    by_cases hl:u<v
    ·exact absurd ⟨u,hu,hl⟩ h
    ·omega⟩
theorem Zvu {n:Nat} {R:List Zf} (hR:∀r∈R,OkN n r) {t0:Nat→Int} (h0:Zhy R t0):∃L,ZaI n R L:=by
 have hm:∀i:Nat,∃v:Nat,(∃t,Zhy R t∧(t i).toNat=v)∧∀u,(∃t,Zhy R t∧(t i).toNat=u)→v≤u:=fun i=>Zyc _ ⟨t0,h0,rfl⟩
 let m:Nat→Nat:=fun i=>Classical.choose (hm i)
 have m1:∀i,∃t,Zhy R t∧(t i).toNat=m i:=fun i=>(Classical.choose_spec (hm i)).1
 have m2:∀i t,Zhy R t→((m i:Nat):Int)≤t i:=fun i t ht=>by
  have:=(Classical.choose_spec (hm i)).2 _ ⟨t,ht,rfl⟩
  have:=ht.pos i
  show ((Classical.choose (hm i):Nat):Int)≤t i
  omega
 let L:List Int:=(Aj n).map fun i=>((m i:Nat):Int)
 have hL:∀i,i<n→lvN L i=((m i:Nat):Int):=fun i hi=>by
  have:L[i]?=some ((m i:Nat):Int):=by simp [L,hi]
  unfold lvN;rw [this];rfl
 have hL2:∀i,¬i<n→lvN L i=0:=fun i hi=>by
  unfold lvN;rw [AL (by simp [L];omega)];rfl
 refine ⟨L,by simp [L],⟨fun i=>?_,fun r mr y my=>?_,fun r mr y my=>?_⟩,fun t ht i=>?_⟩
 ·by_cases hi:i<n
  ·rw [hL i hi];omega
  ·rw [hL2 i hi];exact AM _
 ·obtain ⟨f1,f2,_⟩:=hR r mr
  rw [hL _ f1.2,hL _ (f2 y my).2]
  obtain ⟨t,ht,e⟩:=m1 r.for_.toNat
  have:=m2 y.toNat t ht
  have:=ht.inn r mr y my
  have:=ht.pos r.for_.toNat
  omega
 ·obtain ⟨f1,_,f3⟩:=hR r mr
  rw [hL _ f1.2,hL _ (f3 y my).2]
  obtain ⟨t,ht,e⟩:=m1 r.for_.toNat
  have:=m2 y.toNat t ht
  have:=ht.outs r mr y my
  have:=ht.pos r.for_.toNat
  omega
 ·by_cases hi:i<n
  ·rw [hL i hi];exact m2 i t ht
  ·rw [hL2 i hi];exact ht.pos i
theorem ZvJ {n:Nat} {R:List Zf} (hR:∀r∈R,OkN n r) (hS:ZpD R):∃L,ZaI n R L∧∀i,lvN L i<n∨lvN L i=0:=by
 obtain ⟨h1,h2⟩:=ZrR hR hS
 obtain ⟨L,hL⟩:=Zvu hR h1
 refine ⟨L,hL,fun i=>?_⟩
 have:=hL.least _ h1 i
 have:=hL.sol.pos i
 rcases h2 i with h | h<;>omega
noncomputable def ZcH (s:List Int × Bool) (r:Zf):List Int × Bool:=if lvN s.1 r.for_.toNat<Zh3 s.1 r then (XS s.1 r,true) else s
theorem Zhf {n:Nat}:∀{R:List Zf} {s:List Int × Bool},s.1.length=n→(∀r∈R,OkN n r)→(R.foldl ZcH s).1=XM R s.1∧((R.foldl ZcH s).2=true↔s.2=true∨XM R s.1≠s.1)
 | [],s,_,_=>by simp [XM]
 | r::R,s,hl,hR=>by
  have hR':∀q∈R,OkN n q:=fun q mq=>hR q (by simp [mq])
  rw [AA]
  show _∧(_↔s.2=true∨XM R (XS s.1 r)≠s.1)
  by_cases hc:lvN s.1 r.for_.toNat<Zh3 s.1 r
  ·have e:ZcH s r=(XS s.1 r,true):=if_pos hc
   rw [e]
   obtain ⟨h1,h2⟩:=Zhf (R:=R) (s:=(XS s.1 r,true)) (by rw [Zc4];exact hl) hR'
   refine ⟨h1,iff_of_true (h2.2 (.inl rfl)) (.inr fun he=>?_)⟩
   have h3:=Zbk R (XS s.1 r) r.for_.toNat
   rw [he] at h3
   have:lvN (XS s.1 r) r.for_.toNat=Zh3 s.1 r:=by
    unfold XS
    rw [Zad,if_pos ⟨rfl,by have:=(hR r (by simp)).1.2;omega⟩]
   omega
  ·have e:ZcH s r=s:=if_neg hc
   rw [e,Zmi hc]
   obtain ⟨h1,h2⟩:=Zhf hl hR'
   refine ⟨h1.trans ?_,h2⟩
   show XM R s.1=XM R (XS s.1 r)
   rw [Zmi hc]
theorem Zkp {n:Nat} {R:List Zf} {L:List Int} (hL:ZaI n R L):XM R L=L:=
 Zfp (Ze8 R L) fun i _=>Int.le_antisymm (Zdt hL.sol (fun _ h=>h) (fun _=>AM _) i) (Zbk R L i)
theorem Zoj {n:Nat} {L row:List Int} (hl:row.length=n) (hL:L.length=n) (h:Ziu n L row=0):row=L:=by
 refine Zfp (hl.trans hL.symm) fun i hi=>?_
 unfold Ziu at h
 rw [List.countP_eq_zero] at h
 simpa using h i (List.mem_range.2 (by omega))
theorem Ztp (n:Nat) (L row:List Int):Ziu n L row≤n:=by
 have:=Ak (p:=fun i=>decide (¬lvN row i=lvN L i)) (l:=Aj n)
 rw [List.length_range] at this
 exact this
theorem Zqg {σ ρ:Type} {n:Nat} {R:List Zf} {L:List Int} (hL:ZaI n R L) (hR:∀r∈R,OkN n r) (st:List Int→Bool→σ) (g:List Int→ρ) {body:σ→Option (σ ⊕ ρ)}
  (h1:∀row,row.length=n→(∀i,0≤lvN row i∧lvN row i≤lvN L i)→body (st row true)=some (.inl (st (R.foldl ZcH (row,false)).1 (R.foldl ZcH (row,false)).2)))
  (h2:∀row,body (st row false)=some (.inr (g row))):
  ∀k row,row.length=n→(∀i,0≤lvN row i∧lvN row i≤lvN L i)→Ziu n L row≤k→Yp body (st row true)=some (g L):=by
 have fixed:∀row,row.length=n→(∀i,0≤lvN row i∧lvN row i≤lvN L i)→XM R row=row→Yp body (st row true)=some (g L):=fun row hl h0 e=>by
  obtain ⟨e1,e2⟩:=Zhf (s:=(row,false)) hl hR
  have e3:(R.foldl ZcH (row,false)).2=false:=by
   cases hb:(R.foldl ZcH (row,false)).2 with
   | false=>rfl
   | true=>
    rcases e2.1 hb with h | h
    ·simp at h
    ·exact absurd e h
  rw [Yh (h1 row hl h0),e3,e1]
  have hrow:ZaI n R row:=Zt8 hl hR (fun i=>(h0 i).1) (fun t ht i=>AQ (h0 i).2 (hL.least t ht i)) e
  show Yp body (st (XM R row) false)=_
  rw [e,Z2 (h2 row),hrow.uniq hL]
 intro k
 induction k with
 | zero=>
  intro row hl h0 hk
  have e:row=L:=Zoj hl hL.len (by omega)
  exact fixed row hl h0 (by rw [e];exact Zkp hL)
 | succ k ih=>
  intro row hl h0 hk
  by_cases e:XM R row=row
  ·exact fixed row hl h0 e
  ·obtain ⟨e1,e2⟩:=Zhf (s:=(row,false)) hl hR
   rw [Yh (h1 row hl h0),e2.2 (.inr e),e1]
   refine ih _ (by rw [Ze8];exact hl) (fun i=>⟨AQ (h0 i).1 (Zbk R row i),Zdt hL.sol (fun _ h=>h) (fun i=>(h0 i).2) i⟩) ?_
   rcases ZlB hL hl hR (fun i=>(h0 i).1) (fun i=>(h0 i).2) with h | h
   ·exact absurd (by rw [Zoj hl hL.len h];exact Zkp hL) e
   ·show Ziu n L (XM R row)≤k
    omega
/- the reference writes each greater level at once -/
theorem Zu6 {row:List Int} {f:Nat} (hf:f<row.length):row.set f (lvN row f)=row:=Zfp (by simp) fun i _=>by
 rw [Zad]
 split
 ·rename_i h;rw [h.1]
 ·rfl
theorem Zpx {row:List Int} {f:Nat} (hf:f<row.length):∀(l:List Int) (v:Int),lvN row f≤v→l.foldl (fun s y=>s.set f (mx (lvN s f) (lvN s y.toNat))) (row.set f v)=row.set f (l.foldl (fun m y=>mx m (lvN row y.toNat)) v)
 | [],_,_=>rfl
 | y::l,v,hv=>by
  have e1:lvN (row.set f v) f=v:=by rw [Zad,if_pos ⟨rfl,hf⟩]
  have e2:mx v (lvN (row.set f v) y.toNat)=mx v (lvN row y.toNat):=by
   rw [Zad]
   split
   ·rename_i h
    rw [h.1]
    unfold mx
    split<;>split<;>omega
   ·rfl
  rw [AA,AA,e1,e2,Az]
  exact Zpx hf l _ (AQ hv (Zu4 v _).1)
theorem ZqH {row:List Int} {f:Nat} (hf:f<row.length):∀(l:List Int) (v:Int),(∀y∈l,y.toNat≠f)→l.foldl (fun s y=>s.set f (mx (lvN s f) (lvN s y.toNat+1))) (row.set f v)=row.set f (l.foldl (fun m y=>mx m (lvN row y.toNat+1)) v)
 | [],_,_=>rfl
 | y::l,v,hl=>by
  have e1:lvN (row.set f v) f=v:=by rw [Zad,if_pos ⟨rfl,hf⟩]
  have e2:lvN (row.set f v) y.toNat=lvN row y.toNat:=by
   rw [Zad,if_neg fun h=>hl y (by simp) h.1]
  rw [AA,AA,e1,e2,Az]
  exact ZqH hf l _ fun z mz=>hl z (by simp [mz])
theorem Zsx {row:List Int} {r:Zf} (hf:r.for_.toNat<row.length) (hS:∀y∈r.outs,y.toNat≠r.for_.toNat):r.outs.foldl (fun s y=>s.set r.for_.toNat (mx (lvN s r.for_.toNat) (lvN s y.toNat+1))) (r.inn.foldl (fun s y=>s.set r.for_.toNat (mx (lvN s r.for_.toNat) (lvN s y.toNat))) row)=XS row r:=by
 have e:=Zpx hf r.inn (lvN row r.for_.toNat) (AM _)
 rw [Zu6 hf] at e
 rw [e,ZqH hf _ _ hS]
 rfl
/- rounds -/
theorem Zro {σ ρ:Type} {n top:Nat} {R:List Zf} {L:List Int} (hR:∀r∈R,OkN n r) (st:List Int→Nat→Nat→σ) (g:List Int→ρ) {body:σ→Option (σ ⊕ ρ)}
  (h1:∀row k s,RIn n row k→s≤top→Yw R L ((s:Nat):Int) row k≠[]→body (st row k s)=some (.inl (st (ZcJ row (Yw R L ((s:Nat):Int) row k) ((k:Nat):Int)) (k+1) s)))
  (h2:∀row k s,RIn n row k→s≤top→Yw R L ((s:Nat):Int) row k=[]→body (st row k s)=some (.inl (st row k (s+1))))
  (h3:∀row k,RIn n row k→body (st row k (top+1))=some (.inr (g row))):
  ∀d s row k,s+d=top+1→RIn n row k→Yp body (st row k s)=some (g (Xl R L n (A7 s d) (row,k)).1):=by
 have level:∀f s row k,s≤top→RIn n row k→ZeB row≤f→Yp body (st row k s)=Yp body (st (YL R L ((s:Nat):Int) f row k).1 (YL R L ((s:Nat):Int) f row k).2 (s+1)):=by
  intro f
  induction f with
  | zero=>
   intro s row k hs hI hf
   have hc:Yw R L ((s:Nat):Int) row k=[]:=Classical.byContradiction fun hc=>by have:=(hI.next hR hc).2;omega
   exact Yh (h2 row k s hI hs hc)
  | succ f ih=>
   intro s row k hs hI hf
   unfold YL
   by_cases hc:Yw R L ((s:Nat):Int) row k=[]
   ·rw [if_pos hc]
    exact Yh (h2 row k s hI hs hc)
   ·rw [if_neg hc,Yh (h1 row k s hI hs hc)]
    obtain ⟨a,b⟩:=hI.next hR hc
    exact ih s _ _ hs a (by omega)
 intro d
 induction d with
 | zero=>
  intro s row k hs hI
  obtain rfl:s=top+1:=by omega
  exact Z2 (h3 row k hI)
 | succ d ih=>
  intro s row k hs hI
  have hu:ZeB row≤n:=by have:=hI.few;omega
  rw [level n s row k (by omega) hI hu]
  exact ih (s+1) _ _ (by omega) (ZdK hR n row k hI hu).1
theorem Zjr {row:List Int} {R:List Zf} {L:List Int} {s:Int} {k:Nat} {l:List Int} (h:∀x,x∈l↔x∈Yw R L s row k):ZcJ row l ((k:Nat):Int)=ZcJ row (Yw R L s row k) ((k:Nat):Int)∧(l=[]↔Yw R L s row k=[]):=by
 refine ⟨ZrP fun i=>?_,?_⟩
 ·constructor
  ·rintro ⟨x,mx,e⟩;exact ⟨x,(h x).1 mx,e⟩
  ·rintro ⟨x,mx,e⟩;exact ⟨x,(h x).2 mx,e⟩
 ·rw [Al,Al]
  exact forall_congr' fun x=>not_congr (h x)
theorem Zr7 {σ ρ:Type} {n:Nat} {R:List Zf} {L:List Int} {s:Int} (hR:∀r∈R,OkN n r) (st:List Int→Nat→List Int→σ) (g:List Int→Nat→ρ) (cm:List Int→Nat→List Int) (hcm:∀row k x,RIn n row k→(x∈cm row k↔x∈Yw R L s row k)) {body:σ→Option (σ ⊕ ρ)}
  (h1:∀row k,RIn n row k→cm row k≠[]→RIn n (ZcJ row (cm row k) ((k:Nat):Int)) (k+1)→body (st row k (cm row k))=some (.inl (st (ZcJ row (cm row k) ((k:Nat):Int)) (k+1) (cm (ZcJ row (cm row k) ((k:Nat):Int)) (k+1)))))
  (h2:∀row k,RIn n row k→body (st row k [])=some (.inr (g row k))):
  ∀f row k,RIn n row k→ZeB row≤f→Yp body (st row k (cm row k))=some (g (YL R L s f row k).1 (YL R L s f row k).2):=by
 intro f
 induction f with
 | zero=>
  intro row k hI hf
  have hc:Yw R L s row k=[]:=Classical.byContradiction fun hc=>by have:=(hI.next hR hc).2;omega
  rw [(Zjr fun x=>hcm row k x hI).2.2 hc,Z2 (h2 row k hI)]
  rfl
 | succ f ih=>
  intro row k hI hf
  unfold YL
  by_cases hc:Yw R L s row k=[]
  ·rw [if_pos hc,(Zjr fun x=>hcm row k x hI).2.2 hc,Z2 (h2 row k hI)]
  ·obtain ⟨e1,e2⟩:=Zjr fun x=>hcm row k x hI
   rw [if_neg hc,Yh (h1 row k hI (fun h=>hc (e2.1 h)) (by rw [e1];exact (hI.next hR hc).1)),e1]
   exact ih _ _ (hI.next hR hc).1 (by have:=(hI.next hR hc).2;omega)
end
section
open Classical
structure Q4 (b:Zr):Prop where
 n0:0≤b.nodes
 n1:b.nodes≤24
 len:b.reasons.length≤60
 ok:∀r∈b.reasons,OkN b.nodes.toNat r
 up:∀r∈b.reasons,r.inn.Pairwise (·<·)∧r.outs.Pairwise (·<·)
 few:∀r∈b.reasons,r.inn.length≤4∧r.outs.length≤4
 strat:ZpD b.reasons
theorem Q4.of {R:List Zg} {base F:List Zb} (h:Z0 R base F) (h60:(ZZ R F base).length≤60):Q4 { nodes:=((F.length:Nat):Int),reasons:=ZZ R F base }:=by
 have:=h.len
 exact ⟨by simp only;omega,by simp only;omega,h60,fun r mr=>by simpa using Zun h r mr,fun r mr=>(Zee h mr).up,fun r mr=>Zfg h mr,ZoH h⟩
theorem Q4.valid {b:Zr} (h:Q4 b):ZbZ b=true:=by
 unfold ZbZ
 have h0:=h.n0
 have h1:=h.n1
 simp only[A4,decide_eq_true_eq]
 refine ⟨h.n0,h.n1,h.len,AG.2 fun r mr=>?_⟩
 obtain ⟨⟨f0,f1⟩,f2,f3⟩:=h.ok r mr
 obtain ⟨u1,u2⟩:=h.up r mr
 unfold ZsD
 simp only[A4,decide_eq_true_eq]
 exact ⟨f0,by omega,ZuP (fun y my=>by have:=f2 y my;omega) u1,ZuP (fun y my=>by have:=f3 y my;omega) u2⟩
theorem Q4.small {b:Zr} (h:Q4 b):ZuY b:=fun r mr=>by have:=h.few r mr;omega
def YT:List Zb→List Int→List Zb
 | f::F,v::l=>if 0≤v then f::YT F l else YT F l
 | _,_=>[]
theorem ZnP:∀{F:List Zb} {l:List Int},(YT F l).length≤F.length∧∀f∈YT F l,f∈F
 | [],l=>by simp [YT]
 | f::F,[]=>by simp [YT]
 | f::F,v::l=>by
  obtain ⟨h1,h2⟩:=ZnP (F:=F) (l:=l)
  unfold YT
  split
  ·refine ⟨by simp;omega,fun g mg=>?_⟩
   rcases AJ.1 mg with rfl | mg
   ·simp
   ·simp [h2 g mg]
  ·exact ⟨by simp;omega,fun g mg=>by simp [h2 g mg]⟩
noncomputable def lvB (b:Zr):List Int:=if h:∃L,ZaI b.nodes.toNat b.reasons L then Classical.choose h else []
noncomputable def rdB (b:Zr):List Int:=(Xl b.reasons (lvB b) b.nodes.toNat (Aj b.nodes.toNat) (A5 b.nodes.toNat (-1),0)).1
theorem Q4.lv {b:Zr} (h:Q4 b):ZaI b.nodes.toNat b.reasons (lvB b)∧∀i,0≤lvN (lvB b) i∧(lvN (lvB b) i<b.nodes.toNat∨lvN (lvB b) i=0):=by
 obtain ⟨L,hL,h2⟩:=ZvJ h.ok h.strat
 have hex:∃L,ZaI b.nodes.toNat b.reasons L:=⟨L,hL⟩
 have e:lvB b=Classical.choose hex:=dif_pos hex
 have h1:ZaI b.nodes.toNat b.reasons (lvB b):=by rw [e];exact Classical.choose_spec hex
 refine ⟨h1,fun i=>⟨h1.sol.pos i,?_⟩⟩
 rw [h1.uniq hL]
 exact h2 i
theorem Zg9 (n:Nat):RIn n (A5 n (-1)) 0:=⟨by simp,fun i hi=>⟨-1,by simp [hi],.inl rfl⟩,by
 have:=Ak (p:=fun v:Int=>decide (v<0)) (l:=A5 n (-1))
 rw [B1] at this
 unfold ZeB
 omega⟩
theorem Q4.rd {b:Zr} (h:Q4 b):(rdB b).length=b.nodes.toNat:=(Zk1 h.ok _ _ (Zg9 _)).len
end
section
open Classical
structure Zsy (n:Nat) (R:List Zf) (L:List Int) (s:Int) (row:List Int) (k:Nat):Prop where
 rin:RIn n row k
 low:∀x:Nat,0≤rdN row ((x:Nat):Int)→lvN L x<s
 supp:∀x:Nat,0≤rdN row ((x:Nat):Int)→∃r∈R,r.for_.toNat=x∧(∀y∈r.inn,0≤rdN row y∧rdN row y<rdN row ((x:Nat):Int))∧∀y∈r.outs,rdN row y<0
 clos:∀r∈R,lvN L r.for_.toNat<s→(∀y∈r.inn,0≤rdN row y)→(∀y∈r.outs,rdN row y<0)→0≤rdN row r.for_
theorem Zoy (row:List Int) (y:Int):rdN row y=rdN row ((y.toNat:Nat):Int):=by unfold rdN;rw [AC]
theorem Zv9 {row l:List Int} {k:Nat} {y:Int} (hl:y.toNat<row.length):rdN (ZcJ row l ((k:Nat):Int)) y=if ∃x∈l,x.toNat=y.toNat then ((k:Nat):Int) else rdN row y:=by
 unfold rdN
 rw [Ziw]
 by_cases hc:∃x∈l,x.toNat=y.toNat
 ·rw [if_pos ⟨hc,hl⟩,if_pos hc];rfl
 ·rw [if_neg fun h=>hc h.1,if_neg hc]
theorem Zw0 {row:List Int} {y:Int} (hl:¬y.toNat<row.length):rdN row y=-1:=by
 unfold rdN
 rw [AL (by omega)]
 rfl
structure Zuk (n:Nat) (R:List Zf) (L:List Int) (s:Int) (row:List Int) (k:Nat):Prop where
 rin:RIn n row k
 low:∀x:Nat,0≤rdN row ((x:Nat):Int)→lvN L x≤s
 supp:∀x:Nat,0≤rdN row ((x:Nat):Int)→∃r∈R,r.for_.toNat=x∧(∀y∈r.inn,0≤rdN row y∧rdN row y<rdN row ((x:Nat):Int))∧∀y∈r.outs,rdN row y<0
 clos:∀r∈R,lvN L r.for_.toNat<s→(∀y∈r.inn,0≤rdN row y)→(∀y∈r.outs,rdN row y<0)→0≤rdN row r.for_
theorem RIn.lt {n:Nat} {row:List Int} {k:Nat} (h:RIn n row k) (y:Int) (h0:0≤rdN row y):y.toNat<n∧rdN row y<((k:Nat):Int):=by
 by_cases hl:y.toNat<n
 ·obtain ⟨v,hv,hv2⟩:=h.val y.toNat hl
  have e:rdN row y=v:=by unfold rdN;rw [hv];rfl
  rw [e] at h0 ⊢
  exact ⟨hl,by omega⟩
 ·rw [Zw0 (by rw [h.len];exact hl)] at h0
  omega
theorem Zuk.next {n:Nat} {R:List Zf} {L:List Int} {s:Int} {row:List Int} {k:Nat} (hR:∀r∈R,OkN n r) (hL:Zhy R (lvN L)) (h:Zuk n R L s row k) (hc:Yw R L s row k≠[]):Zuk n R L s (ZcJ row (Yw R L s row k) ((k:Nat):Int)) (k+1):=by
 have hin:=(h.rin.next hR hc).1
 have hlen:=h.rin.len
 have hset:∀y:Int,y.toNat<n→rdN (ZcJ row (Yw R L s row k) ((k:Nat):Int)) y=if ∃x∈Yw R L s row k,x.toNat=y.toNat then ((k:Nat):Int) else rdN row y:=fun y hy=>Zv9 (by omega)
 have hlv:∀y:Int,(∃x∈Yw R L s row k,x.toNat=y.toNat)→lvN L y.toNat=s∧rdN row y<0:=fun y ⟨x,mx,e⟩=>by
  obtain ⟨r,mr,e2,h1,h2,_⟩:=ZbV.1 mx
  rw [←e]
  refine ⟨h1,?_⟩
  rw [Zoy row y,←e,←Zoy]
  exact h2
 have up:∀y:Int,0≤rdN row y→rdN (ZcJ row (Yw R L s row k) ((k:Nat):Int)) y=rdN row y:=fun y hy=>by
  have hl:=(h.rin.lt y hy).1
  rw [hset y hl,if_neg fun hx=>by have:=(hlv y hx).2;omega]
 have dn:∀y:Int,y.toNat<n→lvN L y.toNat<s→rdN (ZcJ row (Yw R L s row k) ((k:Nat):Int)) y=rdN row y:=fun y hl hy=>by
  rw [hset y hl,if_neg fun hx=>by have:=(hlv y hx).1;omega]
 refine ⟨hin,fun x hx=>?_,fun x hx=>?_,fun r mr hs hi ho=>?_⟩
 ·have hl:=(hin.lt _ hx).1
  rw [AC] at hl
  rw [hset _ (by simpa using hl)] at hx
  split at hx
  ·rename_i hc2
   have:=(hlv ((x:Nat):Int) hc2).1
   rw [AC] at this
   omega
  ·exact h.low x hx
 ·have hl:=(hin.lt _ hx).1
  rw [AC] at hl
  by_cases hc2:∃y∈Yw R L s row k,y.toNat=x
  ·obtain ⟨y,my,e⟩:=hc2
   obtain ⟨r,mr,rfl,h1,h2,h3,h4⟩:=ZbV.1 my
   have hk:rdN (ZcJ row (Yw R L s row k) ((k:Nat):Int)) ((x:Nat):Int)=((k:Nat):Int):=by
    rw [hset _ (by simpa using hl),if_pos ⟨r.for_,my,by simpa using e⟩]
   refine ⟨r,mr,e,fun y my2=>?_,fun y my2=>?_⟩
   ·obtain ⟨k1,k2⟩:=h3 y my2
    rw [up y k1,hk]
    exact ⟨k1,k2⟩
   ·have hy:=(hR r mr).2.2 y my2
    have:=hL.outs r mr y my2
    rw [dn y hy.2 (by omega)]
    exact h4 y my2
  ·have e:rdN (ZcJ row (Yw R L s row k) ((k:Nat):Int)) ((x:Nat):Int)=rdN row ((x:Nat):Int):=by
    rw [hset _ (by simpa using hl),if_neg (by simpa using hc2)]
   rw [e] at hx ⊢
   obtain ⟨r,mr,e2,h3,h4⟩:=h.supp x hx
   refine ⟨r,mr,e2,fun y my=>?_,fun y my=>?_⟩
   ·obtain ⟨k1,k2⟩:=h3 y my
    rw [up y k1]
    exact ⟨k1,k2⟩
   ·have hy:=(hR r mr).2.2 y my
    have h5:=hL.outs r mr y my
    have h6:=h.low x hx
    rw [e2] at h5
    rw [dn y hy.2 (by omega)]
    exact h4 y my
 ·have hi2:∀y∈r.inn,0≤rdN row y:=fun y my=>by
   have hy:=(hR r mr).2.1 y my
   have h5:=hL.inn r mr y my
   have:=hi y my
   rwa [dn y hy.2 (by omega)] at this
  have ho2:∀y∈r.outs,rdN row y<0:=fun y my=>by
   have hy:=(hR r mr).2.2 y my
   have h5:=hL.outs r mr y my
   have:=ho y my
   rwa [dn y hy.2 (by omega)] at this
  have:=h.clos r mr hs hi2 ho2
  rw [up _ this]
  exact this
theorem ZnS {n:Nat} {R:List Zf} {L:List Int} {s:Int} (hR:∀r∈R,OkN n r) (hL:Zhy R (lvN L)):∀(f:Nat) (row:List Int) (k:Nat),Zuk n R L s row k→ZeB row≤f→Zuk n R L s (YL R L s f row k).1 (YL R L s f row k).2
 | 0,row,k,h,hf=>h
 | f+1,row,k,h,hf=>by
  unfold YL
  by_cases hc:Yw R L s row k=[]
  ·rw [if_pos hc];exact h
  ·rw [if_neg hc]
   exact ZnS hR hL f _ _ (h.next hR hL hc) (by have:=(h.rin.next hR hc).2;omega)
theorem Zsy.level {n:Nat} {R:List Zf} {L:List Int} {s:Int} {row:List Int} {k:Nat} (hR:∀r∈R,OkN n r) (hL:Zhy R (lvN L)) (h:Zsy n R L s row k):Zsy n R L (s+1) (YL R L s n row k).1 (YL R L s n row k).2:=by
 have hu:ZeB row≤n:=by have:=h.rin.few;omega
 have hm:Zuk n R L s row k:=⟨h.rin,fun x hx=>by have:=h.low x hx;omega,h.supp,h.clos⟩
 have h1:=ZnS hR hL n row k hm hu
 have h2:=(ZdK (L:=L) (s:=s) hR n row k h.rin hu).2
 refine ⟨h1.rin,fun x hx=>by have:=h1.low x hx;omega,h1.supp,fun r mr hs hi ho=>?_⟩
 by_cases e:lvN L r.for_.toNat=s
 ·refine Classical.byContradiction fun hn=>?_
  have:r.for_∈Yw R L s (YL R L s n row k).1 (YL R L s n row k).2:=ZbV.2 ⟨r,mr,rfl,e,by omega,fun y my=>⟨hi y my,(h1.rin.lt y (hi y my)).2⟩,ho⟩
  rw [h2] at this
  simp at this
 ·exact h1.clos r mr (by omega) hi ho
theorem ZmD {n:Nat} {R:List Zf} {L:List Int} (hR:∀r∈R,OkN n r) (hL:Zhy R (lvN L)):∀(d s:Nat) (st:List Int × Nat),Zsy n R L ((s:Nat):Int) st.1 st.2→Zsy n R L ((s+d:Nat):Int) (Xl R L n (A7 s d) st).1 (Xl R L n (A7 s d) st).2
 | 0,_,_,h=>h
 | d+1,s,st,h=>by
  have h1:Zsy n R L ((s+1:Nat):Int) (YL R L ((s:Nat):Int) n st.1 st.2).1 (YL R L ((s:Nat):Int) n st.1 st.2).2:=by
   have:=h.level hR hL
   rwa [show ((s:Nat):Int)+1=((s+1:Nat):Int) by omega] at this
  have:=ZmD hR hL d (s+1) _ h1
  rwa [show s+1+d=s+(d+1) by omega] at this
theorem Q4.end {b:Zr} (h:Q4 b):(∀x:Nat,0≤rdN (rdB b) ((x:Nat):Int)→∃r∈b.reasons,r.for_.toNat=x∧(∀y∈r.inn,0≤rdN (rdB b) y∧rdN (rdB b) y<rdN (rdB b) ((x:Nat):Int))∧∀y∈r.outs,rdN (rdB b) y<0)∧∀r∈b.reasons,(∀y∈r.inn,0≤rdN (rdB b) y)→(∀y∈r.outs,rdN (rdB b) y<0)→0≤rdN (rdB b) r.for_:=by
 obtain ⟨hL,hv⟩:=h.lv
 have none:∀y:Int,rdN (A5 b.nodes.toNat (-1)) y=-1:=fun y=>by
  unfold rdN
  by_cases hy:y.toNat<b.nodes.toNat
  ·simp [hy]
  ·rw [AL (by simp;omega)];rfl
 have start:Zsy b.nodes.toNat b.reasons (lvB b) ((0:Nat):Int) (A5 b.nodes.toNat (-1),0).1 (A5 b.nodes.toNat (-1),0).2:=⟨Zg9 _,fun x hx=>by rw [none] at hx;omega,fun x hx=>by rw [none] at hx;omega,fun r mr hs=>by have:=(hv r.for_.toNat).1;omega⟩
 have hE:=ZmD h.ok hL.sol b.nodes.toNat 0 _ start
 have e:rdB b=(Xl b.reasons (lvB b) b.nodes.toNat (A7 0 b.nodes.toNat) (A5 b.nodes.toNat (-1),0)).1:=by unfold rdB;rw [Am]
 rw [←e] at hE
 refine ⟨hE.supp,fun r mr=>hE.clos r mr ?_⟩
 have:=hv r.for_.toNat
 have:=(h.ok r mr).1.2
 omega
end
section
open Classical
theorem ZuI {M F:List Zb}:∀n (l:List Zt),l.length=n→(∀x∈l,¬x.kind=2)→∀t∈Zw l F,(∀f∈t.facts,f∈M)→t∈Zw l M:=by
 intro n
 induction n with
 | zero=>
  intro l h _ t mt _
  rw [AX h] at mt ⊢
  exact mt
 | succ n ih=>
  intro l h hk
  obtain ⟨p,x,rfl⟩:∃p x,l=p++[x]:=⟨l.dropLast,l.getLast (by intro e;simp [e] at h),(An _).symm⟩
  intro t mt hf
  rw [Y6] at mt ⊢
  obtain ⟨s,ms,mt⟩:=AT.1 mt
  have hx:=hk x (by simp)
  unfold ZaR at mt
  by_cases h1:x.kind=1
  ·rw [if_pos h1] at mt
   obtain ⟨g,mg,hg⟩:=Ac.1 mt
   obtain ⟨b,hb,rfl⟩:=AH.1 hg
   have hs:=ih p (by simpa using h) (fun y my=>hk y (by simp [my])) s ms fun f mf=>hf f (by simp [mf])
   refine AT.2 ⟨s,hs,?_⟩
   unfold ZaR
   rw [if_pos h1]
   exact Ac.2 ⟨g,hf g (by simp),by rw [hb];rfl⟩
  ·rw [if_neg h1] at mt
   have hh:∀G,Zak x s.binding G=Zak x s.binding F:=fun G=>by
    unfold Zak
    simp only[if_neg h1,if_neg hx]
   split at mt
   ·rename_i hb
    simp at mt;subst mt
    have hs:=ih p (by simpa using h) (fun y my=>hk y (by simp [my])) t ms hf
    refine AT.2 ⟨t,hs,?_⟩
    unfold ZaR
    rw [if_neg h1,hh,if_pos hb]
    simp
   ·simp at mt
theorem Zv2 {R:List Zg} {r:Zg} {M F:List Zb} {t:Zu} (mt:t∈Zw (XT r) F) (hf:∀f∈t.facts,f∈M):t∈Zw (XT r) M:=ZuI _ (XT r) rfl ZnZ t mt hf
theorem ZsT {r:Zg} {F:List Zb} {t:Zu} (mt:t∈Zw (XT r) F):∀f∈t.facts,f∈F:=(Qp F _ t mt).sub
structure ZjQ (R:List Zg) (base M:List Zb):Prop where
 giv:∀f∈base,f∈M
 clos:∀r∈R,∀t∈Zw (XT r) M,(∀g∈ZiJ r t,g∉M)→∀a∈r.thn,Z8 a t∈M
 supp:∃rank:Zb→Nat,∀f∈M,f∈base∨∃r∈R,∃t∈Zw (XT r) M,∃a∈r.thn,Z8 a t=f∧(∀g∈t.facts,rank g<rank f)∧∀g∈ZiJ r t,g∉M
theorem ZnO {f:Zb}:∀{F:List Zb} {l:List Int},l.length=F.length→(f∈YT F l↔∃i,F[i]?=some f∧0≤rdN l ((i:Nat):Int))
 | [],l,_=>by simp [YT]
 | g::F,[],h=>by simp at h
 | g::F,v::l,h=>by
  have ih:=ZnO (f:=f) (F:=F) (l:=l) (by simpa using h)
  have sh:∀i:Nat,rdN (v::l) ((i+1:Nat):Int)=rdN l ((i:Nat):Int):=fun i=>by unfold rdN;rw [AC,AC];simp
  have s0:rdN (v::l) ((0:Nat):Int)=v:=by unfold rdN;rfl
  have key:(∃i,(g::F)[i]?=some f∧0≤rdN (v::l) ((i:Nat):Int))↔(g=f∧0≤v)∨∃i,F[i]?=some f∧0≤rdN l ((i:Nat):Int):=by
   constructor
   ·rintro ⟨i,h1,h2⟩
    cases i with
    | zero=>rw [s0] at h2;exact .inl ⟨by simpa using h1,h2⟩
    | succ i=>rw [sh] at h2;exact .inr ⟨i,by simpa using h1,h2⟩
   ·rintro (⟨h1,h2⟩ | ⟨i,h1,h2⟩)
    ·exact ⟨0,by simp [h1],by rw [s0];exact h2⟩
    ·exact ⟨i+1,by simpa using h1,by rw [sh];exact h2⟩
  rw [key]
  unfold YT
  by_cases hv:0≤v
  ·rw [if_pos hv,AJ,ih]
   constructor
   ·rintro (h | h)
    ·exact .inl ⟨h.symm,hv⟩
    ·exact .inr h
   ·rintro (⟨h,_⟩ | h)
    ·exact .inl h.symm
    ·exact .inr h
  ·rw [if_neg hv,ih]
   constructor
   ·exact .inr
   ·rintro (⟨_,h⟩ | h)
    ·exact absurd h hv
    ·exact h
theorem Zn8 {F:List Zb} {f g:Zb} (hf:f∈F) (hg:g∈F) (h:ZY F f=ZY F g):f=g:=by
 obtain ⟨i,h1,h2⟩:=Q6 hf
 obtain ⟨j,h3,h4⟩:=Q6 hg
 have:i=j:=by omega
 subst this
 rw [h2] at h4
 exact Ab h4
theorem ZtO {F:List Zb} (hF:F.Nodup) {j:Nat} {f:Zb} (h:F[j]?=some f):ZY F f=((j:Nat):Int):=by
 obtain ⟨k,h1,h2⟩:=Q6 (A8 h)
 obtain ⟨hj,ej⟩:=A9.1 h
 obtain ⟨hk,ek⟩:=A9.1 h2
 have:k=j:=by
  rcases Ao k j with hl | hl | hl
  ·exact absurd (ek.trans ej.symm) (AP.1 hF k j hk hj hl)
  ·exact hl
  ·exact absurd (ej.trans ek.symm) (AP.1 hF j k hj hk hl)
 rw [h1,this]
theorem ZvC {F:List Zb} (hF:F.Nodup) {l:List Int} (hl:l.length=F.length) {f:Zb}:f∈YT F l↔f∈F∧0≤rdN l (ZY F f):=by
 rw [ZnO hl]
 constructor
 ·rintro ⟨i,h1,h2⟩
  exact ⟨A8 h1,by rw [ZtO hF h1];exact h2⟩
 ·rintro ⟨h1,h2⟩
  obtain ⟨j,h3,h4⟩:=Q6 h1
  exact ⟨j,h4,by rw [←h3];exact h2⟩
theorem Zt6 {R:List Zg} {base F:List Zb} (h:Z0 R base F) {rs:List Zf} {given:List Zb} (hB:Q4 { nodes:=((F.length:Nat):Int),reasons:=rs })
  (hrs:∀x,x∈rs↔(∃f∈given,x={ for_:=ZY F f,inn:=[],outs:=[] })∨∃r∈R,∃t∈Zw (XT r) F,∃a∈r.thn,x=Yg F r t a) (hg:∀f∈given,f∈F):ZjQ R given (YT F (rdB { nodes:=((F.length:Nat):Int),reasons:=rs })):=by
 obtain ⟨e1,e2⟩:=hB.end
 have hF:=ZdT h.good.asc
 have hl:=hB.rd
 generalize rdB { nodes:=((F.length:Nat):Int),reasons:=rs }=rd at e1 e2 hl
 simp only[AC] at hl
 have hm:∀f,f∈YT F rd↔f∈F∧0≤rdN rd (ZY F f):=fun f=>ZvC hF hl
 have nat:∀f∈F,((ZY F f).toNat:Int)=ZY F f:=fun f mf=>by
  obtain ⟨j,h1,_⟩:=Q6 mf
  omega
 refine ⟨fun f mf=>?_,fun r mr t mt hab a ma=>?_,fun f=>(rdN rd (ZY F f)).toNat,fun f mf=>?_⟩
 ·rw [hm]
  exact ⟨hg f mf,e2 _ ((hrs _).2 (.inl ⟨f,mf,rfl⟩)) (by simp) (by simp)⟩
 ·have ht:∀g∈t.facts,g∈YT F rd:=ZsT mt
  have mt':t∈Zw (XT r) F:=Zv2 (R:=R) mt fun g mg=>((hm g).1 (ht g mg)).1
  have hin:=h.closed r mr t mt' a ma
  rw [hm]
  refine ⟨hin,e2 _ ((hrs _).2 (.inr ⟨r,mr,t,mt',a,ma,rfl⟩)) (fun y my=>?_) fun y my=>?_⟩
  ·obtain ⟨g,mg,e,_⟩:=((Yv F t.facts).2.1 y).1 my
   rw [←e]
   exact ((hm g).1 (ht g mg)).2
  ·obtain ⟨g,mg,e,e0⟩:=((Yv F (ZiJ r t)).2.1 y).1 my
   have gF:g∈F:=by
    rcases ZfL F g with ⟨_,h2⟩ | ⟨j,_,h2⟩
    ·omega
    ·exact A8 h2
   refine Classical.byContradiction fun hn=>hab g mg ((hm g).2 ⟨gF,?_⟩)
   rw [e];omega
 ·obtain ⟨fF,f0⟩:=(hm f).1 mf
  obtain ⟨x,mx,ex,hi,ho⟩:=e1 (ZY F f).toNat (by rw [nat f fF];exact f0)
  rw [nat f fF] at hi
  rcases (hrs x).1 mx with ⟨g,mg,rfl⟩ | ⟨r,mr,t,mt,a,ma,rfl⟩
  ·left
   have:ZY F g=ZY F f:=by have:=nat g (hg g mg);have:=nat f fF;simp only at ex;omega
   rw [←Zn8 (hg g mg) fF this]
   exact mg
  ·right
   have hin:=h.closed r mr t mt a ma
   have e:Z8 a t=f:=Zn8 hin fF (by
    have h1:=nat _ hin;have h2:=nat f fF
    have ex':(ZY F (Z8 a t)).toNat=(ZY F f).toNat:=ex
    omega)
   have hfacts:∀g∈t.facts,g∈YT F rd∧rdN rd (ZY F g)<rdN rd (ZY F f):=fun g mg=>by
    have gF:=ZsT mt g mg
    obtain ⟨j,k1,_⟩:=Q6 gF
    have my:ZY F g∈Qr F t.facts:=((Yv F t.facts).2.1 _).2 ⟨g,mg,rfl,by omega⟩
    obtain ⟨k2,k3⟩:=hi _ my
    exact ⟨(hm g).2 ⟨gF,k2⟩,k3⟩
   refine ⟨r,mr,t,Zv2 (R:=R) mt fun g mg=>(hfacts g mg).1,a,ma,e,fun g mg=>?_,fun g mg hgm=>?_⟩
   ·have k2:=(hfacts g mg).2
    have k1:=((hm g).1 (hfacts g mg).1).2
    show (rdN rd (ZY F g)).toNat<(rdN rd (ZY F f)).toNat
    omega
   ·obtain ⟨gF,g0⟩:=(hm g).1 hgm
    obtain ⟨j,k1,_⟩:=Q6 gF
    have my:ZY F g∈Qr F (ZiJ r t):=((Yv F (ZiJ r t)).2.1 _).2 ⟨g,mg,rfl,by omega⟩
    have:=ho _ my
    omega
theorem Zk4 {R:List Zg} {base F:List Zb} (h:Z0 R base F) (h60:(ZZ R F base).length≤60):ZjQ R base (YT F (rdB { nodes:=((F.length:Nat):Int),reasons:=ZZ R F base })):=
 Zt6 h (Q4.of h h60) (fun _=>Zib) h.good.inc
/- one model alone -/
end
section
open Classical
/- without one of the given facts -/
theorem ZII {r:Zg} (h:YQ r=true):∃x l,r.cond=x::l∧x.kind=1:=by
 unfold YQ at h
 simp only[A4,decide_eq_true_eq] at h
 have hv:=h.1.1.2
 have hl:=h.1.1.1.1.1.1.2
 cases hc:r.cond with
 | nil=>rw [hc] at hl;simp at hl
 | cons x l=>
  refine ⟨x,l,rfl,?_⟩
  rw [hc] at hv
  simp only[Q0,A4,ne_eq,not_true_eq_false,decide_false,Ap,decide_eq_true_eq] at hv
  exact hv.1.1.2
theorem ZJs {F:List Zb}:∀n (l:List Zt),l.length=n→(∃x∈l,x.kind=1)→∀t∈Zw l F,t.facts≠[]:=by
 intro n
 induction n with
 | zero=>intro l h ⟨x,mx,_⟩;rw [AX h] at mx;simp at mx
 | succ n ih=>
  intro l h hx
  obtain ⟨p,x,rfl⟩:∃p x,l=p++[x]:=⟨l.dropLast,l.getLast (by intro e;simp [e] at h),(An _).symm⟩
  intro t mt
  rw [Y6] at mt
  obtain ⟨s,ms,mt⟩:=AT.1 mt
  unfold ZaR at mt
  by_cases h1:x.kind=1
  ·rw [if_pos h1] at mt
   obtain ⟨g,mg,hg⟩:=Ac.1 mt
   obtain ⟨b,hb,rfl⟩:=AH.1 hg
   simp
  ·rw [if_neg h1] at mt
   split at mt
   ·simp at mt;subst mt
    obtain ⟨y,my,hy⟩:=hx
    rcases AE.1 my with my | my
    ·exact ih p (by simpa using h) ⟨y,my,hy⟩ t ms
    ·simp at my;subst my;exact absurd hy h1
   ·simp at mt
theorem ZIZ {R:List Zg} {base F:List Zb} (h:Z0 R base F) {r:Zg} (mr:r∈R) {t:Zu} (mt:t∈Zw (XT r) F) (a:Zz):(Yg F r t a).inn≠[]:=by
 have hl:=(h.rule mr).1
 unfold ZM at hl
 simp only[A4] at hl
 obtain ⟨x,l,e,hx⟩:=ZII hl.1.1
 have hne:=ZJs _ (XT r) rfl ⟨x,AN.2 ⟨by rw [e];simp,by simp [hx]⟩,hx⟩ t mt
 cases hf:t.facts with
 | nil=>exact absurd hf hne
 | cons g l2=>
  have gF:=ZsT mt g (by rw [hf];simp)
  obtain ⟨j,k1,_⟩:=Q6 gF
  have my:ZY F g∈Qr F t.facts:=((Yv F t.facts).2.1 _).2 ⟨g,by rw [hf];simp,rfl,by omega⟩
  intro e2
  have e3:Qr F t.facts=[]:=e2
  rw [e3] at my
  simp at my
theorem ZH2:∀(c l:List Zf),∃E,c.foldl Zjz l=l++E∧∀x∈E,x∈c
 | [],l=>⟨[],by simp,by simp⟩
 | r::c,l=>by
  obtain ⟨E,h1,h2⟩:=ZH2 c (Zjz l r)
  rw [AA,h1]
  unfold Zjz
  split
  ·exact ⟨E,rfl,fun x mx=>by simp [h2 x mx]⟩
  ·refine ⟨r::E,by simp,fun x mx=>?_⟩
   rcases AJ.1 mx with rfl | mx
   ·simp
   ·simp [h2 x mx]
end
section
open Classical
theorem ZhH {row:List Int} {i:Nat} (h:i<row.length):row[i]?=some (lvN row i):=by
 unfold lvN
 rw [A3 h]
 rfl
theorem Zth {x:Int} (h1:-1000000≤x) (h2:x≤1000000):IntKind.i64.wrap x=x:=YW (by omega) (by omega)
theorem ZhU {k:Nat} (h:k<1000000000):IntKind.i64.wrap (((k:Nat):Int)+1)=((k+1:Nat):Int):=Zj (n:=k+1) (by omega) (by omega)
theorem ZtC (l:List Int) (h:l.length≤1073741824):ZiE l=some l:=Zh _ h
/- what a node depends on -/
theorem ZnG {ρ:Type} {n:Nat} {R:List Zf} {x:Int} {l:List Int} {body:List Bool × List Int × Int→Option ((List Bool × List Int × Int) ⊕ ρ)} (g:List Bool × List Int→ρ)
  (h1:∀s i y,Qc n R x s→i<l.length→l[i]?=some y→(0≤y∧y.toNat<n)→body (s.1,s.2,((i:Nat):Int))=some (.inl ((ZeR s y).1,(ZeR s y).2,((i+1:Nat):Int))))
  (h2:∀s,body (s.1,s.2,((l.length:Nat):Int))=some (.inr (g s))) (hl:∀y∈l,(0≤y∧y.toNat<n)∧Zaj R x y):
  ∀(rest pre:List Int) (s:List Bool × List Int),l=pre++rest→Qc n R x s→Yp body (s.1,s.2,((pre.length:Nat):Int))=some (g (rest.foldl ZeR s))
 | [],pre,s,e,_=>by
  rw [List.append_nil] at e
  subst e
  exact Z2 (h2 s)
 | y::rest,pre,s,e,hI=>by
  have hy:l[pre.length]?=some y:=by rw [e];simp
  have my:y∈l:=A8 hy
  have hlt:=(A9.1 hy).1
  rw [Yh (h1 s pre.length y hI hlt hy (hl y my).1)]
  have:=ZnG g h1 h2 hl rest (pre++[y]) (ZeR s y) (by rw [e];simp) (Zto hI (hl y my).1 (hl y my).2).1
  simpa using this
theorem Znp {b:Zr} (h:Q4 b) (x:Int):∃row,Zdf b x=some row∧row.length=b.nodes.toNat∧∀y:Int,0≤y→(row[y.toNat]?=some true↔Zaj b.reasons x y):=by
 have h0:=h.n0
 have h1:=h.n1
 have hn:b.nodes.toNat≤24:=by omega
 unfold Zdf
 rw [Zh _ ⟨h0,by omega⟩]
 have start:Qc b.nodes.toNat b.reasons x (A5 b.nodes.toNat false,[x]):=⟨by simp,[],rfl,by simp,fun y _ hy=>by
  by_cases hl:y.toNat<b.nodes.toNat
  ·simp [hl] at hy
  ·rw [AL (by simp;omega)] at hy;simp at hy,by simp [Zuo,List.countP_replicate]⟩
 refine Zr6 h.ok (fun out todo i=>(out,todo,((i:Nat):Int))) (fun r=>r) ?_ ?_ (b.nodes.toNat+1) _ _ 0 start (by simp) (by omega) (fun j z hj=>by omega)
 ·intro out todo i z hI hi hz hzx
  have hlt:=(A9.1 hz).1
  have ht:decide (((i:Nat):Int)<((todo.length:Nat):Int))=true:=decide_eq_true (by omega)
  simp only[ht,if_true]
  rw [YM (f:=Zg0 z) (fun _ s=>Qc b.nodes.toNat b.reasons x s∧ZgZ (out,todo) s) ⟨hI,.refl _⟩]
  ·rw [ZhU (by omega)]
  ·intro j r s mr _ _ hs
   obtain ⟨hs1,hs2⟩:=hs
   obtain ⟨k1,k2,_⟩:=ZsV h.ok hzx hs1 mr
   refine ⟨?_,k1,hs2.trans k2⟩
   obtain ⟨a,c⟩:=s
   obtain ⟨v,hv⟩:=hs2.more
   simp only at hv
   have hzc:c[i]?=some z:=by rw [hv,Aa hlt];exact hz
   have hcl:i<c.length:=(A9.1 hzc).1
   simp only[AC]
   rw [Zh _ ⟨by omega,by omega⟩,hzc,A0]
   unfold Zg0
   by_cases e:r.for_=z
   ·obtain ⟨f1,f2⟩:=h.few r mr
    have e2:(r.for_ != z)=false:=by simp [e]
    rw [if_pos e,e2]
    simp only[AI,if_false]
    rw [ZtC _ (by omega),A0,Zh _ (by omega)]
    have hd:=ZvK h.ok hzx mr e
    refine ZnG (n:=b.nodes.toNat) (R:=b.reasons) (x:=x) (l:=r.inn++r.outs) (fun s=>Sum.inl s) ?_ ?_ hd (r.inn++r.outs) [] (a,c) rfl hs1
    ·intro s u y hu hul hy hyn
     have hlt2:decide (((u:Nat):Int)<((r.inn.length+r.outs.length:Nat):Int))=true:=decide_eq_true (by rw [AK] at hul;omega)
     simp only[hlt2,if_true,AC]
     rw [AK] at hul
     rw [Zh _ ⟨by omega,by omega⟩,hy,A0]
     have hyl:y.toNat<s.1.length:=by rw [hu.len];exact hyn.2
     rw [Zh _ ⟨hyn.1,by omega⟩,A3 hyl,A0,ZhU (by omega)]
     unfold ZeR
     obtain ⟨t,t1,_,_,t4⟩:=hu.row
     have hlen:s.2.length=t.length+1:=by rw [t1];simp
     by_cases hb:s.1[y.toNat]=true
     ·rw [if_pos hb,if_pos (by rw [A3 hyl,hb])]
     ·rw [if_neg hb,if_neg (by rw [A3 hyl];simpa using hb),Zh _ (by omega)]
    ·intro s
     have hf:decide ((((r.inn++r.outs).length:Nat):Int)<((r.inn.length+r.outs.length:Nat):Int))=false:=decide_eq_false (by rw [AK];omega)
     simp only[hf,AI,if_false]
   ·have e2:(r.for_ != z)=true:=by simp [e]
    rw [if_neg e,e2,if_pos rfl]
 ·intro out todo hI
  simp only[Zy,AI,if_false]
theorem ZfQ {b:Zr} (h:Q4 b):XR b=some true:=by
 unfold XR
 have h60:=h.len
 rw [Zlj h.small (by omega),h.valid,A0,if_pos rfl,ZU (p:=fun _=>true) (r:=true)]
 ·simp
 ·intro i r mr
  rw [ZU (p:=fun _=>true) (r:=.inl ())]
  ·simp
  ·intro j y my
   obtain ⟨k1,k2⟩:=h.strat r mr y my
   obtain ⟨row,e,hl,hd⟩:=Znp h y
   obtain ⟨⟨f0,f1⟩,_,_⟩:=h.ok r mr
   have ey:(y==r.for_)=false:=by simpa using k1
   have hlt:r.for_.toNat<row.length:=by omega
   have hv:row[r.for_.toNat]=false:=by
    cases hb:row[r.for_.toNat] with
    | false=>rfl
    | true=>exact absurd ((hd r.for_ f0).1 (by rw [A3 hlt,hb])) k2
   rw [ey]
   simp only[AI,if_false]
   rw [e,A0,Zh _ ⟨f0,by omega⟩,A3 hlt,A0,hv]
   rfl
/- strata -/
theorem ZkT (n i:Nat):lvN (A5 n 0) i=0:=by
 unfold lvN
 by_cases hi:i<n
 ·simp [hi]
 ·rw [AL (by simp;omega)];rfl
theorem Zp3 {b:Zr} (h:Q4 b):Zds b=some (lvB b):=by
 obtain ⟨hL,hv⟩:=h.lv
 have h0:=h.n0
 have h1:=h.n1
 unfold Zds
 rw [ZfQ h,A0,if_pos rfl,Zh _ ⟨h0,by omega⟩]
 generalize hn:b.nodes.toNat=n at *
 have walk:∀(body:List Int × Int→Option ((List Int × Int) ⊕ List Int)),(∀row (i:Nat),i≤n→row.length=n→(∀j,0≤lvN row j∧lvN row j≤lvN (lvB b) j)→body (row,((i:Nat):Int))=some (.inl (XM b.reasons row,((i+1:Nat):Int))))→(∀row,body (row,((n+1:Nat):Int))=some (.inr row))→
   ∀d i row,i+d=n+1→row.length=n→(∀j,0≤lvN row j∧lvN row j≤lvN (lvB b) j)→Yp body (row,((i:Nat):Int))=some (ZsN b.reasons d row):=by
  intro body b1 b2 d
  induction d with
  | zero=>
   intro i row hi hl hb
   obtain rfl:i=n+1:=by omega
   exact Z2 (b2 row)
  | succ d ih=>
   intro i row hi hl hb
   rw [Yh (b1 row i (by omega) hl hb)]
   exact ih (i+1) _ (by omega) (by rw [Ze8];exact hl) fun j=>⟨AQ (hb j).1 (Zbk b.reasons row j),Zdt hL.sol (fun _ h=>h) (fun j=>(hb j).2) j⟩
 rw [←Zmq hL (by have:=h.ok;rw [hn] at this;exact this) (n+1) (A5 n 0) (by simp) (fun j=>by rw [ZkT];exact AM _) (fun j=>by rw [ZkT];exact (hv j).1) (by have:=Ztp n (lvB b) (A5 n 0);omega)]
 refine walk _ ?_ ?_ (n+1) 0 _ (by omega) (by simp) (fun j=>by rw [ZkT];exact ⟨AM _,(hv j).1⟩)
 ·intro row i hi hl hb
  have ht:decide (((i:Nat):Int)≤b.nodes)=true:=decide_eq_true (by omega)
  simp only[ht,if_true]
  rw [YM (f:=XS) (fun _ s=>s.length=n∧∀j,0≤lvN s j∧lvN s j≤lvN (lvB b) j) ⟨hl,hb⟩]
  ·rw [ZhU (by omega)]
   rfl
  ·intro j r s mr _ _ hs
   obtain ⟨hs1,hs2⟩:=hs
   have hok:=h.ok r mr
   rw [hn] at hok
   obtain ⟨⟨f0,f1⟩,f2,f3⟩:=hok
   refine ⟨?_,by rw [Zc4];exact hs1,fun j=>⟨AQ (hs2 j).1 (ZgM s r j),Zln hL.sol mr (fun j=>(hs2 j).2) j⟩⟩
   have hout:∀y∈r.outs,y.toNat≠r.for_.toNat:=fun y my e=>(h.strat r mr y my).1 (by have:=f3 y my;omega)
   rw [YM (f:=fun u y=>u.set r.for_.toNat (mx (lvN u r.for_.toNat) (lvN u y.toNat))) (fun _ u=>u.length=n∧∀j,j≠r.for_.toNat→lvN u j=lvN s j) ⟨hs1,fun _ _=>rfl⟩]
   ·rw [YM (f:=fun u y=>u.set r.for_.toNat (mx (lvN u r.for_.toNat) (lvN u y.toNat+1))) (fun _ u=>u.length=n∧∀j,j≠r.for_.toNat→lvN u j=lvN s j)]
    ·rw [Zsx (by omega) hout]
    ·have e:=Zpx (row:=s) (f:=r.for_.toNat) (by omega) r.inn (lvN s r.for_.toNat) (AM _)
     rw [Zu6 (by omega)] at e
     rw [e]
     exact ⟨by simp [hs1],fun j hj=>by rw [Zad,if_neg fun hh=>hj hh.1]⟩
    ·intro j y u my _ _ hu
     obtain ⟨y0,y1⟩:=f3 y my
     have hy:=hout y my
     have hyv:=hu.2 y.toNat hy
     have hb1:=hs2 y.toNat
     have hb2:=hv y.toNat
     refine ⟨?_,by simp [hu.1],fun j hj=>by rw [Zad,if_neg fun hh=>hj hh.1];exact hu.2 j hj⟩
     rw [Zh _ ⟨f0,by omega⟩,ZhH (by omega),A0,Zh _ ⟨y0,by omega⟩,ZhH (by omega),A0,Zth (by omega) (by omega)]
     rfl
   ·intro j y u my _ _ hu
    obtain ⟨y0,y1⟩:=f2 y my
    refine ⟨?_,by simp [hu.1],fun j hj=>by rw [Zad,if_neg fun hh=>hj hh.1];exact hu.2 j hj⟩
    rw [Zh _ ⟨f0,by omega⟩,ZhH (by omega),A0,Zh _ ⟨y0,by omega⟩,ZhH (by omega),A0]
    rfl
 ·intro row
  have hf:decide (((n+1:Nat):Int)≤b.nodes)=false:=decide_eq_false (by omega)
  simp only[hf,AI,if_false]
theorem Zuu {b:Zr} (h:Q4 b):ZgJ b=some (lvB b):=by
 obtain ⟨hL,hv⟩:=h.lv
 have h0:=h.n0
 have h1:=h.n1
 unfold ZgJ
 rw [Zh _ ⟨h0,by omega⟩]
 refine Zqg hL h.ok (fun row m=>(row,m)) (fun row=>row) ?_ ?_ b.nodes.toNat _ (by simp) (fun j=>by rw [ZkT];exact ⟨AM _,(hv j).1⟩) (Ztp _ _ _)
 ·intro row hl hb
  simp only[if_true]
  rw [YM (f:=ZcH) (fun _ s=>s.1.length=b.nodes.toNat∧∀j,0≤lvN s.1 j∧lvN s.1 j≤lvN (lvB b) j) ⟨hl,hb⟩]
  intro j r s mr _ _ hs
  obtain ⟨hs1,hs2⟩:=hs
  obtain ⟨⟨f0,f1⟩,f2,f3⟩:=h.ok r mr
  obtain ⟨row,m⟩:=s
  simp only at hs1 hs2
  refine ⟨?_,?_⟩
  ·dsimp only
   rw [Zh _ ⟨f0,by omega⟩,ZhH (by omega),A0]
   rw [Zif (f:=fun u y=>mx u (lvN row y.toNat)) fun j y u my=>by
    obtain ⟨y0,y1⟩:=f2 y my
    rw [Zh _ ⟨y0,by omega⟩,ZhH (by omega),A0]
    rfl]
   rw [Zif (f:=fun u y=>mx u (lvN row y.toNat+1)) fun j y u my=>by
    obtain ⟨y0,y1⟩:=f3 y my
    have hb1:=hs2 y.toNat
    have hb2:=hv y.toNat
    rw [Zh _ ⟨y0,by omega⟩,ZhH (by omega),A0,Zth (by omega) (by omega)]
    rfl]
   show (if decide (lvN row r.for_.toNat<Zh3 row r)=true then some (Sum.inl (row.set r.for_.toNat (Zh3 row r),true)) else some (Sum.inl (row,m)))=some (Sum.inl (ZcH (row,m) r))
   unfold ZcH
   by_cases hc:lvN row r.for_.toNat<Zh3 row r
   ·rw [if_pos (decide_eq_true hc),if_pos hc]
    rfl
   ·rw [if_neg (by simpa using hc),if_neg hc]
  ·unfold ZcH
   by_cases hc:lvN row r.for_.toNat<Zh3 row r
   ·rw [if_pos hc]
    exact ⟨by rw [Zc4];exact hs1,fun j=>⟨AQ (hs2 j).1 (ZgM row r j),Zln hL.sol mr (fun j=>(hs2 j).2) j⟩⟩
   ·rw [if_neg hc]
    exact ⟨hs1,hs2⟩
 ·intro row
  rfl
end
section
open Classical
theorem Zs5 {n k:Nat} {row:List Int} (h:RIn n row k) {y:Int} (h0:0≤y) (hy:y.toNat<n):atI row y=some (rdN row y)∧row[y.toNat]?=some (rdN row y):=by
 obtain ⟨v,hv,_⟩:=h.val y.toNat hy
 have e:row[y.toNat]?=some (rdN row y):=by unfold rdN;rw [hv];rfl
 refine ⟨?_,e⟩
 unfold atI
 rw [if_pos h0,e]
noncomputable def Zpu (row:List Int) (k:Nat) (y:Int):Bool:=decide (0≤rdN row y∧rdN row y<((k:Nat):Int))
noncomputable def ZpC (row:List Int) (y:Int):Bool:=decide (rdN row y<0)
theorem Zq3 {ρ:Type} {n k:Nat} {row:List Int} (h:RIn n row k) {l:List Int} (hl:∀y∈l,0≤y∧y.toNat<n) {fin:Unit→Option ρ} {z:ρ} {body:Nat→Int→Unit→Option (Unit ⊕ ρ)}
  (hb:∀i y u,body i y u=(atI row y).bind fun x=>if decide (x<0)=true then some (.inr z) else if decide (((k:Nat):Int)≤x)=true then some (.inr z) else some (.inl ())):Zo body fin l 0 ()=if l.all (Zpu row k)=true then fin () else some z:=by
 rw [ZU (p:=Zpu row k) (r:=z)]
 intro i y my
 obtain ⟨y0,y1⟩:=hl y my
 rw [hb,(Zs5 h y0 y1).1,A0]
 unfold Zpu
 by_cases h1:rdN row y<0
 ·rw [if_pos (decide_eq_true h1),decide_eq_false (by omega)];rfl
 ·rw [if_neg (by simpa using h1)]
  by_cases h2:((k:Nat):Int)≤rdN row y
  ·rw [if_pos (decide_eq_true h2),decide_eq_false (by omega)];rfl
  ·rw [if_neg (by simpa using h2),decide_eq_true (by omega)];rfl
theorem Zp4 {ρ:Type} {n k:Nat} {row:List Int} (h:RIn n row k) {l:List Int} (hl:∀y∈l,0≤y∧y.toNat<n) {fin:Unit→Option ρ} {z:ρ} {body:Nat→Int→Unit→Option (Unit ⊕ ρ)}
  (hb:∀i y u,body i y u=(atI row y).bind fun x=>if decide (0≤x)=true then some (.inr z) else some (.inl ())):Zo body fin l 0 ()=if l.all (ZpC row)=true then fin () else some z:=by
 rw [ZU (p:=ZpC row) (r:=z)]
 intro i y my
 obtain ⟨y0,y1⟩:=hl y my
 rw [hb,(Zs5 h y0 y1).1,A0]
 unfold ZpC
 by_cases h1:0≤rdN row y
 ·rw [if_pos (decide_eq_true h1),decide_eq_false (by omega)];rfl
 ·rw [if_neg (by simpa using h1),decide_eq_true (by omega)];rfl
theorem ZeQ {row:List Int} {k:Nat} {r:Zf}:(r.inn.all (Zpu row k)=true∧r.outs.all (ZpC row)=true)↔ZiT row k r:=by
 simp only[AG,Zpu,ZpC,decide_eq_true_eq]
 exact Iff.rfl
theorem ZoE {n k:Nat} {row:List Int} (h:RIn n row k) {r:Zf} (hr:OkN n r):ZaY r row ((k:Nat):Int)=some (decide (ZiT row k r)):=by
 unfold ZaY
 rw [Zq3 h hr.2.1 fun i y u=>rfl,Zp4 h hr.2.2 fun i y u=>rfl]
 by_cases h1:r.inn.all (Zpu row k)=true
 ·rw [if_pos h1]
  by_cases h2:r.outs.all (ZpC row)=true
  ·rw [if_pos h2,decide_eq_true (ZeQ.1 ⟨h1,h2⟩)]
  ·rw [if_neg h2,decide_eq_false fun h=>h2 (ZeQ.2 h).2]
 ·rw [if_neg h1,decide_eq_false fun h=>h1 (ZeQ.2 h).1]
theorem Zpv {n k:Nat} {row:List Int} (h:RIn n row k) {l:List Int} (hl:∀y∈l,0≤y∧y.toNat<n):Zcz l row ((k:Nat):Int)=some (l.all (Zpu row k)):=by
 unfold Zcz
 rw [Zq3 h hl fun i y u=>rfl]
 cases l.all (Zpu row k)<;>rfl
theorem ZsB {n k:Nat} {row:List Int} (h:RIn n row k) {l:List Int} (hl:∀y∈l,0≤y∧y.toNat<n):Ze5 l row=some (l.all (ZpC row)):=by
 unfold Ze5
 rw [Zp4 h hl fun i y u=>rfl]
 cases l.all (ZpC row)<;>rfl
/- the program's rounds -/
theorem Zwl {n:Nat} {L:List Int} {ρ:Type} {body:List Int × Int × Int→Option ((List Int × Int × Int) ⊕ ρ)} {r:ρ} (hv:∀i,0≤lvN L i∧lvN L i≤((n:Nat):Int))
  (h1:∀k row u,k<n→row.length=n→body (row,((k:Nat):Int),u)=some (.inl (row.set k (-1),((k+1:Nat):Int),mx u (lvN L k))))
  (h2:∀u,0≤u→u≤((n:Nat):Int)→(∀i,i<n→lvN L i≤u)→body (A5 n (-1),((n:Nat):Int),u)=some (.inr r)):
  ∀m k row u,k+m=n→row.length=n→(∀i,i<k→row[i]?=some (-1))→0≤u→u≤((n:Nat):Int)→(∀i,i<k→lvN L i≤u)→Yp body (row,((k:Nat):Int),u)=some r:=by
 intro m
 induction m with
 | zero=>
  intro k row u hk hl hr h0 hu hm
  obtain rfl:k=n:=by omega
  have:row=A5 k (-1):=by
   apply List.ext_getElem?
   intro i
   by_cases hi:i<k
   ·rw [hr i hi];simp [hi]
   ·rw [AL (by omega),AL (by simp;omega)]
  rw [this]
  exact Z2 (h2 u h0 hu hm)
 | succ m ih=>
  intro k row u hk hl hr h0 hu hm
  rw [Yh (h1 k row u (by omega) hl)]
  have hx:=Zu4 u (lvN L k)
  refine ih (k+1) _ _ (by omega) (by simp [hl]) (fun i hi=>?_) (by omega) (ZxU hu (hv k).2) fun i hi=>?_
  ·rw [Ah]
   by_cases e:k=i
   ·rw [if_pos e,if_pos (by omega)]
   ·rw [if_neg e];exact hr i (by omega)
  ·by_cases e:i=k
   ·rw [e];exact hx.2
   ·exact AQ (hm i (by omega)) hx.1
theorem Zxd {b:Zr} (h:Q4 b) {t:Nat} (ht:∀i,i<b.nodes.toNat→lvN (lvB b) i≤((t:Nat):Int)):(Xl b.reasons (lvB b) b.nodes.toNat (A7 0 (t+1)) (A5 b.nodes.toNat (-1),0)).1=rdB b:=by
 unfold rdB
 rw [←Am,ZrN (a:=t+1) (b:=b.nodes.toNat)]
 ·intro r mr
  have:=ht r.for_.toNat (h.ok r mr).1.2
  omega
 ·intro r mr
  have:=(h.lv.2 r.for_.toNat).2
  have:=(h.ok r mr).1.2
  omega
theorem ZoC {ρ:Type} {n k:Nat} {row:List Int} (hl:row.length=n) {l:List Int} (hx:∀x∈l,0≤x∧x.toNat<n) {fin:List Int→Option ρ} {body:Nat→Int→List Int→Option (List Int ⊕ ρ)}
  (hb:∀i x s,body i x s=chk (0≤x∧x<((s.length:Nat):Int)) ((s[AO x]?).bind fun _=>some (.inl (List.set s (AO x) ((k:Nat):Int))))):Zo body fin l 0 row=fin (ZcJ row l ((k:Nat):Int)):=by
 rw [YM (f:=fun s x=>s.set x.toNat ((k:Nat):Int)) (fun _ s=>s.length=n) hl]
 ·rfl
 ·intro j x s mx _ _ hs
  obtain ⟨x0,x1⟩:=hx x mx
  refine ⟨?_,by simp [hs]⟩
  rw [hb,Zh _ ⟨x0,by omega⟩,A3 (show x.toNat<s.length by omega),A0]
theorem Zox {n:Nat} {R:List Zf} (hR:∀r∈R,OkN n r) {L:List Int} {s:Int} {row:List Int} {k:Nat}:∀x∈Yw R L s row k,0≤x∧x.toNat<n:=fun x mx=>by
 obtain ⟨r,mr,rfl,_⟩:=ZbV.1 mx
 exact (hR r mr).1
theorem ZlG {b:Zr} (h:Q4 b) {ρ:Type} {row:List Int} {k s:Nat} (hI:RIn b.nodes.toNat row k) {fin:List Int→Option ρ} {body:Nat→Zf→List Int→Option (List Int ⊕ ρ)}
  (hb:∀i r acc,body i r acc=chk (0≤r.for_∧r.for_<(((lvB b).length:Nat):Int)) (((lvB b)[(AO r.for_)]?).bind fun x111=>
         if (x111==((s:Nat):Int))=true then
          chk (r.for_<((row.length:Nat):Int)) <|
          (row[(AO r.for_)]?).bind fun x112=>
          if (decide (x112<0))=true then
           (ZaY r row ((k:Nat):Int)).bind fun v113=>
           if v113=true then
            chk (acc.length+1≤1073741824) <|
            some (.inl (acc++[r.for_]))
           else
            some (.inl acc)
          else
           some (.inl acc)
         else
          some (.inl acc))):Zo body fin b.reasons 0 []=fin (Yw b.reasons (lvB b) ((s:Nat):Int) row k):=by
 have hLl:=h.lv.1.len
 have h60:=h.len
 rw [YC (g:=fun r=>if lvN (lvB b) r.for_.toNat=((s:Nat):Int)∧rdN row r.for_<0∧ZiT row k r then some r.for_ else none)]
 ·rfl
 ·intro j r acc mr ha
  simp only[AR,AD] at ha
  have hok:=h.ok r mr
  obtain ⟨f0,f1⟩:=hok.1
  rw [hb,Zh _ ⟨f0,by omega⟩,ZhH (by omega),A0]
  by_cases c1:lvN (lvB b) r.for_.toNat=((s:Nat):Int)
  ·rw [if_pos (by simpa using c1),Zh _ (by rw [hI.len];omega),(Zs5 hI f0 f1).2,A0]
   by_cases c2:rdN row r.for_<0
   ·rw [if_pos (decide_eq_true c2),ZoE hI hok,A0]
    by_cases c3:ZiT row k r
    ·rw [if_pos (decide_eq_true c3),Zh _ (by omega),if_pos ⟨c1,c2,c3⟩];rfl
    ·rw [if_neg (by simpa using c3),if_neg fun hh=>c3 hh.2.2];simp
   ·rw [if_neg (by simpa using c2),if_neg fun hh=>c2 hh.2.1];simp
  ·rw [if_neg (by simpa using c1),if_neg fun hh=>c1 hh.1];simp
theorem ZtV {b:Zr} (h:Q4 b):ZfZ b=some (rdB b):=by
 obtain ⟨hL,hv⟩:=h.lv
 have h0:=h.n0
 have h1:=h.n1
 have h60:=h.len
 unfold ZfZ
 rw [Zuu h,A0,Zh _ ⟨h0,by omega⟩]
 have hv':∀i,0≤lvN (lvB b) i∧lvN (lvB b) i≤((b.nodes.toNat:Nat):Int):=fun i=>by have:=hv i;omega
 refine Zwl (n:=b.nodes.toNat) (L:=lvB b) hv' ?_ ?_ b.nodes.toNat 0 _ 0 (by omega) (by simp) (fun i hi=>by omega) (AM _) (by omega) (fun i hi=>by omega)
 ·intro k row u hk hl
  have ht:decide (((k:Nat):Int)<((b.nodes.toNat:Nat):Int))=true:=decide_eq_true (by omega)
  simp only[ht,if_true,AC]
  have:=hL.len
  rw [Zh _ ⟨by omega,by omega⟩,A3 (show k<row.length by omega),A0,Zh _ (by omega),ZhH (by omega),A0,ZhU (by omega)]
  rfl
 ·intro u u0 un um
  simp only[Zy,AI,if_false]
  obtain ⟨t,rfl⟩:∃t:Nat,u=((t:Nat):Int):=⟨u.toNat,by omega⟩
  rw [←Zxd h um]
  refine Zro (top:=t) h.ok (fun row k s=>(row,((k:Nat):Int),((s:Nat):Int))) (fun row=>Sum.inr row) ?_ ?_ ?_ (t+1) 0 _ 0 (by omega) (Zg9 _)
  ·intro row k s hI hs hc
   have ht:decide (((s:Nat):Int)≤((t:Nat):Int))=true:=decide_eq_true (by omega)
   simp only[ht,if_true]
   rw [ZlG h hI fun i r acc=>rfl]
   have hl0:((((Yw b.reasons (lvB b) ((s:Nat):Int) row k).length:Nat):Int)==0)=false:=by
    have:(Yw b.reasons (lvB b) ((s:Nat):Int) row k).length≠0:=fun e=>hc (AX e)
    simpa using this
   simp only[hl0,AI,if_false]
   rw [ZoC hI.len (Zox h.ok) fun i x s=>rfl,ZhU (by have:=hI.few;omega)]
  ·intro row k s hI hs hc
   have ht:decide (((s:Nat):Int)≤((t:Nat):Int))=true:=decide_eq_true (by omega)
   simp only[ht,if_true]
   rw [ZlG h hI fun i r acc=>rfl,hc,ZhU (by omega)]
   rfl
  ·intro row k hI
   have hf:decide (((t+1:Nat):Int)≤((t:Nat):Int))=false:=decide_eq_false (by omega)
   simp only[hf,AI,if_false]
/- the reference's rounds -/
noncomputable def ZiG (n:Nat) (R:List Zf) (L:List Int) (s:Int) (row:List Int) (k x:Nat):Option Int:=if lvN L x=s∧rdN row ((x:Nat):Int)<0∧R.any (fun r=>decide (r.for_=((x:Nat):Int)∧ZiT row k r))=true then some ((x:Nat):Int) else none
theorem ZnW {n:Nat} {R:List Zf} (hR:∀r∈R,OkN n r) {L:List Int} {s:Int} {row:List Int} {k:Nat} {x:Int}:x∈(A7 0 n).filterMap (ZiG n R L s row k)↔x∈Yw R L s row k:=by
 rw [ZbV,Ac]
 constructor
 ·rintro ⟨i,mi,hi⟩
  unfold ZiG at hi
  split at hi
  ·rename_i hc
   obtain rfl:=Ab hi
   obtain ⟨h1,h2,h3⟩:=hc
   obtain ⟨r,mr,hr⟩:=Aq.1 h3
   rw [decide_eq_true_iff] at hr
   exact ⟨r,mr,hr.1,by simpa using h1,h2,hr.2⟩
  ·simp at hi
 ·rintro ⟨r,mr,rfl,h1,h2,h3⟩
  obtain ⟨f0,f1⟩:=(hR r mr).1
  have e:((r.for_.toNat:Nat):Int)=r.for_:=Ad f0
  refine ⟨r.for_.toNat,List.mem_range'.2 ⟨r.for_.toNat,f1,by omega⟩,?_⟩
  unfold ZiG
  rw [if_pos ⟨h1,by rw [e];exact h2,Aq.2 ⟨r,mr,by rw [decide_eq_true_iff,e];exact ⟨rfl,h3⟩⟩⟩,e]
theorem Zj4 {b:Zr} (h:Q4 b) {row:List Int} {k s:Nat} (hI:RIn b.nodes.toNat row k):ZbH b (lvB b) ((s:Nat):Int) row ((k:Nat):Int)=some ((A7 0 b.nodes.toNat).filterMap (ZiG b.nodes.toNat b.reasons (lvB b) ((s:Nat):Int) row k)):=by
 obtain ⟨hL,hv⟩:=h.lv
 have h0:=h.n0
 have h1:=h.n1
 unfold ZbH
 have walk:∀(body:List Int × Int→Option ((List Int × Int) ⊕ List Int)) (G:Nat→Option Int),(∀acc (i:Nat),i<b.nodes.toNat→acc.length≤24→body (acc,((i:Nat):Int))=some (.inl (acc++(G i).toList,((i+1:Nat):Int))))→(∀acc,body (acc,((b.nodes.toNat:Nat):Int))=some (.inr acc))→
   ∀d i acc,i+d=b.nodes.toNat→acc.length≤i→Yp body (acc,((i:Nat):Int))=some (acc++(A7 i d).filterMap G):=by
  intro body G b1 b2 d
  induction d with
  | zero=>
   intro i acc hi ha
   obtain rfl:i=b.nodes.toNat:=by omega
   rw [Z2 (b2 acc)]
   simp
  | succ d ih=>
   intro i acc hi ha
   rw [Yh (b1 acc i (by omega) (by omega)),ih (i+1) _ (by omega) (by rw [AK];cases G i<;>simp<;>omega),B2,List.filterMap_cons]
   cases G i<;>simp
 refine walk _ (ZiG b.nodes.toNat b.reasons (lvB b) ((s:Nat):Int) row k) ?_ ?_ b.nodes.toNat 0 [] (by omega) (by simp)
 ·intro acc i hi ha
  have ht:decide (((i:Nat):Int)<b.nodes)=true:=decide_eq_true (by omega)
  have hLl:=hL.len
  have e1:atI (lvB b) ((i:Nat):Int)=some (lvN (lvB b) i):=by rw [Zav];exact ZhH (by omega)
  have e2:=(Zs5 hI (y:=((i:Nat):Int)) (by omega) (by simpa using hi)).1
  simp only[ht,if_true]
  rw [e1,A0,e2,ZhU (by omega)]
  unfold ZiG
  by_cases c1:lvN (lvB b) i=((s:Nat):Int)
  ·have d1:(lvN (lvB b) i != ((s:Nat):Int))=false:=by simp [c1]
   simp only[d1,AI,if_false,A0]
   by_cases c2:rdN row ((i:Nat):Int)<0
   ·have d2:decide (0≤rdN row ((i:Nat):Int))=false:=decide_eq_false (by omega)
    simp only[d2,AI,if_false]
    rw [Zco (p:=fun r=>decide (r.for_=((i:Nat):Int)∧ZiT row k r)) (r:=.inl (acc++[((i:Nat):Int)],((i+1:Nat):Int)))]
    ·by_cases c3:b.reasons.any (fun r=>decide (r.for_=((i:Nat):Int)∧ZiT row k r))=true
     ·rw [if_pos c3,if_pos ⟨c1,c2,c3⟩];rfl
     ·rw [if_neg c3,if_neg fun hh=>c3 hh.2.2];simp
    ·intro j r mr
     obtain ⟨f1,f2,f3⟩:=h.ok r mr
     by_cases c3:r.for_=((i:Nat):Int)
     ·rw [if_pos (by simpa using c3),Zpv hI f2,A0]
      by_cases c4:r.inn.all (Zpu row k)=true
      ·rw [if_pos c4,ZsB hI f3,A0]
       by_cases c5:r.outs.all (ZpC row)=true
       ·rw [if_pos c5,Zh _ (by omega),decide_eq_true ⟨c3,ZeQ.1 ⟨c4,c5⟩⟩];rfl
       ·rw [if_neg c5,decide_eq_false fun hh=>c5 (ZeQ.2 hh.2).2];rfl
      ·rw [if_neg c4,decide_eq_false fun hh=>c4 (ZeQ.2 hh.2).1];rfl
     ·rw [if_neg (by simpa using c3),decide_eq_false fun hh=>c3 hh.1];rfl
   ·have d2:decide (0≤rdN row ((i:Nat):Int))=true:=decide_eq_true (by omega)
    simp only[d2,if_true]
    rw [if_neg fun hh=>c2 hh.2.1];simp
  ·have d1:(lvN (lvB b) i != ((s:Nat):Int))=true:=by simp [c1]
   simp only[d1,if_true]
   rw [if_neg fun hh=>c1 hh.1];simp
 ·intro acc
  have hf:decide (((b.nodes.toNat:Nat):Int)<b.nodes)=false:=decide_eq_false (by omega)
  simp only[hf,AI,if_false]
theorem Zqq {b:Zr} (h:Q4 b):ZdF b=some (rdB b):=by
 have h0:=h.n0
 have h1:=h.n1
 unfold ZdF
 rw [ZfQ h,A0,if_pos rfl,Zp3 h,A0]
 have walk:∀(body:List Int × Int→Option ((List Int × Int) ⊕ List Int)),(∀(i:Nat),i<b.nodes.toNat→body (A5 i (-1),((i:Nat):Int))=some (.inl (A5 i (-1)++[-1],((i+1:Nat):Int))))→body (A5 b.nodes.toNat (-1),((b.nodes.toNat:Nat):Int))=some (.inr (rdB b))→
   ∀d i,i+d=b.nodes.toNat→Yp body (A5 i (-1),((i:Nat):Int))=some (rdB b):=by
  intro body b1 b2 d
  induction d with
  | zero=>
   intro i hi
   obtain rfl:i=b.nodes.toNat:=by omega
   exact Z2 b2
  | succ d ih=>
   intro i hi
   rw [Yh (b1 i (by omega)),←ih (i+1) (by omega),List.replicate_succ']
 refine walk _ ?_ ?_ b.nodes.toNat 0 (by omega)
 ·intro i hi
  have ht:decide (((i:Nat):Int)<b.nodes)=true:=decide_eq_true (by omega)
  simp only[ht,if_true]
  rw [Zh _ (by simp;omega),ZhU (by omega)]
 ·have hf:decide (((b.nodes.toNat:Nat):Int)<b.nodes)=false:=decide_eq_false (by omega)
  simp only[hf,AI,if_false]
  have walk2:∀(body:List Int × Int × Int→Option ((List Int × Int × Int) ⊕ ((List Int × Int) ⊕ List Int))),(∀row (k s:Nat),RIn b.nodes.toNat row k→s<b.nodes.toNat→body (row,((k:Nat):Int),((s:Nat):Int))=some (.inl ((YL b.reasons (lvB b) ((s:Nat):Int) b.nodes.toNat row k).1,(((YL b.reasons (lvB b) ((s:Nat):Int) b.nodes.toNat row k).2:Nat):Int),((s+1:Nat):Int))))→(∀row (k:Nat),body (row,((k:Nat):Int),((b.nodes.toNat:Nat):Int))=some (.inr (.inr row)))→
    ∀d s row k,s+d=b.nodes.toNat→RIn b.nodes.toNat row k→Yp body (row,((k:Nat):Int),((s:Nat):Int))=some (.inr (Xl b.reasons (lvB b) b.nodes.toNat (A7 s d) (row,k)).1):=by
   intro body b1 b2 d
   induction d with
   | zero=>
    intro s row k hs hI
    obtain rfl:s=b.nodes.toNat:=by omega
    exact Z2 (b2 row k)
   | succ d ih=>
    intro s row k hs hI
    rw [Yh (b1 row k s hI (by omega))]
    exact ih (s+1) _ _ (by omega) (ZdK h.ok b.nodes.toNat row k hI (by have:=hI.few;omega)).1
  have e:rdB b=(Xl b.reasons (lvB b) b.nodes.toNat (A7 0 b.nodes.toNat) (A5 b.nodes.toNat (-1),0)).1:=by unfold rdB;rw [Am]
  rw [e]
  refine walk2 _ ?_ ?_ b.nodes.toNat 0 _ 0 (by omega) (Zg9 _)
  ·intro row k s hI hs
   have ht:decide (((s:Nat):Int)<b.nodes)=true:=decide_eq_true (by omega)
   simp only[ht,if_true]
   rw [Zj4 h hI,A0,ZhU (by omega)]
   refine Zr7 (s:=((s:Nat):Int)) h.ok (fun row k l=>(row,l,((k:Nat):Int))) (fun row k=>Sum.inl (row,((k:Nat):Int),((s+1:Nat):Int))) (fun row k=>(A7 0 b.nodes.toNat).filterMap (ZiG b.nodes.toNat b.reasons (lvB b) ((s:Nat):Int) row k)) (fun row k x _=>ZnW h.ok) ?_ ?_ b.nodes.toNat row k hI (by have:=hI.few;omega)
   ·intro row k hI hc hN
    have hlt:decide (0<((((A7 0 b.nodes.toNat).filterMap (ZiG b.nodes.toNat b.reasons (lvB b) ((s:Nat):Int) row k)).length:Nat):Int))=true:=by
     have:((A7 0 b.nodes.toNat).filterMap (ZiG b.nodes.toNat b.reasons (lvB b) ((s:Nat):Int) row k)).length≠0:=fun e=>hc (AX e)
     exact decide_eq_true (by omega)
    simp only[hlt,if_true]
    rw [ZoC hI.len (fun x mx=>Zox h.ok x (ZnW h.ok |>.1 mx)) fun i x s=>rfl,ZhU (by have:=hI.few;omega),Zj4 h hN,A0]
   ·intro row k hI
    rfl
  ·intro row k
   simp only[hf,AI,if_false]
end
section
open Classical
theorem Zkj {ρ:Type} {l:List Int} (hl:l.length≤1000) {fin:List Bool→Option ρ} {body:Nat→Int→List Bool→Option (List Bool ⊕ ρ)} (hb:∀i x s,body i x s=chk (s.length+1≤1073741824) (some (.inl (s++[decide (0≤x)])))):Zo body fin l 0 []=fin (l.map fun x=>decide (0≤x)):=by
 rw [Zjo (g:=fun x=>decide (0≤x))]
 ·rfl
 ·intro j x s _ hs
  simp at hs
  rw [hb,Zh _ (by omega)]
theorem Zub {b:Zr} (h:Q4 b):Zgt b=some ((rdB b).map fun x=>decide (0≤x)):=by
 unfold Zgt
 have:=h.n1
 rw [ZtV h,A0,Zkj (by rw [h.rd];omega) fun i x s=>rfl]
theorem Zqb {b:Zr} (h:Q4 b):Zd0 b=some ((rdB b).map fun x=>decide (0≤x)):=by
 unfold Zd0
 have:=h.n1
 rw [Zqq h,A0,Zkj (by rw [h.rd];omega) fun i x s=>rfl]
theorem Zme {ρ:Type} {fin:List Zb→Option ρ} {body:Nat→Bool→List Zb→Option (List Zb ⊕ ρ)} {F:List Zb} (hF:∀f∈F,f.args.length≤1048576) (hl:F.length≤1000)
  (hb:∀i x s,body i x s=if x=true then (atI F ((i:Nat):Int)).bind fun f=>(YA f).bind fun g=>chk (s.length+1≤1073741824) (some (.inl (s++[g]))) else some (.inl s)):
  ∀(rest:List Zb) (l:List Int) (pre acc:List Zb),F=pre++rest→l.length=rest.length→acc.length≤pre.length→Zo body fin (l.map fun x=>decide (0≤x)) pre.length acc=fin (acc++YT rest l)
 | [],[],pre,acc,_,_,_=>by simp [Zo,YT]
 | [],_::_,_,_,_,e,_=>by simp at e
 | _::_,[],_,_,_,e,_=>by simp at e
 | f::rest,v::l,pre,acc,e,el,ha=>by
  have hf:F[pre.length]?=some f:=by rw [e];simp
  have hlt:=(A9.1 hf).1
  have ih:=fun acc' h'=>Zme (fin:=fin) hF hl hb rest l (pre++[f]) acc' (by rw [e];simp) (by simpa using el) h'
  simp only[AK,Ai] at ih
  rw [B3]
  unfold YT
  by_cases hv:0≤v
  ·rw [ZX (s':=acc++[f]) (by
    rw [hb,if_pos (decide_eq_true hv),Zav,hf,A0,YN _ (hF f (A8 hf)),A0,Zh _ (by omega)]),ih _ (by simp;omega),if_pos hv]
   simp
  ·rw [ZX (s':=acc) (by rw [hb,if_neg (by simpa using hv)]),ih _ (by omega),if_neg hv]
theorem Zlt {ρ:Type} {fin:List Zb→Option ρ} {body:Nat→Zb→List Zb→Option (List Zb ⊕ ρ)} {L:List Bool} {N:Nat} (hN:N≤1000) {z:List Zb→ρ}
  (hb:∀i x s,body i x s=if decide (((i:Nat):Int)<((L.length:Nat):Int))=true then chk (0≤((i:Nat):Int)∧((i:Nat):Int)<((L.length:Nat):Int)) ((L[i]?).bind fun v=>if v=true then (Xj x).bind fun g=>chk (s.length+1≤1073741824) (some (.inl (s++[g]))) else some (.inl s)) else some (.inr (z s))):
  ∀(rest:List Zb) (l:List Int) (pre:List Bool) (acc:List Zb),(∀f∈rest,f.args.length≤1048576)→L=pre++(l.map fun x=>decide (0≤x))→l.length=rest.length→acc.length≤pre.length→pre.length+rest.length≤N→Zo body fin rest pre.length acc=fin (acc++YT rest l)
 | [],[],pre,acc,_,_,_,_,_=>by simp [Zo,YT]
 | [],_::_,_,_,_,_,e,_,_=>by simp at e
 | _::_,[],_,_,_,_,e,_,_=>by simp at e
 | f::rest,v::l,pre,acc,hF,e,el,ha,hn=>by
  have hf:L[pre.length]?=some (decide (0≤v)):=by rw [e];simp
  have hlt:=(A9.1 hf).1
  have ih:=fun acc' h'=>Zlt (fin:=fin) hN hb rest l (pre++[decide (0≤v)]) acc' (fun g mg=>hF g (by simp [mg])) (by rw [e];simp) (by simpa using el) h' (by simp at hn ⊢;omega)
  simp only[AK,Ai] at ih
  simp only[AY] at hn
  have hx:∀s,body pre.length f s=if 0≤v then chk (s.length+1≤1073741824) (some (.inl (s++[f]))) else some (.inl s):=fun s=>by
   rw [hb,if_pos (decide_eq_true (by omega)),Zh _ ⟨by omega,by omega⟩,hf,A0]
   by_cases hv:0≤v
   ·rw [if_pos (decide_eq_true hv),if_pos hv,Xb _ (hF f (by simp)),A0]
   ·rw [if_neg (by simpa using hv),if_neg hv]
  unfold YT
  by_cases hv:0≤v
  ·rw [ZX (s':=acc++[f]) (by rw [hx,if_pos hv,Zh _ (by omega)]),ih _ (by simp;omega),if_pos hv]
   simp
  ·rw [ZX (s':=acc) (by rw [hx,if_neg hv]),ih _ (by omega),if_neg hv]
theorem Zra {b:Zr} (h:Q4 b) {F:List Zb} (hF:∀f∈F,f.args.length≤1048576) (hn:b.nodes=((F.length:Nat):Int)):Zdo F b=some (YT F (rdB b)):=by
 have h1:=h.n1
 have hr:=h.rd
 unfold Zdo
 rw [Zub h,A0]
 exact Zme hF (by omega) (fun i x s=>rfl) F (rdB b) [] [] rfl (by omega) (Ar _)
theorem Zvi {b:Zr} (h:Q4 b) {F:List Zb} (hF:∀f∈F,f.args.length≤1048576) (hn:b.nodes=((F.length:Nat):Int)):Zjd F b=some (YT F (rdB b)):=by
 have h1:=h.n1
 have hr:=h.rd
 unfold Zjd
 rw [Zqb h,A0]
 exact Zlt (N:=F.length) (by omega) (fun i x s=>rfl) F (rdB b) [] [] hF rfl (by omega) (Ar _) (by simp)
theorem Z0.args {R:List Zg} {base F:List Zb} (h:Z0 R base F):∀f∈F,f.args.length≤1048576:=fun f mf=>by
 have:=YY (h.good.ok f mf)
 omega
structure ZBW (M:List Zb):Prop where
 len:M.length≤24
 ok:∀f∈M,Yb f=true
end
section
open Classical
theorem ZqT {l:List Zb} (hl:l.length≤24) (ha:Zg3 l) (hok:∀f∈l,Yb f=true):Z3 l=true:=by
 unfold Z3
 rw [A4,decide_eq_true_iff]
 refine ⟨hl,?_⟩
 have key:∀(rest pre:List Zb),l=pre++rest→Q0 (Zda l) rest pre.length=true:=by
  intro rest
  induction rest with
  | nil=>intro pre _;rfl
  | cons x rest ih=>
   intro pre e
   simp only[Q0,A4]
   refine ⟨?_,by have:=ih (pre++[x]) (by rw [e];simp);simpa using this⟩
   unfold Zda
   rw [A4]
   refine ⟨hok x (by rw [e];simp),?_⟩
   by_cases h0:pre.length=0
   ·rw [if_pos h0]
   ·rw [if_neg h0]
    obtain ⟨q,y,rfl⟩:∃q y,pre=q++[y]:=⟨pre.dropLast,pre.getLast (by intro e2;simp [e2] at h0),(An _).symm⟩
    have hy:l[(q++[y]).length - 1]?=some y:=by rw [e];simp
    rw [hy,decide_eq_true_iff]
    unfold Zg3 at ha
    rw [e,Ay,Ag] at ha
    have h2:=ha.2.1
    rw [List.singleton_append,B4] at h2
    exact h2.1 x (by simp)
 exact key l [] rfl
theorem ZwZ {a b:List Zb} (h:a.Sublist b) (hb:Zg3 b):Zg3 a:=List.Pairwise.sublist h hb
theorem Zjy:∀{F:List Zb} {l:List Int},(YT F l).Sublist F
 | [],l=>by simp [YT]
 | f::F,[]=>by simp [YT]
 | f::F,v::l=>by
  unfold YT
  split
  ·exact Zjy.cons_cons f
  ·exact Zjy.cons f
theorem ZFp {R L:List Zg} (hS:Zbc L) (hL:∀r∈L,r∈R) (hlog:(Z6 L&&L.all (Y4 L))=true) {base F:List Zb} (h:Z0 R base F) {given:List Zb} (hs:given.Sublist base):∃G,Yu L given=some (G,true)∧Yt L given=some (G,true)∧Z0 L given G∧∀f∈G,f∈F:=by
 obtain ⟨hb24,hbok⟩:=QQ h.facts
 have hg:Z3 given=true:=ZqT (As hs.length_le hb24) (ZwZ hs (ZcT h.facts)) fun f mf=>hbok f (hs.subset mf)
 have hcl:Cl L given F:=⟨h.good.asc,fun f mf=>h.good.inc f (hs.subset mf),fun r mr=>h.closed r (hL r mr)⟩
 have hl20:given.length≤1048576:=by have:=hs.length_le;omega
 obtain ⟨s1,s2⟩:=Zhv hS given hl20
 obtain ⟨i1,i2⟩:=Zhx hS given
 obtain ⟨x,e1,r1⟩:=s2 hlog hg
 obtain ⟨y,e2,r2⟩:=i2 hlog hg
 rw [←r1.uniq r2] at e2
 obtain ⟨G,ok⟩:=x
 rcases r1 with ⟨h1,h2,h3,h4⟩ | ⟨h1,h2,h3⟩
 ·simp only at h1 h2 h3 h4
  subst h1
  exact ⟨G,e1,e2,⟨hlog,hg,h2,h3,h4⟩,fun f mf=>h2.low F hcl f mf⟩
 ·have:=h3 F hcl
  have:=h.len
  omega
/- reasons, of the smaller set -/
def ZFu (F:List Zb) (y:Int):Zb:=match F[y.toNat]? with | some f=>f | none=>{ rel:=⟨#[]⟩,args:=[] }
theorem ZFg {F:List Zb} {f:Zb} (h:f∈F):ZFu F (ZY F f)=f:=by
 obtain ⟨j,h1,h2⟩:=Q6 h
 unfold ZFu
 rw [h1,AC,h2]
noncomputable def ZFK (F G:List Zb) (x:Zf):Zf:={ for_:=ZY G (ZFu F x.for_),inn:=Qr G (x.inn.map (ZFu F)),outs:=Qr G (x.outs.map (ZFu F)) }
theorem ZFt {F G:List Zb} (h:∀f∈G,f∈F) (l:List Zb):Qr G ((Qr F l).map (ZFu F))=Qr G l:=by
 obtain ⟨h1,h2,_⟩:=Yv G ((Qr F l).map (ZFu F))
 obtain ⟨k1,k2,_⟩:=Yv G l
 have inG:∀g:Zb,0≤ZY G g→g∈G:=fun g hg=>by
  rcases ZfL G g with ⟨_,h2⟩ | ⟨j,_,h2⟩
  ·omega
  ·exact A8 h2
 refine ZmI h1 k1 fun x=>?_
 rw [h2,k2]
 constructor
 ·rintro ⟨f,mf,e,e0⟩
  obtain ⟨y,my,rfl⟩:=A6.1 mf
  obtain ⟨g,mg,e2,e3⟩:=((Yv F l).2.1 y).1 my
  have gF:g∈F:=by
   rcases ZfL F g with ⟨_,h2⟩ | ⟨j,_,h2⟩
   ·omega
   ·exact A8 h2
  rw [←e2,ZFg gF] at e
  exact ⟨g,mg,e,e0⟩
 ·rintro ⟨g,mg,e,e0⟩
  have gG:=inG g (by omega)
  have gF:=h g gG
  obtain ⟨j,k3,_⟩:=Q6 gF
  exact ⟨g,A6.2 ⟨ZY F g,((Yv F l).2.1 _).2 ⟨g,mg,rfl,by omega⟩,ZFg gF⟩,e,e0⟩
theorem ZFn:∀(c l:List Zf),l.Nodup→(c.foldl Zjz l).Nodup
 | [],_,h=>h
 | r::c,l,h=>by
  rw [AA]
  refine ZFn c _ ?_
  unfold Zjz
  split
  ·exact h
  ·rename_i hn
   rw [B5]
   exact ⟨h,by simp,fun a ha b hb e=>by simp at hb;subst hb;subst e;exact hn ha⟩
theorem ZFv {F:List Zb}:∀{base:List Zb},base.Nodup→(∀f∈base,f∈F)→(Zdj F base).Nodup
 | [],_,_=>by simp [Zdj]
 | f::base,h,hF=>by
  rw [B6] at h
  show (_::Zdj F base).Nodup
  rw [B6]
  refine ⟨fun hm=>?_,ZFv h.2 fun g mg=>hF g (by simp [mg])⟩
  obtain ⟨g,mg,e⟩:=A6.1 hm
  have e2:ZY F g=ZY F f:=congrArg Zf.for_ e
  exact h.1 (by rw [←Zn8 (hF g (by simp [mg])) (hF f (by simp)) e2];exact mg)
theorem ZFz {R L:List Zg} (hL:∀r∈L,r∈R) {base F given G:List Zb} (h:Z0 R base F) (k:Z0 L given G) (hs:∀f∈given,f∈base) (hG:∀f∈G,f∈F):(ZZ L G given).length≤(ZZ R F base).length:=by
 have hn:(ZZ L G given).Nodup:=ZFn _ _ (ZFv (ZdT (ZcT k.facts)) k.good.inc)
 have:=Zc5 (m:=(ZZ R F base).map (ZFK F G)) hn fun x mx=>by
  rcases Zib.1 mx with ⟨f,mf,rfl⟩ | ⟨r,mr,t,mt,a,ma,rfl⟩
  ·refine A6.2 ⟨{ for_:=ZY F f,inn:=[],outs:=[] },Zib.2 (.inl ⟨f,hs f mf,rfl⟩),?_⟩
   unfold ZFK
   rw [ZFg (hG f (k.good.inc f mf))]
   rfl
  ·have mt':t∈Zw (XT r) F:=Zv2 (R:=R) mt fun g mg=>hG g (ZsT mt g mg)
   refine A6.2 ⟨Yg F r t a,Zib.2 (.inr ⟨r,hL r mr,t,mt',a,ma,rfl⟩),?_⟩
   unfold ZFK Yg
   simp only
   rw [ZFt hG,ZFt hG,ZFg (hG _ (k.closed r mr t mt a ma))]
 rwa [B7] at this
theorem ZFm {R:List Zg} {base F:List Zb} (h:Z0 R base F) (h1:Yu R base=some (F,true)) (h2:Yt R base=some (F,true)) (h60:(ZZ R F base).length≤60):Ql R base=some (F,{ nodes:=((F.length:Nat):Int),reasons:=ZZ R F base },true)∧Qi R base=some (F,{ nodes:=((F.length:Nat):Int),reasons:=ZZ R F base },true):=by
 obtain ⟨e1,_⟩:=Zkh ZoR F noI R base
 obtain ⟨e2,_⟩:=Zkh Zqh F noS R base
 unfold Ql Qi
 rw [Zqn h h2,ZpJ h h1]
 unfold Zsq
 rw [e1,e2,if_neg (by omega),if_neg (by omega)]
 exact ⟨rfl,rfl⟩
end
section
open Classical
def ZFD (R:List Zg):Prop:=∀r∈R,∀x∈r.cond,¬x.kind=2
theorem ZFB {R:List Zg} (hm:ZFD R) {r:Zg} (mr:r∈R) (t:Zu):ZiJ r t=[]:=by
 unfold ZiJ
 have:r.cond.filter (fun x=>x.kind==2)=[]:=List.filter_eq_nil_iff.2 fun x mx=>by simpa using hm r mr x mx
 rw [this]
 rfl
theorem ZFC {R:List Zg} (hm:ZFD R) {base F:List Zb} (h:Z0 R base F) (h60:(ZZ R F base).length≤60):YT F (rdB { nodes:=((F.length:Nat):Int),reasons:=ZZ R F base })=F:=by
 have hM:=Zk4 h h60
 have ha:Zg3 (YT F (rdB { nodes:=((F.length:Nat):Int),reasons:=ZZ R F base })):=ZwZ Zjy h.good.asc
 refine Zk8 ha h.good.asc fun f=>⟨fun mf=>ZnP.2 f mf,fun mf=>h.good.low _ ⟨ha,hM.giv,fun r mr t mt a ma=>hM.clos r mr t mt (by rw [ZFB hm mr];simp) a ma⟩ f mf⟩
end
theorem ZrL {c:ZJ} (h:Qu c) {l:List ByteArray} (h0:0<l.length) (h1:l.length≤256):∃x c',Zd8 c l=some (x,c')∧x∈l∧Qu c':=by
 obtain ⟨x,c',e,hx,hx2,hc⟩:=ZdR h (n:=((l.length:Nat):Int)) (by omega) (by omega)
 have hn:x.toNat<l.length:=by omega
 refine ⟨l[x.toNat],c',?_,AS _,hc⟩
 unfold Zd8
 rw [e]
 show (atI l x).bind _=_
 rw [show atI l x=some l[x.toNat] by unfold atI;rw [if_pos hx,A3 hn]]
 rfl
def RK (nots:Bool) (r:Zg):Prop:=∃s:ByteArray,s.size≤100∧(nots=false→¬Xe ZjF s)∧Zkr s r
theorem Zmz (L:List ByteArray) (n:Int) (N:Nat) (hN:N=L.length) (h0:0<n) (hn:n≤N) (hs:∀s∈L,s.size≤100) (hL:N≤256) {c:ZJ} (hc:Qu c):∃s r c',((Xv c n).bind fun v1=>chk (0≤v1.1∧v1.1<((N:Nat):Int)) ((L[(AO v1.1)]?).bind fun x2=>(QD x2).bind fun v3=>some (v3.1,v1.2)))=some (r,c')∧s∈L.take n.toNat∧s.size≤100∧Zkr s r∧Qu c':=by
 obtain ⟨x,c',e,hx,hx2,hc'⟩:=ZdR hc h0 (by omega)
 have hl:x.toNat<L.length:=by omega
 obtain ⟨r,ok,er,hr⟩:=Zpk (s:=L[x.toNat]) (by have:=hs _ (AS hl);omega)
 refine ⟨L[x.toNat],r,c',?_,?_,hs _ (AS hl),hr,hc'⟩
 ·rw [e,A0,Zh _ (by omega),A3 hl,A0,er]
  rfl
 ·rw [List.mem_take_iff_getElem]
  exact ⟨x.toNat,by omega,rfl⟩
theorem ZBJ {s:ByteArray} (h:¬toL ZjF <:+: toL s):¬Xe ZjF s:=fun k=>h k.infix
theorem Zrr {c:ZJ} (h:Qu c) (nots:Bool):∃r c',ZbM c nots=some (r,c')∧RK nots r∧Qu c':=by
 unfold ZbM
 have fin:∀{L:List ByteArray} {n:Int} {o:Option (Zg × ZJ)},(nots=false→∀s∈L.take n.toNat,¬toL ZjF <:+: toL s)→(∃s r c',o=some (r,c')∧s∈L.take n.toNat∧s.size≤100∧Zkr s r∧Qu c')→∃r c',o=some (r,c')∧RK nots r∧Qu c':=fun hn ⟨s,r,c',e,h1,h2,h3,h4⟩=>⟨r,c',e,⟨s,h2,fun hf=>ZBJ (hn hf s h1),h3⟩,h4⟩
 cases nots with
 | true=>
  rw [if_pos rfl]
  exact fin (fun h=>by cases h) (Zmz _ 11 11 rfl (by omega) (by omega) (by decide) (by omega) h)
 | false=>
  rw [if_neg (by simp)]
  exact fin (fun _=>by decide) (Zmz _ 7 11 rfl (by omega) (by omega) (by decide) (by omega) h)
theorem RK.name {nots:Bool} {r:Zg} (h:RK nots r) (n:ByteArray) (p:Int):RK nots { name:=n,priority:=p,cond:=r.cond,thn:=r.thn }:=by
 obtain ⟨s,h1,h2,h3⟩:=h
 exact ⟨s,h1,h2,h3.cl,h3.tl,h3.ca,h3.ta⟩
theorem ZtP {nots:Bool} {R:List Zg} (hl:R.length≤100) (h:∀r∈R,RK nots r):Zbc R:=by
 have one:∀r∈R,QC r∧r.cond.length≤101:=fun r mr=>by
  obtain ⟨s,h1,_,h3⟩:=h r mr
  have:=h3.cl
  have:=h3.tl
  exact ⟨⟨by omega,by omega,fun x mx=>by have:=(h3.ca x mx).1;omega,fun x mx=>by have:=h3.ta x mx;omega⟩,by omega⟩
 refine ⟨fun r mr=>(one r mr).1,?_⟩
 have:∀l:List Zg,(∀r∈l,r∈R)→(l.flatMap Yq).length≤101 * l.length:=by
  intro l
  induction l with
  | nil=>intro _;simp
  | cons r l ih=>
   intro hm
   have h1:=ih fun q mq=>hm q (by simp [mq])
   have h2:=ZlT r
   have h3:=(one r (hm r (by simp))).2
   rw [List.flatMap_cons,AK,AY]
   omega
 have:=this R fun _ h=>h
 omega
theorem ZqN {c:ZJ} (h:Qu c) (nots:Bool):∃R c',Zd3 c nots=some (R,c')∧R.length≤3∧(∀r∈R,RK nots r)∧Qu c':=by
 unfold Zd3
 obtain ⟨n,c1,e,n0,n1,hc⟩:=ZdR h (n:=4) (by omega) (by omega)
 rw [e,A0]
 have key:∀(k:Nat) (cc:ZJ) (row:List Zg),Qu cc→row.length+k≤3→(∀r∈row,RK nots r)→∃R c',Yp (σ:=(List Int) × Int × Int × (List Zg) × Int)
  (fun s=>
   match s with
   | (f_4,f_5,f_6,row_7,n_8)=>
   if (decide (0<n_8))=true then
    (ZbM ({ b:=f_4,i:=f_5,h:=f_6 }:ZJ) nots).bind fun v9=>
    (X3 n_8).bind fun v10=>
    chk ((⟨#[114]⟩:ByteArray).size+v10.size≤9223372036854775807) <|
    chk (row_7.length+1≤1073741824) <|
    some (.inl (v9.2.b,v9.2.i,v9.2.h,(row_7++[({ name:=((⟨#[114]⟩:ByteArray)++v10),priority:=v9.1.priority,cond:=v9.1.cond,thn:=v9.1.thn }:Zg)]),(IntKind.i64.wrap (n_8 - 1))))
   else
    some (.inr (row_7,({ b:=f_4,i:=f_5,h:=f_6 }:ZJ))))
  (cc.b,cc.i,cc.h,row,((k:Nat):Int))=some (R,c')∧R.length≤3∧(∀r∈R,RK nots r)∧Qu c':=by
  intro k
  induction k with
  | zero=>
   intro cc row hcc hl hr
   exact ⟨row,cc,Z2 rfl,by omega,hr,hcc⟩
  | succ k ih=>
   intro cc row hcc hl hr
   obtain ⟨r,c2,e2,hrk,hc2⟩:=Zrr hcc nots
   have hpos:decide (0<(((k+1:Nat)):Int))=true:=decide_eq_true (by omega)
   have hw:IntKind.i64.wrap ((((k+1:Nat)):Int) - 1)=((k:Nat):Int):=by rw [YW (by omega) (by omega)];omega
   have hsz:(ofL (Lib.itoa ((k+1:Nat):Int))).size≤21:=ZtA ⟨by omega,by omega⟩
   refine (Yh (s':=(c2.b,c2.i,c2.h,row++[({ name:=((⟨#[114]⟩:ByteArray)++ofL (Lib.itoa ((k+1:Nat):Int))),priority:=r.priority,cond:=r.cond,thn:=r.thn }:Zg)],((k:Nat):Int))) ?_) ▸ ih c2 _ hc2 (by simp;omega) fun q mq=>?_
   ·simp only[hpos,if_true]
    rw [show ({ b:=cc.b,i:=cc.i,h:=cc.h }:ZJ)=cc from rfl,e2,A0,Zf5 ⟨by omega,by omega⟩,A0,Zh _ (by have:(⟨#[114]⟩:ByteArray).size=1:=rfl;omega),Zh _ (by omega),hw]
   ·rcases AE.1 mq with mq | mq
    ·exact hr q mq
    ·simp at mq;subst mq;exact hrk.name _ _
 have e5:n=((n.toNat:Nat):Int):=by omega
 have:=key n.toNat c1 [] hc (by simp;omega) (fun y hy=>by simp at hy)
 rw [←e5] at this
 exact this
theorem Zsf {c:ZJ} (h:Qu c) {m:Int} (h0:0≤m) (h7:m≤7):∃l c',ZeM c m=some (l,c')∧l.length≤7∧(∀f∈l,f.args.length≤2)∧Qu c':=by
 unfold ZeM
 have hw:IntKind.i64.wrap (m+1)=m+1:=YW (by omega) (by omega)
 rw [hw]
 obtain ⟨n,c1,e,n0,n1,hc⟩:=ZdR h (n:=m+1) (by omega) (by omega)
 rw [e,A0]
 have put:∀(row:List Zb) (f:Zb),row.length≤7→(∀f∈row,f.args.length≤2)→f.args.length≤2→∃row',YX row f=some row'∧row'.length≤row.length+1∧∀f∈row',f.args.length≤2:=fun row f hl ha hf=>⟨_,ZlP row f (by omega) (fun x mx=>by have:=ha x mx;omega) (by omega),Zmb f row,fun x mx=>by
  rcases QP.1 mx with rfl | mx
  ·exact hf
  ·exact ha x mx⟩
 have key:∀(k:Nat) (cc:ZJ) (row:List Zb),Qu cc→row.length+k≤7→(∀f∈row,f.args.length≤2)→∃l c',Yp (σ:=(List Int) × Int × Int × (List Zb) × Int)
   (fun s=>
   match s with
   | (f_9,f_10,f_11,row_12,n_13)=>
   if (decide (0<n_13))=true then
    (Zd8 ({ b:=f_9,i:=f_10,h:=f_11 }:ZJ) ([(⟨#[97]⟩),(⟨#[98]⟩),(⟨#[49]⟩),(⟨#[50]⟩)])).bind fun v14=>
    (Zd8 v14.2 ([(⟨#[97]⟩),(⟨#[98]⟩),(⟨#[49]⟩)])).bind fun v15=>
    (Xv v15.2 5).bind fun v16=>
    if (v16.1==0)=true then
     (YX row_12 ({ rel:=(⟨#[112]⟩),args:=[v14.1] }:Zb)).bind fun v17=>
     some (.inl (v16.2.b,v16.2.i,v16.2.h,v17,(IntKind.i64.wrap (n_13 - 1))))
    else
     if (v16.1==1)=true then
      (YX row_12 ({ rel:=(⟨#[97,116]⟩),args:=[v14.1,v15.1] }:Zb)).bind fun v18=>
      some (.inl (v16.2.b,v16.2.i,v16.2.h,v18,(IntKind.i64.wrap (n_13 - 1))))
     else
      if (v16.1==2)=true then
       (YX row_12 ({ rel:=(⟨#[113]⟩),args:=[v14.1] }:Zb)).bind fun v19=>
       some (.inl (v16.2.b,v16.2.i,v16.2.h,v19,(IntKind.i64.wrap (n_13 - 1))))
      else
       (YX row_12 ({ rel:=(⟨#[111,110]⟩),args:=[v14.1,v15.1] }:Zb)).bind fun v20=>
       some (.inl (v16.2.b,v16.2.i,v16.2.h,v20,(IntKind.i64.wrap (n_13 - 1))))
   else
    some (.inr (row_12,({ b:=f_9,i:=f_10,h:=f_11 }:ZJ))))
   (cc.b,cc.i,cc.h,row,((k:Nat):Int))=some (l,c')∧l.length≤7∧(∀f∈l,f.args.length≤2)∧Qu c':=by
  intro k
  induction k with
  | zero=>
   intro cc row hcc hl hr
   exact ⟨row,cc,Z2 rfl,by omega,hr,hcc⟩
  | succ k ih=>
   intro cc row hcc hl hr
   obtain ⟨a,c2,e2,_,hc2⟩:=ZrL hcc (l:=[(⟨#[97]⟩),(⟨#[98]⟩),(⟨#[49]⟩),(⟨#[50]⟩)]) (by simp) (by simp)
   obtain ⟨b,c3,e3,_,hc3⟩:=ZrL hc2 (l:=[(⟨#[97]⟩),(⟨#[98]⟩),(⟨#[49]⟩)]) (by simp) (by simp)
   obtain ⟨x,c4,e4,_,_,hc4⟩:=ZdR hc3 (n:=5) (by omega) (by omega)
   have hpos:decide (0<(((k+1:Nat)):Int))=true:=decide_eq_true (by omega)
   have hw:IntKind.i64.wrap ((((k+1:Nat)):Int) - 1)=((k:Nat):Int):=by rw [YW (by omega) (by omega)];omega
   have go:∀f:Zb,f.args.length≤2→∀{body:(List Int) × Int × Int × (List Zb) × Int→Option (((List Int) × Int × Int × (List Zb) × Int) ⊕ (List Zb × ZJ))},(body (cc.b,cc.i,cc.h,row,((k+1:Nat):Int))=(YX row f).bind fun v=>some (.inl (c4.b,c4.i,c4.h,v,((k:Nat):Int))))→(∀(row:List Zb),row.length+k≤7→(∀f∈row,f.args.length≤2)→∃l c',Yp body (c4.b,c4.i,c4.h,row,((k:Nat):Int))=some (l,c')∧l.length≤7∧(∀f∈l,f.args.length≤2)∧Qu c')→∃l c',Yp body (cc.b,cc.i,cc.h,row,((k+1:Nat):Int))=some (l,c')∧l.length≤7∧(∀f∈l,f.args.length≤2)∧Qu c':=fun f hf body hb hi=>by
    obtain ⟨row',ep,hl',hr'⟩:=put row f (by omega) hr hf
    rw [Yh (hb.trans (by rw [ep];rfl))]
    exact hi row' (by omega) hr'
   have hi:=fun row=>ih c4 row hc4
   by_cases x0:x=0
   ·refine go { rel:=(⟨#[112]⟩),args:=[a] } (by simp) ?_ hi
    simp only[hpos,if_true]
    rw [show ({ b:=cc.b,i:=cc.i,h:=cc.h }:ZJ)=cc from rfl,e2,A0,e3,A0,e4,A0,hw,if_pos (by simp [x0])]
   ·by_cases x1:x=1
    ·refine go { rel:=(⟨#[97,116]⟩),args:=[a,b] } (by simp) ?_ hi
     simp only[hpos,if_true]
     rw [show ({ b:=cc.b,i:=cc.i,h:=cc.h }:ZJ)=cc from rfl,e2,A0,e3,A0,e4,A0,hw,if_neg (by simp [x0]),if_pos (by simp [x1])]
    ·by_cases x2:x=2
     ·refine go { rel:=(⟨#[113]⟩),args:=[a] } (by simp) ?_ hi
      simp only[hpos,if_true]
      rw [show ({ b:=cc.b,i:=cc.i,h:=cc.h }:ZJ)=cc from rfl,e2,A0,e3,A0,e4,A0,hw,if_neg (by simp [x0]),if_neg (by simp [x1]),if_pos (by simp [x2])]
     ·refine go { rel:=(⟨#[111,110]⟩),args:=[a,b] } (by simp) ?_ hi
      simp only[hpos,if_true]
      rw [show ({ b:=cc.b,i:=cc.i,h:=cc.h }:ZJ)=cc from rfl,e2,A0,e3,A0,e4,A0,hw,if_neg (by simp [x0]),if_neg (by simp [x1]),if_neg (by simp [x2])]
 have e5:n=((n.toNat:Nat):Int):=by omega
 have:=key n.toNat c1 [] hc (by simp;omega) (fun y hy=>by simp at hy)
 rw [←e5] at this
 exact this
section
open Classical
theorem Zjv {l:List Zb} {f:Zb}:ZY l f<0↔f∉l:=by
 rcases ZfL l f with ⟨h1,h2⟩ | ⟨j,h1,h2⟩
 ·exact ⟨fun _=>h1,fun _=>by omega⟩
 ·exact ⟨fun h=>by omega,fun h=>absurd (A8 h2) h⟩
theorem Zph {l:List Zb} {f:Zb}:0≤ZY l f↔f∈l:=by
 have:=Zjv (l:=l) (f:=f)
 by_cases h:f∈l
 ·exact ⟨fun _=>h,fun _=>Int.not_lt.1 fun hn=>this.1 hn h⟩
 ·exact ⟨fun hn=>absurd hn (Int.not_le.2 (this.2 h)),fun hh=>absurd hh h⟩
end
section
open Classical
def ZmP (p:Zb→Bool):List Zb→Nat→List Int
 | [],_=>[]
 | f::l,i=>if p f=true then ((i:Nat):Int)::ZmP p l (i+1) else ZmP p l (i+1)
theorem ZrA {p:Zb→Bool} {x:Int}:∀{l:List Zb} {i:Nat},x∈ZmP p l i↔∃j f,l[j]?=some f∧p f=true∧x=((i+j:Nat):Int)
 | [],i=>by simp [ZmP]
 | f::l,i=>by
  have ih:=ZrA (p:=p) (x:=x) (l:=l) (i:=i+1)
  have key:(∃j g,(f::l)[j]?=some g∧p g=true∧x=((i+j:Nat):Int))↔(p f=true∧x=((i:Nat):Int))∨∃j g,l[j]?=some g∧p g=true∧x=((i+1+j:Nat):Int):=by
   constructor
   ·rintro ⟨j,g,h1,h2,h3⟩
    cases j with
    | zero=>simp at h1;subst h1;exact .inl ⟨h2,by simpa using h3⟩
    | succ j=>exact .inr ⟨j,g,by simpa using h1,h2,by rw [h3];congr 1;omega⟩
   ·rintro (⟨h1,h2⟩ | ⟨j,g,h1,h2,h3⟩)
    ·exact ⟨0,f,rfl,h1,by simpa using h2⟩
    ·exact ⟨j+1,g,by simpa using h1,h2,by rw [h3];congr 1;omega⟩
  rw [key]
  unfold ZmP
  by_cases hp:p f=true
  ·rw [if_pos hp,AJ,ih]
   simp [hp]
  ·rw [if_neg hp,ih]
   simp [hp]
theorem Zrl {p:Zb→Bool}:∀{l:List Zb} {i:Nat},(ZmP p l i).Pairwise (·<·)∧(ZmP p l i).length≤l.length
 | [],_=>by simp [ZmP]
 | f::l,i=>by
  obtain ⟨h1,h2⟩:=Zrl (p:=p) (l:=l) (i:=i+1)
  unfold ZmP
  by_cases hp:p f=true
  ·rw [if_pos hp,B4]
   refine ⟨⟨fun x mx=>?_,h1⟩,by simp;omega⟩
   obtain ⟨j,g,_,_,e⟩:=ZrA.1 mx
   omega
  ·rw [if_neg hp]
   exact ⟨h1,by simp;omega⟩
theorem ZHz {ρ:Type} {p:Zb→Bool} {fin:List Int→Option ρ} {body:Nat→Zb→List Int→Option (List Int ⊕ ρ)}:∀{l:List Zb} {i:Nat} {acc:List Int},(∀j f s,f∈l→s.length+1≤acc.length+l.length→body j f s=some (.inl (if p f=true then s++[((j:Nat):Int)] else s)))→Zo body fin l i acc=fin (acc++ZmP p l i)
 | [],_,acc,_=>by simp [Zo,ZmP]
 | f::l,i,acc,h=>by
  have hx:=h i f acc (by simp) (by simp)
  unfold ZmP
  by_cases hp:p f=true
  ·rw [if_pos hp] at hx ⊢
   rw [ZX hx,ZHz (p:=p) fun j g s mg hs=>h j g s (by simp [mg]) (by simp at hs ⊢;omega)]
   simp
  ·rw [if_neg hp] at hx ⊢
   rw [ZX hx,ZHz (p:=p) fun j g s mg hs=>h j g s (by simp [mg]) (by simp;omega)]
theorem ZHL {F:List Zb} (hF:F.Nodup) {j:Nat} {f:Zb} (h:F[j]?=some f):ZY F f=((j:Nat):Int):=by
 obtain ⟨k,h1,h2⟩:=Q6 (A8 h)
 obtain ⟨hj,ej⟩:=A9.1 h
 obtain ⟨hk,ek⟩:=A9.1 h2
 have:k=j:=by
  rcases Ao k j with hl | hl | hl
  ·exact absurd (ek.trans ej.symm) (AP.1 hF k j hk hj hl)
  ·exact hl
  ·exact absurd (ej.trans ek.symm) (AP.1 hF j k hj hk hl)
 rw [h1,this]
theorem ZI2 {F:List Zb} (hF:F.Nodup) (p:Zb→Bool):Qr F (F.filter p)=ZmP p F 0:=by
 obtain ⟨h1,h2,_⟩:=Yv F (F.filter p)
 refine ZmI h1 Zrl.1 fun x=>?_
 rw [h2,ZrA]
 constructor
 ·rintro ⟨f,mf,e,e0⟩
  obtain ⟨m1,m2⟩:=AN.1 mf
  obtain ⟨j,k1,k2⟩:=Q6 m1
  exact ⟨j,f,k2,m2,by rw [←e,k1];simp⟩
 ·rintro ⟨j,f,k1,k2,rfl⟩
  exact ⟨f,AN.2 ⟨A8 k1,k2⟩,by rw [ZHL hF k1];simp,by omega⟩
theorem ZIG (R:List Zg) (F base:List Zb):base.length≤(ZZ R F base).length:=by
 unfold ZZ
 have h:=(ZnR (R.flatMap (Zvb F)) (Zdj F base)).1
 have:(Zdj F base).length=base.length:=by simp [Zdj]
 omega
end
section
open Classical
def ZDL (r:Zg):Bool:=(r.cond.all fun x=>!(x.kind==2))&&(YQ r&&Zot r)
theorem ZGB {r:Zg} (h:QC r):ZF5 r=some (ZDL r):=by
 unfold ZF5 ZDL
 rw [ZU (p:=fun x=>!(x.kind==2)) (r:=false)]
 ·cases r.cond.all (fun x=>!(x.kind==2)) with
  | false=>rfl
  | true=>
   rw [if_pos rfl,Zj7 r h,A0,ZmX]
   cases YQ r<;>rfl
 ·intro i x mx
  cases x.kind==2<;>rfl
theorem ZHk {r:Zg} (h:QC r):ZFV r=some (ZDL r):=by
 unfold ZFV ZDL
 rw [ZU (p:=fun x=>!(x.kind==2)) (r:=false)]
 ·cases r.cond.all (fun x=>!(x.kind==2)) with
  | false=>rfl
  | true=>
   rw [if_pos rfl,ZU (p:=fun a=>decide (a.kind=1)) (r:=false)]
   ·rw [Zgg r h]
    unfold Zot
    cases r.thn.all (fun a=>decide (a.kind=1))<;>cases YQ r<;>rfl
   ·intro i a ma
    by_cases hk:a.kind=1
    ·rw [hk];rfl
    ·have:(a.kind != 1)=true:=by simpa using hk
     rw [if_pos this,decide_eq_false hk];rfl
 ·intro i x mx
  cases x.kind==2<;>rfl
theorem ZGH {F:List Zb} (hl:F.length≤1000) (ha:∀f∈F,f.args.length≤1048576) (bad:ByteArray):ZFU F bad=some (F.filter fun f=>decide (f.rel=bad)):=by
 unfold ZFU
 rw [Zcm (p:=fun f=>decide (f.rel=bad))]
 ·rfl
 ·intro j f s mf hs
  simp only[AR,AD] at hs
  by_cases e:f.rel=bad
  ·rw [if_pos (ZO.2 e),Xb _ (ha f mf),A0,Zh _ (by omega),if_pos (by simpa using e)]
  ·rw [if_neg (by rw [ZO];exact e),if_neg (by simpa using e)]
def noF:QZ:={ beliefs:={ nodes:=0,reasons:=[] },assumed:=[],bad:=[] }
noncomputable def Zws (R:List Zg) (F base:List Zb) (bad:ByteArray):QZ:={ beliefs:={ nodes:=((F.length:Nat):Int),reasons:=(ZZ R F base).drop base.length },assumed:=Qr F base,bad:=ZmP (fun f=>decide (f.rel=bad)) F 0 }
def Zve (R:List Zg) (base:List Zb) (bad:ByteArray) (F:List Zb) (fr:QZ) (ok:Bool):Prop:=(ok=false∧F=[]∧fr=noF)∨(ok=true∧Z0 R base F∧(ZZ R F base).length≤60∧base.length≤6∧R.all ZDL=true∧fr=Zws R F base bad)
theorem ZI5 (l:List Zg) (hl:∀r∈l,QC r) {ρ:Type} {fin:Bool→Option ρ} {body:Nat→Zg→Bool→Option (Bool ⊕ ρ)} (hb:∀i r u,body i r u=if u=true then (ZFV r).bind fun v=>some (.inl v) else some (.inl false)):∀(i:Nat) (u:Bool),Zo body fin l i u=fin (u&&l.all ZDL):=by
 induction l with
 | nil=>intro i u;simp [Zo]
 | cons r l ih=>
  intro i u
  have ih':=ih fun q mq=>hl q (by simp [mq])
  cases u with
  | false=>rw [ZX (s':=false) (by rw [hb,if_neg (by simp)]),ih'];rfl
  | true=>rw [ZX (s':=ZDL r) (by rw [hb,if_pos rfl,ZHk (hl r (by simp)),A0]),ih'];simp
theorem ZId {R:List Zg} (hR:Zbc R) (base:List Zb) (hb20:base.length≤1048576) (bad:ByteArray):∃F fr ok,ZGr R base bad=some (F,fr,ok)∧ZGx R base bad=some (F,fr,ok)∧Zve R base bad F fr ok:=by
 obtain ⟨F,b,ok,h1,h2,h3⟩:=Zh9 hR base hb20
 unfold ZGr ZGx
 rw [h1,h2,A0,A0,ZI5 R hR.s fun i r u=>rfl]
 rcases h3 with ⟨rfl,rfl,rfl⟩ | ⟨rfl,hG,rfl,h60⟩
 ·exact ⟨_,_,_,rfl,rfl,.inl ⟨rfl,rfl,rfl⟩⟩
 ·rw [if_pos rfl,AW]
  by_cases h6:6<base.length
  ·have h6':decide (6<((base.length:Nat):Int))=true:=by simp;omega
   refine ⟨[],noF,false,?_,?_,.inl ⟨rfl,rfl,rfl⟩⟩
   ·cases R.all ZDL with
    | true=>rw [if_pos rfl,if_pos h6'];rfl
    | false=>rfl
   ·rw [if_pos h6'];rfl
  ·have hn6:¬decide (6<((base.length:Nat):Int))=true:=by simp;omega
   have hlen:=hG.len
   have hgb:=ZIG R F base
   have hargs:∀f∈F,f.args.length≤1048576:=fun f mf=>by have:=YY (hG.good.ok f mf);omega
   cases hm:R.all ZDL with
   | false=>
    refine ⟨[],noF,false,rfl,?_,.inl ⟨rfl,rfl,rfl⟩⟩
    rw [if_neg hn6,ZU (p:=ZDL) (r:=([],noF,false)),hm]
    ·rfl
    ·intro i r mr
     rw [ZGB (hR.s r mr),A0]
     cases ZDL r<;>rfl
   | true=>
    refine ⟨F,Zws R F base bad,true,?_,?_,.inr ⟨rfl,hG,h60,by omega,hm,rfl⟩⟩
    ·have hfl:(F.filter fun f=>decide (f.rel=bad)).length≤F.length:=List.length_filter_le _ _
     rw [if_pos rfl,if_neg hn6,Zh _ ⟨by omega,by simp only;omega⟩,ZhB _ _ (by omega),A0,ZGH (by omega) hargs,A0,ZhB _ _ (by omega),A0,ZI2 (ZdT hG.good.asc)]
     rfl
    ·rw [if_neg hn6,ZU (p:=ZDL) (r:=([],noF,false)),hm]
     ·rw [if_pos rfl,Zh _ ⟨by omega,by simp only;omega⟩,ZiM _ _ (by omega),A0,ZHz (p:=fun f=>decide (f.rel=bad))]
      ·rfl
      ·intro j f s mf hs
       simp only[AR,AD] at hs
       by_cases e:f.rel=bad
       ·rw [if_pos (ZO.2 e),Zh _ (by omega),if_pos (by simpa using e)]
       ·rw [if_neg (by rw [ZO];exact e),if_neg (by simpa using e)]
     ·intro i r mr
      rw [ZGB (hR.s r mr),A0]
      cases ZDL r<;>rfl
end
section
open Classical
theorem Zh4 (l:List Zb) (f:Zb):ZfI l f=some (decide (f∈l)):=by
 unfold ZfI
 rw [Zb5,A0]
 exact congrArg some (decide_eq_decide.2 Zph)
theorem ZrG (a b:List Zb):ZeN a b=some (a.all fun x=>decide (x∈b)):=by
 unfold ZeN
 rw [ZU (p:=fun x=>decide (x∈b)) (r:=false)]
 ·cases a.all (fun x=>decide (x∈b))<;>rfl
 ·intro i x _
  rw [Zh4,A0]
  by_cases h:x∈b
  ·rw [decide_eq_true h];rfl
  ·rw [decide_eq_false h];rfl
theorem ZtJ {code:List Int} (h:¬decide (4096<((code.length:Nat):Int))=true):code.length≤4096:=by
 simp at h;omega
theorem Zwr (code:List Int):ZsU code=some (decide (4096<((code.length:Nat):Int))):=rfl
noncomputable def givesB (R:List Zg) (x:Zb) (m:Qg):Bool:=match R[(Zag R m.rule).toNat]? with
 | some r=>decide (0≤Zag R m.rule)&&r.thn.any fun a=>(YE (Yf a.pattern m.binding)).2&&decide (ZbB (YE (Yf a.pattern m.binding)).1 x=0)
 | none=>false
theorem ZFG (l:List Zb) (n:Int) (hl:l.length≤1000):∃k,ZFx l n=some k∧k.Sublist l:=by
 unfold ZFx
 have key:∀(q:List Zb) (i:Nat) (acc p:List Zb),acc.Sublist p→acc.length+q.length≤1000→∃k,Zo (σ:=(List Zb))
  (fun (i6:Nat) (x7:Zb) row_3=>
   chk (¬(Int.tmod ((i6:Nat):Int) 16)<0) <|
   if ((ZlF .i64 (Ztw .i64 n (Int.tmod ((i6:Nat):Int) 16)) 1)==1)=true then
    chk (row_3.length+1≤1073741824) <|
    some (.inl (row_3++[x7]))
   else
    some (.inl row_3))
  (fun row_3=>
   some row_3) q i acc=some k∧k.Sublist (p++q):=by
  intro q
  induction q with
  | nil=>intro i acc p hs _;exact ⟨acc,rfl,by simpa using hs⟩
  | cons x q ih=>
   intro i acc p hs hlen
   rw [AY] at hlen
   have h0:¬Int.tmod ((i:Nat):Int) 16<0:=Int.not_lt.2 (Int.tmod_nonneg _ (by omega))
   by_cases hc:((ZlF .i64 (Ztw .i64 n (Int.tmod ((i:Nat):Int) 16)) 1)==1)=true
   ·rw [ZX (s':=acc++[x]) (by rw [Zh _ h0,if_pos hc,Zh _ (by omega)])]
    obtain ⟨k,e,h⟩:=ih (i+1) (acc++[x]) (p++[x]) (List.Sublist.append hs (B8 _)) (by simp;omega)
    exact ⟨k,e,by simpa using h⟩
   ·rw [ZX (s':=acc) (by rw [Zh _ h0,if_neg hc])]
    obtain ⟨k,e,h⟩:=ih (i+1) acc (p++[x]) (hs.trans (List.sublist_append_left _ _)) (by omega)
    exact ⟨k,e,by simpa using h⟩
 obtain ⟨k,e,h⟩:=key l 0 [] [] (B8 _) (by simp;omega)
 exact ⟨k,e,by simpa using h⟩
theorem ZFH (code:List Int):∃v,ZFL code 0=some v:=by
 unfold ZFL
 cases code with
 | nil=>exact ⟨0,rfl⟩
 | cons x l=>exact ⟨IntKind.i64.wrap x,by rw [if_neg (by simp)];rfl⟩
end
section
open Classical
noncomputable def ZIh (R:List Zg) (F base:List Zb) (bad:ByteArray):QZ:={ beliefs:={ nodes:=((F.length:Nat):Int),reasons:=(ZZ R F base).drop base.length },assumed:=Qr F base,bad:=ZmP (fun f=>decide (f.rel=bad)) F 0 }
theorem ZGm {R:List Zg} {base F:List Zb} (h:Z0 R base F) (x:Zf):x∈(ZZ R F base).drop base.length↔∃r∈R,∃t∈Zw (XT r) F,∃a∈r.thn,x=Yg F r t a:=by
 obtain ⟨E,e1,e2⟩:=ZH2 (R.flatMap (Zvb F)) (Zdj F base)
 have hg:ZZ R F base=Zdj F base++E:=e1
 have hbl:(Zdj F base).length=base.length:=by simp [Zdj]
 rw [hg,←hbl,List.drop_left]
 constructor
 ·intro mx
  obtain ⟨r,mr,hx⟩:=AT.1 (e2 x mx)
  obtain ⟨t,mt,hx⟩:=AT.1 hx
  obtain ⟨a,ma,e⟩:=A6.1 hx
  exact ⟨r,mr,t,mt,a,ma,e.symm⟩
 ·rintro ⟨r,mr,t,mt,a,ma,rfl⟩
  have hm:Yg F r t a∈ZZ R F base:=Zib.2 (.inr ⟨r,mr,t,mt,a,ma,rfl⟩)
  rw [hg] at hm
  rcases AE.1 hm with hm | hm
  ·obtain ⟨f,_,e⟩:=A6.1 hm
   have:=ZIZ h mr mt a
   rw [←e] at this
   exact absurd rfl this
  ·exact hm
noncomputable def ZGi (F base:List Zb) (s:Nat):List Zb:=(Zhj (Qr F base) s 0).map (ZFu F)
theorem ZGk {F base:List Zb} (hb:∀f∈base,f∈F) {s:Nat} {x:Int} (mx:x∈Zhj (Qr F base) s 0):∃f∈base,ZY F f=x∧ZFu F x=f:=by
 obtain ⟨j,h1,_⟩:=Zea.1 mx
 obtain ⟨f,mf,e,_⟩:=((Yv F base).2.1 x).1 (A8 h1)
 exact ⟨f,mf,e,by rw [←e];exact ZFg (hb f mf)⟩
theorem ZI0 {F base:List Zb} (hb:∀f∈base,f∈F) {s:Nat}:∀f∈ZGi F base s,f∈base:=fun f mf=>by
 obtain ⟨x,mx,rfl⟩:=A6.1 mf
 obtain ⟨g,mg,_,e⟩:=ZGk hb mx
 rw [e];exact mg
theorem ZI8 {R:List Zg} {base F:List Zb} (h:Z0 R base F) {bad:ByteArray} {s:Nat} {given G:List Zb} (hgv:∀f,f∈given↔f∈ZGi F base s) (hG:Z0 R given G):∀f∈F,UnF (ZIh R F base bad) s (ZY F f)↔f∈G:=by
 have hgF:∀f∈given,f∈F:=fun f mf=>h.good.inc f (ZI0 h.good.inc f ((hgv f).1 mf))
 have fwd:∀x,UnF (ZIh R F base bad) s x→ZFu F x∈G:=fun x hx=>by
  unfold UnF at hx
  induction hx with
  | mk r mr _ ih=>
   unfold RF at mr
   rcases AE.1 mr with mr | mr
   ·obtain ⟨u,mu,t,mt,a,ma,rfl⟩:=(ZGm h r).1 mr
    have hf:∀g∈t.facts,g∈G:=fun g mg=>by
     have gF:=ZsT mt g mg
     obtain ⟨j,k1,_⟩:=Q6 gF
     have:=ih (ZY F g) (((Yv F t.facts).2.1 _).2 ⟨g,mg,rfl,by omega⟩)
     rwa [ZFg gF] at this
    have hin:=h.closed u mu t mt a ma
    show ZFu F (ZY F (Z8 a t))∈G
    rw [ZFg hin]
    exact hG.closed u mu t (Zv2 (R:=R) mt hf) a ma
   ·obtain ⟨x,mx,rfl⟩:=A6.1 mr
    show ZFu F x∈G
    exact hG.good.inc _ ((hgv _).2 (A6.2 ⟨x,mx,rfl⟩))
 have hX:Cl R given (F.filter fun f=>decide (UnF (ZIh R F base bad) s (ZY F f))):=by
  refine ⟨ZwZ List.filter_sublist h.good.asc,fun f mf=>?_,fun r mr t mt a ma=>?_⟩
  ·obtain ⟨x,mx,e⟩:=A6.1 ((hgv f).1 mf)
   obtain ⟨g,mg,e2,e3⟩:=ZGk h.good.inc mx
   have ef:f=g:=e.symm.trans e3
   subst ef
   refine AN.2 ⟨hgF f mf,?_⟩
   rw [decide_eq_true_iff,e2]
   exact .mk (Zvz x) (AE.2 (.inr (A6.2 ⟨x,mx,rfl⟩))) (by simp [Zvz])
  ·have hf:∀g∈t.facts,g∈F∧UnF (ZIh R F base bad) s (ZY F g):=fun g mg=>by
    obtain ⟨m1,m2⟩:=AN.1 (ZsT mt g mg)
    exact ⟨m1,by simpa using m2⟩
   have mtF:t∈Zw (XT r) F:=Zv2 (R:=R) mt fun g mg=>(hf g mg).1
   refine AN.2 ⟨h.closed r mr t mtF a ma,?_⟩
   rw [decide_eq_true_iff]
   refine .mk (Yg F r t a) (AE.2 (.inl ((ZGm h _).2 ⟨r,mr,t,mtF,a,ma,rfl⟩))) fun y my=>?_
   obtain ⟨g,mg,e,_⟩:=((Yv F t.facts).2.1 y).1 my
   rw [←e]
   exact (hf g mg).2
 intro f mf
 constructor
 ·intro hu
  have:=fwd _ hu
  rwa [ZFg mf] at this
 ·intro hg
  have:=(AN.1 (hG.good.low _ hX f hg)).2
  simpa using this
end
def gB (row:List Bool) (y:Int):Bool:=(row[y.toNat]?).getD false
def ZGU (row:List Bool) (r:Zf):List Bool:=row.set r.for_.toNat (gB row r.for_||r.inn.all (gB row))
def ZF1 (R:List Zf) (row:List Bool):List Bool:=R.foldl ZGU row
def leB (a b:List Bool):Prop:=∀i:Nat,a[i]?=some true→b[i]?=some true
theorem leB.refl (a:List Bool):leB a a:=fun _ h=>h
theorem leB.trans {a b c:List Bool} (h1:leB a b) (h2:leB b c):leB a c:=fun i h=>h2 i (h1 i h)
theorem ZGL {row:List Bool} {y:Int}:gB row y=true↔row[y.toNat]?=some true:=by
 unfold gB
 cases h:row[y.toNat]? with
 | none=>simp
 | some b=>simp
theorem leB.g {a b:List Bool} (h:leB a b) {y:Int} (hy:gB a y=true):gB b y=true:=ZGL.2 (h _ (ZGL.1 hy))
theorem ZIk {row:List Bool} {k i:Nat} {b:Bool}:(row.set k b)[i]?=if k=i∧i<row.length then some b else row[i]?:=by
 rw [Ah]
 by_cases h1:k=i
 ·by_cases h2:i<row.length
  ·rw [if_pos h1,if_pos (by omega),if_pos ⟨h1,h2⟩]
  ·rw [if_pos h1,if_neg (by omega),if_neg (fun h=>h2 h.2),AL (by omega)]
 ·rw [if_neg h1,if_neg (fun h=>h1 h.1)]
theorem ZIF (row:List Bool) (r:Zf):leB row (ZGU row r):=fun i h=>by
 unfold ZGU
 rw [ZIk]
 split
 ·rename_i hc
  obtain ⟨rfl,_⟩:=hc
  have:gB row r.for_=true:=ZGL.2 h
  rw [this];rfl
 ·exact h
theorem ZG5:∀(R:List Zf) (row:List Bool),leB row (ZF1 R row)
 | [],row=>leB.refl row
 | r::R,row=>by rw [ZF1,AA];exact (ZIF row r).trans (ZG5 R _)
theorem ZGP (row:List Bool) (r:Zf):(ZGU row r).length=row.length:=by simp [ZGU]
theorem ZGO:∀(R:List Zf) (row:List Bool),(ZF1 R row).length=row.length
 | [],_=>rfl
 | r::R,row=>by rw [ZF1,AA];exact (ZGO R _).trans (ZGP row r)
theorem ZH9 {n:Nat}:∀{R:List Zf} {row:List Bool},row.length=n→∀r∈R,r.for_.toNat<n→(∀y∈r.inn,gB row y=true)→gB (ZF1 R row) r.for_=true
 | q::R,row,hl,r,hr,hf,hi=>by
  rw [ZF1,AA]
  rcases AJ.1 hr with rfl | hr
  ·refine (ZG5 R _).g ?_
   have:r.inn.all (gB row)=true:=AG.2 hi
   rw [ZGL,ZGU,ZIk,if_pos ⟨rfl,by omega⟩,this,Bool.or_true]
  ·exact ZH9 (by rw [ZGP,hl]) r hr hf fun y my=>(ZIF row q).g (hi y my)
def ZIR (l:List Bool):Nat:=l.countP id
theorem ZJh:∀{a b:List Bool},a.length=b.length→leB a b→ZIR a≤ZIR b∧(a≠b→ZIR a<ZIR b)
 | [],[],_,_=>⟨Ar _,fun h=>absurd rfl h⟩
 | x::a,y::b,hl,h=>by
  have ih:=ZJh (a:=a) (b:=b) (by simpa using hl) fun i hi=>by have:=h (i+1) (by simpa using hi);simpa using this
  have h0:x=true→y=true:=fun e=>by have:=h 0 (by simp [e]);simpa using this
  simp only[ZIR,Ax,id] at ih ⊢
  cases x<;>cases y<;>simp at h0 ⊢
  ·exact ih
  ·refine ⟨by omega,by omega⟩
  ·exact ih
 | [],_::_,hl,_=>by simp at hl
 | _::_,[],hl,_=>by simp at hl
theorem ZIs {R:List Zf} {n:Nat}:∀(q:List Nat) (row:List Bool),row.length=n→n<ZIR row+q.length→ZF1 R (q.foldl (fun r _=>ZF1 R r) row)=q.foldl (fun r _=>ZF1 R r) row
 | [],row,hl,h=>by
  have:ZIR row≤row.length:=Ak
  simp at h;omega
 | k::q,row,hl,h=>by
  by_cases hf:ZF1 R row=row
  ·have e:∀q:List Nat,q.foldl (fun r _=>ZF1 R r) row=row:=fun q=>by
    induction q with
    | nil=>rfl
    | cons k q ih=>rw [AA,hf,ih]
   rw [e,hf]
  ·rw [AA]
   refine ZIs q (ZF1 R row) (by rw [ZGO,hl]) ?_
   have:=(ZJh (ZGO R row).symm (ZG5 R row)).2 (fun e=>hf e.symm)
   simp at h
   omega
structure ZHM (f:QZ) (s:Nat) (row:List Bool):Prop where
 len:row.length=f.beliefs.nodes.toNat
 snd:∀i:Nat,row[i]?=some true→UnF f s ((i:Nat):Int)
theorem ZHM.step {f:QZ} {s:Nat} {row:List Bool} (hF:Zur f) (h:ZHM f s row) {r:Zf} (hr:r∈f.beliefs.reasons):ZHM f s (ZGU row r):=by
 refine ⟨by rw [ZGP,h.len],fun i hi=>?_⟩
 unfold ZGU at hi
 rw [ZIk] at hi
 split at hi
 ·rename_i hc
  obtain ⟨rfl,_⟩:=hc
  simp only[AB,Af] at hi
  obtain ⟨f0,f1,f2,_⟩:=hF.R r hr
  rcases hi with hi | hi
  ·exact h.snd _ (ZGL.1 hi)
  ·rw [Ad f0]
   refine ZIV.2 (.inr ⟨r,hr,rfl,fun y my=>?_⟩)
   have:=h.snd _ (ZGL.1 (AG.1 hi y my))
   rwa [Ad (f2 y my).1] at this
 ·exact h.snd i hi
theorem ZHM.pass {f:QZ} {s:Nat} (hF:Zur f):∀(R:List Zf) (row:List Bool),(∀r∈R,r∈f.beliefs.reasons)→ZHM f s row→ZHM f s (ZF1 R row)
 | [],_,_,h=>h
 | r::R,row,hR,h=>by
  rw [ZF1,AA]
  exact ZHM.pass hF R _ (fun q hq=>hR q (by simp [hq])) (h.step hF (hR r (by simp)))
theorem ZJc {row:List Bool} {y:Int} {n:Nat} (hl:row.length=n) (h1:y.toNat<n):row[y.toNat]?=some (gB row y):=by
 have hg:row[y.toNat]?=some row[y.toNat]:=A3 (by omega)
 unfold gB
 rw [hg];rfl
def ZG8 (s:Nat):List Int→Nat→List Bool→List Bool
 | [],_,row=>row
 | x::l,i,row=>if s.testBit i=true then ZG8 s l (i+1) (row.set x.toNat true) else ZG8 s l (i+1) row
theorem ZHE (s:Nat):∀(l:List Int) (i:Nat) (row:List Bool),(ZG8 s l i row).length=row.length
 | [],_,_=>rfl
 | x::l,i,row=>by
  simp only[ZG8]
  split
  ·rw [ZHE s l];simp
  ·exact ZHE s l _ _
theorem ZHw (s:Nat):∀(l:List Int) (i:Nat) (row:List Bool) (k:Nat),(ZG8 s l i row)[k]?=some true↔row[k]?=some true∨(k<row.length∧∃x∈Zhj l s i,x.toNat=k)
 | [],i,row,k=>by simp [ZG8,Zhj]
 | x::l,i,row,k=>by
  simp only[ZG8,Zhj]
  split
  ·rw [ZHw s l,ZIk,List.length_set]
   by_cases hx:x.toNat=k
   ·by_cases hk:k<row.length
    ·simp [hx,hk]
    ·rw [if_neg (fun h=>hk h.2)]
     simp [hk]
   ·rw [if_neg (fun h=>hx h.1)]
    simp [hx]
  ·exact ZHw s l _ _ _
theorem ZIQ {f:QZ} (h:Zur f) {s:Nat} (hs:s≤9223372036854775807):∃l,ZFY f ((s:Nat):Int)=some l∧Lab l f.beliefs.nodes.toNat (UnF f s):=by
 have hn0:=h.n0
 have hn1:=h.n1
 have ha1:=h.a1
 have hlen0:(ZG8 s f.assumed 0 (A5 f.beliefs.nodes.toNat false)).length=f.beliefs.nodes.toNat:=by rw [ZHE];simp
 have h0:ZHM f s (ZG8 s f.assumed 0 (A5 f.beliefs.nodes.toNat false)):=by
  refine ⟨hlen0,fun i hi=>?_⟩
  rcases (ZHw s _ _ _ _).1 hi with hi | ⟨_,x,mx,rfl⟩
  ·by_cases hi':i<f.beliefs.nodes.toNat
   ·rw [ZGM hi'] at hi;simp at hi
   ·rw [AL (by simp;omega)] at hi;simp at hi
  ·obtain ⟨j,h1,h2⟩:=Zea.1 mx
   rw [Ad (h.a x (A8 h1)).1]
   exact ZIV.2 (.inl ⟨j,h1,by simpa using h2⟩)
 generalize hrow0:ZG8 s f.assumed 0 (A5 f.beliefs.nodes.toNat false)=row0 at *
 have hfold:∀(q:List Nat) (row:List Bool),ZHM f s row→ZHM f s (q.foldl (fun r _=>ZF1 f.beliefs.reasons r) row)∧leB row (q.foldl (fun r _=>ZF1 f.beliefs.reasons r) row):=by
  intro q
  induction q with
  | nil=>intro row hr;exact ⟨hr,leB.refl _⟩
  | cons k q ih=>
   intro row hr
   rw [AA]
   obtain ⟨a,b⟩:=ih _ (ZHM.pass h _ _ (fun _ hq=>hq) hr)
   exact ⟨a,(ZG5 _ _).trans b⟩
 obtain ⟨hF,hle⟩:=hfold (A7 0 (f.beliefs.nodes.toNat+1)) row0 h0
 have hfix:=ZIs (R:=f.beliefs.reasons) (n:=f.beliefs.nodes.toNat) (A7 0 (f.beliefs.nodes.toNat+1)) row0 hlen0 (by simp;omega)
 refine ⟨(A7 0 (f.beliefs.nodes.toNat+1)).foldl (fun r _=>ZF1 f.beliefs.reasons r) row0,?_,hF.len,fun i hi=>⟨hF.snd i,fun hd=>?_⟩⟩
 ·unfold ZFY
  rw [Zh _ ⟨hn0,by omega⟩,Zal (fun l i row=>Yp _ (ZG8 s l i row,0)) (fun l i row=>row.length=f.beliefs.nodes.toNat∧∀x∈l,0≤x∧x.toNat<f.beliefs.nodes.toNat) (fun i row _=>rfl) (fun x l i row hI=>by
   left
   obtain ⟨hl,hx⟩:=hI
   obtain ⟨x0,x1⟩:=hx x (by simp)
   rw [Zh _ (by omega)]
   simp only[ZIN hs]
   by_cases hb:s.testBit i=true
   ·rw [if_pos hb,Zh _ ⟨x0,by omega⟩,ZJc hl x1,A0]
    exact ⟨_,rfl,⟨by simpa using hl,fun y my=>hx y (by simp [my])⟩,by simp only[ZG8,if_pos hb]⟩
   ·rw [if_neg hb]
    exact ⟨_,rfl,⟨hl,fun y my=>hx y (by simp [my])⟩,by simp only[ZG8,if_neg hb]⟩) f.assumed 0 _ ⟨by simp,h.a⟩,hrow0]
  refine Zl8 (f:=fun r _=>ZF1 f.beliefs.reasons r) (fin:=fun row=>some row) (fun _ row=>row.length=f.beliefs.nodes.toNat) (f.beliefs.nodes.toNat+1) ?_ ?_ (f.beliefs.nodes.toNat+1) 0 row0 (by omega) hlen0
  ·intro k row hk hl
   refine ⟨?_,by rw [ZGO,hl]⟩
   show (if decide (((k:Nat):Int)≤f.beliefs.nodes)=true then _ else _)=_
   rw [if_pos (by simp;omega),YM (f:=ZGU) (fun _ row=>row.length=f.beliefs.nodes.toNat) hl (fun j r row' mr _ _ hl'=>by
    obtain ⟨f0,f1,f2,f3⟩:=h.R r mr
    refine ⟨?_,by rw [ZGP,hl']⟩
    rw [Zif (f:=fun u y=>u&&gB row' y),ZJb]
    ·rw [Zh _ ⟨f0,by omega⟩,ZJc hl' f1,A0]
     unfold ZGU
     cases gB row' r.for_<;>simp
    ·intro i y u my
     obtain ⟨y0,y1⟩:=f2 y my
     cases u with
     | false=>rfl
     | true=>
      rw [if_pos rfl,Zh _ ⟨y0,by omega⟩,ZJc hl' y1];rfl)]
   rw [ZGG (by omega)]
   rfl
  ·intro row hl
   show (if decide (((f.beliefs.nodes.toNat+1:Nat):Int)≤f.beliefs.nodes)=true then _ else _)=_
   rw [if_neg (by simp;omega)]
   rfl
 ·have closed:∀x,UnF f s x→gB ((A7 0 (f.beliefs.nodes.toNat+1)).foldl (fun r _=>ZF1 f.beliefs.reasons r) row0) x=true:=by
   intro x hx
   induction hx with
   | mk r hr _ ih=>
    rcases AE.1 hr with m | m
    ·have:=ZH9 hF.len r m (h.R r m).2.1 ih
     rwa [hfix] at this
    ·obtain ⟨y,my,rfl⟩:=A6.1 m
     refine hle.g (ZGL.2 ?_)
     rw [←hrow0,ZHw]
     obtain ⟨j,h1,_⟩:=Zea.1 my
     refine .inr ⟨?_,y,my,rfl⟩
     rw [B1]
     exact (h.a y (A8 h1)).2
  have:=ZGL.1 (closed _ hd)
  simpa using this
section
def MF (f:QZ):Nat:=2 ^ f.assumed.length
theorem ZGY {f:QZ} (h:f.assumed.length≤6):ZCy .i64 1 ((f.assumed.length:Nat):Int)=((MF f:Nat):Int)∧MF f≤64:=by
 have:=ZJm (n:=((f.assumed.length:Nat):Int)) (by omega) (by omega)
 rw [AC] at this
 exact this
theorem ZJt (f:QZ):0<MF f:=B9 _
def inS (f:QZ) (s:Int):Bool:=decide (0≤s)&&decide (s<((MF f:Nat):Int))
theorem ZHu {f:QZ} {s:Nat}:inS f ((s:Nat):Int)=decide (s<MF f):=by
 unfold inS
 rw [show decide (0≤((s:Nat):Int))=true by simp,AW,AF]
 simp
theorem Zur.a6 {f:QZ} (h:ZpX f=true):f.assumed.length≤6:=(Zur.of h).a1
theorem ZGh {f:QZ} (h:ZpX f=true) (hs:ZGg f) (s:Int):ZF6 f s=some (inS f s):=by
 unfold ZF6 inS
 have h6:=Zur.a6 h
 obtain ⟨e,e64⟩:=ZGY h6
 have hp:=ZJt f
 rw [ZIc hs,h,A0,if_pos rfl,Zh _ (by omega),e,YW (by omega) (by omega),ZiD]
 rw [A0]
 congr 2
 rw [AF];simp;omega
open Classical
theorem ZIi {f:QZ} (h:ZpX f=true) {s:Nat} (hs:s<MF f):∃l,ZGQ f ((s:Nat):Int)=some l∧Lab l f.beliefs.nodes.toNat (UnF f s)∧ZGw f.bad l=some (decide (ZBo f s)):=by
 have hF:=Zur.of h
 have:=(ZGY hF.a1).2
 obtain ⟨l,e,hl⟩:=ZIU hF (s:=s) (by omega)
 refine ⟨l,e,hl,?_⟩
 rw [ZIA hl hF.b]
 congr 1
 rw [AF,decide_eq_true_iff,decide_eq_true_iff]
 exact Iff.rfl
theorem ZG2 {f:QZ} (h:ZpX f=true) {s:Nat} (hs:s<MF f):∃l,ZFY f ((s:Nat):Int)=some l∧Lab l f.beliefs.nodes.toNat (UnF f s):=by
 have hF:=Zur.of h
 have:=(ZGY hF.a1).2
 exact ZIQ hF (s:=s) (by omega)
theorem ZJa {f:QZ} (h:ZpX f=true) (hs:ZGg f) {s:Nat} (h1:s<MF f):ZFT f ((s:Nat):Int)=some (decide (ZBo f s)):=by
 obtain ⟨l,e1,e2⟩:=ZG2 h h1
 have hF:=Zur.of h
 unfold ZFT
 rw [ZGh h hs,ZHu,A0,decide_eq_true h1,if_pos rfl,e1,A0,ZU (p:=fun y=>decide (¬UnF f s y)) (r:=false)]
 ·have:f.bad.all (fun y=>decide (¬UnF f s y))=decide (ZBo f s):=by
   rw [AF,AG,decide_eq_true_iff]
   exact forall_congr' fun y=>forall_congr' fun _=>decide_eq_true_iff
  rw [this]
  by_cases hh:ZBo f s
  ·rw [decide_eq_true hh];rfl
  ·rw [decide_eq_false hh];rfl
 ·intro i x mx
  obtain ⟨h0,hx⟩:=hF.b x mx
  obtain ⟨b,q1,q2⟩:=e2.at h0 hx
  rw [Zh _ ⟨h0,by rw [e2.len];omega⟩,q1,A0]
  by_cases hD:UnF f s x
  ·rw [q2.2 hD];simp [hD]
  ·have:b=false:=by cases b with
    | false=>rfl
    | true=>exact absurd (q2.1 rfl) hD
   rw [this];simp [hD]
def ZGe:List Bool→Nat→List Int
 | [],_=>[]
 | b::l,i=>(if b then [((i:Nat):Int)] else [])++ZGe l (i+1)
theorem ZHH {x:Int}:∀{l:List Bool} {i:Nat},x∈ZGe l i↔∃j,l[j]?=some true∧x=((i+j:Nat):Int)
 | [],i=>by simp [ZGe]
 | b::l,i=>by
  rw [ZGe,AE,ZHH (l:=l)]
  constructor
  ·rintro (h | ⟨j,h1,h2⟩)
   ·cases b with
    | false=>simp at h
    | true=>exact ⟨0,by simp,by simpa using h⟩
   ·exact ⟨j+1,by simpa using h1,by rw [h2];omega⟩
  ·rintro ⟨j,h1,h2⟩
   cases j with
   | zero=>left;simp at h1;simp [h1,h2]
   | succ j=>right;exact ⟨j,by simpa using h1,by rw [h2];omega⟩
theorem ZJn {ρ:Type} {l:List Bool} (hl:l.length≤1000000) {fin:List Int→Option ρ}:Zo (σ:=List Int) (fun (i9:Nat) (x10:Bool) row_6=>if x10=true then chk (row_6.length+1≤1073741824) <| some (.inl (row_6++[((i9:Nat):Int)])) else some (.inl row_6)) fin l 0 []=fin (ZGe l 0):=by
 rw [Zal (fun l i acc=>fin (acc++ZGe l i)) (fun l i acc=>acc.length+l.length≤1000000) (fun i acc _=>by simp [ZGe]) (fun x l i acc hI=>by
  left
  simp only[AY] at hI
  cases x with
  | true=>
   rw [if_pos rfl,Zh _ (by omega)]
   exact ⟨_,rfl,by simp;omega,by simp [ZGe]⟩
  | false=>exact ⟨_,rfl,by omega,by simp [ZGe]⟩) l 0 [] (by simpa using hl)]
 simp
theorem ZJk {l:List Bool} {n:Nat} {D:Int→Prop} (h:Lab l n D) (hD:∀x,D x→0≤x∧x.toNat<n) (x:Int):x∈ZGe l 0↔D x:=by
 rw [ZHH]
 constructor
 ·rintro ⟨j,h1,rfl⟩
  have hj:j<n:=by rw [←h.len];exact (A9.1 h1).1
  obtain ⟨b,q1,q2⟩:=h.at (y:=((0+j:Nat):Int)) (by omega) (by omega)
  have e:(((0+j:Nat):Int)).toNat=j:=by omega
  rw [e,h1] at q1
  simp only[AB] at q1
  exact q2.1 q1.symm
 ·intro hd
  obtain ⟨h0,h1⟩:=hD x hd
  obtain ⟨b,q1,q2⟩:=h.at h0 h1
  rw [q2.2 hd] at q1
  exact ⟨x.toNat,q1,by omega⟩
theorem UnF.node {f:QZ} (h:ZpX f=true) {s:Nat} {x:Int} (hx:UnF f s x):0≤x∧x.toNat<f.beliefs.nodes.toNat:=Der.node ((Zur.of h).RF s) hx
theorem ZIK {f:QZ} (h:ZpX f=true) (hs:ZGg f) {s:Nat} (h1:s<MF f):∃r,ZF4 f ((s:Nat):Int)=some r∧∀x,x∈r↔UnF f s x:=by
 obtain ⟨l,e1,e2⟩:=ZG2 h h1
 have hF:=Zur.of h
 have:=hF.n1
 refine ⟨ZGe l 0,?_,ZJk e2 fun x=>UnF.node h⟩
 unfold ZF4
 rw [ZGh h hs,ZHu,A0,decide_eq_true h1,if_pos rfl,e1,A0,ZJn (by rw [e2.len];omega)]
theorem ZIO (l:List Int) (x:Int):ZHv l x=some (ZxR l x):=Zqf l x
theorem ZJg {l:List Int} {x:Int} {P:Prop} (h:x∈l↔P):ZxR l x=decide P:=by
 rw [AF,ZqQ,h];simp
def ZG3 (f:QZ) (x:Int) (s:Nat):Prop:=ZBo f s∧UnF f s x
theorem ZJi {f:QZ} {x:Int} {s:Nat}:(if decide (ZBo f s)=true then (some (decide (UnF f s x)):Option Bool) else some false)=some (decide (ZG3 f x s)):=by
 by_cases h:ZBo f s
 ·simp [ZG3,h]
 ·simp [ZG3,h]
theorem ZIP {f:QZ} (h:ZpX f=true) (hs:ZGg f) (x:Int) {s:Nat} (h1:s<MF f):ZF3 f x ((s:Nat):Int)=some (decide (ZG3 f x s)):=by
 obtain ⟨r,e1,e2⟩:=ZIK h hs h1
 unfold ZF3
 rw [ZJa h hs h1,A0,e1,A0,ZIO,A0,ZJg (e2 x),ZJi]
def ZGT (p:Nat→Bool) (row:List Int) (k:Nat):List Int:=if p k then row++[((k:Nat):Int)] else row
def ZGX (p:Nat→Bool) (m:Nat):List Int:=(A7 0 m).foldl (ZGT p) []
theorem ZHP (p:Nat→Bool) (row:List Int) (k:Nat):(ZGT p row k).length≤row.length+1:=by
 unfold ZGT;split<;>simp
theorem ZHY (p:Nat→Bool):∀(d k:Nat) (row:List Int),row.Pairwise (·<·)→(∀y∈row,y<((k:Nat):Int))→((A7 k d).foldl (ZGT p) row).Pairwise (·<·)∧((A7 k d).foldl (ZGT p) row).length≤row.length+d∧∀y,y∈(A7 k d).foldl (ZGT p) row↔y∈row∨∃j,k≤j∧j<k+d∧y=((j:Nat):Int)∧p j=true
 | 0,k,row,h1,h2=>by
  refine ⟨by simpa using h1,by simp,fun y=>?_⟩
  simp only[List.range'_zero,List.foldl_nil]
  exact ⟨.inl,fun h=>h.elim id fun ⟨j,a,b,_⟩=>by omega⟩
 | d+1,k,row,h1,h2=>by
  have hq:(ZGT p row k).Pairwise (·<·)∧∀y∈ZGT p row k,y<((k+1:Nat):Int):=by
   unfold ZGT
   split
   ·refine ⟨Ag.2 ⟨h1,List.pairwise_singleton _ _,fun a ma b mb=>?_⟩,fun y my=>?_⟩
    ·rw [BA.1 mb];exact h2 a ma
    ·rcases AE.1 my with m | m
     ·have:=h2 y m;omega
     ·rw [BA.1 m];omega
   ·exact ⟨h1,fun y my=>by have:=h2 y my;omega⟩
  obtain ⟨a1,a2,a3⟩:=ZHY p d (k+1) (ZGT p row k) hq.1 hq.2
  rw [B2,AA]
  refine ⟨a1,by have:=ZHP p row k;omega,fun y=>?_⟩
  rw [a3]
  have h3:y∈ZGT p row k↔y∈row∨(y=((k:Nat):Int)∧p k=true):=by
   unfold ZGT
   split
   ·rename_i hc;simp [hc]
   ·rename_i hc;simp [hc]
  rw [h3]
  constructor
  ·rintro ((h | ⟨h,h'⟩) | ⟨j,q1,q2,q3,q4⟩)
   ·exact .inl h
   ·exact .inr ⟨k,by omega,by omega,h,h'⟩
   ·exact .inr ⟨j,by omega,by omega,q3,q4⟩
  ·rintro (h | ⟨j,q1,q2,q3,q4⟩)
   ·exact .inl (.inl h)
   ·by_cases e:j=k
    ·subst e;exact .inl (.inr ⟨q3,q4⟩)
    ·exact .inr ⟨j,by omega,by omega,q3,q4⟩
theorem ZGR (p:Nat→Bool) (m:Nat):(ZGX p m).Pairwise (·<·)∧(ZGX p m).length≤m∧∀y,y∈ZGX p m↔∃k,k<m∧y=((k:Nat):Int)∧p k=true:=by
 obtain ⟨h1,h2,h3⟩:=ZHY p m 0 [] List.Pairwise.nil (by simp)
 refine ⟨h1,by simpa [ZGX] using h2,fun y=>?_⟩
 rw [ZGX,h3]
 simp
theorem ZH7 {p:Nat→Bool} {m:Nat} (s:Nat):ZJo (ZGX p m) s↔s<m∧p s=true:=by
 show ((s:Nat):Int)∈_↔_
 rw [(ZGR p m).2.2]
 constructor
 ·rintro ⟨k,a,b,c⟩
  have:s=k:=by omega
  subst this;exact ⟨a,c⟩
 ·rintro ⟨a,c⟩;exact ⟨s,a,rfl,c⟩
theorem ZHX {f:QZ} (h6:f.assumed.length≤6) {keep:Int→Option Bool} {p:Nat→Bool} (hk:∀s:Nat,s<MF f→keep ((s:Nat):Int)=some (p s)):ZGf f keep=some (ZGX p (MF f)):=by
 obtain ⟨e,e64⟩:=ZGY h6
 unfold ZGf
 rw [Zh _ (by omega)]
 refine (Zl8 (f:=ZGT p) (fin:=fun row=>some row) (fun k row=>row.length≤k) (MF f) ?_ ?_ (MF f) 0 [] (by omega) (by simp))
 ·intro k row hk' hI
  refine ⟨?_,by have:=ZHP p row k;omega⟩
  rw [e]
  show (if decide (((k:Nat):Int)<((MF f:Nat):Int))=true then _ else _)=_
  rw [if_pos (by simp only[decide_eq_true_eq];omega),hk k hk',A0,ZGG (by omega)]
  unfold ZGT
  cases p k with
  | false=>simp
  | true=>simp only[if_true];rw [Zh _ (by omega)]
 ·intro row _
  rw [e]
  show (if decide (((MF f:Nat):Int)<((MF f:Nat):Int))=true then _ else _)=_
  rw [if_neg (by simp)];rfl
noncomputable def lbB (f:QZ) (x:Int) (s:Nat):Bool:=decide (ZG3 f x s)
theorem ZHh {f:QZ} (h:ZpX f=true) (hs:ZGg f) (x:Int):ZFZ f x=ZFQ (ZGX (lbB f x) (MF f)):=by
 have hn:(∀s,lbB f x s=false)→ZGX (lbB f x) (MF f)=[]:=fun hh=>by
  refine Al.2 fun y my=>?_
  obtain ⟨k,_,_,hk⟩:=((ZGR _ _).2.2 y).1 my
  rw [hh k] at hk
  simp at hk
 have h0:ZFQ []=some []:=by rw [ZGa [] (by simp)];simp [Zkx]
 have hno:¬(0≤x∧x.toNat<f.beliefs.nodes.toNat)→∀s,lbB f x s=false:=fun hh s=>by
  unfold lbB
  refine decide_eq_false fun hp=>hh (UnF.node h hp.2)
 unfold ZFZ
 rw [ZIf hs,h,A0,if_pos rfl]
 have hF:=Zur.of h
 have:=hF.n0
 by_cases q1:x<0
 ·rw [if_pos (by simpa using q1),hn (hno (by omega)),h0]
 rw [if_neg (by simpa using q1)]
 by_cases q2:f.beliefs.nodes≤x
 ·rw [if_pos (by simpa using q2),hn (hno (by omega)),h0]
 rw [if_neg (by simpa using q2),ZHX (Zur.a6 h) (p:=lbB f x)]
 ·rw [A0]
  cases ZFQ (ZGX (lbB f x) (MF f))<;>rfl
 ·intro s h1
  obtain ⟨l,e1,e2,e3⟩:=ZIi h h1
  show ZF2 _ _ _=_
  unfold ZF2
  obtain ⟨b,b1,b2⟩:=e2.at (y:=x) (by omega) (by omega)
  rw [e1,A0,Zh _ ⟨by omega,by rw [e2.len];omega⟩,b1,A0,e3]
  unfold lbB
  by_cases hD:UnF f s x
  ·rw [b2.2 hD];simp [hD,ZG3]
  ·have:b=false:=by cases b with
    | false=>rfl
    | true=>exact absurd (b2.1 rfl) hD
   rw [this];simp [hD,ZG3]
theorem ZIq {f:QZ} (h:ZpX f=true) (hs:ZGg f) (x:Int):ZF7 f x=ZFS (ZGX (lbB f x) (MF f)):=by
 obtain ⟨e,e64⟩:=ZGY (Zur.a6 h)
 unfold ZF7
 refine (Zl8 (f:=ZGT (lbB f x)) (fin:=fun row=>ZFS row) (fun k row=>row.length≤k) (MF f) ?_ ?_ (MF f) 0 [] (by omega) (by simp))
 ·intro k row hk' hI
  refine ⟨?_,by have:=ZHP (lbB f x) row k;omega⟩
  show (ZF6 f ((k:Nat):Int)).bind _=_
  rw [ZGh h hs,ZHu,A0,decide_eq_true hk',if_pos rfl,ZIP h hs x hk',A0,ZGG (by omega)]
  unfold ZGT
  rw [show decide (ZG3 f x k)=lbB f x k from rfl]
  cases lbB f x k with
  | false=>simp
  | true=>simp only[if_true];rw [Zh _ (by omega)]
 ·intro row _
  show (ZF6 f ((MF f:Nat):Int)).bind _=_
  rw [ZGh h hs,ZHu,A0,decide_eq_false (by omega),if_neg (by simp)]
theorem ZIX {f:QZ} (h:ZpX f=true) (p:Nat→Bool):Fit (ZGX p (MF f))∧(ZGX p (MF f)).length≤64:=by
 have h64:=(ZGY (Zur.a6 h)).2
 obtain ⟨_,h2,h3⟩:=ZGR p (MF f)
 exact ⟨fun y my=>by obtain ⟨k,a,rfl,_⟩:=(h3 y).1 my;omega,by omega⟩
theorem ZI6 {f:QZ} (h:ZpX f=true) (p:Nat→Bool):∃r,ZFQ (ZGX p (MF f))=some r∧Zu2 r (fun s=>s<MF f∧p s=true)∧(∀y∈r,0≤y∧y<((MF f:Nat):Int)∧p y.toNat=true)∧r.length≤64:=by
 obtain ⟨hf,hl⟩:=ZIX h p
 obtain ⟨r,r1,r2,r3,r4⟩:=ZHr (ZGX p (MF f)) (by omega) hf
 refine ⟨r,r1,⟨r2.1,fun y=>?_⟩,fun y my=>?_,by omega⟩
 ·rw [r2.2]
  rw [Zw3 (Cof.of fun n hn=>(ZH7 n).1 hn) (Cof.of fun n hn=>(ZH7 n).2 hn)]
 ·obtain ⟨k,a,rfl,b⟩:=((ZGR p (MF f)).2.2 y).1 (r3 y my)
  exact ⟨by omega,by omega,by simpa using b⟩
theorem ZIr {f:QZ} (h:ZpX f=true) (hs:ZGg f) (x:Int):∃r,ZFZ f x=some r∧Zu2 r (fun s=>s<MF f∧lbB f x s=true)∧(∀y∈r,0≤y∧y<((MF f:Nat):Int)∧lbB f x y.toNat=true)∧r.length≤64:=by
 rw [ZHh h hs];exact ZI6 h _
theorem ZIo {f:QZ} (h:ZpX f=true) (hs:ZGg f) (x:Int):ZF7 f x=ZFZ f x:=by
 rw [ZIq h hs,ZHh h hs,ZHB _ (by have:=(ZIX h (lbB f x)).2;omega)]
end
section
open Classical
theorem ZIT {R:List Zg} (h:R.all ZDL=true):ZFD R:=fun r mr x mx hk=>by
 have h1:=AG.1 h r mr
 unfold ZDL at h1
 rw [A4] at h1
 have h2:=AG.1 h1.1 x mx
 rw [hk] at h2
 simp at h2
structure ZHs (R:List Zg) (base F:List Zb):Prop where
 g:Z0 R base F
 h60:(ZZ R F base).length≤60
 h6:base.length≤6
 m:R.all ZDL=true
theorem ZHs.mono {R:List Zg} {base F:List Zb} (h:ZHs R base F):ZFD R:=ZIT h.m
theorem ZHs.frame {R:List Zg} {base F:List Zb} (h:ZHs R base F) (bad:ByteArray):ZpX (Zws R F base bad)=true∧ZGg (Zws R F base bad):=by
 have hl:=h.g.len
 have h60:=h.h60
 have h6:=h.h6
 have hd:((ZZ R F base).drop base.length).length≤60:=by rw [List.length_drop];omega
 obtain ⟨n1,n2,n3⟩:=Yv F base
 obtain ⟨b1,b2⟩:=Zrl (p:=fun f=>decide (f.rel=bad)) (l:=F) (i:=0)
 have hin:∀x∈Qr F base,0≤x∧x<((F.length:Nat):Int):=fun x mx=>by
  obtain ⟨f,_,e,e0⟩:=(n2 x).1 mx
  have:=(ZjE e e0).1
  omega
 constructor
 ·unfold ZpX ZbZ Zws
  simp only[A4,decide_eq_true_eq]
  refine ⟨⟨by omega,by omega,hd,AG.2 fun x mx=>?_⟩,by omega,ZuP hin n1,ZuP (fun x mx=>?_) b1,AG.2 fun x mx=>?_⟩
  ·have mg:=Ae mx
   obtain ⟨o1,o2,o3⟩:=Zun h.g x mg
   obtain ⟨u1,u2⟩:=(Zee h.g mg).up
   unfold ZsD
   simp only[A4,decide_eq_true_eq]
   exact ⟨o1.1,by omega,ZuP (fun y my=>by have:=o2 y my;omega) u1,ZuP (fun y my=>by have:=o3 y my;omega) u2⟩
  ·obtain ⟨j,f,h1,_,e⟩:=ZrA.1 mx
   have:=(A9.1 h1).1
   omega
  ·obtain ⟨r,mr,t,_,a,_,rfl⟩:=(ZGm h.g x).1 mx
   unfold ZxX
   rw [decide_eq_true_iff]
   show Qr F (ZiJ r t)=[]
   rw [ZFB h.mono mr t]
   rfl
 ·refine ⟨fun x mx=>?_,by show ((ZZ R F base).drop base.length).length≤_;omega,by show (Qr F base).length≤_;omega,by show (ZmP _ F 0).length≤_;omega⟩
  have:=Zfg h.g (Ae mx)
  omega
theorem ZGN (s:Nat):∀(l:List Int) (i:Nat),(Zhj l s i).Sublist l
 | [],_=>by simp [Zhj]
 | x::l,i=>by
  unfold Zhj
  split
  ·exact (ZGN s l (i+1)).cons_cons x
  ·exact (ZGN s l (i+1)).cons x
theorem ZIW (p:Nat→Bool):∀n,∃s:Nat,s<2 ^ n∧∀i,s.testBit i=(decide (i<n)&&p i)
 | 0=>⟨0,by simp,fun i=>by simp⟩
 | n+1=>by
  obtain ⟨s,h1,h2⟩:=ZIW p n
  have h3:s<2 ^ (n+1):=by rw [Nat.pow_succ];omega
  cases hp:p n with
  | false=>
   refine ⟨s,h3,fun i=>?_⟩
   rw [h2]
   by_cases e:i=n
   ·subst e;rw [hp];simp
   ·rw [AF];simp;omega
  | true=>
   refine ⟨s ||| 2 ^ n,Nat.or_lt_two_pow h3 (by rw [Nat.pow_succ];have:=B9 n;omega),fun i=>?_⟩
   rw [Nat.testBit_or,h2,Nat.testBit_two_pow]
   by_cases e:n=i
   ·subst e;rw [hp];simp
   ·rw [AF];simp [e];omega
theorem ZJp {F base t:List Zb} (hb:∀f∈base,f∈F) (ht:∀f∈t,f∈base):∃s,s<2 ^ (Qr F base).length∧∀f,f∈t↔f∈ZGi F base s:=by
 obtain ⟨s,h1,h2⟩:=ZIW (fun j=>match (Qr F base)[j]? with | some x=>decide (ZFu F x∈t) | none=>false) (Qr F base).length
 refine ⟨s,h1,fun f=>⟨fun mf=>?_,fun mf=>?_⟩⟩
 ·have mb:=ht f mf
  obtain ⟨k,k1,_⟩:=Q6 (hb f mb)
  have mn:ZY F f∈Qr F base:=((Yv F base).2.1 _).2 ⟨f,mb,rfl,by omega⟩
  obtain ⟨j,hj⟩:=Aw.1 mn
  have hjl:=(A9.1 hj).1
  refine A6.2 ⟨ZY F f,Zea.2 ⟨j,hj,?_⟩,ZFg (hb f mb)⟩
  rw [AD,h2,hj]
  simp only[ZFg (hb f mb),A4,decide_eq_true_iff]
  exact ⟨hjl,mf⟩
 ·obtain ⟨x,mx,rfl⟩:=A6.1 mf
  obtain ⟨j,hj,hb⟩:=Zea.1 mx
  rw [AD,h2,hj] at hb
  simp only[A4,decide_eq_true_iff] at hb
  exact hb.2
theorem ZI4 {F base:List Zb} {s u:Nat} (h:Zc6 s u):∀f∈ZGi F base s,f∈ZGi F base u:=fun f mf=>by
 obtain ⟨x,mx,rfl⟩:=A6.1 mf
 obtain ⟨j,hj,hb⟩:=Zea.1 mx
 exact A6.2 ⟨x,Zea.2 ⟨j,hj,Zf7.1 h _ hb⟩,rfl⟩
theorem ZI3 {F base:List Zb} (hb:∀f∈base,f∈F) {s u:Nat} (hs:s<2 ^ (Qr F base).length) (h:∀f∈ZGi F base s,f∈ZGi F base u):Zc6 s u:=Zf7.2 fun i hi=>by
 have hil:=ZJl hs hi
 have m1:(Qr F base)[i]∈Zhj (Qr F base) s 0:=Zea.2 ⟨i,A3 hil,by rw [AD];exact hi⟩
 have h1:=h _ (A6.2 ⟨_,m1,rfl⟩)
 obtain ⟨y,my,e⟩:=A6.1 h1
 obtain ⟨f,mf,f1,f2⟩:=ZGk hb m1
 obtain ⟨g,mg,g1,g2⟩:=ZGk hb my
 have ey:y=(Qr F base)[i]:=by
  rw [←g1,←f1,←f2,←g2,e]
 obtain ⟨j,hj,hbit⟩:=Zea.1 my
 rw [AD] at hbit
 obtain ⟨hjl,ej⟩:=A9.1 hj
 have hp:=(Yv F base).1
 have:j=i:=by
  rcases Ao j i with hl | hl | hl
  ·have:=AP.1 hp j i hjl hil hl;rw [ej,ey] at this;omega
  ·exact hl
  ·have:=AP.1 hp i j hil hjl hl;rw [ej,ey] at this;omega
 rw [←this]
 exact hbit
theorem ZIM {R:List Zg} (hR:Zbc R) {base F:List Zb} (h:ZHs R base F) {given:List Zb} (hs:given.Sublist base):∃G,Z0 R given G∧(∀f∈G,f∈F)∧Ze1 R given=some (G,true)∧ZbK R given=some (G,true):=by
 obtain ⟨G,p1,p2,hG,hGF⟩:=ZFp hR (fun _ h=>h) h.g.logical h.g hs
 have g60:(ZZ R G given).length≤60:=As (ZFz (fun _ h=>h) h.g hG (fun f mf=>hs.subset mf) hGF) h.h60
 have hB:=Q4.of hG g60
 obtain ⟨h1,h2⟩:=ZFm hG p1 p2 g60
 have hm:=ZFC h.mono hG g60
 refine ⟨G,hG,hGF,?_,?_⟩
 ·unfold Ze1
  rw [h2,A0,if_pos rfl,Zvi hB hG.args rfl,hm];rfl
 ·unfold ZbK
  rw [h1,A0,if_pos rfl,Zra hB hG.args rfl,hm];rfl
theorem ZHs.un {R:List Zg} {base F:List Zb} (h:ZHs R base F) {bad:ByteArray} {s:Nat} {given G:List Zb} (hgv:∀f,f∈given↔f∈ZGi F base s) (hG:Z0 R given G) (hGF:∀f∈G,f∈F) (f:Zb):UnF (Zws R F base bad) s (ZY F f)↔f∈G:=by
 by_cases mf:f∈F
 ·exact ZI8 h.g hgv hG f mf
 ·refine ⟨fun hu=>?_,fun hg=>absurd (hGF f hg) mf⟩
  have:=(UnF.node (h.frame bad).1 hu).1
  rcases ZfL F f with ⟨_,e⟩ | ⟨j,_,e⟩
  ·omega
  ·exact absurd (A8 e) mf
theorem ZHs.cons {R:List Zg} {base F:List Zb} (h:ZHs R base F) {bad:ByteArray} {s:Nat} {given G:List Zb} (hgv:∀f,f∈given↔f∈ZGi F base s) (hG:Z0 R given G) (hGF:∀f∈G,f∈F):ZBo (Zws R F base bad) s↔∀g∈G,g.rel≠bad:=by
 have hbad:∀f∈F,(f.rel=bad↔ZY F f∈(Zws R F base bad).bad):=fun f mf=>by
  show _↔ZY F f∈ZmP _ F 0
  rw [ZrA]
  obtain ⟨j,h1,h2⟩:=Q6 mf
  constructor
  ·intro e;exact ⟨j,f,h2,by simpa using e,by rw [h1];simp⟩
  ·rintro ⟨i,g,k1,k2,k3⟩
   have:i=j:=by omega
   subst this
   rw [h2] at k1
   obtain rfl:=Ab k1
   simpa using k2
 constructor
 ·intro hc g mg e
  exact hc _ ((hbad g (hGF g mg)).1 e) ((h.un hgv hG hGF g).2 mg)
 ·intro hn y my hu
  obtain ⟨j,g,k1,k2,k3⟩:=ZrA.1 (show y∈ZmP (fun f=>decide (f.rel=bad)) F 0 from my)
  have mg:=A8 k1
  have ey:ZY F g=y:=by rw [ZHL (ZdT h.g.good.asc) k1,k3];simp
  rw [←ey] at hu
  exact hn g ((h.un hgv hG hGF g).1 hu) (by simpa using k2)
theorem ZI7 {R:List Zg} {base F:List Zb} (h:ZHs R base F) {bad:ByteArray} {f:Zb} {r:List Int} (hr:Zu2 r (fun s=>s<MF (Zws R F base bad)∧lbB (Zws R F base bad) (ZY F f) s=true)) {t G:List Zb} (ht:∀g∈t,g∈base) (hG:Z0 R t G) (hGF:∀f∈G,f∈F) (hn:∀g∈G,g.rel≠bad):(∃y∈r,∀g∈ZGi F base y.toNat,g∈t)↔f∈G:=by
 obtain ⟨s,hs,hgv⟩:=ZJp h.g.good.inc ht
 have hu:=h.un (bad:=bad) hgv hG hGF f
 have hc:=(h.cons (bad:=bad) hgv hG hGF).2 hn
 constructor
 ·rintro ⟨y,my,hy⟩
  obtain ⟨_,hA,_⟩:=(hr.2 y).1 my
  have hp:Zc6 y.toNat s:=ZI3 h.g.good.inc hA.1 fun g mg=>(hgv g).1 (hy g mg)
  have h2:ZG3 (Zws R F base bad) (ZY F f) y.toNat:=of_decide_eq_true hA.2
  exact hu.1 (h2.2.mono hp)
 ·intro mf
  have hh:lbB (Zws R F base bad) (ZY F f) s=true:=decide_eq_true ⟨hc,hu.2 mf⟩
  obtain ⟨b,hb,p⟩:=ZzC (A:=fun s=>s<MF (Zws R F base bad)∧lbB (Zws R F base bad) (ZY F f) s=true) ⟨hs,hh⟩
  exact ⟨((b:Nat):Int),(hr.2 _).2 ⟨by omega,by simpa using hb⟩,fun g mg=>(hgv g).2 (ZI4 p g (by simpa using mg))⟩
end
section
open Classical
theorem ZHK {F:List Zb} {x:Int} (h0:0≤x) (h1:x<((F.length:Nat):Int)):F[x.toNat]?=some (ZFu F x):=by
 unfold ZFu
 rw [A3 (show x.toNat<F.length by omega)]
theorem ZH5 {F:List Zb} {x:Int} (h0:0≤x) (h1:x<((F.length:Nat):Int)):ZFu F x∈F:=A8 (ZHK h0 h1)
theorem ZHU {F:List Zb} (ha:∀f∈F,f.args.length≤1048576) (fr:QZ) (hA:∀x∈fr.assumed,0≤x∧x<((F.length:Nat):Int)) (hl:fr.assumed.length≤1000) {s:Nat} (hs:s≤9223372036854775807):ZGd F fr ((s:Nat):Int)=some ((Zhj fr.assumed s 0).map (ZFu F)):=by
 unfold ZGd
 rw [Zal (fun l i acc=>some (acc++(Zhj l s i).map (ZFu F))) (fun l i acc=>acc.length+l.length≤1000∧∀x∈l,0≤x∧x<((F.length:Nat):Int)) (fun i acc _=>by simp [Zhj]) (fun x l i acc hI=>by
  left
  obtain ⟨h1,h2⟩:=hI
  obtain ⟨x0,x1⟩:=h2 x (by simp)
  simp only[AY] at h1
  rw [Zh _ (by omega)]
  simp only[ZIN hs]
  by_cases hb:s.testBit i=true
  ·rw [if_pos hb,show atI F x=some (ZFu F x) by unfold atI;rw [if_pos x0];exact ZHK x0 x1,A0,Xb _ (ha _ (ZH5 x0 x1)),A0,Zh _ (by omega)]
   exact ⟨_,rfl,⟨by simp;omega,fun y my=>h2 y (by simp [my])⟩,by simp [Zhj,hb]⟩
  ·rw [if_neg hb]
   exact ⟨_,rfl,⟨by omega,fun y my=>h2 y (by simp [my])⟩,by simp [Zhj,hb]⟩) fr.assumed 0 [] ⟨by simpa using hl,hA⟩]
 simp
theorem ZIl {F:List Zb} (ha:∀f∈F,f.args.length≤1048576) {ρ:Type} {l:List Int} (hA:∀x∈l,0≤x∧x<((F.length:Nat):Int)) (hl:l.length≤1000) {fin:List Zb→Option ρ}:Zo (σ:=(List Zb))
  (fun (i71:Nat) (x72:Int) row_66=>
   chk (0≤x72∧x72<((F.length:Nat):Int)) <|
   (F[(AO x72)]?).bind fun x73=>
   (YA x73).bind fun v74=>
   chk (row_66.length+1≤1073741824) <|
   some (.inl (row_66++[v74]))) fin l 0 []=fin (l.map (ZFu F)):=by
 rw [Zjo (g:=ZFu F)]
 ·rfl
 ·intro j x s mx hs
  simp only[AR,AD] at hs
  obtain ⟨x0,x1⟩:=hA x mx
  rw [Zh _ ⟨x0,x1⟩,ZHK x0 x1,A0,YN _ (ha _ (ZH5 x0 x1)),A0,Zh _ (by omega)]
def ZJw (R:List Zg) (base:List Zb) (bad:ByteArray) (f:Zb) (L:List (List Zb)) (ok:Bool):Prop:=(ok=false∧L=[])∨(ok=true∧∃F r,ZHs R base F∧Zu2 r (fun s=>s<MF (Zws R F base bad)∧lbB (Zws R F base bad) (ZY F f) s=true)∧r.length≤64∧L=r.map fun y=>ZGi F base y.toNat)
theorem ZJf {F base:List Zb}:∀x∈Qr F base,0≤x∧x<((F.length:Nat):Int):=fun x mx=>by
 obtain ⟨f,_,e,e0⟩:=((Yv F base).2.1 x).1 mx
 have:=(ZjE e e0).1
 omega
theorem ZIj {R:List Zg} (hR:Zbc R) (base:List Zb) (hb20:base.length≤1048576) (bad:ByteArray) (f:Zb):∃L ok,ZGy R base bad f=some (L,ok)∧ZGt R base bad f=some (L,ok)∧ZJw R base bad f L ok:=by
 obtain ⟨F,fr,ok,h1,h2,h3⟩:=ZId hR base hb20 bad
 unfold ZGy ZGt
 rw [h1,h2,A0,A0]
 rcases h3 with ⟨rfl,rfl,rfl⟩ | ⟨rfl,hG,h60,h6,hm,rfl⟩
 ·exact ⟨_,_,rfl,rfl,.inl ⟨rfl,rfl⟩⟩
 ·have hW:ZHs R base F:=⟨hG,h60,h6,hm⟩
  obtain ⟨hfr,hsm⟩:=hW.frame bad
  have hargs:∀f∈F,f.args.length≤1048576:=fun f mf=>by have:=YY (hG.good.ok f mf);omega
  obtain ⟨r,r1,r2,r3,r4⟩:=ZIr hfr hsm (ZY F f)
  have hn3:=(Yv F base).2.2
  have hin:∀x∈(Zws R F base bad).assumed,0≤x∧x<((F.length:Nat):Int):=ZJf
  have hal:(Zws R F base bad).assumed.length≤1000:=by show (Qr F base).length≤1000;omega
  have h64:=(ZGY (Zur.a6 hfr)).2
  refine ⟨r.map fun y=>ZGi F base y.toNat,true,?_,?_,.inr ⟨rfl,F,r,hW,r2,r4,rfl⟩⟩
  ·rw [if_pos rfl,Zb5,A0,ZIo hfr hsm,r1,A0,Zjo (g:=fun y=>ZGi F base y.toNat)]
   ·rfl
   ·intro j y s my hs
    simp only[AR,AD] at hs
    obtain ⟨y0,y1,_⟩:=r3 y my
    have hy:y=((y.toNat:Nat):Int):=by omega
    rw [hy,ZHU hargs _ hin hal (by omega),A0,Zh _ (by omega),AC]
    rfl
  ·rw [if_pos rfl,Zam,A0,r1,A0,Zjo (g:=fun y=>ZGi F base y.toNat)]
   ·rfl
   ·intro j y s my hs
    simp only[AR,AD] at hs
    obtain ⟨y0,y1,_⟩:=r3 y my
    have hy:y=((y.toNat:Nat):Int):=by omega
    rw [hy,ZHg _ (by omega) (by show (Zws R F base bad).assumed.length≤1000000;omega),A0,ZIl hargs (fun x mx=>hin x ((ZGN _ _ _).subset mx)) (by have:=ZGD y.toNat (Zws R F base bad).assumed 0;omega),Zh _ (by omega),AC]
    rfl
end
section
open Classical
theorem ZI9 {c:ZJ} (h:Qu c):∃x c',ZGv c=some (x,c')∧Qu c':=by
 unfold ZGv
 obtain ⟨x,c',e,_,hc⟩:=ZrL h (l:=[(⟨#[97]⟩),(⟨#[98]⟩),(⟨#[99]⟩),(⟨#[49]⟩),(⟨#[50]⟩)]) (by simp) (by simp)
 exact ⟨x,c',by rw [e];rfl,hc⟩
theorem ZH8 {c:ZJ} (h:Qu c):∃x c',ZGo c=some (x,c')∧Qu c':=by
 unfold ZGo
 have key:∀L:List ByteArray,0<L.length→L.length≤256→∃x c',((Zd8 c L).bind fun v1=>some (v1.1,v1.2))=some (x,c')∧Qu c':=fun L h0 h1=>by
  obtain ⟨x,c',e,_,hc⟩:=ZrL h (l:=L) h0 h1
  exact ⟨x,c',by rw [e];rfl,hc⟩
 exact key _ (by simp) (by simp)
theorem ZJe {c:ZJ} (h:Qu c):∃r n c',ZG0 c=some (r,n,c')∧0≤n∧n≤2∧r≠⟨#[110]⟩∧Qu c':=by
 unfold ZG0
 obtain ⟨x,c',e,x0,x1,hc⟩:=ZdR h (n:=6) (by omega) (by omega)
 have key:∀(A:List ByteArray) (B:List Int),A.length=6→B.length=6→(∀b∈B,0≤b∧b≤2)→(∀a∈A,a≠⟨#[110]⟩)→∃r n c',((Xv c 6).bind fun v1=>chk (0≤v1.1∧v1.1<((6:Nat):Int)) <| (A[(AO v1.1)]?).bind fun x2=>(B[(AO v1.1)]?).bind fun x3=>some (x2,x3,v1.2))=some (r,n,c')∧0≤n∧n≤2∧r≠⟨#[110]⟩∧Qu c':=fun A B hA hB hb ha=>by
  have q1:x.toNat<A.length:=by omega
  have q2:x.toNat<B.length:=by omega
  have q3:=hb _ (AS q2)
  refine ⟨A[x.toNat],B[x.toNat],c',?_,q3.1,q3.2,ha _ (AS q1),hc⟩
  rw [e,A0,Zh _ (by omega),A3 q1,A0,A3 q2,A0]
 exact key _ _ rfl rfl (by decide) (by decide)
theorem ZIY {ρ:Type} {tm:ZJ→Option (ByteArray × ZJ)} (ht:∀c,Qu c→∃x c',tm c=some (x,c')∧Qu c') (g:List ByteArray→ZJ→ρ) {n:Int} (n0:0≤n) (n1:n≤100) {c:ZJ} (hc:Qu c):∃row c',Yp (σ:=(List Int) × Int × Int × (List ByteArray) × Int)
  (fun s=>
   match s with
   | (f_4,f_5,f_6,row_7,i_8)=>
   if (decide (i_8<n))=true then
    (tm ({ b:=f_4,i:=f_5,h:=f_6 }:ZJ)).bind fun v9=>
    chk (row_7.length+1≤1073741824) <|
    some (.inl (v9.2.b,v9.2.i,v9.2.h,(row_7++[v9.1]),(IntKind.i64.wrap (i_8+1))))
   else
    some (.inr (g row_7 ({ b:=f_4,i:=f_5,h:=f_6 }:ZJ))))
  (c.b,c.i,c.h,[],0)=some (g row c')∧row.length≤n.toNat∧Qu c':=by
 have key:∀(m k:Nat) (cc:ZJ) (row:List ByteArray),((k+m:Nat):Int)=n→row.length=k→Qu cc→∃row' c',Yp (σ:=(List Int) × Int × Int × (List ByteArray) × Int)
  (fun s=>
   match s with
   | (f_4,f_5,f_6,row_7,i_8)=>
   if (decide (i_8<n))=true then
    (tm ({ b:=f_4,i:=f_5,h:=f_6 }:ZJ)).bind fun v9=>
    chk (row_7.length+1≤1073741824) <|
    some (.inl (v9.2.b,v9.2.i,v9.2.h,(row_7++[v9.1]),(IntKind.i64.wrap (i_8+1))))
   else
    some (.inr (g row_7 ({ b:=f_4,i:=f_5,h:=f_6 }:ZJ))))
  (cc.b,cc.i,cc.h,row,((k:Nat):Int))=some (g row' c')∧row'.length≤n.toNat∧Qu c':=by
  intro m
  induction m with
  | zero=>
   intro k cc row hk hr hcc
   refine ⟨row,cc,Z2 ?_,by omega,hcc⟩
   simp only
   rw [if_neg (by simp;omega)]
  | succ m ih=>
   intro k cc row hk hr hcc
   obtain ⟨a,c2,e2,hc2⟩:=ht cc hcc
   have hw:IntKind.i64.wrap (((k:Nat):Int)+1)=((k+1:Nat):Int):=by rw [YW (by omega) (by omega)];omega
   refine (Yh (s':=(c2.b,c2.i,c2.h,row++[a],((k+1:Nat):Int))) ?_) ▸ ih (k+1) c2 (row++[a]) (by omega) (by simp [hr]) hc2
   simp only
   rw [if_pos (by simp;omega),show ({ b:=cc.b,i:=cc.i,h:=cc.h }:ZJ)=cc from rfl,e2,A0,Zh _ (by omega),hw]
 exact key n.toNat 0 c [] (by omega) rfl hc
theorem ZI1 {c:ZJ} (h:Qu c):∃f c',ZGF c=some (f,c')∧f.args.length≤2∧f.rel≠⟨#[110]⟩∧Qu c':=by
 unfold ZGF
 obtain ⟨r,n,c1,e,n0,n1,hr0,hc⟩:=ZJe h
 rw [e,A0]
 obtain ⟨row,c2,e2,h1,h2⟩:=ZIY (tm:=ZGv) (fun c hc=>ZI9 hc) (fun row c=>(({ rel:=r,args:=row }:Zb),c)) n0 (by omega) hc
 exact ⟨{ rel:=r,args:=row },c2,e2,by show row.length≤2;omega,hr0,h2⟩
theorem ZIB {c:ZJ} (h:Qu c):∃f c',ZGS c=some (f,c')∧f.args.length≤4∧Qu c':=by
 unfold ZGS
 obtain ⟨f,c1,e1,a1,_,h1⟩:=ZI1 h
 obtain ⟨k,c2,e2,k0,k1,h2⟩:=ZdR h1 (n:=10) (by omega) (by omega)
 rw [e1,A0,e2,A0]
 split
 ·obtain ⟨w,c3,e3,h3⟩:=ZH8 h2
  exact ⟨{ rel:=w,args:=f.args },c3,by rw [e3];rfl,by show f.args.length≤4;omega,h3⟩
 ·split
  ·obtain ⟨w,c3,e3,h3⟩:=ZH8 h2
   exact ⟨{ rel:=f.rel,args:=f.args++[w] },c3,by rw [e3,A0,Zh _ (by show f.args.length+1≤_;omega)],by simp;omega,h3⟩
  ·split
   ·obtain ⟨w,c3,e3,w0,w1,h3⟩:=ZdR h2 (n:=5) (by omega) (by omega)
    refine ⟨_,c3,by rw [e3,A0,Zh _ (by omega)],?_,h3⟩
    simp
    omega
   ·exact ⟨f,c2,rfl,by omega,h2⟩
theorem ZJq {R:List Zg} {base:List Zb} {x:List Zb × Bool} (h:x=([],false)∨(Z6 R&&R.all (Y4 R))=true∧Z3 base=true∧Res R base x):x.1.length≤24:=by
 rcases h with rfl | ⟨_,_,hr⟩
 ·simp
 ·rcases hr with ⟨_,_,hl,_⟩ | ⟨_,e,_⟩
  ·exact hl
  ·rw [e];simp
theorem ZHG (code:List Int) (h:code.length≤4096):∃R base bad f,ZFW code=some (R,base,bad,f)∧R.length≤3∧(∃b,∀r∈R,RK b r)∧base.length≤7:=by
 unfold ZFW ZGz
 obtain ⟨c,e1,h1⟩:=ZvF code h
 obtain ⟨b,c2,e2,h2⟩:=ZH1 h1 (n:=6) (by omega) (by omega)
 obtain ⟨R,c3,e3,r1,r2,h3⟩:=ZqN h2 b
 obtain ⟨base,c4,e4,b1,b2,h4⟩:=Zsf h3 (m:=7) (by omega) (by omega)
 obtain ⟨bad,c5,e5,_,h5⟩:=ZrL h4 (l:=[(⟨#[98,97,100]⟩),(⟨#[98,97,100]⟩),(⟨#[122]⟩),(⟨#[113]⟩),(⟨#[]⟩)]) (by simp) (by simp)
 obtain ⟨x,p1,p2,p3⟩:=Zij (ZtP (by omega) r2) base (by omega)
 have hx:=ZJq p3
 rw [e1,A0,e2,A0,e3,A0,e4,A0,e5,A0]
 simp only[A0]
 rw [p1,A0]
 split
 ·rename_i hpos
  obtain ⟨o,c6,e6,h6⟩:=ZH1 h5 (n:=4) (by omega) (by omega)
  rw [e6,A0]
  split
  ·obtain ⟨f,c7,e7,_,_⟩:=ZIB h6
   exact ⟨R,base,bad,f,by rw [e7];rfl,r1,⟨b,r2⟩,b1⟩
  ·have hpos':0<x.1.length:=by simpa using hpos
   obtain ⟨i,c7,e7,i0,i1,h7⟩:=ZdR h6 (n:=((x.1.length:Nat):Int)) (by omega) (by omega)
   have hi:i.toNat<x.1.length:=by omega
   exact ⟨R,base,bad,x.1[i.toNat],by rw [e7,A0,Zh _ ⟨i0,i1⟩,A3 hi];rfl,r1,⟨b,r2⟩,b1⟩
 ·obtain ⟨f,c7,e7,_,_⟩:=ZIB h5
  exact ⟨R,base,bad,f,by rw [e7];rfl,r1,⟨b,r2⟩,b1⟩
theorem ZHo {G:List Zb} (h:ZBW G) (bad:ByteArray):ZFU G bad=some (G.filter fun f=>decide (f.rel=bad)):=ZGH (by have:=h.len;omega) (fun f mf=>by have:=YY (h.ok f mf);omega) bad
theorem Z0.few' {R:List Zg} {base F:List Zb} (h:Z0 R base F):ZBW F:=⟨by have:=h.len;omega,h.good.ok⟩
theorem ZHn (code:List Int):ZGj code=some true:=by
 unfold ZGj
 rw [Zwr,A0]
 split
 ·rfl
 rename_i hb
 obtain ⟨R,base,bad,f,e1,hl,⟨nb,hrk⟩,hbl⟩:=ZHG code (ZtJ hb)
 have hR:=ZtP (by omega) hrk
 obtain ⟨L,ok,e2,e3,hL⟩:=ZIj hR base (by omega) bad f
 rw [e1]
 simp only[A0]
 rw [e3]
 simp only[A0]
 rw [e2]
 simp only[A0]
 rw [if_pos (by simp)]
 rcases hL with ⟨rfl,rfl⟩ | ⟨rfl,F,r,hW,hr,hr64,rfl⟩
 ·rfl
 rw [if_pos rfl]
 obtain ⟨v,ev⟩:=ZFH code
 obtain ⟨t,et,ht⟩:=ZFG base v (by omega)
 obtain ⟨G,hG,hGF,g1,g2⟩:=ZIM hR hW ht
 rw [ev]
 simp only[A0]
 rw [et]
 simp only[A0]
 rw [g2]
 simp only[A0,if_true]
 rw [ZHo hG.few']
 simp only[A0]
 split
 ·rfl
 rename_i hn
 have hn':∀g∈G,g.rel≠bad:=fun g mg e=>by
  have:(G.filter fun f=>decide (f.rel=bad))=[]:=by
   cases hq:(G.filter fun f=>decide (f.rel=bad)) with
   | nil=>rfl
   | cons x l=>rw [hq] at hn;simp at hn
  have m2:g∈G.filter fun f=>decide (f.rel=bad):=AN.2 ⟨mg,by simpa using e⟩
  rw [this] at m2
  simp at m2
 have hf:=ZI7 hW hr (t:=t) (fun g mg=>ht.subset mg) hG hGF hn'
 rw [Zif (f:=fun u x=>u||(x.all fun g=>decide (g∈t)))]
 ·rw [Zh4,A0]
  have hany:∀(l:List (List Zb)) (u:Bool),l.foldl (fun u x=>u||(x.all fun g=>decide (g∈t))) u=(u||l.any fun x=>x.all fun g=>decide (g∈t)):=by
   intro l
   induction l with
   | nil=>intro u;simp
   | cons m l ih=>intro u;rw [AA,ih];simp [Bool.or_assoc]
  rw [hany,Ap]
  congr 1
  rw [beq_iff_eq,AF,decide_eq_true_iff,←hf,Aq]
  constructor
  ·rintro ⟨x,mx,hx⟩
   obtain ⟨y,my,rfl⟩:=A6.1 mx
   exact ⟨y,my,fun g mg=>by simpa using AG.1 hx g mg⟩
  ·rintro ⟨y,my,hy⟩
   exact ⟨_,A6.2 ⟨y,my,rfl⟩,AG.2 fun g mg=>decide_eq_true (hy g mg)⟩
 ·intro j x u mx
  cases u with
  | true=>rfl
  | false=>rw [if_neg (by simp),ZrG,A0,Ap]
end
section
open Go.RowKit
def ZL {α β:Type} (R:α→β→Prop):List α→List β→Prop
 | [],[]=>True
 | a::l,b::r=>R a b∧ZL R l r
 | _,_=>False
section
variable {α β:Type} {R R':α→β→Prop}
theorem ZL.len:∀{l:List α} {r:List β},ZL R l r→l.length=r.length
 | [],[],_=>rfl
 | _::_,_::_,h=>by simp [h.2.len]
 | [],_::_,h=>h.elim
 | _::_,[],h=>h.elim
theorem ZL.mono:∀{l:List α} {r:List β},ZL R l r→(∀a b,a∈l→R a b→R' a b)→ZL R' l r
 | [],[],_,_=>trivial
 | _::_,_::_,h,f=>⟨f _ _ (by simp) h.1,h.2.mono fun a b m=>f a b (by simp [m])⟩
 | [],_::_,h,_=>h.elim
 | _::_,[],h,_=>h.elim
theorem ZL.at:∀{l:List α} {r:List β} {i:Nat} {a:α},ZL R l r→l[i]?=some a→∃b,r[i]?=some b∧R a b
 | [],[],_,_,_,h=>by simp at h
 | _::_,b::_,0,_,h,e=>by simp at e;subst e;exact ⟨b,by simp,h.1⟩
 | _::_,_::_,i+1,a,h,e=>by
  obtain ⟨b,h1,h2⟩:=h.2.at (i:=i) (a:=a) (by simpa using e)
  exact ⟨b,by simpa using h1,h2⟩
 | [],_::_,_,_,h,_=>h.elim
 | _::_,[],_,_,h,_=>h.elim
theorem ZL.set:∀{l:List α} {r:List β} {i:Nat} {a:α} {b:β},ZL R l r→R a b→ZL R (l.set i a) (r.set i b)
 | [],[],_,_,_,_,_=>trivial
 | _::_,_::_,0,_,_,h,e=>⟨e,h.2⟩
 | _::_,_::_,_+1,_,_,h,e=>⟨h.1,h.2.set e⟩
 | [],_::_,_,_,_,h,_=>h.elim
 | _::_,[],_,_,_,h,_=>h.elim
theorem ZL.drop:∀{l:List α} {r:List β} (n:Nat),ZL R l r→ZL R (l.drop n) (r.drop n)
 | _,_,0,h=>by simpa using h
 | [],[],n+1,_=>by simp [ZL]
 | _::_,_::_,n+1,h=>by simpa using h.2.drop n
 | [],_::_,_+1,h=>h.elim
 | _::_,[],_+1,h=>h.elim
theorem ZL.take:∀{l:List α} {r:List β} (n:Nat),ZL R l r→ZL R (l.take n) (r.take n)
 | _,_,0,h=>by simp [ZL]
 | [],[],n+1,_=>by simp [ZL]
 | _::_,_::_,n+1,h=>by simpa using ⟨h.1,h.2.take n⟩
 | [],_::_,_+1,h=>h.elim
 | _::_,[],_+1,h=>h.elim
theorem ZL.append:∀{l l':List α} {r r':List β},ZL R l r→ZL R l' r'→ZL R (l++l') (r++r')
 | [],_,[],_,_,h=>h
 | _::_,_,_::_,_,h,h'=>⟨h.1,h.2.append h'⟩
 | [],_,_::_,_,h,_=>h.elim
 | _::_,_,[],_,h,_=>h.elim
end
class NW where
 B0:Nat
structure Gh where
 val:Nat→Value
 O:Nat→List Nat
 D:Nat→List Nat
 Z:Nat→Prop
def Gh.own (g:Gh) (b:Nat):Prop:=(∃k,b∈g.O k)∨g.Z b
def Gh.low (g:Gh) (b:Nat):Prop:=g.own b∨∃k,b∈g.D k
structure Qj (g g':Gh) (n:Nat):Prop where
 own:∀b,g'.own b→g.own b∨n≤b
 low:∀b,g'.low b→g.low b∨n≤b
structure Xo (g' g:Gh):Prop where
 own:∀b,g'.own b→g.own b
 low:∀b,g'.low b→g.low b
theorem Qj.refl (g:Gh) (n:Nat):Qj g g n:=⟨fun _ h=>.inl h,fun _ h=>.inl h⟩
theorem Xo.refl (g:Gh):Xo g g:=⟨fun _ h=>h,fun _ h=>h⟩
theorem Xo.trans {a b c:Gh} (h:Xo a b) (k:Xo b c):Xo a c:=⟨fun x hx=>k.own x (h.own x hx),fun x hx=>k.low x (h.low x hx)⟩
theorem Xo.grow {g' g:Gh} (h:Xo g' g) (n:Nat):Qj g g' n:=⟨fun x hx=>.inl (h.own x hx),fun x hx=>.inl (h.low x hx)⟩
theorem Xo.of {g' g:Gh} (h:∀b,g'.own b→g.own b) (k:∀j b,b∈g'.D j→∃i,b∈g.D i):Xo g' g:=⟨h,fun x hx=>hx.imp (h x) fun ⟨j,mj⟩=>k j x mj⟩
theorem Qj.of {g g':Gh} {n:Nat} (h:∀b,g'.own b→g.own b∨n≤b) (k:∀j b,b∈g'.D j→g.low b∨n≤b):Qj g g' n:=⟨h,fun x hx=>by
 rcases hx with hx | ⟨j,mj⟩
 ·exact (h x hx).imp (fun q=>.inl q) id
 ·exact k j x mj⟩
structure Zaa extends World where
 z:Nat→Prop
 x:Nat→Prop
 hv:Option Value
structure Bel (W:Zaa) (w:World):Prop where
 os:w.os=W.os
 tape:w.tape=W.tape
 output:w.output=W.output
 size:W.heap.size≤w.heap.size
 block:∀k,k<W.heap.size→¬W.x k→w.heap[k]?=W.heap[k]?
theorem Bel.trans {W:Zaa} {w w':World} (h:Bel W w) (k:Below w.heap.size w w'):Bel W w':=
 ⟨k.os.trans h.os,k.tape.trans h.tape,k.output.trans h.output,As h.size k.size,fun i hi hx=>(k.block i (Nat.lt_of_lt_of_le hi h.size)).trans (h.block i hi hx)⟩
def NR [NW] (g:Gh) (w:World) (x:CT) (v:Value):Prop:=
 ∃e m xs cs L,x=.sl e m xs∧0<m∧w.ownsV 0 e m v xs.length cs∧REs w m xs cs L∧(v.ownBlock.toList++L).Nodup∧∀b∈v.ownBlock.toList++L,¬g.low b∧NW.B0≤b∧∃cur t,w.heap[b]?=some (.cells cur t (0,0))
def AVR [NW] (g:Gh) (w:World):AV→Value→Prop
 | .c x,v=>∃L,RC w x v L∧∀b∈L,¬g.own b
 | .n x,v=>NR g w x v
 | .row k,v=>v=g.val k∧v.oneCell'=true
 | .nil _ _,v=>v=.slice none 0 0
 | .dead,v=>v.oneCell'=true
def PVR [NW] (g:Gh) (w:World):Bool→List AV→Value→Prop
 | true,cs,v=>∃vs:List Value,v=.agg vs.toArray∧ZL (AVR g w) cs vs
 | false,cs,v=>∃x,cs=[x]∧AVR g w x v
def SVR [NW] (g:Gh) (w:World):SV→Value→Prop
 | .any,_=>True
 | .und,v=>v=undef
 | .p a cs,v=>PVR g w a cs v
 | .tup xs,v=>∃vs:List Value,v=.tuple vs.toArray∧ZL (fun x u=>PVR g w x.1 x.2 u) xs vs
 | .bp k off,v=>∃b,g.val k=.pointer (some ⟨b,0,none⟩)∧v=.pointer (some ⟨b,off,none⟩)
 | .rp k m i off,v=>∃b o n c,g.val k=.slice (some ⟨b,o,none⟩) n c∧v=.pointer (some ⟨b,o+(i * m+off),none⟩)
 | .ep e off,v=>∃b lo cs L,v=.pointer (some ⟨b,lo+off,none⟩)∧Qw w b lo cs∧RCs w e cs L∧(∀x∈b::L,¬g.own x)∧b<w.heap.size
 | .fn f,v=>v=.func (.func f) #[] #[]
def ObR [NW] (g:Gh) (w:World) (k:Nat):Ob→Prop
 | .gone=>g.O k=[]∧g.D k=[]
 | .box t cs=>∃b vs,g.val k=.pointer (some ⟨b,0,none⟩)∧g.O k=[b]∧g.D k=[]∧w.heap[b]?=some (.cells vs.toArray t (0,0))∧ZL (AVR g w) cs vs
 | .row e m xs d=>0<m∧∃cs L,w.ownsV 0 e m (g.val k) xs.length cs∧REs w m xs cs L∧((d=2∧g.O k=(g.val k).ownBlock.toList∧g.D k=L)∨(d=1∧g.O k=(g.val k).ownBlock.toList∧g.D k=[]∧∀b∈L,¬g.own b)∨(d=0∧g.O k=[]∧g.D k=[]∧∀b∈(g.val k).ownBlock.toList++L,¬g.own b))
 | .map kk vk kv=>∃b es c,g.val k=.map (some b)∧g.O k=[b]∧g.D k=[]∧w.heap[b]?=some (.map es c)∧Zc7 es=kv∧Zix kk vk kv
def Xx (w:World) (o:Ob) (b:Nat):Prop:=
 match o with
 | .map _ _ _=>∃es c,w.heap[b]?=some (.map es c)
 | _=>∃cur e,w.heap[b]?=some (.cells cur e (0,0))
theorem Xx.lt {w:World} {o:Ob} {b:Nat} (h:Xx w o b):b<w.heap.size:=by
 unfold Xx at h
 split at h
 ·obtain ⟨_,_,h⟩:=h;exact (At.1 h).1
 ·obtain ⟨_,_,h⟩:=h;exact (At.1 h).1
theorem Xx.keep {w w':World} {o:Ob} {b:Nat} (h:Xx w o b) (e:w'.heap[b]?=w.heap[b]?):Xx w' o b:=by
 unfold Xx at h ⊢
 rw [e];exact h
def Zjf:Ob→Bool
 | .map _ _ _=>true
 | _=>false
theorem Xx.of {w:World} {o o':Ob} {b:Nat} (h:Xx w o b) (e:Zjf o'=Zjf o):Xx w o' b:=by
 cases o<;>cases o'<;>simp [Zjf] at e<;>exact h
structure HI [NW] (W:Zaa) (g:Gh) (ob:Nat→Ob) (w:World):Prop where
 below:Bel W w
 obs:∀k,ObR g w k (ob k)
 nodup:∀k,(g.O k++g.D k).Nodup
 apart:∀k j,k≠j→∀b∈g.O k++g.D k,b∉g.O j++g.D j
 plain:∀k,∀b∈g.O k++g.D k,(W.heap.size≤b∨W.x b)∧Xx w (ob k) b
 gz:g.Z=W.z
 zx:∀b,W.z b→b<W.heap.size∧¬W.x b
 nw:∀b,(W.heap.size≤b∨W.x b)→NW.B0≤b
def avU (U:Nat→Prop):AV→Prop
 | .row k=>U k
 | _=>True
def Qn (U:Nat→Prop) (cs:List AV):Prop:=∀x∈cs,avU U x
def svU (U:Nat→Prop):SV→Prop
 | .p _ cs=>Qn U cs
 | .tup xs=>∀x∈xs,Qn U x.2
 | .bp k _=>U k
 | .rp k _ _ _=>U k
 | _=>True
def obU (U:Nat→Prop):Ob→Prop
 | .box _ cs=>Qn U cs
 | _=>True
structure StU (U:Nat→Prop) (st:St):Prop where
 sl:∀t,svU U (st.sl t)
 ob:∀k,obU U (st.ob k)
 gone:∀k,¬U k→st.ob k=.gone
theorem HI.lt [NW] {W:Zaa} {g:Gh} {ob:Nat→Ob} {w:World} (h:HI W g ob w) (k:Nat):∀b∈g.O k++g.D k,b<w.heap.size:=by
 intro b m
 exact (h.plain k b m).2.lt
theorem HI.nz [NW] {W:Zaa} {g:Gh} {ob:Nat→Ob} {w:World} (h:HI W g ob w) {k b:Nat} (m:b∈g.O k++g.D k):¬g.Z b:=fun hz=>by
 rw [h.gz] at hz
 obtain ⟨h1,h2⟩:=h.zx b hz
 rcases (h.plain k b m).1 with h3 | h3
 ·omega
 ·exact h2 h3
section
variable {g g':Gh} {w w':World} {U:Nat→Prop}
theorem NR.move [NW] {x:CT} {v:Value} (h:NR g w x v)
  (hw:∀b,b<w.heap.size→¬g.own b→w'.heap[b]?=w.heap[b]?) (ho:Qj g g' w.heap.size):NR g' w' x v:=by
 obtain ⟨e,m,xs,cs,L,h1,h2,h3,h4,h5,h6⟩:=h
 have hlt:∀b∈v.ownBlock.toList++L,b<w.heap.size:=fun b mb=>by
  obtain ⟨_,_,_,_,q⟩:=h6 b mb
  exact (At.1 q).1
 have hs:∀b∈v.ownBlock.toList++L,w'.heap[b]?=w.heap[b]?:=fun b mb=>hw b (hlt b mb) fun o=>(h6 b mb).1 (.inl o)
 refine ⟨e,m,xs,cs,L,h1,h2,Zh7 h3 fun b mb=>hs b (by simp [mb]),h4.keep fun b mb=>hs b (by simp [mb]),h5,fun b mb=>⟨fun o=>?_,(h6 b mb).2.1,by rw [hs b mb];exact (h6 b mb).2.2⟩⟩
 rcases ho.low b o with o | o
 ·exact (h6 b mb).1 o
 ·have:=hlt b mb;omega
theorem AVR.move [NW] {x:AV} {v:Value} (h:AVR g w x v) (hx:avU U x) (hv:∀k,U k→g'.val k=g.val k)
  (hw:∀b,b<w.heap.size→¬g.own b→w'.heap[b]?=w.heap[b]?) (ho:Qj g g' w.heap.size):AVR g' w' x v:=by
 cases x with
 | c x=>
  obtain ⟨L,h1,h2⟩:=h
  have hlt:=h1.lt
  refine ⟨L,h1.keep fun b m=>hw b (hlt b m) (h2 b m),fun b m o=>?_⟩
  rcases ho.own b o with o | o
  ·exact h2 b m o
  ·have:=hlt b m;omega
 | n x=>exact NR.move h hw ho
 | row k=>exact ⟨h.1.trans (hv k hx).symm,h.2⟩
 | nil e m=>exact h
 | dead=>exact h
theorem AVRs.move [NW] {cs:List AV} {vs:List Value} (h:ZL (AVR g w) cs vs) (hx:Qn U cs) (hv:∀k,U k→g'.val k=g.val k)
  (hw:∀b,b<w.heap.size→¬g.own b→w'.heap[b]?=w.heap[b]?) (ho:Qj g g' w.heap.size):ZL (AVR g' w') cs vs:=
 h.mono fun a _ m r=>r.move (hx a m) hv hw ho
theorem PVR.move [NW] {a:Bool} {cs:List AV} {v:Value} (h:PVR g w a cs v) (hx:Qn U cs) (hv:∀k,U k→g'.val k=g.val k)
  (hw:∀b,b<w.heap.size→¬g.own b→w'.heap[b]?=w.heap[b]?) (ho:Qj g g' w.heap.size):PVR g' w' a cs v:=by
 cases a with
 | true=>obtain ⟨vs,h1,h2⟩:=h;exact ⟨vs,h1,AVRs.move h2 hx hv hw ho⟩
 | false=>obtain ⟨x,h1,h2⟩:=h;exact ⟨x,h1,h2.move (hx x (by simp [h1])) hv hw ho⟩
theorem SVR.move [NW] {s:SV} {v:Value} (h:SVR g w s v) (hx:svU U s) (hv:∀k,U k→g'.val k=g.val k)
  (hw:∀b,b<w.heap.size→¬g.own b→w'.heap[b]?=w.heap[b]?) (ho:Qj g g' w.heap.size) (hs:w.heap.size≤w'.heap.size):SVR g' w' s v:=by
 cases s with
 | any=>exact h
 | und=>exact h
 | p a cs=>exact PVR.move h hx hv hw ho
 | tup xs=>
  obtain ⟨vs,h1,h2⟩:=h
  exact ⟨vs,h1,h2.mono fun x _ m r=>r.move (hx x m) hv hw ho⟩
 | bp k off=>obtain ⟨b,h1,h2⟩:=h;exact ⟨b,(hv k hx).trans h1,h2⟩
 | rp k m i off=>obtain ⟨b,o,n,c,h1,h2⟩:=h;exact ⟨b,o,n,c,(hv k hx).trans h1,h2⟩
 | ep e off=>
  obtain ⟨b,lo,cs,L,h1,h2,h3,h4,h5⟩:=h
  have hlt:=h3.lt
  refine ⟨b,lo,cs,L,h1,fun j u hu=>?_,h3.keep fun x m=>hw x (hlt x m) (h4 x (by simp [m])),fun x m o=>?_,by omega⟩
  ·rw [←h2 j u hu];exact World.cell?_of_block (hw b h5 (h4 b (by simp)))
  ·rcases ho.own x o with o | o
   ·exact h4 x m o
   ·rcases AJ.1 m with rfl | m
    ·omega
    ·have:=hlt x m;omega
 | fn f=>exact h
theorem HI.step [NW] {W:Zaa} {ob ob':Nat→Ob} (h:HI W g ob w) (T:Nat→Prop)
  (hbel:Bel W w') (hZ:g'.Z=g.Z)
  (hw:∀b,b<w.heap.size→(∀k,T k→b∉g.O k)→w'.heap[b]?=w.heap[b]?)
  (hk:∀k,¬T k→ob' k=ob k∧g'.val k=g.val k∧g'.O k=g.O k∧g'.D k=g.D k)
  (hobU:∀k,obU U (ob k)) (hv:∀k,U k→g'.val k=g.val k)
  (ho:Qj g g' w.heap.size)
  (hT:∀k,T k→ObR g' w' k (ob' k)∧(g'.O k++g'.D k).Nodup∧(∀b∈g'.O k++g'.D k,(W.heap.size≤b∨W.x b)∧Xx w' (ob' k) b)∧∀j,k≠j→∀b∈g'.O k++g'.D k,b∉g'.O j++g'.D j):
  HI W g' ob' w':=by
 have hw':∀b,b<w.heap.size→¬g.own b→w'.heap[b]?=w.heap[b]?:=fun b hb hn=>hw b hb fun k _ m=>hn (.inl ⟨k,m⟩)
 have hkeepF:∀k,¬T k→∀b∈g.O k++g.D k,w'.heap[b]?=w.heap[b]?:=fun k hk b m=>
  hw b (h.lt k b m) fun j hj mj=>h.apart j k (fun e=>hk (e ▸ hj)) b (by simp [mj]) m
 refine ⟨hbel,fun k=>?_,fun k=>?_,fun k j hkj b m=>?_,fun k b m=>?_,hZ.trans h.gz,h.zx,h.nw⟩
 ·by_cases hTk:T k
  ·exact (hT k hTk).1
  ·obtain ⟨e1,e2,e3,e4⟩:=hk k hTk
   have hob:=h.obs k
   have hF:=hkeepF k hTk
   have hU:=hobU k
   rw [e1]
   cases hok:ob k with
   | gone=>rw [hok] at hob;exact ⟨e3.trans hob.1,e4.trans hob.2⟩
   | box t cs=>
    rw [hok] at hob hU
    obtain ⟨b,vs,h1,h2,h3,h4,h5⟩:=hob
    exact ⟨b,vs,e2.trans h1,e3.trans h2,e4.trans h3,by rw [hF b (by simp [h2])];exact h4,AVRs.move h5 hU hv hw' ho⟩
   | map kk vk kv=>
    rw [hok] at hob
    obtain ⟨b,es,c,h1,h2,h3,h4,h5⟩:=hob
    exact ⟨b,es,c,e2.trans h1,e3.trans h2,e4.trans h3,by rw [hF b (by simp [h2])];exact h4,h5⟩
   | row e m xs d=>
    rw [hok] at hob
    obtain ⟨hm,cs,L,h1,h2,h4⟩:=hob
    have hltL:=h2.lt
    have hL:∀b∈L,w'.heap[b]?=w.heap[b]?:=fun b mb=>by
     rcases h4 with ⟨_,_,h4⟩ | ⟨_,_,_,h4⟩ | ⟨_,_,_,h4⟩
     ·exact hF b (by simp [h4,mb])
     ·exact hw' b (hltL b mb) (h4 b mb)
     ·exact hw' b (hltL b mb) (h4 b (by simp [mb]))
    have hOb:∀b∈(g.val k).ownBlock.toList,w'.heap[b]?=w.heap[b]?:=fun b mb=>by
     rcases h4 with ⟨_,h3,_⟩ | ⟨_,h3,_⟩ | ⟨_,_,_,h4⟩
     ·exact hF b (by simp [h3,mb])
     ·exact hF b (by simp [h3,mb])
     ·exact hw' b (Zr9 h1 b mb) (h4 b (by simp [mb]))
    refine ⟨hm,cs,L,by rw [e2];exact Zh7 h1 hOb,h2.keep hL,?_⟩
    rw [e2,e3,e4]
    have hno:∀b,b<w.heap.size→¬g.own b→¬g'.own b:=fun b hb hn o=>by
     rcases ho.own b o with o | o
     ·exact hn o
     ·omega
    rcases h4 with h4 | ⟨hd,h3,h4,h5⟩ | ⟨hd,h3,h4,h5⟩
    ·exact .inl h4
    ·exact .inr (.inl ⟨hd,h3,h4,fun b mb=>hno b (hltL b mb) (h5 b mb)⟩)
    ·refine .inr (.inr ⟨hd,h3,h4,fun b mb=>?_⟩)
     rcases AE.1 mb with m1 | m1
     ·exact hno b (Zr9 h1 b m1) (h5 b mb)
     ·exact hno b (hltL b m1) (h5 b mb)
 ·by_cases hTk:T k
  ·exact (hT k hTk).2.1
  ·obtain ⟨e1,e2,e3,e4⟩:=hk k hTk
   rw [e3,e4];exact h.nodup k
 ·by_cases hTk:T k
  ·exact (hT k hTk).2.2.2 j hkj b m
  ·by_cases hTj:T j
   ·exact fun mj=>(hT j hTj).2.2.2 k (fun e=>hkj e.symm) b mj m
   ·obtain ⟨_,_,e3,e4⟩:=hk k hTk
    obtain ⟨_,_,f3,f4⟩:=hk j hTj
    rw [e3,e4] at m
    rw [f3,f4]
    exact h.apart k j hkj b m
 ·by_cases hTk:T k
  ·exact (hT k hTk).2.2.1 b m
  ·obtain ⟨_,_,e3,e4⟩:=hk k hTk
   rw [e3,e4] at m
   obtain ⟨p1,p2⟩:=h.plain k b m
   obtain ⟨e1,_⟩:=hk k hTk
   exact ⟨p1,by rw [e1];exact p2.keep (hkeepF k hTk b m)⟩
end
structure Inv [NW] (W:Zaa) (U:Nat→Prop) (st:St) (a:Act) (w:World):Prop where
 ex:∃g,HI W g st.ob w∧∀t,SVR g w (st.sl t) (a.tmps.getD t undef)
 wf:StU U st
 defers:a.defers=[]
 hand:∀v,W.hv=some v→a.tmps.getD 0 undef=v
end
section
open Go.RowKit
def Zai:AV→Value→Bool
 | .c (.int k n),.int k' n'=>k==k'&&n==n'
 | .c (.bool b),.bool b'=>b==b'
 | .c (.str s),.string s'=>s.data.toList==s'.data.toList&&Z9 s
 | .nil _ m,.slice none 0 0=>Nat.blt 0 m
 | _,_=>false
def ZhA:TypeDesc→AV→Bool
 | .int k,.c (.int k' _)=>k==k'
 | .bool,.c (.bool _)=>true
 | .string,.c (.str _)=>true
 | _,_=>false
def ZqC:TypeDesc→Bool
 | .struct _=>true
 | .array _ _=>true
 | _=>false
def ZdO:PK→TypeDesc→Bool
 | .int k,.int k'=>k==k'
 | .str,.string=>true
 | .bool,.bool=>true
 | _,_=>false
def EqF (P:Program):List PK→List Field→Nat→Prop
 | [],[],_=>True
 | k :: ks, f :: fs, n => f.name ≠ "_" ∧ f.offset = n ∧ (∃ d, P.underlying f.type = some d ∧ ZdO k d = true) ∧ EqF P ks fs (n + 1)
 | _,_,_=>False
def TOk (P:Program) (t:TypeId):TI→Prop
 | .atom z=>∃d zv i,P.underlying t=some d∧ZhA d z=true∧P.info? t=some i∧i.zero=some zv∧i.size=1∧Zai z zv=true
 | .strct fs n z=>∃(fields:Array Field) (i:TypeInfo) (zvs:Array Value),P.underlying t=some (.struct fields)∧P.info? t=some i∧i.size=n∧i.zero=some (.agg zvs)∧ZL (fun a v=>Zai a v=true) z zvs.toList∧
   ZL (fun (fi:FI) (f:Field)=>f.offset=fi.off∧fi.size≠0∧∃j d,P.info? f.type=some j∧j.size=fi.size∧P.underlying f.type=some d∧ZqC d=fi.agg) fs fields.toList
 | .slice e m bytes z=>P.underlying t=some (.slice e)∧0<m∧bytes≤131072∧(∃(i:TypeInfo) (zv:Value),P.info? e=some i∧i.size=m∧i.bytes=bytes∧i.zero=some zv∧ZL (fun a v=>Zai a v=true) z zv.cells.toList∧z.length=m)∧
   ∃j:TypeInfo,P.info? t=some j∧j.size=1∧j.zero=some (.slice none 0 0)
 | .ifc=>∃ms,P.underlying t=some (.interface ms)
 | .map kk vk=>∃kt et dk dv i zv,P.underlying t=some (.map kt et)∧P.underlying kt=some dk∧ZdO kk dk=true∧P.underlying et=some dv∧ZdO vk dv=true∧P.info? et=some i∧i.zero=some zv∧Zai (Zes vk) zv=true
 | .eqs ks=>∃u,t=u+4000∧P.underlying u=some (.struct (P.fieldsOf u))∧P.stoodInHeld u=false∧P.eqGuardType P.depth u=false∧EqF P ks (P.fieldsOf u).toList 0
section
variable {P:Program} {w:World} {t:TypeId}
theorem ZqJ {i:TypeInfo} (h:P.info? t=some i):(typeInfo t).run P w=.ok i w:=by simp [typeInfo,program,Sem.run,h]
theorem Ys {d:TypeDesc} (h:P.underlying t=some d):(underlying t).run P w=.ok d w:=by simp [underlying,program,Sem.run,h]
theorem XF [NW] {i:TypeInfo} (h:P.info? t=some i):(sizeOf t).run P w=.ok i.size w:=by simp [sizeOf,ZqJ h]
theorem Zi3 [NW] {i:TypeInfo} {z:Value} (h:P.info? t=some i) (hz:i.zero=some z):(zeroValue t).run P w=.ok z w:=by simp [zeroValue,ZqJ h,hz]
theorem Zhc [NW] {d:TypeDesc} (h:P.underlying t=some d):(isAgg t).run P w=.ok (ZqC d) w:=by
 simp only[isAgg,Sem.run_bind,Ys h,Result.andThen_ok]
 cases d<;>rfl
theorem Zvv {d:TypeDesc} {z:AV} (h:ZhA d z=true):ZqC d=false:=by
 unfold ZhA at h
 split at h<;>first | rfl | simp at h
end
section
variable {g:Gh} {w:World}
theorem Zp8 {s:ByteArray} (h:Z9 s=true):s.size≤9223372036854775807:=by
 unfold Z9 at h
 have:=Nat.le_of_ble_eq_true h
 rw [Array.length_toList] at this
 exact this
theorem Ze6 [NW] {x:AV} {v:Value} (h:Zai x v=true):AVR g w x v:=by
 unfold Zai at h
 split at h
 ·simp only[A4,beq_iff_eq] at h
  exact ⟨[],⟨by rw [h.1,h.2],rfl⟩,by simp⟩
 ·simp only[beq_iff_eq] at h
  exact ⟨[],⟨by rw [h],rfl⟩,by simp⟩
 ·rename_i s s'
  simp only[A4,beq_iff_eq] at h
  have e:s=s':=by
   cases s;cases s'
   simpa using h.1
  exact ⟨[],⟨by rw [e],rfl,Zp8 h.2⟩,by simp⟩
 ·rfl
 ·simp at h
theorem AVR.one [NW] {x:AV} {v:Value} (h:AVR g w x v):v.oneCell'=true:=by
 cases x with
 | c x=>obtain ⟨L,h1,_⟩:=h;exact h1.one
 | n x=>
  obtain ⟨e,m,xs,cs,L,h1,h2,h3,_⟩:=h
  obtain ⟨A,c,hv,_⟩:=ZdC h3
  simp [hv,Value.oneCell']
 | row k=>exact h.2
 | nil e m=>simp [AVR] at h;simp [h,Value.oneCell']
 | dead=>exact h
theorem Zoc {v:Value} (h:v.oneCell'=true):v.cells=#[v]:=by
 cases v<;>simp [Value.oneCell'] at h<;>rfl
theorem PVR.cells [NW] {a:Bool} {cs:List AV} {v:Value} (h:PVR g w a cs v):∃vs:List Value,v.cells=vs.toArray∧ZL (AVR g w) cs vs:=by
 cases a with
 | true=>obtain ⟨vs,rfl,h2⟩:=h;exact ⟨vs,rfl,h2⟩
 | false=>obtain ⟨x,rfl,h2⟩:=h;exact ⟨[v],by rw [Zoc h2.one],⟨h2,trivial⟩⟩
theorem AVRs.one [NW] {cs:List AV} {vs:List Value} (h:ZL (AVR g w) cs vs):∀u∈vs,u.oneCell'=true:=by
 induction vs generalizing cs with
 | nil=>simp
 | cons v r ih=>
  cases cs with
  | nil=>exact h.elim
  | cons c cs=>
   intro u m
   rcases AJ.1 m with rfl | m
   ·exact h.1.one
   ·exact ih h.2 u m
end
theorem ZsW (x y:ByteArray):(x.toList==y.toList)=decide (x=y):=by
 rw [AF]
 simp only[beq_iff_eq,decide_eq_true_eq]
 constructor
 ·intro h
  have h':x.data.toList=y.data.toList:=by rw [←BB,←BB];exact h
  cases x;cases y
  simpa using h'
 ·rintro rfl;rfl
end
section
open Go.RowKit
def Uk (U:Nat→Prop) (key:Nat):Nat→Prop:=fun k=>U k∨(key≤k∧k<key+16)
theorem avU.mono {U U':Nat→Prop} (h:∀k,U k→U' k) {x:AV} (hx:avU U x):avU U' x:=by cases x<;>first | exact h _ hx | trivial
theorem Qn.mono [NW] {U U':Nat→Prop} (h:∀k,U k→U' k) {x:List AV} (hx:Qn U x):Qn U' x:=fun y m=>(hx y m).mono h
theorem svU.mono [NW] {U U':Nat→Prop} (h:∀k,U k→U' k) {x:SV} (hx:svU U x):svU U' x:=by
 cases x<;>first | exact Qn.mono h hx | exact fun y m=>Qn.mono h (hx y m) | exact h _ hx | trivial
theorem obU.mono [NW] {U U':Nat→Prop} (h:∀k,U k→U' k) {x:Ob} (hx:obU U x):obU U' x:=by
 cases x<;>first | exact Qn.mono h hx | trivial
def Fin [NW] (P:Program) (W:Zaa) (U:Nat→Prop) (key:Nat) (st:St) (g:Gh) (w:World) (s:Sem Next) (r:SV × List (Nat × Ob)):Prop:=
 ∃g' cv w',(s.run P w=.ok (.value cv) w'∨(s.run P w=.ok .skip w'∧cv=undef))∧HI W g' (Zp st.ob r.2) w'∧SVR g' w' r.1 cv∧(∀x v,svU U x→SVR g w x v→SVR g' w' x v)∧
  svU (Uk U key) r.1∧(∀k,obU (Uk U key) (Zp st.ob r.2 k))∧∀k,¬Uk U key k→Zp st.ob r.2 k=.gone
section
variable {P:Program} {W:Zaa} {U:Nat→Prop} {key:Nat} {st:St} {g:Gh} {w:World} {a:Act} {tt:Nat→Option TI}
theorem Zaq [NW] {s:Sem Next} {v:SV} {cv:Value} (hI:HI W g st.ob w) (hU:StU U st) (hrun:s.run P w=.ok (.value cv) w) (hv:SVR g w v cv) (hu:svU U v):Fin P W U key st g w s (v,[]):=
 ⟨g,cv,w,.inl hrun,hI,hv,fun _ _ _ h=>h,hu.mono fun _=>.inl,fun k=>(hU.ob k).mono fun _=>.inl,fun k hk=>hU.gone k fun h=>hk (.inl h)⟩
theorem Xn (x:CT):svU U (.p false [.c x]):=fun y m=>by simp at m;subst m;trivial
theorem Zbv [NW] (k:IntKind) (n:Int):SVR g w (.p false [.c (.int k n)]) (.int k n):=⟨_,rfl,[],⟨rfl,rfl⟩,by simp⟩
theorem Zar [NW] (b:Bool):SVR g w (.p false [.c (.bool b)]) (.bool b):=⟨_,rfl,[],⟨rfl,rfl⟩,by simp⟩
theorem ZkU [NW] {s:ByteArray} (h:s.size≤9223372036854775807):SVR g w (.p false [.c (.str s)]) (.string s):=⟨_,rfl,[],⟨rfl,rfl,h⟩,by simp⟩
theorem Zbz [NW] {k:IntKind} {n:Int} {v:Value} (h:SVR g w (.p false [.c (.int k n)]) v):v=.int k n:=by
 obtain ⟨x,hx,h⟩:=h;simp at hx;subst hx;obtain ⟨L,h1,_⟩:=h;exact h1.1
theorem ZfE [NW] {b:Bool} {v:Value} (h:SVR g w (.p false [.c (.bool b)]) v):v=.bool b:=by
 obtain ⟨x,hx,h⟩:=h;simp at hx;subst hx;obtain ⟨L,h1,_⟩:=h;exact h1.1
theorem Zh1 [NW] {s:ByteArray} {v:Value} (h:SVR g w (.p false [.c (.str s)]) v):v=.string s∧s.size≤9223372036854775807:=by
 obtain ⟨x,hx,h⟩:=h;simp at hx;subst hx;obtain ⟨L,h1,_⟩:=h;exact ⟨h1.1,h1.2.2⟩
theorem ZDI [NW] {t:Nat} (htt:∀t i,tt t=some i→TOk P t i) (v:Value):SVR g w (cvT (tt t) v) v∧svU U (cvT (tt t) v):=by
 unfold cvT
 split
 ·exact ⟨Zbv _ _,Xn _⟩
 ·exact ⟨Zar _,Xn _⟩
 ·split
  ·rename_i h;exact ⟨ZkU (Zp8 h),Xn _⟩
  ·exact ⟨trivial,trivial⟩
 ·split
  ·exact ⟨⟨_,rfl,rfl⟩,fun y m=>by simp at m;subst m;trivial⟩
  ·exact ⟨trivial,trivial⟩
 ·exact ⟨trivial,trivial⟩
theorem Zkm [NW] (htt:∀t i,tt t=some i→TOk P t i) (hS:∀t,SVR g w (st.sl t) (a.tmps.getD t undef)) (hU:StU U st) (t:Nat) (x:Operand):
  SVR g w (st.ev tt t x) (a.eval x)∧svU U (st.ev tt t x):=by
 cases x with
 | tmp s=>exact ⟨hS s,hU.sl s⟩
 | const v=>exact ZDI htt v
 | global _=>exact ⟨trivial,trivial⟩
 | func f=>exact ⟨rfl,trivial⟩
set_option maxHeartbeats 1000000 in
theorem ZwR [NW] {op:BinOp} {t:Nat} {ox oy:Operand} {k k':IntKind} {n n':Int} {z:CT} (hk:k=k'∨op=.shl∨op=.shr) (hz:Zxw op k n n'=some z):
  ∃cv,(do eqGuard op t ox oy (.int k n) (.int k' n');binOp op t (.int k n) (.int k' n'):Sem Value).run P w=.ok cv w∧SVR g w (.p false [.c z]) cv:=by
 have hg:(eqGuard op t ox oy (.int k n) (.int k' n')).run P w=.ok () w:=by
  cases op<;>rfl
 simp only[Sem.run_bind,hg,Result.andThen_ok]
 cases op<;>simp only[Zxw,Zyw,ZlF,orI,Zw6,Ztc,ZCy,Ztw,Option.map_none,Option.map_some,AB,reduceCtorEq] at hz<;>(try subst hz)<;>
  (try (split at hz<;>simp only[AB,reduceCtorEq] at hz;subst hz))<;>
  simp only[reduceCtorEq,or_false,or_true] at hk<;>(try subst hk)<;>
  first
   | (refine ⟨_,?_,Zbv _ _⟩;simp [binOp,Op.intArith,Op.intDiv,Op.intBits,Op.shift, *];done)
   | (refine ⟨_,?_,Zar _⟩;simp [binOp,Op.intCmp];done)
set_option maxHeartbeats 1000000 in
theorem Zwy [NW] {op : BinOp} {t : Nat} {ox oy : Operand} {s s' : ByteArray} {z : CT} (hz : ZxE op s s' = some z) :
    ∃ cv, (do eqGuard op t ox oy (.string s) (.string s'); binOp op t (.string s) (.string s') : Sem Value).run P w = .ok cv w ∧ SVR g w (.p false [.c z]) cv := by
  have hg : (eqGuard op t ox oy (.string s) (.string s')).run P w = .ok () w := by
    cases op <;> rfl
  simp only[Sem.run_bind, hg, Result.andThen_ok]
  cases op <;> simp only[ZxE, AB, reduceCtorEq] at hz <;> (try subst hz) <;>
    first
      | (refine ⟨_, ?_, Zar _⟩; simp only[binOp, Op.stringOp, sLt, sEq, ← ZsW]; rfl)
      | (split at hz
         · rename_i hl
           simp only[AB] at hz
           subst hz
           refine ⟨_, ?_, ZkU (by rw [ByteArray.size_append]; exact hl)⟩
           have hl' : ¬ ((s.size + s'.size : Nat) : Int) > IntKind.i64.max := by
             have : IntKind.i64.max = 9223372036854775807 := by decide
             omega
           simp only[binOp, Op.stringOp, hl', if_false]
           rfl
         · simp at hz)
theorem Zqi [NW] {op:BinOp} {t:Nat} {ox oy:Operand} {b b':Bool} {r:Bool} (ht:P.underlying t=some .bool) (hop:(op=.eql∧r=(b==b'))∨(op=.neq∧r=!(b==b'))):
  (do eqGuard op t ox oy (.bool b) (.bool b');binOp op t (.bool b) (.bool b'):Sem Value).run P w=.ok (.bool r) w:=by
 have hg:(eqGuard op t ox oy (.bool b) (.bool b')).run P w=.ok () w:=by
  cases op<;>rfl
 have he:(Op.equal t (.bool b) (.bool b')).run P w=.ok (b==b') w:=by
  have key:∀d:Nat,(Op.equalIn (d+1) t (.bool b) (.bool b')).run P w=.ok (b==b') w:=fun d=>by
   rw [Op.equalIn]
   simp only[Sem.run_bind,Ys ht,Result.andThen_ok,Sem.run_pure]
  exact key 9999
 simp only[Sem.run_bind,hg,Result.andThen_ok]
 rcases hop with ⟨rfl,rfl⟩ | ⟨rfl,rfl⟩
 ·simp only[binOp,Sem.run_bind,he,Result.andThen_ok,Sem.run_pure]
 ·simp only[binOp,Sem.run_bind,he,Result.andThen_ok,Sem.run_pure]
theorem Zyj [NW] (htt:∀t i,tt t=some i→TOk P t i) {op:BinOp} {t:Nat} {ox oy:Operand} {x y v:SV} {vx vy:Value} (h:ZwS (tt t) op x y=some v) (hx:SVR g w x vx) (hy:SVR g w y vy):
  ∃cv,(do eqGuard op t ox oy vx vy;binOp op t vx vy:Sem Value).run P w=.ok cv w∧SVR g w v cv∧svU U v:=by
 unfold ZwS at h
 split at h
 ·have ex:=Zbz hx
  have ey:=Zbz hy
  subst ex ey
  split at h
  ·rename_i hk
   obtain ⟨z,hz,rfl⟩:=AH.1 h
   obtain ⟨cv,h1,h2⟩:=ZwR (P:=P) (g:=g) (w:=w) (t:=t) (ox:=ox) (oy:=oy) hk hz
   exact ⟨cv,h1,h2,Xn _⟩
  ·simp at h
 ·obtain ⟨ex,lx⟩:=Zh1 hx
  obtain ⟨ey,ly⟩:=Zh1 hy
  subst ex ey
  obtain ⟨z,hz,rfl⟩:=AH.1 h
  obtain ⟨cv,h1,h2⟩:=Zwy (P:=P) (g:=g) (w:=w) (t:=t) (ox:=ox) (oy:=oy) hz
  exact ⟨cv,h1,h2,Xn _⟩
 ·have ex:=ZfE hx
  have ey:=ZfE hy
  subst ex ey
  split at h
  ·rename_i hti
   simp only[AB] at h
   subst h
   obtain ⟨d,zv,i,h1,h2,_⟩:=htt t _ hti
   have hd:d=.bool:=by cases d<;>simp [ZhA] at h2;rfl
   subst hd
   exact ⟨_,Zqi h1 (.inl ⟨rfl,rfl⟩),Zar _,Xn _⟩
  ·rename_i hti
   simp only[AB] at h
   subst h
   obtain ⟨d,zv,i,h1,h2,_⟩:=htt t _ hti
   have hd:d=.bool:=by cases d<;>simp [ZhA] at h2;rfl
   subst hd
   exact ⟨_,Zqi h1 (.inr ⟨rfl,rfl⟩),Zar _,Xn _⟩
  ·simp at h
 ·simp at h
theorem Zoe {k:PK} {d:TypeDesc} (h:ZdO k d=true):ZqC d=false:=by
 unfold ZdO at h
 split at h<;>first | rfl | simp at h
theorem ZBr [NW] {k:PK} {x y:AV} {vx vy:Value} {b:Bool} {t:Nat} {d:TypeDesc} (h:eqC k x y=some b) (hd:P.underlying t=some d) (hk:ZdO k d=true) (hx:AVR g w x vx) (hy:AVR g w y vy) (n:Nat):(Op.equalIn (n+1) t vx vy).run P w=.ok b w:=by
 unfold eqC at h
 split at h
 ·split at h<;>simp only[AB,reduceCtorEq] at h
  rename_i kk;subst kk h
  obtain ⟨_,h1,_⟩:=hx;obtain ⟨_,h2,_⟩:=hy
  have e1:=h1.1;have e2:=h2.1;subst e1 e2
  cases d<;>simp [ZdO] at hk
  exact run_equalIn_int w n t _ _ _ _ hd
 ·simp only[AB] at h;subst h
  obtain ⟨_,h1,_⟩:=hx;obtain ⟨_,h2,_⟩:=hy
  have e1:=h1.1;have e2:=h2.1;subst e1 e2
  cases d<;>simp [ZdO] at hk
  rw [run_equalIn_string w n t _ _ hd,sEq,ZsW]
 ·simp only[AB] at h;subst h
  obtain ⟨_,h1,_⟩:=hx;obtain ⟨_,h2,_⟩:=hy
  have e1:=h1.1;have e2:=h2.1;subst e1 e2
  cases d<;>simp [ZdO] at hk
  exact run_equalIn_bool' w n t _ _ hd
 ·simp at h
theorem Zs1 [NW] (n:Nat) {X Y:Array Value}:∀{ks:List PK} {fs:List Field} {o:Nat} {xs ys:List AV} {vx vy:List Value} {b:Bool},ZmK ks xs ys=some b→EqF P ks fs o→ZL (AVR g w) xs vx→ZL (AVR g w) ys vy→(∀j v,vx[j]?=some v→X[o+j]?=some v)→(∀j v,vy[j]?=some v→Y[o+j]?=some v)→(Op.eqFields (n+1) X Y fs).run P w=.ok b w
 | [],[],_,[],[],_,_,b,h,_,_,_,_,_=>by simp [ZmK] at h;subst h;simp [Op.eqFields]
 | k::ks,f::fs,o,x::xs,y::ys,[],_,_,_,_,hx,_,_,_=>hx.elim
 | k::ks,f::fs,o,x::xs,y::ys,_::_,[],_,_,_,_,hy,_,_=>hy.elim
 | k::ks,f::fs,o,x::xs,y::ys,u::vx,v::vy,b,h,hf,hx,hy,hX,hY=>by
  simp only[ZmK] at h
  obtain ⟨b1,h1,h⟩:=AZ.1 h
  obtain ⟨b2,h2,rfl⟩:=AH.1 h
  obtain ⟨f1,f2,⟨d,f3,f4⟩,f5⟩:=hf
  have e1:=ZBr h1 f3 f4 hx.1 hy.1 n
  have e2:=Zs1 n h2 f5 hx.2 hy.2 (fun j v hj=>by have:=hX (j+1) v (by simpa using hj);rwa [show o+(j+1)=o+1+j by omega] at this) (fun j v hj=>by have:=hY (j+1) v (by simpa using hj);rwa [show o+(j+1)=o+1+j by omega] at this)
  have p1:(part f.type X f.offset).run P w=.ok u w:=by
   have:=hX 0 u (by simp)
   simp only[part,Sem.run_bind,Zhc f3,Zoe f4,Result.andThen_ok]
   rw [f2];simp at this;simp [this]
  have p2:(part f.type Y f.offset).run P w=.ok v w:=by
   have:=hY 0 v (by simp)
   simp only[part,Sem.run_bind,Zhc f3,Zoe f4,Result.andThen_ok]
   rw [f2];simp at this;simp [this]
  simp only[Op.eqFields,f1,ne_eq,not_false_eq_true,if_true,Sem.run_bind,p1,p2,e1,Result.andThen_ok]
  cases b1
  ·simp
  ·simpa using e2
 | [],_::_,_,_,_,_,_,_,_,hf,_,_,_,_=>hf.elim
 | _::_,[],_,_,_,_,_,_,_,hf,_,_,_,_=>hf.elim
 | [],[],_,_::_,_,_,_,_,h,_,_,_,_,_=>by simp [ZmK] at h
 | [],[],_,[],_::_,_,_,_,h,_,_,_,_,_=>by simp [ZmK] at h
 | _::_,_::_,_,[],_,_,_,_,h,_,_,_,_,_=>by simp [ZmK] at h
 | _::_,_::_,_,_::_,[],_,_,_,h,_,_,_,_,_=>by simp [ZmK] at h
theorem ZrF {op:BinOp} {b:Bool} {v:SV} (h:Zq0 op b=some v):(op=.eql∧v=.p false [.c (.bool b)])∨(op=.neq∧v=.p false [.c (.bool (!b))]):=by
 unfold Zq0 at h
 split at h<;>simp only[AB,reduceCtorEq] at h<;>subst h
 ·exact .inl ⟨rfl,rfl⟩
 ·exact .inr ⟨rfl,rfl⟩
theorem ZBc [NW] (htt:∀t i,tt t=some i→TOk P t i) {op:BinOp} {t:Nat} {ox oy:Operand} {x y v:SV} {vx vy:Value} (h:ZwT (tt (t+4000)) op x y=some v) (hx:SVR g w x vx) (hy:SVR g w y vy):
  ∃cv,(do eqGuard op t ox oy vx vy;binOp op t vx vy:Sem Value).run P w=.ok cv w∧SVR g w v cv∧svU U v:=by
 unfold ZwT at h
 split at h
 ·obtain ⟨ks,hks,h'⟩:=AZ.1 h
  obtain ⟨b,hb,h''⟩:=AZ.1 h'
  have hti:tt (t+4000)=some (.eqs ks):=by
   unfold ZvL at hks
   split at hks<;>simp only[AB,reduceCtorEq] at hks
   rename_i hti
   rw [hti,hks]
  obtain ⟨u,e,h1,h2,h3,h4⟩:=htt _ _ hti
  have e:t=u:=Nat.add_right_cancel e
  subst e
  obtain ⟨us,rfl,hus⟩:=hx
  obtain ⟨vs,rfl,hvs⟩:=hy
  have hq:=Zs1 (X:=us.toArray) (Y:=vs.toArray) 9998 hb h4 hus hvs (fun j v hj=>by simpa using hj) (fun j v hj=>by simpa using hj)
  have hg:=run_eqGuard_agg (P:=P) w op t ox oy us.toArray vs.toArray h3
  rcases ZrF h'' with ⟨rfl,rfl⟩ | ⟨rfl,rfl⟩
  ·refine ⟨_,?_,Zar b,Xn _⟩
   simp only[Sem.run_bind,hg,Result.andThen_ok,run_eql_struct,run_equalIn_struct w 9999 t _ _ h1 h2,hq]
  ·refine ⟨_,?_,Zar (!b),Xn _⟩
   simp only[Sem.run_bind,hg,Result.andThen_ok,run_neq_struct,run_equalIn_struct w 9999 t _ _ h1 h2,hq]
 ·simp at h
theorem ZzK [NW] {b:Bool} {v:Value} (h:SVR g w (.p false [.c (.ifc b)]) v):(b=true∧v=.nilIface)∨(b=false∧∃t x,v=.iface t x):=by
 obtain ⟨x,hx,h⟩:=h;simp at hx;subst hx;obtain ⟨L,h1,_⟩:=h
 have h2:=h1.2.2
 cases b with
 | true=>exact .inl ⟨rfl,h2⟩
 | false=>exact .inr ⟨rfl,h2⟩
theorem ZwM [NW] (htt:∀t i,tt t=some i→TOk P t i) {op:BinOp} {t:Nat} {ox oy:Operand} {x y v:SV} {vx:Value} (h:Zwt tt t (ZjY oy) op x y=some v) (hx:SVR g w x vx) (hy:SVR g w y (a.eval oy)):
  ∃cv,(do eqGuard op t ox oy vx (a.eval oy);binOp op t vx (a.eval oy):Sem Value).run P w=.ok cv w∧SVR g w v cv∧svU U v:=by
 unfold Zwt at h
 split at h
 ·rename_i hn
  have ho:oy=.const .nilIface:=by
   cases oy with
   | const c=>cases c<;>first | rfl | (simp [ZjY,ZsC] at hn;done)
   | _=>simp [ZjY] at hn
  subst ho
  split at h
  rotate_left
  ·simp at h
  rename_i hif
  have hti:tt t=some .ifc:=by
   unfold Zwv at hif
   split at hif
   ·assumption
   ·simp at hif
  obtain ⟨ms,hms⟩:=htt _ _ hti
  unfold ZAJ at h
  split at h
  ·rename_i b
   have hb:=ZzK hx
   have hev:a.eval (.const .nilIface)=.nilIface:=rfl
   rw [hev]
   have hg:∀v:Value,(v=.nilIface∨∃t x,v=.iface t x)→(eqGuard op t ox (.const .nilIface) v .nilIface).run P w=.ok () w:=fun v hv=>by
    rcases hv with rfl | ⟨t',x',rfl⟩
    ·simp only[eqGuard]
     cases ox<;>cases op<;>rfl
    ·simp only[eqGuard]
     cases op<;>rfl
   have he:(Op.equal t vx .nilIface).run P w=.ok b w:=by
    show (Op.equalIn (9999+1) t _ _).run P w=_
    rw [Op.equalIn]
    rcases hb with ⟨rfl,rfl⟩ | ⟨rfl,t',x',rfl⟩
    ·simp only[Sem.run_bind,Ys hms,Result.andThen_ok,Sem.run_pure]
    ·simp only[Sem.run_bind,Ys hms,Result.andThen_ok,Sem.run_pure]
   have hg':=hg vx (hb.imp (fun h=>h.2) (fun h=>h.2))
   rcases ZrF h with ⟨rfl,rfl⟩ | ⟨rfl,rfl⟩
   ·refine ⟨_,?_,Zar b,Xn _⟩
    simp only[Sem.run_bind,hg',Result.andThen_ok]
    rcases hb with ⟨rfl,rfl⟩ | ⟨rfl,t',x',rfl⟩<;>simp only[binOp,Sem.run_bind,he,Result.andThen_ok,Sem.run_pure]
   ·refine ⟨_,?_,Zar (!b),Xn _⟩
    simp only[Sem.run_bind,hg',Result.andThen_ok]
    rcases hb with ⟨rfl,rfl⟩ | ⟨rfl,t',x',rfl⟩<;>simp only[binOp,Sem.run_bind,he,Result.andThen_ok,Sem.run_pure]
  ·simp at h
 ·split at h
  ·exact ZBc htt h hx hy
  ·exact Zyj htt h hx hy
theorem ZCP [NW] {op:UnOp} {x v:SV} {vx:Value} (h:unV op x=some v) (hx:SVR g w x vx):∃cv,(Op.unary op vx).run P w=.ok cv w∧SVR g w v cv∧svU U v:=by
 unfold unV at h
 split at h
 ·have ex:=ZfE hx
  subst ex
  split at h<;>simp at h
  subst h
  exact ⟨_,by simp [Op.unary],Zar _,Xn _⟩
 ·have ex:=Zbz hx
  subst ex
  split at h<;>simp at h
  subst h
  exact ⟨_,by simp [Op.unary,Op.intArith],Zbv _ _,Xn _⟩
 ·simp at h
end
end
section
open Go.RowKit
section
variable {P:Program} {W:Zaa} {U:Nat→Prop} {key:Nat} {st:St} {g:Gh} {w:World} {a:Act} {tt:Nat→Option TI}
theorem ZAr {t:Nat} {z:AV} (htt:∀t i,tt t=some i→TOk P t i) (h:tt t=some (.atom z)):∃d,P.underlying t=some d:=by
 obtain ⟨d,_,_,h,_⟩:=htt t _ h;exact ⟨d,h⟩
theorem ZqP {t:Nat} (htt:∀t i,tt t=some i→TOk P t i) (h:Zbm (tt t)=true):∃e,P.underlying t=some (.slice e):=by
 unfold Zbm at h
 split at h
 ·rename_i h1;exact ⟨_,(htt t _ h1).1⟩
 ·simp at h
theorem Zhb {t:Nat} (htt:∀t i,tt t=some i→TOk P t i) (h:Zcq (tt t)=true):P.underlying t=some .string:=by
 unfold Zcq at h
 split at h
 ·rename_i h1
  obtain ⟨d,zv,i,h2,h3,_⟩:=htt t _ h1
  have hd:d=.string:=by cases d<;>simp [ZhA] at h3;rfl
  rw [hd] at h2;exact h2
 ·simp at h
theorem Zxe [NW] (htt:∀t i,tt t=some i→TOk P t i) {s t:Nat} {x v:SV} {vx:Value} (h:ZpZ (tt s) (tt t) x=some v) (hx:SVR g w x vx):∃cv,(convert s t vx).run P w=.ok cv w∧SVR g w v cv∧svU U v:=by
 unfold ZpZ at h
 split at h
 ·have ex:=Zbz hx
  subst ex
  split at h
  ·rename_i h1 h2
   simp only[AB] at h
   subst h
   obtain ⟨d,zv,i,h3,h4,_⟩:=htt t _ h2
   have hd:∃k,d=.int k:=by cases d<;>simp [ZhA] at h4;exact ⟨_,rfl⟩
   obtain ⟨k,rfl⟩:=hd
   simp only[ZhA,beq_iff_eq] at h4
   subst h4
   obtain ⟨ds,hs⟩:=ZAr htt h1
   refine ⟨_,?_,Zbv _ _,Xn _⟩
   simp [convert,Ys hs,Ys h3,Conv.intToInt]
  ·simp at h
 ·simp at h
theorem Zgy [NW] {e m:Nat} {xs:List (List CT)} {v:Value} (h:SVR g w (.p false [.c (.sl e m xs)]) v):∃A cap cs L0 L1,v=.slice A xs.length cap∧xs.length≤cap∧cap≤maxLen∧0<m∧Sl w m A xs.length cs L0∧REs w m xs cs L1∧(∀b∈L0++L1,¬g.own b):=by
 obtain ⟨x,hx,h⟩:=h
 simp at hx
 subst hx
 obtain ⟨L,⟨A,cap,cs,L0,L1,h1,h2,h3,h4,h5,h6,h7⟩,ho⟩:=h
 exact ⟨A,cap,cs,L0,L1,h1,h2,h3,h5,h6,h7,fun b m=>ho b (h4 ▸ m)⟩
theorem Zfm [NW] {k:Nat} {v:Value} (h:SVR g w (.p false [.row k]) v):v=g.val k:=by
 obtain ⟨x,hx,h⟩:=h;simp at hx;subst hx;exact h.1
theorem Zsz [NW] {e m:Nat} {v:Value} (h:SVR g w (.p false [.nil e m]) v):v=.slice none 0 0:=by
 obtain ⟨x,hx,h⟩:=h;simp at hx;subst hx;exact h
theorem Zax {B e m n:Nat} {v:Value} {cs:List Value} (h:w.ownsV B e m v n cs):∃A cap,v=.slice A n cap:=by
 obtain ⟨A,c,hv,_⟩:=ZdC h
 exact ⟨A,c,hv⟩
theorem ZD0 [NW] {x:CT} {v:Value} (h:SVR g w (.p false [.n x]) v):NR g w x v:=by
 obtain ⟨y,hy,h⟩:=h;simp at hy;subst hy;exact h
theorem Zzd [NW] (htt:∀t i,tt t=some i→TOk P t i) (hI:HI W g st.ob w) {t:Nat} {ts:Array TypeId} {ty:TypeId} (hts:ts[0]?=some t) {x v:SV} {vx:Value} (h:ZmS st (tt t) x=some v) (hx:SVR g w x vx):
  ∃cv,(Builtin.len_ ts ty #[vx]).run P w=.ok cv w∧SVR g w v cv∧svU U v:=by
 have fin:∀(A:Option Addr) (n c:Nat),Zbm (tt t)=true→(Builtin.len_ ts ty #[.slice A n c]).run P w=.ok (.int .i64 n) w:=fun A n c hs=>by
  obtain ⟨e,he⟩:=ZqP htt hs
  simp [Builtin.len_,hts,Ys he,goInt]
 unfold ZmS at h
 split at h
 ·split at h<;>simp at h
  rename_i hs
  subst h
  obtain ⟨A,cap,_,_,_,rfl,_⟩:=Zgy hx
  exact ⟨_,fin _ _ _ hs,Zbv _ _,Xn _⟩
 ·split at h<;>simp at h
  rename_i hs
  subst h
  obtain ⟨_,_,_,_,_,h1,_,h3,_⟩:=ZD0 hx
  simp only[CT.sl.injEq] at h1
  obtain ⟨_,_,rfl⟩:=h1
  obtain ⟨A,cap,rfl⟩:=Zax h3
  exact ⟨_,fin _ _ _ hs,Zbv _ _,Xn _⟩
 ·split at h<;>simp at h
  rename_i hs
  subst h
  obtain ⟨rfl,_⟩:=Zh1 hx
  refine ⟨_,?_,Zbv _ _,Xn _⟩
  simp [Builtin.len_,hts,Ys (Zhb htt hs),goInt]
 ·split at h<;>simp at h
  rename_i hs
  subst h
  have:=Zsz hx
  subst this
  exact ⟨_,fin _ _ _ hs,Zbv _ _,Xn _⟩
 ·split at h
  ·rename_i k _ e m xs d hk
   split at h<;>simp at h
   rename_i hs
   subst h
   have hv:=Zfm hx
   subst hv
   have ho:=hI.obs k
   rw [hk] at ho
   obtain ⟨_,cs,L,h1,_⟩:=ho
   obtain ⟨A,cap,hv⟩:=Zax h1
   rw [hv]
   exact ⟨_,fin _ _ _ hs,Zbv _ _,Xn _⟩
  ·simp at h
 ·simp at h
theorem Zlg {f:Value→ByteArray→Sem (ForInStep ByteArray)} (hf:∀n s,f (.int .u8 n) s=pure (ForInStep.yield (s.push (Au n.toNat)))):∀(l:List Int) (s:ByteArray),(forIn (l.map fun n=>Value.int .u8 n) s f).run P w=.ok ⟨s.data++(l.map fun n=>Au n.toNat).toArray⟩ w
 | [],s=>by simp
 | n::l,s=>by
  have ih:=Zlg hf l (s.push (Au n.toNat))
  simp only[B3,List.forIn_cons,hf,Sem.run_bind,Sem.run_pure,Result.andThen_ok,ih]
  congr 2
  apply Array.ext'
  simp [ByteArray.push]
theorem ZtK [NW] {b o cap:Nat} (l:List Int) (hc:∀j u,(l.map fun n=>Value.int .u8 n)[j]?=some u→w.cell? ⟨b,o+j,none⟩=some u):(Conv.bytesToString (.slice (some ⟨b,o,none⟩) l.length cap)).run P w=.ok (.string (Y5 l)) w:=by
 have h1:=run_loadCells_list (P:=P) w ⟨b,o,none⟩ (l.map fun n=>Value.int .u8 n) (fun j u hj=>by rw [Zdn];exact hc j u hj)
 rw [B7] at h1
 unfold Conv.bytesToString
 simp only[Sem.run_bind,h1,Result.andThen_ok,←Array.forIn_toList]
 rw [Zlg (fun _ _=>rfl)]
 simp [Y5,ByteArray.empty,ByteArray.emptyWithCapacity]
 rfl
theorem Zmk {m:Nat}:∀{xs:List (List CT)} {l:List Int} {cs:List Value} {L:List Nat},Zew xs=some l→REs w m xs cs L→cs=l.map (fun n=>Value.int .u8 n)∧xs.length=l.length
 | [],_,_,_,h,⟨h1,_⟩=>by simp [Zew] at h;subst h h1;simp
 | x::r,l,_,_,h,⟨c1,c2,L1,L2,rfl,rfl,h3,h4⟩=>by
  unfold Zew at h
  split at h
  ·rename_i he;simp at he
  ·rename_i n r' he
   simp only[List.cons.injEq] at he
   obtain ⟨rfl,rfl⟩:=he
   obtain ⟨l',hl,rfl⟩:=AH.1 h
   obtain ⟨i1,i2⟩:=Zmk hl h4
   obtain ⟨v,cs',_,_,rfl,rfl,a1,a2⟩:=h3.1
   obtain ⟨rfl,_⟩:=a2
   rw [a1.1,i1]
   exact ⟨rfl,by simp [i2]⟩
  ·simp at h
theorem Zqe (l:List Int):(Y5 l).size=l.length:=by simp [Y5,ByteArray.size]
theorem Zwa [NW] (htt:∀t i,tt t=some i→TOk P t i) (hI:HI W g st.ob w) {s t:Nat} {x v:SV} {vx:Value} (hst:Zcq (tt t)=true) (hby:Zlz (Zo8 tt (tt s))=true) (h:ZhD st x=some v) (hx:SVR g w x vx):∃cv,(convert s t vx).run P w=.ok cv w∧SVR g w v cv∧svU U v:=by
 have ht:=Zhb htt hst
 have hs:∃e,P.underlying s=some (.slice e)∧P.underlying e=some (.int .u8):=by
  unfold Zo8 at hby
  split at hby
  ·rename_i e m b z hti
   have h1:=(htt _ _ hti).1
   unfold Zlz at hby
   split at hby
   ·rename_i hte
    obtain ⟨d,zv,i,h2,h3,_⟩:=htt _ _ hte
    cases d<;>simp [ZhA] at h3
    subst h3
    exact ⟨e,h1,h2⟩
   ·simp at hby
  ·simp [Zlz] at hby
 obtain ⟨e,hs,he⟩:=hs
 have go:∀A n c,(convert s t (.slice A n c)).run P w=(Conv.bytesToString (.slice A n c)).run P w:=fun A n c=>by
  unfold convert
  simp only[Sem.run_bind,Ys hs,Ys ht,Ys he,Result.andThen_ok]
 have fin:∀(A:Option Addr) (n cap:Nat) (cs:List Value) (L:List Nat) (xs:List (List CT)) (l:List Int) (m:Nat),n=xs.length→0<m→Zew xs=some l→REs w m xs cs L→n≤9223372036854775807→(n=0∨∃b o,A=some ⟨b,o,none⟩∧Qw w b o cs)→∃cv,(convert s t (.slice A n cap)).run P w=.ok cv w∧SVR g w (.p false [.c (.str (Y5 l))]) cv∧svU U (.p false [.c (.str (Y5 l))]):=by
  intro A n cap cs L xs l m hn hm hl hR hsz hA
  obtain ⟨i1,i2⟩:=Zmk hl hR
  have hsz':(Y5 l).size≤9223372036854775807:=by rw [Zqe];omega
  refine ⟨.string (Y5 l),?_,ZkU hsz',Xn _⟩
  rw [go]
  rcases hA with h0 | ⟨b,o,rfl,hc⟩
  ·have:l=[]:=AX (by omega)
   subst this
   cases A with
   | none=>rfl
   | some a=>
    have h1:=run_loadCells_list (P:=P) w a [] (by simp)
    rw [h0]
    unfold Conv.bytesToString
    simp only[AR] at h1
    simp only[Sem.run_bind,h1,Result.andThen_ok]
    rfl
  ·rw [hn,i2]
   exact ZtK l fun j u hj=>hc j u (by rw [i1];exact hj)
 unfold ZhD at h
 split at h
 ·split at h
  ·rename_i k _ e' m xs d hk
   obtain ⟨l,hl,rfl⟩:=AH.1 h
   have hv:=Zfm hx
   have ho:=hI.obs k
   rw [hk] at ho
   obtain ⟨hm,cs,L,h1,h2,_⟩:=ho
   rw [hv]
   rcases h1.2 with ⟨h3,h4⟩ | ⟨b,o,cap,cur,h3,h4,h5,h6,h7,h8,h9⟩
   ·rw [h3]
    exact fin _ _ _ cs L xs l m (by omega) hm hl h2 (by omega) (.inl rfl)
   ·rw [h3]
    refine fin _ _ _ cs L xs l m rfl hm hl h2 (by unfold maxLen at h7;omega) (.inr ⟨b,o,rfl,fun j u hj=>?_⟩)
    exact Zi8 h1 h3 j u hj
  ·simp at h
 ·obtain ⟨l,hl,rfl⟩:=AH.1 h
  obtain ⟨A,cap,cs,L0,L1,rfl,h2,h3,h5,h6,h7,_⟩:=Zgy hx
  rename_i e' m' xs _
  refine fin _ _ _ cs L1 xs l _ rfl h5 hl h7 (by unfold maxLen at h3;omega) ?_
  rcases Nat.eq_zero_or_pos xs.length with h0 | h0
  ·exact .inl h0
  ·obtain ⟨b,off,h8,h9,hc⟩:=h6.at_ h0
   exact .inr ⟨b,off,h8,hc⟩
 ·simp at h
theorem Zvn [NW] (htt:∀t i,tt t=some i→TOk P t i) (hI:HI W g st.ob w) {s t:Nat} {x v:SV} {vx:Value} (h:ZgY tt st s t x=some v) (hx:SVR g w x vx):∃cv,(convert s t vx).run P w=.ok cv w∧SVR g w v cv∧svU U v:=by
 unfold ZgY at h
 split at h
 ·rename_i hc
  simp only[A4] at hc
  exact Zwa htt hI hc.1 hc.2 h hx
 ·exact Zxe htt h hx
theorem RCs.avr [NW] {e:List CT} {cs:List Value} {L:List Nat}:RCs w e cs L→(∀b∈L,¬g.own b)→ZL (AVR g w) (e.map .c) cs:=by
 induction e generalizing cs L with
 | nil=>intro h _;obtain ⟨rfl,rfl⟩:=h;trivial
 | cons x r ih=>
  rintro ⟨v,cs',L1,L2,rfl,rfl,h1,h2⟩ ho
  exact ⟨⟨L1,h1,fun b m=>ho b (by simp [m])⟩,ih h2 fun b m=>ho b (by simp [m])⟩
theorem Zmu (a:Bool) (e:List CT):Qn U (e.map AV.c):=fun y m=>by
 obtain ⟨x,_,rfl⟩:=A6.1 m;trivial
theorem Zpm [NW] (htt:∀t i,tt t=some i→TOk P t i) {t b lo off:Nat} {cs:List AV} {vs:List Value} {v:SV} (h:cut (tt t) cs off=some v) (hc:Qw w b lo vs) (hr:ZL (AVR g w) cs vs) (hu:Qn U cs):
  ∃cv,(Instr.loadAt t (.pointer (some ⟨b,lo+off,none⟩))).run P w=.ok cv w∧SVR g w v cv∧svU U v:=by
 have hlen:=hr.len
 have one:∀d,P.underlying t=some d→ZqC d=false→∀x,cs[off]?=some x→∃cv,(Instr.loadAt t (.pointer (some ⟨b,lo+off,none⟩))).run P w=.ok cv w∧SVR g w (.p false [x]) cv∧svU U (.p false [x]):=fun d hd ha x hx=>by
  obtain ⟨u,h1,h2⟩:=hr.at hx
  refine ⟨u,?_,⟨x,rfl,h2⟩,fun y m=>by simp at m;subst m;exact hu y (A8 hx)⟩
  simp [Instr.loadAt,Instr.sureAddr,loadVar,Zhc hd,ha,load,Sem.run,hc off u h1]
 unfold cut at h
 split at h
 ·rename_i fs n z hti
  split at h<;>simp at h
  rename_i hn
  subst h
  obtain ⟨fields,i,zvs,h1,h2,h3,_⟩:=htt t _ hti
  refine ⟨.agg ((vs.drop off).take n).toArray,?_,⟨_,rfl,(hr.drop off).take n⟩,fun y m=>hu y (Ae (BC m))⟩
  have hl:((vs.drop off).take n).length=i.size:=by simp;omega
  have hload:=run_loadCells_list (P:=P) w ⟨b,lo+off,none⟩ ((vs.drop off).take n) (fun j u hj=>by
   rw [Zdn,AU]
   refine hc _ u ?_
   have hjn:j<n:=by
    have:=(A9.1 hj).1
    simp at this;omega
   rw [List.getElem?_take,if_pos hjn,List.getElem?_drop] at hj
   exact hj)
  rw [hl] at hload
  simp [Instr.loadAt,Instr.sureAddr,loadVar,Zhc h1,ZqC,XF h2,hload]
 ·simp at h
 ·rename_i i hti hne hns
  obtain ⟨x,hx,rfl⟩:=AH.1 h
  cases i with
  | atom z=>obtain ⟨d,zv,i,h1,h2,_⟩:=htt t _ hns;exact one d h1 (Zvv h2) x hx
  | strct fs n z=>exact absurd rfl (hti _ _ _)
  | slice e m b z=>exact one _ (htt t _ hns).1 rfl x hx
  | map kk vk=>
   obtain ⟨kt,et,_,_,_,_,h1,_⟩:=htt t _ hns
   exact one _ h1 rfl x hx
  | ifc=>obtain ⟨ms,h1⟩:=htt t _ hns;exact one _ h1 rfl x hx
  | eqs ks=>exact absurd rfl (hne _)
 ·simp at h
end
end
section
open Go.RowKit
section
variable {P:Program} {W:Zaa} {U:Nat→Prop} {key:Nat} {st:St} {g:Gh} {w:World} {a:Act} {tt:Nat→Option TI}
theorem HI.deep [NW] {ob:Nat→Ob} {k e m:Nat} {xs:List (List CT)} {d:Nat} (hI:HI W g ob w) (hk:ob k=.row e m xs d):0<m∧∃cs L,w.ownsV 0 e m (g.val k) xs.length cs∧REs w m xs cs L∧(∀b∈L,¬g.own b)∧((d=2∧g.O k=(g.val k).ownBlock.toList∧g.D k=L)∨(d=1∧g.O k=(g.val k).ownBlock.toList∧g.D k=[])∨(d=0∧g.O k=[]∧g.D k=[]∧∀b∈(g.val k).ownBlock.toList,¬g.own b)):=by
 have ho:=hI.obs k
 rw [hk] at ho
 obtain ⟨hm,cs,L,h1,h2,h4⟩:=ho
 refine ⟨hm,cs,L,h1,h2,?_,?_⟩
 ·rcases h4 with ⟨_,_,h4⟩ | ⟨_,_,_,h4⟩ | ⟨_,_,_,h4⟩
  ·rintro b mb (⟨j,mj⟩ | hz)
   ·by_cases hjk:j=k
    ·subst hjk
     have:=hI.nodup j
     rw [B5] at this
     exact this.2.2 b mj b (h4 ▸ mb) rfl
    ·exact hI.apart j k hjk b (by simp [mj]) (by simp [h4,mb])
   ·exact hI.nz (k:=k) (by simp [h4,mb]) hz
  ·exact h4
  ·exact fun b mb=>h4 b (by simp [mb])
 ·rcases h4 with h4 | ⟨q1,q2,q3,_⟩ | ⟨q1,q2,q3,q4⟩
  ·exact .inl h4
  ·exact .inr (.inl ⟨q1,q2,q3⟩)
  ·exact .inr (.inr ⟨q1,q2,q3,fun b mb=>q4 b (by simp [mb])⟩)
theorem HI.deepO [NW] {ob:Nat→Ob} {k e m:Nat} {xs:List (List CT)} {d:Nat} (hI:HI W g ob w) (hk:ob k=.row e m xs d) (hd:¬d=0):0<m∧∃cs L,w.ownsV 0 e m (g.val k) xs.length cs∧REs w m xs cs L∧(∀b∈L,¬g.own b)∧g.O k=(g.val k).ownBlock.toList∧((d=2∧g.D k=L)∨(d=1∧g.D k=[])):=by
 obtain ⟨hm,cs,L,h1,h2,h3,h4⟩:=hI.deep hk
 refine ⟨hm,cs,L,h1,h2,h3,?_⟩
 rcases h4 with ⟨q1,q2,q3⟩ | ⟨q1,q2,q3⟩ | ⟨q1,_⟩
 ·exact ⟨q2,.inl ⟨q1,q3⟩⟩
 ·exact ⟨q2,.inr ⟨q1,q3⟩⟩
 ·exact absurd q1 hd
theorem REs.at {m:Nat}:∀{xs:List (List CT)} {cs:List Value} {L:List Nat} {i:Nat} {e:List CT},REs w m xs cs L→xs[i]?=some e→
  ∃c L',RCs w e c L'∧c.length=m∧(∀b∈L',b∈L)∧∀j u,c[j]?=some u→cs[i * m+j]?=some u
 | [],_,_,_,_,_,h=>by simp at h
 | x::r,_,_,0,e,⟨c1,c2,L1,L2,rfl,rfl,h3,h4⟩,h=>by
  simp at h;subst h
  exact ⟨c1,L1,h3.1,h3.2,fun b mb=>by simp [mb],fun j u hu=>by
   rw [Nat.zero_mul,AD,Aa (A9.1 hu).1];exact hu⟩
 | x::r,_,_,i+1,e,⟨c1,c2,L1,L2,rfl,rfl,h3,h4⟩,h=>by
  obtain ⟨c,L',a1,a2,a3,a4⟩:=REs.at h4 (i:=i) (e:=e) (by simpa using h)
  refine ⟨c,L',a1,a2,fun b mb=>by simp [a3 b mb],fun j u hu=>?_⟩
  have hl:=h3.2
  rw [List.getElem?_append_right (by rw [Av];omega)]
  rw [←a4 j u hu]
  congr 1
  rw [hl,Av];omega
theorem REs.len {m:Nat}:∀{xs:List (List CT)} {cs:List Value} {L:List Nat},REs w m xs cs L→cs.length=xs.length * m
 | [],_,_,h=>by simp [h.1]
 | x::r,_,_,⟨c1,c2,L1,L2,rfl,rfl,h3,h4⟩=>by simp [h3.2,REs.len h4,Av];omega
theorem ZBH [NW] (htt:∀t i,tt t=some i→TOk P t i) (hI:HI W g st.ob w) (hU:StU U st) {t e m bytes:Nat} {z:List AV} (hti:tt t=some (.slice e m bytes z)) {x i v:SV} {vx vi:Value} (h:Za9 st m x i=some v) (hx:SVR g w x vx) (hxu:svU U x) (hi:SVR g w i vi):
  ∃cv,(Instr.indexAt t vx vi).run P w=.ok cv w∧SVR g w v cv∧svU U v:=by
 obtain ⟨hu,hm,_,⟨ie,zv,hie,hsz,_⟩,_⟩:=htt t _ hti
 have run:∀(b o n c:Nat) (k:IntKind) (q:Int),0≤q→q<n→(Instr.indexAt t (.slice (some ⟨b,o,none⟩) n c) (.int k q)).run P w=.ok (.pointer (some ⟨b,o+q.toNat * m,none⟩)) w:=fun b o n c k q h0 h1=>by
  simp [Instr.indexAt,asIntOf,Ys hu,h0,h1,XF hie,hsz,Zdn]
 unfold Za9 at h
 split at h
 ·have ei:=Zbz hi
  subst ei
  split at h
  ·rename_i hq
   obtain ⟨x,hx1,rfl⟩:=AH.1 h
   obtain ⟨A,cap,cs,L0,L1,rfl,h2,h3,h5,h6,h7,ho⟩:=Zgy hx
   obtain ⟨h0,rfl⟩:=hq
   have hlt:=(A9.1 hx1).1
   obtain ⟨b,off,rfl,rfl,hc⟩:=h6.at_ (by omega)
   obtain ⟨c,L',a1,a2,a3,a4⟩:=h7.at hx1
   refine ⟨_,run b off _ _ _ _ h0 (by omega),⟨b,off+_,c,L',by rw [Nat.add_zero],fun j u hj=>?_,a1,fun y my=>?_,?_⟩,trivial⟩
   ·rw [AU];exact hc _ u (a4 j u hj)
   ·rcases AJ.1 my with rfl | my
    ·exact ho _ (by simp)
    ·exact ho _ (by simp [a3 y my])
   ·exact h6.lt h5 b (by simp)
  ·simp at h
 ·rename_i k _ _
  have ei:=Zbz hi
  subst ei
  split at h
  ·rename_i e' m' xs d hk
   split at h
   ·rename_i hq
    obtain ⟨h0,h1,rfl⟩:=hq
    simp only[AB] at h
    subst h
    have hv:=Zfm hx
    subst hv
    obtain ⟨_,cs,L,o1,_⟩:=hI.deep hk
    rcases o1.2 with ⟨_,hn⟩ | ⟨b,o,cap,cur,hv,_⟩
    ·omega
    ·refine ⟨_,by rw [hv];exact run b o _ _ _ _ h0 h1,⟨b,o,_,_,hv,by simp⟩,by have:=hxu (.row k) (by simp);exact this⟩
   ·simp at h
  ·simp at h
 ·simp at h
theorem ZxJ [NW] (htt:∀t i,tt t=some i→TOk P t i) {t:Nat} {x i v:SV} {vx vi:Value} (h:Zl3 (tt t) x i=some v) (hx:SVR g w x vx) (hi:SVR g w i vi):
  ∃cv,(Instr.index t vx vi).run P w=.ok cv w∧SVR g w v cv∧svU U v:=by
 unfold Zl3 at h
 split at h
 ·have ei:=Zbz hi
  subst ei
  obtain ⟨rfl,_⟩:=Zh1 hx
  split at h
  ·rename_i hq
   obtain ⟨b,hb,rfl⟩:=AH.1 h
   refine ⟨_,?_,Zbv _ _,Xn _⟩
   simp [Instr.index,asIntOf,Ys (Zhb htt hq.2),hq.1,hb]
  ·simp at h
 ·simp at h
theorem ZsS [NW] {e:List CT} {v:Value} (h:SVR g w (.p false [.c (.pt e)]) v):∃b cs L,v=.pointer (some ⟨b,0,none⟩)∧b<w.heap.size∧Qw w b 0 cs∧RCs w e cs L∧∀x∈b::L,¬g.own x:=by
 obtain ⟨x,hx,h⟩:=h
 simp at hx
 subst hx
 obtain ⟨_,⟨b,cs,L,h1,h2,rfl,h4,h5⟩,ho⟩:=h
 exact ⟨b,cs,L,h1,h2,h4,h5,ho⟩
theorem ZsY [NW] (htt:∀t i,tt t=some i→TOk P t i) (hI:HI W g st.ob w) (hU:StU U st) {t:Nat} {x v:SV} {vx:Value} (h:Qt st (tt t) x=some v) (hx:SVR g w x vx):
  ∃cv,(Instr.loadAt t vx).run P w=.ok cv w∧SVR g w v cv∧svU U v:=by
 unfold Qt at h
 split at h
 ·rename_i k off
  split at h
  ·rename_i tb cs hk
   obtain ⟨b,h1,rfl⟩:=hx
   have ho:=hI.obs k
   rw [hk] at ho
   obtain ⟨b',vs,o1,o2,o3,o4,o5⟩:=ho
   have hb:b=b':=by rw [o1] at h1;simpa using h1.symm
   subst hb
   have hu:=hU.ob k
   rw [hk] at hu
   have hc:Qw w b 0 vs:=fun j u hj=>by
    rw [AD,cell_of_row w b j vs.toArray tb (0,0) o4];simpa using hj
   have:=Zpm (P:=P) htt h hc o5 hu
   simpa using this
  ·simp at h
 ·rename_i k m i off
  split at h
  ·rename_i e m' xs d hk
   obtain ⟨x,hx1,h'⟩:=AZ.1 h
   obtain ⟨b,o,n,c,h1,rfl⟩:=hx
   obtain ⟨hm,cs,L,o1,o2,o3,_⟩:=hI.deep hk
   split at h'
   ·rename_i hmm
    subst hmm
    obtain ⟨c',L',a1,a2,a3,a4⟩:=o2.at hx1
    have hc:Qw w b (o+i * m) c':=fun j u hj=>by
     rw [AU]
     exact Zi8 o1 h1 (i * m+j) u (a4 j u hj)
    rw [←AU]
    exact Zpm htt h' hc (a1.avr fun y my=>o3 y (a3 y my)) (Zmu true _)
   ·simp at h'
  ·simp at h
 ·obtain ⟨b,lo,cs,L,rfl,h2,h3,h4,h5⟩:=hx
  exact Zpm htt h h2 (h3.avr fun y my=>h4 y (by simp [my])) (Zmu true _)
 ·obtain ⟨b,cs,L,rfl,h2,h3,h4,h5⟩:=ZsS hx
  have:=Zpm (P:=P) (U:=U) htt h h3 (h4.avr fun y my=>h5 y (by simp [my])) (Zmu true _)
  simpa using this
 ·simp at h
theorem Zzb [NW] {d:Nat} {x v:SV} {vx:Value} (h:ZjO d x=some v) (hx:SVR g w x vx) (hu:svU U x):∃b o,vx=.pointer (some ⟨b,o,none⟩)∧SVR g w v (.pointer (some ⟨b,o+d,none⟩))∧svU U v:=by
 unfold ZjO at h
 split at h<;>simp at h<;>subst h
 ·obtain ⟨b,h1,rfl⟩:=hx;exact ⟨b,_,rfl,⟨b,h1,rfl⟩,hu⟩
 ·obtain ⟨b,o,n,c,h1,rfl⟩:=hx;exact ⟨b,_,rfl,⟨b,o,n,c,h1,by simp only[AU]⟩,hu⟩
 ·obtain ⟨b,lo,cs,L,rfl,h⟩:=hx;exact ⟨b,_,rfl,⟨b,lo,cs,L,by rw [AU],h⟩,trivial⟩
 ·obtain ⟨b,cs,L,rfl,h2,h3,h4,h5⟩:=ZsS hx
  exact ⟨b,0,rfl,⟨b,0,cs,L,rfl,h3,h4,h5,h2⟩,trivial⟩
theorem ZBI [NW] (htt:∀t i,tt t=some i→TOk P t i) {t f n:Nat} {fs:List FI} {z:List AV} (hti:tt t=some (.strct fs n z)) {fi:FI} (hf:fs[f]?=some fi) {x v:SV} {vx:Value} (h:ZjO fi.off x=some v) (hx:SVR g w x vx) (hu:svU U x):
  ∃cv,(Instr.fieldAt t vx f).run P w=.ok cv w∧SVR g w v cv∧svU U v:=by
 obtain ⟨b,o,rfl,h1,h2⟩:=Zzb h hx hu
 obtain ⟨fields,i,zvs,u1,_,_,_,_,u2⟩:=htt t _ hti
 obtain ⟨fl,e1,e2,e3,j,d,e4,e5,_⟩:=u2.at hf
 have e1':fields[f]?=some fl:=by simpa using e1
 refine ⟨_,?_,h1,h2⟩
 simp [Instr.fieldAt,Ys u1,e1',Instr.sureAddr,fieldPlace,XF e4,e5,e3,Zdn,e2]
theorem ZzE [NW] (htt:∀t i,tt t=some i→TOk P t i) {t f n:Nat} {fs:List FI} {z:List AV} (hti:tt t=some (.strct fs n z)) {x v:SV} {vx:Value} (h:Zly fs f x=some v) (hx:SVR g w x vx) (hu:svU U x):
  ∃cv,(Instr.field t vx f).run P w=.ok cv w∧SVR g w v cv∧svU U v:=by
 unfold Zly at h
 split at h
 ·rename_i cs
  obtain ⟨fi,hf,h⟩:=AZ.1 h
  obtain ⟨vs,rfl,hr⟩:=hx
  obtain ⟨fields,i,zvs,u1,_,_,_,_,u2⟩:=htt t _ hti
  obtain ⟨fl,e1,e2,e3,j,d,e4,e5,e6,e7⟩:=u2.at hf
  have e1':fields[f]?=some fl:=by simpa using e1
  have hlen:=hr.len
  split at h
  ·rename_i ha
   split at h<;>simp at h
   rename_i hn
   subst h
   refine ⟨.agg ((vs.drop fi.off).take fi.size).toArray,?_,⟨_,rfl,(hr.drop _).take _⟩,fun y m=>hu y (Ae (BC m))⟩
   simp [Instr.field,Ys u1,e1',asAgg,part,Zhc e6,e7,ha,XF e4,e5,e2]
  ·rename_i ha
   obtain ⟨y,hy,rfl⟩:=AH.1 h
   obtain ⟨u,b1,b2⟩:=hr.at hy
   refine ⟨u,?_,⟨y,rfl,b2⟩,fun z mz=>by simp at mz;subst mz;exact hu z (A8 hy)⟩
   simp [Instr.field,Ys u1,e1',asAgg,part,Zhc e6,e7,ha,e2,b1]
 ·simp at h
theorem ZwN [NW] {c:Bool} {x y:SV} {vc vx vy:Value} (hc:SVR g w (.p false [.c (.bool c)]) vc) (hx:SVR g w x vx∧svU U x) (hy:SVR g w y vy∧svU U y):
  ∃cv,(do pure (Next.value (if ←asBool vc then vx else vy)):Sem Next).run P w=.ok (.value cv) w∧SVR g w (if c=true then x else y) cv∧svU U (if c=true then x else y):=by
 have:=ZfE hc
 subst this
 cases c
 ·exact ⟨vy,by simp [asBool],by simpa using hy.1,by simpa using hy.2⟩
 ·exact ⟨vx,by simp [asBool],by simpa using hx.1,by simpa using hx.2⟩
theorem Zy1 [NW] {i:Nat} {x v:SV} {vx:Value} (h:Zwp i x=some v) (hx:SVR g w x vx) (hu:svU U x):∃cv,(Instr.extract vx i).run P w=.ok cv w∧SVR g w v cv∧svU U v:=by
 unfold Zwp at h
 split at h
 ·obtain ⟨y,hy,rfl⟩:=AH.1 h
  obtain ⟨vs,rfl,hr⟩:=hx
  obtain ⟨u,b1,b2⟩:=hr.at hy
  exact ⟨u,by simp [Instr.extract,b1],b2,hu y (A8 hy)⟩
 ·simp at h
theorem ZvD [NW] {lo:Bool} {x y v:SV} {vx vy:Value} {ts:Array TypeId} {ty:TypeId} (h:Zwm lo x y=some v) (hx:SVR g w x vx) (hy:SVR g w y vy):
  ∃cv,((if lo then Builtin.min_ ts ty #[vx,vy] else Builtin.max_ ts ty #[vx,vy]):Sem Value).run P w=.ok cv w∧SVR g w v cv∧svU U v:=by
 unfold Zwm at h
 split at h
 ·have ex:=Zbz hx
  have ey:=Zbz hy
  subst ex ey
  simp only[AB] at h
  subst h
  refine ⟨_,?_,Zbv _ _,Xn _⟩
  cases lo
  ·simp [Builtin.max_,Builtin.max2]
  ·simp [Builtin.min_,Builtin.min2]
 ·simp at h
end
end
end Go.Proofs.YtfehfkfdfmcgfaaGreatDoor
