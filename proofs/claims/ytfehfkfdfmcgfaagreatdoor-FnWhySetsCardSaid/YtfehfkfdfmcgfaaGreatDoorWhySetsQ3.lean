/- Texts of this proof, joined: E3, D3, E15, F3, F4, S14, F6, F7, M13, P13, F8, S15, S16, S17, P11, L13C, Q11. What each holds is said at its theorems. -/
import Derived.Test.YtfehfkfdfmcgfaaGreatDoorWhySetsQ2
import Derived.Lib.Bytealg
import Derived.Test.YtfehfkfdfmcgfaaGreatDoorWhySetsQ1
set_option linter.unusedSimpArgs false
set_option linter.unusedVariables false
open Bool renaming and_eq_true→A3,eq_iff_iff→AC,false_eq_true→AE,true_and→AP,not_eq_true'→Ai,or_eq_true→Am,false_and→Ax,false_or→Ay,and_assoc→BG
open ByteArray renaming size_extract→Av
open Go.ByteArray renaming toList_eq→B4
open Int renaming toNat→AA,toNat_natCast→AO,toNat_of_nonneg→AR,le_trans→AS,eq_ofNat_of_zero_le→AU,le_refl→Ak
open List renaming mem_cons→A4,length_cons→A5,replicate→A6,mem_append→A7,getElem?_eq_getElem→A8,foldl_cons→AB,pairwise_cons→AD,all_eq_true→AF,getElem?_eq_none→AG,mem_map→AH,range→AI,foldl_append→AL,mem_filterMap→AN,mem_flatMap→AQ,getElem?_eq_some_iff→AT,length_append→AX,length_map→AY,mem_range→AZ,getElem?_cons_succ→Ac,getElem?_cons_zero→Ad,eq_nil_of_length_eq_zero→Af,mem_of_getElem?→Ag,ext_getElem?→Aj,countP_cons→Al,length_nil→An,dropLast_concat_getLast→Ao,flatMap_cons→Ap,flatMap_append→Aq,getElem?_set→Ar,countP_eq_zero→As,drop_eq_nil_of_le→At,drop_eq_getElem_cons→Au,length_singleton→Aw,mem_filter→Az,map_append→B2,append_nil→B8,nodup_cons→BC,length_filter_le→BD,nodup_append→BH,mergeSort_perm→BI,nodup_nil→BJ,filterMap_cons→BK,filter_cons→BL,map_flatMap→BM,countP_pos_iff→BN,countP_le_length→BO,length_set→BP,set_cons_zero→BQ,set_cons_succ→BR
open List.Pairwise renaming nil→Ah
open Nat renaming le_trans→A9,le_refl→AK,zero_add→AM,pow_le_pow_right→Aa,zero_le→Ab,shiftRight_eq_div_pow→B3,mul_assoc→B5,mul_le_mul_left→B9,add_sub_cancel→BA,testBit_and→BE,lt_of_lt_of_le→BF,succ_le_succ→BS
open Option renaming bind_some→A0,map_eq_some_iff→Ae,map_some→B6,bind_eq_some_iff→B7,isSome_some→BB
open Option.some renaming inj→AJ,injEq→AW
open Prod renaming fst→B1
namespace Go.Proofs.YtfehfkfdfmcgfaaGreatDoor
structure Znv {α:Type} (c:α→α→Int):Prop where
 eq:∀a b,c a b=0↔a=b
 anti:∀a b,c b a=- c a b
 tr:∀a b d,c a b<0→c b d<0→c a d<0
def Zh0 (a b:ByteArray):Int:=Lib.compareBytes (toL a) (toL b)
theorem ZhO:∀(x y:List UInt8),Lib.compareBytes x y=if Op.bytesLess x y=true then -1 else if x=y then 0 else 1
 | [],[]=>by simp [Lib.compareBytes,Op.bytesLess]
 | [],_::_=>by simp [Lib.compareBytes,Op.bytesLess]
 | _::_,[]=>by simp [Lib.compareBytes,Op.bytesLess]
 | a::x,b::y=>by
  have ih:=ZhO x y
  unfold Lib.compareBytes Op.bytesLess
  by_cases h1:a<b
  ·simp [h1]
  ·rw [if_neg h1]
   by_cases h2:b<a
   ·have h3:¬a=b:=fun e=>by rw [e] at h2;exact absurd h2 (UInt8.lt_irrefl _)
    rw [if_pos h2]
    simp [h1,h3]
   ·have h3:a=b:=by
     apply UInt8.toNat_inj.1
     rw [UInt8.lt_iff_toNat_lt] at h1 h2
     omega
    subst h3
    rw [if_neg h2,ih]
    simp [h1]
theorem Zho (a b:ByteArray):Zh0 a b=if sLt a b=true then -1 else if a=b then 0 else 1:=by
 unfold Zh0
 rw [ZhO]
 have h1:Op.bytesLess (toL a) (toL b)=sLt a b:=by unfold sLt toL;rw [B4,B4]
 rw [h1]
 by_cases h:a=b
 ·subst h;simp
 ·rw [if_neg h,if_neg (fun e=>h (Zfy e))]
theorem Zbl:Znv Zh0 where
 eq:=fun a b=>by
  rw [Zho]
  by_cases h:sLt a b=true
  ·simp [h,Zpt h]
  ·rw [if_neg h]
   by_cases h2:a=b<;>simp [h2]
 anti:=fun a b=>by
  rw [Zho,Zho]
  by_cases h:sLt a b=true
  ·have h2:=ZjA h
   have h3:=Zpt h
   rw [if_pos h,if_neg (by simp [h2]),if_neg (fun e=>h3 e.symm)];rfl
  ·rw [if_neg h]
   by_cases h2:a=b
   ·subst h2;rw [if_neg h];simp
   ·rw [if_pos (ZeS (by simpa using h) h2),if_neg h2]
 tr:=fun a b d h1 h2=>by
  have key:∀x y,Zh0 x y<0→sLt x y=true:=fun x y h=>by
   rw [Zho] at h
   by_cases hx:sLt x y=true
   ·exact hx
   ·rw [if_neg hx] at h;split at h<;>omega
  rw [Zho,if_pos (Zfa (key _ _ h1) (key _ _ h2))]
  omega
theorem Zl0 (a b:ByteArray):Zhp a b=some (Zh0 a b):=by
 unfold Zhp
 rw [Zho]
 by_cases h:sLt a b=true
 ·rw [if_pos h,if_pos h]
 ·rw [if_neg h,if_neg h]
  by_cases h2:a=b
  ·subst h2;rw [if_pos (by rw [ZuQ];simp),if_pos rfl]
  ·rw [if_neg (by simp only[Am,ZO];rintro (h3 | h3);exact h h3;exact h2 h3),if_neg h2]
theorem Ziy (a b:ByteArray):ZeP a b=some (Zh0 a b):=rfl
/- numbers -/
theorem Znn {u:Nat} {b:UInt8} (h:b∈Lib.decDigits u):48≤b.toNat∧b.toNat≤57:=by
 rw [Lib.decDigits_eq,AH] at h
 obtain ⟨t,_,rfl⟩:=h
 unfold Lib.dg
 have:u / 10 ^ (Lib.nDigits u - 1 - t) % 10<10:=Nat.mod_lt _ (by omega)
 rw [UInt8.toNat_ofNat']
 omega
def Qy (s:ByteArray):Option Nat:=
 if 1≤s.size∧s.size≤4 then (match Lib.decNat (toL s) with | some n=>if ofL (Lib.decDigits n)=s then some n else none | none=>none) else none
def ZdG (s:ByteArray):Int × Bool:=match Qy s with | some n=>((n:Int),true) | none=>(0,false)
theorem ZjB {s:ByteArray} {n:Nat} (h:Qy s=some n):s=ofL (Lib.decDigits n)∧n≤9999:=by
 unfold Qy at h
 split at h
 ·rename_i hs
  split at h
  ·split at h
   ·rename_i m _ he
    obtain rfl:=AJ h
    refine ⟨he.symm,?_⟩
    have hl:Lib.nDigits m≤4:=by
     have:=congrArg ByteArray.size he
     rw [ZgD,Lib.decDigits_length] at this
     omega
    have:=Lib.lt_pow_nDigits m
    have h2:10 ^ Lib.nDigits m≤10 ^ 4:=Aa (by omega) hl
    omega
   ·simp at h
  ·simp at h
 ·simp at h
theorem Zv7 {a b:ByteArray} {n:Nat} (h1:Qy a=some n) (h2:Qy b=some n):a=b:=(ZjB h1).1.trans (ZjB h2).1.symm
theorem ZrE {body:Nat→UInt8→Int→Option (Int ⊕ (Int × Bool))} {fin:Int→Option (Int × Bool)}
  (hb:∀i (x:UInt8) n,body i x n=if (decide (((x.toNat:Nat):Int)<48))=true then some (.inr (0,false)) else if (decide (57<((x.toNat:Nat):Int)))=true then some (.inr (0,false)) else some (.inl (IntKind.i64.wrap ((IntKind.i64.wrap (10 * n))+IntKind.i64.wrap (IntKind.u8.wrap (((x.toNat:Nat):Int) - 48)))))):
  ∀(l:List UInt8) (i acc:Nat),(acc+1) * 10 ^ l.length≤100000→Zo body fin l i (acc:Int)=match Lib.decFrom acc l with | some n=>fin (n:Int) | none=>some (0,false)
 | [],i,acc,_=>rfl
 | x::l,i,acc,h=>by
  unfold Lib.decFrom Lib.digitVal
  by_cases h1:48≤x.toNat∧x.toNat≤57
  ·have e:body i x (acc:Int)=some (.inl ((acc * 10+(x.toNat - 48):Nat):Int)):=by
    have hp:1≤10 ^ (x::l).length:=Nat.one_le_pow _ _ (by omega)
    have h2:acc+1≤100000:=A9 (Nat.le_mul_of_pos_right _ hp) h
    rw [hb,if_neg (by simp;omega),if_neg (by simp;omega),Zd9 (n:=10 * (acc:Int)) (by omega) (by omega),IntKind.wrap_u8,Zd9 (n:=(((x.toNat:Nat):Int) - 48) % 256) (by omega) (by omega),Zd9 (by omega) (by omega)]
    congr 2
    omega
   rw [ZX e,if_pos h1]
   refine ZrE hb l (i+1) _ ?_
   rw [A5,Nat.pow_succ] at h
   refine A9 ?_ h
   rw [show (acc+1) * (10 ^ l.length * 10)=((acc+1) * 10) * 10 ^ l.length by rw [B5,Nat.mul_comm 10]]
   exact Nat.mul_le_mul_right _ (by omega)
  ·have e:body i x (acc:Int)=some (.inr (0,false)):=by
    rw [hb]
    by_cases h2:x.toNat<48
    ·rw [if_pos (by simp;omega)]
    ·rw [if_neg (by simp;omega),if_pos (by simp;omega)]
   rw [Yi e,if_neg h1]
theorem ZuV (n a b:Int):X7 n a b=some (decide (a≤n)&&decide (n≤b)):=by
 unfold X7
 by_cases h:a≤n<;>simp [h]
theorem Zap (s:ByteArray):Qe s=some (ZdG s):=by
 unfold Qe ZdG Qy
 rw [ZuV,A0]
 by_cases hs:1≤s.size∧s.size≤4
 ·rw [if_pos (by simp;omega),if_pos hs]
  have hl:s.data.toList.length=s.size:=ZcW s
  refine (ZrE (fun _ _ _=>rfl) s.data.toList 0 0 (by
   rw [hl,AM,Nat.one_mul]
   exact A9 (Aa (by omega) hs.2) (by omega))).trans ?_
  have hd:Lib.decNat (toL s)=Lib.decFrom 0 s.data.toList:=by
   unfold Lib.decNat
   rw [if_neg]
   ·rfl
   ·intro e
    have:=ZcW s
    rw [List.isEmpty_iff.1 e] at this
    simp at this;omega
  rw [hd]
  cases hv:Lib.decFrom 0 s.data.toList with
  | none=>rfl
  | some n=>
   have hb:n<1000000000000000000:=Lib.decFrom_lt18 hv (by omega)
   show (X3 ((n:Nat):Int)).bind _=_
   rw [Zf5 ⟨by omega,by omega⟩,A0,Lib.itoa_nonneg]
   by_cases he:ofL (Lib.decDigits n)=s
   ·rw [if_pos (ZO.2 he)]
    simp only[he,if_true]
   ·rw [if_neg (by rw [ZO];exact he)]
    simp only[he,if_false]
 ·rw [if_neg (by simp;omega),if_neg hs]
theorem Zvc {b:UInt8} {r:List UInt8} (h:b=45∨b=43):Lib.decNat (b::r)=none:=by
 rcases h with rfl | rfl<;>simp [Lib.decNat,Lib.decFrom,Lib.digitVal]
theorem ZnU {s:ByteArray} (h:Lib.decNat (toL s)=none):Qy s=none:=by
 unfold Qy
 rw [h]
 split<;>rfl
theorem Zb7 (s:ByteArray):QE s=some (ZdG s):=by
 unfold QE
 by_cases h1:s.size<1
 ·rw [if_pos (by simp;omega)]
  unfold ZdG Qy
  rw [if_neg (by omega)]
 by_cases h2:4<s.size
 ·rw [if_neg (by simp;omega),if_pos (by simp;omega)]
  unfold ZdG Qy
  rw [if_neg (by omega)]
 rw [if_neg (by simp;omega),if_neg (by simp;omega)]
 have hl:=ZcW s
 have hx:Zl4 s=some (match Lib.atoi (toL s) with | some n=>(n,true) | none=>(0,false)):=by
  unfold Zl4
  exact Zh _ (by omega)
 rw [hx,A0]
 cases hL:toL s with
 | nil=>rw [hL] at hl;simp at hl;omega
 | cons b r=>
  have sgn:b=45∨b=43→ZdG s=(0,false):=fun h=>by
   unfold ZdG
   rw [ZnU (by rw [hL];exact Zvc h)]
  have bad:∀m,(b=45∨b=43)→¬ofL (Lib.decDigits m)=s:=fun m h e=>by
   have hm:b∈Lib.decDigits m:=by
    have:toL s=Lib.decDigits m:=by rw [←e,Zb2]
    rw [←this,hL];simp
   have:=Znn hm
   rcases h with rfl | rfl<;>simp at this
  by_cases hb1:b=45
  ·rw [sgn (.inl hb1)]
   cases hd:Lib.decNat r with
   | none=>simp [Lib.atoi,hb1,hd]
   | some m=>
    have e:Lib.atoi (b::r)=some (-(m:Int)):=by simp [Lib.atoi,hb1,hd]
    rw [e]
    simp only[if_true]
    by_cases hm:m=0
    ·subst hm
     rw [if_neg (by simp),if_neg (by simp)]
     show (Za4 ((0:Nat):Int)).bind _=_
     rw [ZdI ⟨by omega,by omega⟩,A0,Lib.itoa_nonneg,if_neg (by rw [ZO];exact bad 0 (.inl hb1))]
    ·rw [if_pos (by simp;omega)]
  ·by_cases hb2:b=43
   ·rw [sgn (.inr hb2)]
    cases hd:Lib.decNat r with
    | none=>simp [Lib.atoi,hb2,hd]
    | some m=>
     have e:Lib.atoi (b::r)=some (m:Int):=by simp [Lib.atoi,hb2,hd]
     rw [e]
     simp only[if_true]
     rw [if_neg (by simp)]
     by_cases hm:9999<m
     ·rw [if_pos (by simp;omega)]
     ·rw [if_neg (by simp;omega),ZdI ⟨by omega,by omega⟩,A0,Lib.itoa_nonneg,if_neg (by rw [ZO];exact bad m (.inr hb2))]
   ·have e:Lib.atoi (b::r)=(Lib.decNat (b::r)).map fun (m:Nat)=>(m:Int):=by simp [Lib.atoi,hb1,hb2]
    rw [e]
    cases hd:Lib.decNat (b::r) with
    | none=>
     unfold ZdG
     rw [ZnU (by rw [hL];exact hd)]
     rfl
    | some m=>
     simp only[B6,if_true]
     rw [if_neg (by simp)]
     have hn:Qy s=if ofL (Lib.decDigits m)=s then some m else none:=by
      unfold Qy
      rw [if_pos (by omega),hL,hd]
     by_cases hm:9999<m
     ·rw [if_pos (by simp;omega)]
      have:Qy s=none:=by
       cases hq:Qy s with
       | none=>rfl
       | some n=>
        have h3:=(ZjB hq).2
        rw [hn] at hq
        split at hq
        ·obtain rfl:=AJ hq;omega
        ·simp at hq
      unfold ZdG
      rw [this]
     ·rw [if_neg (by simp;omega),ZdI ⟨by omega,by omega⟩,A0,Lib.itoa_nonneg]
      unfold ZdG
      rw [hn]
      by_cases he:ofL (Lib.decDigits m)=s
      ·rw [if_pos (ZO.2 he),if_pos he]
      ·rw [if_neg (by rw [ZO];exact he),if_neg he]
def ZkE (x y:Nat):Int:=if x<y then -1 else if y<x then 1 else 0
theorem Zpy:Znv ZkE where
 eq:=fun a b=>by unfold ZkE;split<;>(try split)<;>omega
 anti:=fun a b=>by unfold ZkE;split<;>(try split)<;>(try split)<;>omega
 tr:=fun a b d h1 h2=>by
  unfold ZkE at *
  split at h1
  ·split at h2
   ·rw [if_pos (by omega)];omega
   ·split at h2<;>omega
  ·split at h1<;>omega
def ZfX (a b:ByteArray):Int:=
 match Qy a,Qy b with
 | some x,some y=>ZkE x y
 | some _,none=>-1
 | none,some _=>1
 | none,none=>Zh0 a b
theorem ZoM:Znv ZfX where
 eq:=fun a b=>by
  unfold ZfX
  cases ha:Qy a with
  | none=>
   cases hb:Qy b with
   | none=>exact Zbl.eq a b
   | some y=>simp only;exact ⟨fun h=>by omega,fun h=>by rw [h,hb] at ha;simp at ha⟩
  | some x=>
   cases hb:Qy b with
   | none=>simp only;exact ⟨fun h=>by omega,fun h=>by rw [h,hb] at ha;simp at ha⟩
   | some y=>
    simp only
    rw [Zpy.eq]
    exact ⟨fun h=>Zv7 ha (h ▸ hb),fun h=>by rw [h,hb] at ha;exact (AJ ha).symm⟩
 anti:=fun a b=>by
  unfold ZfX
  cases Qy a<;>cases Qy b<;>simp only
  ·exact Zbl.anti a b
  ·rfl
  ·exact Zpy.anti _ _
 tr:=fun a b d h1 h2=>by
  unfold ZfX at *
  cases ha:Qy a<;>cases hb:Qy b<;>cases hd:Qy d<;>simp only[ha,hb,hd] at h1 h2 ⊢<;>first | omega | exact Zbl.tr a b d h1 h2 | exact Zpy.tr _ _ _ h1 h2
theorem ZbF (x y:Nat):XG (x:Int) (y:Int)=some (ZkE x y):=by
 unfold XG ZkE
 by_cases h1:x<y
 ·rw [if_pos (by simpa using h1),if_pos h1]
 ·rw [if_neg (by simpa using h1),if_neg h1]
  by_cases h2:y<x
  ·rw [if_pos (by simpa using h2),if_pos h2]
  ·rw [if_neg (by simpa using h2),if_neg h2]
theorem Zec (a b:ByteArray):Xd a b=some (ZfX a b):=by
 unfold Xd ZfX
 rw [Zap,A0,Zap,A0]
 unfold ZdG
 cases Qy a with
 | none=>
  cases Qy b with
  | none=>simp only[AE,if_false];rw [Zl0];rfl
  | some y=>rfl
 | some x=>
  cases Qy b with
  | none=>rfl
  | some y=>
   simp only[if_true]
   unfold ZkE
   by_cases h1:x<y
   ·rw [if_pos (by simpa using h1),if_pos h1]
   ·rw [if_neg (by simpa using h1),if_neg h1]
    by_cases h2:y<x
    ·rw [if_pos (by simpa using h2),if_pos h2]
    ·rw [if_neg (by simpa using h2),if_neg h2]
theorem ZiW (a b:ByteArray):QV a b=some (ZfX a b):=by
 unfold QV ZfX
 rw [Zb7,A0,Zb7,A0]
 unfold ZdG
 cases Qy a with
 | none=>
  cases Qy b with
  | none=>simp only[AE,if_false];rw [Ziy];rfl
  | some y=>rfl
 | some x=>
  cases Qy b with
  | none=>rfl
  | some y=>simp only[if_true];rw [ZbF];rfl
def Zg2 {α:Type} (c:α→α→Int):List α→List α→Int
 | [],[]=>0
 | [],_::_=>-1
 | _::_,[]=>1
 | x::l,y::r=>if c x y=0 then Zg2 c l r else c x y
theorem Zpn {α:Type} {c:α→α→Int} (h:Znv c):Znv (Zg2 c) where
 eq:=fun a=>by
  induction a with
  | nil=>intro b;cases b<;>simp [Zg2]
  | cons x l ih=>
   intro b
   cases b with
   | nil=>simp [Zg2]
   | cons y r=>
    simp only[Zg2]
    by_cases hx:c x y=0
    ·rw [if_pos hx,ih,(h.eq x y).1 hx];simp
    ·rw [if_neg hx]
     exact ⟨fun e=>absurd e hx,fun e=>absurd ((h.eq x y).2 (by simp at e;exact e.1)) hx⟩
 anti:=fun a=>by
  induction a with
  | nil=>intro b;cases b<;>simp [Zg2]
  | cons x l ih=>
   intro b
   cases b with
   | nil=>simp [Zg2]
   | cons y r=>
    simp only[Zg2]
    have hy:=h.anti x y
    by_cases hx:c x y=0
    ·rw [if_pos hx,if_pos (by omega),ih]
    ·rw [if_neg hx,if_neg (by omega),hy]
 tr:=fun a=>by
  induction a with
  | nil=>
   intro b d h1 h2
   cases b with
   | nil=>simp [Zg2] at h1
   | cons y r=>cases d with
    | nil=>simp [Zg2] at h2
    | cons z q=>simp [Zg2]
  | cons x l ih=>
   intro b d h1 h2
   cases b with
   | nil=>simp [Zg2] at h1
   | cons y r=>cases d with
    | nil=>simp [Zg2] at h2
    | cons z q=>
     simp only[Zg2] at h1 h2 ⊢
     by_cases hx:c x y=0
     ·rw [if_pos hx] at h1
      obtain rfl:=(h.eq x y).1 hx
      by_cases hz:c x z=0
      ·rw [if_pos hz] at h2 ⊢;exact ih r q h1 h2
      ·rw [if_neg hz] at h2 ⊢;exact h2
     ·rw [if_neg hx] at h1
      by_cases hz:c y z=0
      ·obtain rfl:=(h.eq y z).1 hz
       rw [if_neg hx];exact h1
      ·rw [if_neg hz] at h2
       have:=h.tr x y z h1 h2
       rw [if_neg (by omega)];exact this
def ZbB (a b:Zb):Int:=if Zh0 a.rel b.rel=0 then Zg2 ZfX a.args b.args else Zh0 a.rel b.rel
theorem Zrp {a b:Zb} (h1:a.rel=b.rel) (h2:a.args=b.args):a=b:=by cases a;cases b;simp_all
theorem ZcQ:Znv ZbB where
 eq:=fun a b=>by
  unfold ZbB
  by_cases h:Zh0 a.rel b.rel=0
  ·rw [if_pos h,(Zpn ZoM).eq]
   exact ⟨fun e=>Zrp ((Zbl.eq _ _).1 h) e,fun e=>by rw [e]⟩
  ·rw [if_neg h]
   exact ⟨fun e=>absurd e h,fun e=>absurd ((Zbl.eq _ _).2 (by rw [e])) h⟩
 anti:=fun a b=>by
  unfold ZbB
  have hy:=Zbl.anti a.rel b.rel
  by_cases h:Zh0 a.rel b.rel=0
  ·rw [if_pos h,if_pos (by omega),(Zpn ZoM).anti]
  ·rw [if_neg h,if_neg (by omega),hy]
 tr:=fun a b d h1 h2=>by
  unfold ZbB at *
  by_cases hx:Zh0 a.rel b.rel=0
  ·rw [if_pos hx] at h1
   have e:=(Zbl.eq _ _).1 hx
   rw [e]
   by_cases hz:Zh0 b.rel d.rel=0
   ·rw [if_pos hz] at h2 ⊢;exact (Zpn ZoM).tr _ _ _ h1 h2
   ·rw [if_neg hz] at h2 ⊢;exact h2
  ·rw [if_neg hx] at h1
   by_cases hz:Zh0 b.rel d.rel=0
   ·rw [←(Zbl.eq _ _).1 hz,if_neg hx];exact h1
   ·rw [if_neg hz] at h2
    have:=Zbl.tr _ _ _ h1 h2
    rw [if_neg (by omega)];exact this
theorem Zav {α:Type} (l:List α) (i:Nat):atI l (i:Int)=l[i]?:=by unfold atI;rw [if_pos (by omega),AO]
theorem ZjN {A B:List ByteArray} {body:Nat→ByteArray→Unit→Option (Unit ⊕ Int)} {fin:Unit→Option Int}
  (hlt:∀i x y,B[i]?=some y→body i x ()=if ZfX x y=0 then some (.inl ()) else some (.inr (ZfX x y))) (hge:∀x,B.length<A.length→body B.length x ()=some (.inr 1)) (hfin:A.length≤B.length→fin ()=some (if A.length<B.length then -1 else 0)):
  ∀(l:List ByteArray) (i:Nat),i+l.length=A.length→i≤B.length→Zo body fin l i ()=some (Zg2 ZfX l (B.drop i))
 | [],i,h,hi=>by
  simp at h
  rw [ZlZ,hfin (by omega)]
  by_cases hb:A.length<B.length
  ·rw [if_pos hb]
   cases hd:B.drop i with
   | nil=>have:=congrArg List.length hd;simp at this;omega
   | cons y r=>rfl
  ·rw [if_neg hb,At (by omega)]
   rfl
 | x::l,i,h,hi=>by
  simp only[A5] at h
  by_cases hb:i<B.length
  ·have hy:B[i]?=some B[i]:=A8 hb
   rw [Au hb]
   simp only[Zg2]
   by_cases hc:ZfX x B[i]=0
   ·rw [ZX (by rw [hlt i x _ hy,if_pos hc]),if_pos hc]
    exact ZjN hlt hge hfin l (i+1) (by omega) (by omega)
   ·rw [Yi (by rw [hlt i x _ hy,if_neg hc]),if_neg hc]
  ·obtain rfl:i=B.length:=by omega
   rw [Yi (hge x (by omega)),At (AK _)]
   rfl
theorem Zbo (a b:Zb):Yn a b=some (ZbB a b):=by
 unfold Yn ZbB
 by_cases h:a.rel=b.rel
 ·rw [if_pos (ZO.2 h),if_pos ((Zbl.eq _ _).2 h)]
  refine ZjN (A:=a.args) (B:=b.args) (fun i x y hy=>?_) (fun x hx=>?_) (fun hx=>?_) a.args 0 (by simp) (Ab _)
  ·have hi:=(AT.1 hy).1
   rw [if_pos (by simpa using hi),Zav,hy,A0,Zec,A0]
   by_cases hc:ZfX x y=0
   ·rw [hc];rfl
   ·rw [if_pos (by simpa using hc),if_neg hc]
  ·rw [if_neg (by simp),if_neg (by simp;omega),if_pos (by simpa using hx)]
  ·by_cases h2:a.args.length<b.args.length
   ·rw [if_pos (by simpa using h2),if_pos h2]
   ·rw [if_neg (by simpa using h2),if_neg (by simp;omega),if_neg h2]
 ·rw [if_neg (by rw [ZO];exact h),if_neg (fun e=>h ((Zbl.eq _ _).1 e)),Zl0]
  rfl
theorem Zeb (a b:Zb):XV a b=some (ZbB a b):=by
 unfold XV ZbB
 rw [Ziy,A0]
 by_cases h:Zh0 a.rel b.rel=0
 ·rw [if_neg (by simpa using h),if_pos h]
  refine ZjN (A:=a.args) (B:=b.args) (fun i x y hy=>?_) (fun x hx=>?_) (fun hx=>?_) a.args 0 (by simp) (Ab _)
  ·have hi:=(AT.1 hy).1
   rw [if_pos (by simpa using hi),Zav,hy,A0,ZiW,A0]
   by_cases hc:ZfX x y=0
   ·rw [hc];rfl
   ·rw [if_pos (by simpa using hc),if_neg hc]
  ·rw [if_neg (by simp),ZbF]
   unfold ZkE
   rw [if_neg (by omega),if_pos hx]
   rfl
  ·rw [ZbF]
   unfold ZkE
   by_cases h2:a.args.length<b.args.length
   ·rw [if_pos h2,if_pos h2];rfl
   ·rw [if_neg h2,if_neg (by omega),if_neg h2];rfl
 ·rw [if_pos (by simpa using h),if_neg h]
theorem Xe.ext (s:ByteArray) {a b:Nat} (h:a≤b) (hb:b≤s.size):Xe (s.extract a b) s:=⟨a,b,h,hb,rfl⟩
theorem Xe.trans {p q s:ByteArray} (h:Xe p q) (k:Xe q s):Xe p s:=by
 obtain ⟨a,b,h1,h2,rfl⟩:=h
 obtain ⟨c,d,h3,h4,rfl⟩:=k
 rw [Av] at h2
 refine ⟨c+a,c+b,by omega,by omega,?_⟩
 rw [ByteArray.extract_extract]
 congr 1
 omega
theorem XA {s sep:ByteArray} (hs:s.size≤1000) (h0:0<sep.size) (h1:sep.size≤10):∃l,Qx s sep=some l∧l.length≤s.size+1∧∀p∈l,Xe p s:=by
 unfold Qx
 rw [if_neg (by rw [ZO];intro e;rw [e] at h0;exact absurd h0 (by decide))]
 refine ZsE h0 (fun row f i=>(row,((f:Nat):Int),((i:Nat):Int))) (fun l=>l) ?_ ?_
 ·intro row f i hf hi hr
  have e:IntKind.i64.wrap (((i:Nat):Int)+((sep.size:Nat):Int))=((i+sep.size:Nat):Int):=by rw [YW (by omega) (by omega)];omega
  have e1:IntKind.i64.wrap (((i:Nat):Int)+1)=((i+1:Nat):Int):=by rw [YW (by omega) (by omega)];omega
  simp only[e,e1,AO]
  rw [if_pos (by simp;omega),Zh _ (by omega)]
  split
  ·rw [Zh _ (by omega),Zh _ (by omega)]
  ·rfl
 ·intro row f i hf hi hn hr
  have e:IntKind.i64.wrap (((i:Nat):Int)+((sep.size:Nat):Int))=((i+sep.size:Nat):Int):=by rw [YW (by omega) (by omega)];omega
  simp only[e,AO]
  rw [if_neg (by simp;omega),Zh _ (by omega),Zh _ (by omega)]
theorem ZtU {α:Type} {l:List α} (h:¬(((l.length:Nat):Int) != 2)=true):∃x y,l=[x,y]:=by
 have hl:l.length=2:=by simp at h;omega
 match l,hl with
 | [x,y],_=>exact ⟨x,y,rfl⟩
theorem Zsa {s:ByteArray} (hs:s.size≤1000):∃r a ok,ZeH s=some (r,a,ok)∧a.length≤s.size+1:=by
 unfold ZeH
 obtain ⟨l,e,hl,hp⟩:=XA (sep:=⟨#[40]⟩) hs (by decide) (by decide)
 rw [e,A0]
 split
 ·exact ⟨_,_,_,rfl,by simp⟩
 rename_i h2
 obtain ⟨x,y,rfl⟩:=ZtU h2
 have hl2:(([x,y]:List ByteArray).length:Int)=2:=rfl
 rw [Zh _ (by rw [hl2];decide)]
 simp only[show AA 1=1 from rfl,show AA 0=0 from rfl,Ac,Ad,A0]
 have hy:=(hp y (by simp)).size
 split
 ·exact ⟨_,_,_,rfl,by simp⟩
 rename_i h3
 have hy0:y.size≠0:=fun e=>h3 (by rw [e];rfl)
 have e1:IntKind.i64.wrap (((y.size:Nat):Int) - 1)=((y.size - 1:Nat):Int):=by rw [YW (by omega) (by omega)];omega
 simp only[e1]
 have hb:∃b,sAt y ((y.size - 1:Nat):Int)=some b:=by
  unfold sAt
  rw [if_pos (by omega),AO]
  exact ⟨y[y.size - 1]'(by omega),by rw [getElem?_pos]⟩
 obtain ⟨b,hb⟩:=hb
 rw [hb,A0]
 split
 ·exact ⟨_,_,_,rfl,by simp⟩
 rw [Zh _ (by omega),AO]
 split
 ·rw [Zh _ (by simp)]
  exact ⟨_,_,_,rfl,by simp⟩
 ·rw [Zh _ (by simp)]
  have hq:(y.extract 0 (y.size - 1)).size≤y.size:=by rw [Av];omega
  obtain ⟨k,e2,hk,_⟩:=XA (s:=y.extract 0 (y.size - 1)) (sep:=⟨#[44]⟩) (by omega) (by decide) (by decide)
  rw [e2,A0]
  exact ⟨_,_,_,rfl,by omega⟩
theorem ZfR {s:ByteArray} (hs:s.size≤1000):∃p ok,Yl s=some (p,ok)∧p.args.length≤s.size+1:=by
 unfold Yl
 obtain ⟨r,a,ok,e,ha⟩:=Zsa hs
 rw [e,A0]
 cases ok with
 | false=>exact ⟨_,_,rfl,by simp⟩
 | true=>
  rw [if_pos rfl,QK,A0]
  split
  ·exact ⟨_,_,rfl,ha⟩
  ·exact ⟨_,_,rfl,by simp⟩
def ZjF:ByteArray:=⟨#[110,111,116,32]⟩
theorem ZpA {s:ByteArray} (hs:s.size≤1000):∃x ok,Za1 s=some (x,ok)∧x.pattern.args.length≤s.size+1∧(x.kind=2→Xe ZjF s):=by
 unfold Za1
 have sg:∀k:Int,∃g,Zgi k=some g∧0<g.size∧g.size≤10:=fun k=>by
  unfold Zgi
  split
  ·exact ⟨_,rfl,by decide,by decide⟩
  ·split
   ·exact ⟨_,rfl,by decide,by decide⟩
   ·exact ⟨_,rfl,by decide,by decide⟩
 have key:∀(body:Int→Option (Int ⊕ Zt × Bool)) (Q:Zt × Bool→Prop),(∀k:Nat,3≤k→k≤5→(∃r,body ((k:Nat):Int)=some (.inr r)∧Q r)∨body ((k:Nat):Int)=some (.inl ((k+1:Nat):Int)))→(∃r,body 6=some (.inr r)∧Q r)→∃r,Yp body 3=some r∧Q r:=by
  intro body Q h1 h2
  have stop:∀k:Nat,3≤k→k≤6→∃r,Yp body ((k:Nat):Int)=some r∧Q r:=by
   have go:∀m k:Nat,k+m=6→3≤k→∃r,Yp body ((k:Nat):Int)=some r∧Q r:=by
    intro m
    induction m with
    | zero=>
     intro k hk _
     obtain rfl:k=6:=by omega
     obtain ⟨r,e,q⟩:=h2
     exact ⟨r,Z2 e,q⟩
    | succ m ih=>
     intro k hk h3
     rcases h1 k h3 (by omega) with ⟨r,e,q⟩ | e
     ·exact ⟨r,Z2 e,q⟩
     ·rw [Yh e];exact ih (k+1) (by omega) (by omega)
   exact fun k h3 h6=>go (6 - k) k (by omega) h3
  exact stop 3 (by omega) (by omega)
 have fin:∀body:Int→Option (Int ⊕ Zt × Bool),(∃r,Yp body 3=some r∧(r.1.pattern.args.length≤s.size+1∧(r.1.kind=2→Xe ZjF s)))→∃x ok,Yp body 3=some (x,ok)∧x.pattern.args.length≤s.size+1∧(x.kind=2→Xe ZjF s):=fun _ ⟨r,e,q⟩=>⟨r.1,r.2,e,q⟩
 refine fin _ (key _ (fun r=>r.1.pattern.args.length≤s.size+1∧(r.1.kind=2→Xe ZjF s)) ?_ ?_)
 ·intro k h3 h5
  rw [if_pos (by simp;omega)]
  obtain ⟨g,eg,g0,g1⟩:=sg ((k:Nat):Int)
  obtain ⟨l,el,hl,hp⟩:=XA hs g0 g1
  have e1:IntKind.i64.wrap (((k:Nat):Int)+1)=((k+1:Nat):Int):=by rw [YW (by omega) (by omega)];omega
  rw [eg,A0,el,A0,e1]
  split
  ·rename_i h2
   obtain ⟨x,y,rfl⟩:=ZtU (l:=l) (by simp at h2 ⊢;omega)
   rw [Zh _ (by simp)]
   simp only[show AA 1=1 from rfl,show AA 0=0 from rfl,Ac,Ad,A0]
   rw [Zh _ (by simp),Zcv,A0]
   split
   ·exact .inl ⟨_,rfl,by simp,fun h=>by simp only at h;omega⟩
   ·exact .inr rfl
  ·exact .inr rfl
 ·rw [if_neg (by decide)]
  have pat:∀(t:ByteArray),t.size≤s.size→∀kd:Int,(kd=2→Xe ZjF s)→∃r,((Yl t).bind fun v=>if v.2=true then some (Sum.inr (({ kind:=kd,pattern:=v.1,left:=⟨#[]⟩,right:=⟨#[]⟩ }:Zt),true)) else some (.inr (({ kind:=0,pattern:=({ rel:=⟨#[]⟩,args:=[] }:Zv),left:=⟨#[]⟩,right:=⟨#[]⟩ }:Zt),false)))=some (Sum.inr r:Int ⊕ Zt × Bool)∧(r.1.pattern.args.length≤s.size+1∧(r.1.kind=2→Xe ZjF s)):=fun t ht kd hk=>by
   obtain ⟨p,ok,e,ha⟩:=ZfR (s:=t) (by omega)
   rw [e,A0]
   cases ok with
   | true=>exact ⟨_,rfl,by show p.args.length≤_;omega,hk⟩
   | false=>exact ⟨_,rfl,by simp,fun h=>by simp at h⟩
  split
  ·rename_i h4
   have h4':4<s.size:=by simp at h4;omega
   rw [Zh _ (by omega)]
   split
   ·rename_i hn
    have hn':=ZO.1 hn
    exact pat _ (by rw [Av];omega) 2 fun _=>by
     unfold ZjF
     rw [←hn']
     exact Xe.ext s (by decide) (by show AA 4≤_;have:AA 4=4:=rfl;omega)
   ·exact pat s (AK _) 1 fun h=>by omega
  ·exact pat s (AK _) 1 fun h=>by omega
theorem Zrb {s:ByteArray} (hs:s.size≤1000):∃a ok,ZaE s=some (a,ok)∧a.pattern.args.length≤s.size+1:=by
 unfold ZaE
 split
 ·exact ⟨_,_,rfl,by simp⟩
 obtain ⟨l,e,hl,hp⟩:=XA (sep:=⟨#[32]⟩) hs (by decide) (by decide)
 rw [e,A0]
 split
 ·exact ⟨_,_,rfl,by simp⟩
 rename_i h2
 obtain ⟨x,y,rfl⟩:=ZtU h2
 have hy:=(hp y (by simp)).size
 obtain ⟨p,ok,ep,ha⟩:=ZfR (s:=y) (by omega)
 rw [Zh _ (by simp)]
 simp only[show AA 1=1 from rfl,show AA 0=0 from rfl,Ac,Ad,A0,ep]
 split
 ·rw [Zh _ (by simp)]
  exact ⟨_,_,rfl,by show p.args.length≤_;omega⟩
 ·split
  ·rw [Zh _ (by simp)]
   exact ⟨_,_,rfl,by show p.args.length≤_;omega⟩
  ·exact ⟨_,_,rfl,by simp⟩
structure Zkr (s:ByteArray) (r:Zg):Prop where
 cl:r.cond.length≤s.size+1
 tl:r.thn.length≤s.size+1
 ca:∀x∈r.cond,x.pattern.args.length≤s.size+1∧(x.kind=2→Xe ZjF s)
 ta:∀a∈r.thn,a.pattern.args.length≤s.size+1
theorem ZnH {α ρ:Type} {s:ByteArray} {P:α→Prop} {g:ByteArray→Option (α × Bool)} {fin:List α→Option ρ} {z:List α→ρ} {Q:ρ→Prop} {l:List ByteArray} (hl:l.length≤2000) (hp:∀p∈l,Xe p s) (hg:∀p,Xe p s→∃x ok,g p=some (x,ok)∧P x) (hz:∀acc:List α,acc.length≤l.length→(∀x∈acc,P x)→Q (z acc)) (hfin:∀acc:List α,acc.length≤l.length→(∀x∈acc,P x)→∃r,fin acc=some r∧Q r):
  ∃r,Zo (σ:=List α) (fun (i:Nat) (x:ByteArray) row=>(g x).bind fun v=>if v.2=true then chk (row.length+1≤1073741824) (some (.inl (row++[v.1]))) else some (.inr (z row))) fin l 0 []=some r∧Q r:=by
 have key:∀(m:List ByteArray) (i:Nat) (acc:List α),(∀p∈m,p∈l)→acc.length+m.length≤l.length→(∀x∈acc,P x)→∃r,Zo (σ:=List α) (fun (i:Nat) (x:ByteArray) row=>(g x).bind fun v=>if v.2=true then chk (row.length+1≤1073741824) (some (.inl (row++[v.1]))) else some (.inr (z row))) fin m i acc=some r∧Q r:=by
  intro m
  induction m with
  | nil=>intro i acc _ hlen ha;exact hfin acc (by simp at hlen;omega) ha
  | cons x m ih=>
   intro i acc hm hlen ha
   obtain ⟨y,ok,e,hy⟩:=hg x (hp x (hm x (by simp)))
   rw [A5] at hlen
   cases ok with
   | true=>
    rw [ZX (s':=acc++[y]) (by rw [e];exact Zh _ (by omega))]
    exact ih _ _ (fun p mp=>hm p (by simp [mp])) (by simp;omega) fun q mq=>by
     rcases A7.1 mq with mq | mq
     ·exact ha q mq
     ·simp at mq;subst mq;exact hy
   | false=>exact ⟨_,Yi (by rw [e];rfl),hz acc (by omega) ha⟩
 exact key l 0 [] (fun _ h=>h) (by simp) (by simp)
theorem ZrO {s a b:ByteArray} (hs:s.size≤1000) (ha:Xe a s) (hb:Xe b s) (r0:Zg):∃r ok,ZeJ r0 a b=some (r,ok)∧Zkr s r:=by
 unfold ZeJ
 have ha':=ha.size
 have hb':=hb.size
 obtain ⟨l,e,hl,hp⟩:=XA (s:=a) (sep:=⟨#[32,38,32]⟩) (by omega) (by decide) (by decide)
 obtain ⟨k,e2,hk,hq⟩:=XA (s:=b) (sep:=⟨#[32,38,32]⟩) (by omega) (by decide) (by decide)
 rw [e,A0]
 obtain ⟨r,h1,h2⟩:=ZnH (s:=s) (P:=fun x:Zt=>x.pattern.args.length≤s.size+1∧(x.kind=2→Xe ZjF s)) (g:=Za1) (fin:=fun row_6=>(Qx b (⟨#[32,38,32]⟩)).bind fun v27=>
   Zo (σ:=(List Zz))
    (fun (i37:Nat) (x38:ByteArray) row_32=>
     (ZaE x38).bind fun v39=>
     if v39.2=true then
      chk (row_32.length+1≤1073741824) <|
      some (.inl (row_32++[v39.1]))
     else
      some (.inr (({ name:=r0.name,priority:=r0.priority,cond:=row_6,thn:=row_32 }:Zg),false)))
    (fun row_32=>
     (Zcu ({ name:=r0.name,priority:=r0.priority,cond:=row_6,thn:=row_32 }:Zg)).bind fun v40=>
     some (({ name:=r0.name,priority:=r0.priority,cond:=row_6,thn:=row_32 }:Zg),v40))
    v27 0 []) (z:=fun row_6=>(({ name:=r0.name,priority:=r0.priority,cond:=row_6,thn:=[] }:Zg),false)) (Q:=fun r=>Zkr s r.1) (l:=l) (by omega) (fun p mp=>(hp p mp).trans ha) (fun p hp=>by
    obtain ⟨x,ok,e,h1,h2⟩:=ZpA (s:=p) (by have:=hp.size;omega)
    exact ⟨x,ok,e,by have:=hp.size;omega,fun h=>(h2 h).trans hp⟩) (fun acc h1 h2=>⟨by show acc.length≤_;omega,by simp,h2,by simp⟩) (fun acc h1 h2=>by
    rw [e2,A0]
    exact ZnH (s:=s) (P:=fun x:Zz=>x.pattern.args.length≤s.size+1) (g:=ZaE) (z:=fun row_32=>(({ name:=r0.name,priority:=r0.priority,cond:=acc,thn:=row_32 }:Zg),false)) (Q:=fun r=>Zkr s r.1) (l:=k) (by omega) (fun p mp=>(hq p mp).trans hb) (fun p hp=>by
     obtain ⟨x,ok,e,h1⟩:=Zrb (s:=p) (by have:=hp.size;omega)
     exact ⟨x,ok,e,by have:=hp.size;omega⟩) (fun row h3 h4=>⟨by show acc.length≤_;omega,by show row.length≤_;omega,h2,h4⟩) (fun row h3 h4=>by
     rw [Zgg _ ⟨by show acc.length≤_;omega,by show row.length≤_;omega,fun x mx=>by have:=(h2 x mx).1;omega,fun x mx=>by have:=h4 x mx;omega⟩,A0]
     exact ⟨_,rfl,by show acc.length≤_;omega,by show row.length≤_;omega,h2,h4⟩))
 exact ⟨r.1,r.2,h1,h2⟩
theorem Zfd (s:ByteArray):Zkr s { name:=⟨#[]⟩,priority:=0,cond:=[],thn:=[] }:=⟨by simp,by simp,by simp,by simp⟩
theorem Zpk {s:ByteArray} (hs:s.size≤1000):∃r ok,QD s=some (r,ok)∧Zkr s r:=by
 unfold QD
 obtain ⟨l,e,hl,hp⟩:=XA (sep:=⟨#[58,32]⟩) hs (by decide) (by decide)
 rw [e,A0]
 split
 ·exact ⟨_,_,rfl,Zfd s⟩
 rename_i h2
 obtain ⟨x,y,rfl⟩:=ZtU h2
 have hx:=hp x (by simp)
 have hy:=hp y (by simp)
 have hx':=hx.size
 have hy':=hy.size
 obtain ⟨m,em,hm,hpm⟩:=XA (s:=x) (sep:=⟨#[32]⟩) (by omega) (by decide) (by decide)
 obtain ⟨k,ek,hk,hpk⟩:=XA (s:=y) (sep:=⟨#[32,45,62,32]⟩) (by omega) (by decide) (by decide)
 rw [Zh _ (by simp)]
 simp only[show AA 1=1 from rfl,show AA 0=0 from rfl,Ac,Ad,A0,em]
 rw [Zh _ (by simp),ek,A0]
 split
 ·exact ⟨_,_,rfl,Zfd s⟩
 rename_i h3
 obtain ⟨m0,m1,rfl⟩:=ZtU h3
 split
 ·exact ⟨_,_,rfl,Zfd s⟩
 rename_i h4
 obtain ⟨k0,k1,rfl⟩:=ZtU h4
 rw [Zh _ (by simp)]
 simp only[Ac,Ad,A0,Zap]
 split
 ·rw [Zh _ (by simp),Zh _ (by simp),Zh _ (by simp)]
  obtain ⟨r,ok,er,hr⟩:=ZrO hs ((hpk k0 (by simp)).trans hy) ((hpk k1 (by simp)).trans hy) ({ name:=m0,priority:=(ZdG m1).1,cond:=[],thn:=[] }:Zg)
  rw [er,A0]
  cases ok with
  | true=>exact ⟨_,_,rfl,hr⟩
  | false=>exact ⟨_,_,rfl,Zfd s⟩
 ·exact ⟨_,_,rfl,Zfd s⟩
section
theorem Xb (f:Zb) (h:f.args.length≤1048576):Xj f=some f:=by
 unfold Xj
 rw [ZoP _ (by omega)]
 rfl
theorem YN (f:Zb) (h:f.args.length≤1048576):YA f=some f:=by
 unfold YA
 rw [Zf6 _ (by omega)]
 rfl
theorem Zlm {B:List ByteArray} {body:Nat→ByteArray→Unit→Option (Unit ⊕ Bool)} (hb:∀i x y,B[i]?=some y→body i x ()=if x=y then some (.inl ()) else some (.inr false)):
  ∀(l:List ByteArray) (i:Nat),i+l.length=B.length→Zo body (fun _=>some true) l i ()=some (decide (l=B.drop i))
 | [],i,h=>by
  simp at h
  rw [ZlZ,At (by omega)]
  simp
 | x::l,i,h=>by
  simp only[A5] at h
  have hi:i<B.length:=by omega
  have hd:(x::l=B.drop i)↔(x=B[i]∧l=B.drop (i+1)):=by rw [Au hi,List.cons.injEq]
  rw [AC.2 (show decide (x::l=B.drop i)=true↔decide (x=B[i]∧l=B.drop (i+1))=true by rw [decide_eq_true_iff,decide_eq_true_iff];exact hd)]
  by_cases hx:x=B[i]
  ·rw [ZX (by rw [hb i x _ (A8 hi),if_pos hx]),Zlm hb l (i+1) (by omega)]
   simp [hx]
  ·rw [Yi (by rw [hb i x _ (A8 hi),if_neg hx])]
   simp [hx]
theorem ZlQ (a b:List ByteArray):Zct a b=some (decide (a=b)):=by
 unfold Zct
 by_cases h:a.length=b.length
 ·rw [if_neg (by simp;omega)]
  have:=Zlm (B:=b) (body:=fun i6 x7 _=>(atI b ((i6:Nat):Int)).bind fun x8=>if (sEq x7 x8)=true then some (.inl ()) else some (.inr false)) (fun i x y hy=>by
   show (atI b ((i:Nat):Int)).bind _=_
   rw [Zav,hy,A0]
   by_cases hx:x=y
   ·rw [if_pos (ZO.2 hx),if_pos hx]
   ·rw [if_neg (by rw [ZO];exact hx),if_neg hx]) a 0 (by omega)
  simpa using this
 ·rw [if_pos (by simp;omega),decide_eq_false (fun e=>h (by rw [e]))]
open Classical
theorem Zb4 (a b:Zb):ZbR a b=some (decide (a=b)):=by
 unfold ZbR
 by_cases h:a.rel=b.rel
 ·rw [if_pos (ZO.2 h),ZlQ,A0]
  congr 1
  rw [AC,decide_eq_true_iff,decide_eq_true_iff]
  exact ⟨fun e=>Zrp h e,fun e=>by rw [e]⟩
 ·rw [if_neg (by rw [ZO];exact h),decide_eq_false (fun e=>h (by rw [e]))]
theorem ZhG (l:List Zb) (f:Zb):∃z,Yc l f=some z∧(z<0↔f∉l):=by
 unfold Yc
 have key:∀(l:List Zb) (i:Nat),∃z,Zo (σ:=Unit) (fun (i6:Nat) (x7:Zb) _=>(ZbR x7 f).bind fun v8=>if v8=true then some (.inr ((i6:Nat):Int)) else some (.inl ())) (fun _=>some (-1)) l i ()=some z∧(z<0↔f∉l):=by
  intro l
  induction l with
  | nil=>intro i;exact ⟨-1,rfl,by simp⟩
  | cons x l ih=>
   intro i
   by_cases hx:x=f
   ·refine ⟨(i:Int),Yi (by rw [Zb4,A0,if_pos (decide_eq_true hx)]),by simp [hx]⟩
   ·obtain ⟨z,e,hz⟩:=ih (i+1)
    refine ⟨z,(ZX (by rw [Zb4,A0,if_neg (by simpa using hx)])).trans e,?_⟩
    rw [hz,A4]
    exact ⟨fun h=>by rintro (h1 | h1);exact hx h1.symm;exact h h1,fun h h1=>h (.inr h1)⟩
 exact key l 0
def Zd6:List Zb→Zb→List Zb
 | [],f=>[f]
 | x::l,f=>if ZbB x f<0 then x::Zd6 l f else if ZbB x f=0 then x::l else f::x::l
def Zg3 (l:List Zb):Prop:=l.Pairwise fun x y=>ZbB x y<0
theorem QP {y f:Zb}:∀{l:List Zb},y∈Zd6 l f↔y=f∨y∈l
 | []=>by simp [Zd6]
 | x::l=>by
  simp only[Zd6]
  split
  ·rw [A4,QP,A4]
   exact ⟨fun h=>by rcases h with h | h | h<;>simp [h],fun h=>by rcases h with h | h | h<;>simp [h]⟩
  ·split
   ·rename_i h
    have e:=(ZcQ.eq _ _).1 h
    rw [A4,e]
    exact ⟨fun h=>by rcases h with h | h<;>simp [h],fun h=>by rcases h with h | h | h<;>simp [h]⟩
   ·rw [A4]
theorem Zmb (f:Zb):∀l:List Zb,(Zd6 l f).length≤l.length+1
 | []=>by simp [Zd6]
 | x::l=>by
  have:=Zmb f l
  simp only[Zd6]
  split
  ·simp;omega
  ·split<;>simp
theorem ZpV {f:Zb}:∀{l:List Zb},Zg3 l→Zg3 (Zd6 l f)
 | [],_=>by simp [Zd6,Zg3]
 | x::l,h=>by
  unfold Zg3 at *
  rw [AD] at h
  simp only[Zd6]
  split
  ·rename_i hx
   rw [AD]
   refine ⟨fun y my=>?_,ZpV h.2⟩
   rcases QP.1 my with rfl | my
   ·exact hx
   ·exact h.1 y my
  ·rename_i hx
   split
   ·rw [AD];exact h
   ·rename_i h0
    have hfx:ZbB f x<0:=by rw [ZcQ.anti x f];omega
    rw [AD,AD]
    refine ⟨fun y my=>?_,h⟩
    rcases A4.1 my with rfl | my
    ·exact hfx
    ·exact ZcQ.tr _ _ _ hfx (h.1 y my)
theorem ZlP (l:List Zb) (f:Zb) (hl:l.length≤1048576) (ha:∀x∈l,x.args.length≤1048576) (hf:f.args.length≤1048576):YX l f=some (Zd6 l f):=by
 unfold YX
 rw [Zal (fun l _ s=>some (s.1++(if s.2=true then l else Zd6 l f))) (fun l _ s=>s.1.length+2 * l.length+1≤4000000∧∀x∈l,x.args.length≤1048576) ?_ ?_ l 0 ([],false) ⟨by simp;omega,ha⟩]
 ·simp
 ·rintro i ⟨row,done⟩ ⟨h1,_⟩
  cases done with
  | true=>simp
  | false=>
   simp only[AE,if_false]
   simp only[An] at h1
   rw [Xb f hf,A0,Zh _ (by omega)]
   rfl
 ·rintro x l i ⟨row,done⟩ ⟨h1,h2⟩
  simp only[A5] at h1
  have hx:=h2 x (by simp)
  left
  cases done with
  | true=>
   simp only[if_true]
   rw [Xb x hx,A0,Zh _ (by omega)]
   exact ⟨_,rfl,⟨by simp;omega,fun y my=>h2 y (by simp [my])⟩,by simp⟩
  | false=>
   simp only[AE,if_false]
   rw [Zbo,A0]
   by_cases hlt:ZbB x f<0
   ·rw [if_neg (by simp;omega),Xb x hx,A0,Zh _ (by omega)]
    exact ⟨_,rfl,⟨by simp;omega,fun y my=>h2 y (by simp [my])⟩,by simp [Zd6,hlt]⟩
   ·rw [if_pos (by simp;omega),A0]
    by_cases h0:ZbB x f=0
    ·rw [if_neg (by simp;omega),Xb x hx,A0,Zh _ (by omega)]
     exact ⟨_,rfl,⟨by simp;omega,fun y my=>h2 y (by simp [my])⟩,by simp [Zd6,h0]⟩
    ·rw [if_pos (by simp;omega),Xb f hf,A0,Zh _ (by omega),Xb x hx,A0,Zh _ (by omega)]
     exact ⟨_,rfl,⟨by simp;omega,fun y my=>h2 y (by simp [my])⟩,by simp [Zd6,h0,hlt]⟩
theorem Zpe (l:List Zb) (f:Zb) (hn:f∉l) (hl:l.length≤1048576) (ha:∀x∈l,x.args.length≤1048576) (hf:f.args.length≤1048576):XW l f=some (Zd6 l f):=by
 unfold XW
 rw [Zal (fun l _ s=>some (s.1++(if s.2=true then l else Zd6 l f))) (fun l _ s=>s.1.length+2 * l.length+1≤4000000∧f∉l∧∀x∈l,x.args.length≤1048576) ?_ ?_ l 0 ([],false) ⟨by simp;omega,hn,ha⟩]
 ·simp
 ·rintro i ⟨row,done⟩ ⟨h1,_⟩
  cases done with
  | true=>simp
  | false=>
   simp only[AE,if_false]
   simp only[An] at h1
   rw [YN f hf,A0,Zh _ (by omega)]
   rfl
 ·rintro x l i ⟨row,done⟩ ⟨h1,h3,h2⟩
  simp only[A5] at h1
  have hx:=h2 x (by simp)
  have h3':f∉l:=fun m=>h3 (by simp [m])
  left
  cases done with
  | true=>
   simp only[if_true]
   rw [YN x hx,A0,Zh _ (by omega)]
   exact ⟨_,rfl,⟨by simp;omega,h3',fun y my=>h2 y (by simp [my])⟩,by simp⟩
  | false=>
   simp only[AE,if_false]
   rw [Zeb,A0]
   have h0:¬ZbB x f=0:=fun e=>h3 (by rw [(ZcQ.eq _ _).1 e];simp)
   by_cases hlt:ZbB x f<0
   ·rw [if_neg (by simp;omega),YN x hx,A0,Zh _ (by omega)]
    exact ⟨_,rfl,⟨by simp;omega,h3',fun y my=>h2 y (by simp [my])⟩,by simp [Zd6,hlt]⟩
   ·rw [if_pos (by simp;omega),YN f hf,A0,Zh _ (by omega),YN x hx,A0,Zh _ (by omega)]
    exact ⟨_,rfl,⟨by simp;omega,h3',fun y my=>h2 y (by simp [my])⟩,by simp [Zd6,h0,hlt]⟩
end
theorem Zjm {v:ByteArray} (h:Ye v=true):ZQ v=false:=by
 cases ha:ZQ v with
 | false=>rfl
 | true=>
  have h1:=ZiN ha
  rw [Q9] at h1
  unfold Ye at h
  simp only[A3,decide_eq_true_iff] at h
  omega
def Xm:List Zs→ByteArray→Option ByteArray
 | [],_=>none
 | x::b,v=>if x.var=v then some x.value else Xm b v
def YU (b:List Zs) (t:ByteArray):Option ByteArray:=if ZQ t=true then some t else if Ye t=true then Xm b t else none
theorem ZfA {b:List Zs} {v:ByteArray} (h:Ye v=true):YU b v=Xm b v:=by
 unfold YU
 rw [if_neg (by rw [Zjm h];simp),if_pos h]
def ZfK (x:Zs):Bool:=Ye x.var&&ZQ x.value
def Ziq:Option ByteArray→ByteArray→Bool
 | none,_=>true
 | some p,v=>sLt p v
def YI:Option ByteArray→List Zs→Bool
 | _,[]=>true
 | prev,x::r=>ZfK x&&Ziq prev x.var&&YI (some x.var) r
def ZW (b:List Zs):Bool:=decide (b.length≤6)&&YI none b
theorem Zuw {prev:Option ByteArray} {b:List Zs} (h:YI prev b=true):∀x∈b,ZfK x=true∧∀p,prev=some p→sLt p x.var=true:=by
 induction b generalizing prev with
 | nil=>simp
 | cons y r ih=>
  simp only[YI,A3] at h
  obtain ⟨⟨h1,h2⟩,h3⟩:=h
  intro x mx
  rcases A4.1 mx with rfl | mx
  ·exact ⟨h1,fun p hp=>by subst hp;exact h2⟩
  ·obtain ⟨k1,k2⟩:=ih h3 x mx
   exact ⟨k1,fun p hp=>by subst hp;exact Zfa h2 (k2 _ rfl)⟩
theorem ZtS {b:List Zs} {v:ByteArray} (h:Xm b v=none):∀x∈b,¬x.var=v:=by
 induction b with
 | nil=>simp
 | cons y r ih=>
  simp only[Xm] at h
  split at h
  ·simp at h
  ·rename_i hy
   intro x mx
   rcases A4.1 mx with rfl | mx
   ·exact hy
   ·exact ih h x mx
theorem ZtQ {b:List Zs} {v w:ByteArray} (h:Xm b v=some w):∃x∈b,x.var=v∧x.value=w:=by
 induction b with
 | nil=>simp [Xm] at h
 | cons y r ih=>
  simp only[Xm] at h
  split at h
  ·rename_i hy
   exact ⟨y,by simp,hy,AJ h⟩
  ·obtain ⟨x,mx,h1⟩:=ih h
   exact ⟨x,by simp [mx],h1⟩
def Zfx:List Zs→ByteArray→ByteArray→List Zs
 | [],v,w=>[⟨v,w⟩]
 | x::b,v,w=>if sLt v x.var=true then ⟨v,w⟩::x::b else x::Zfx b v w
theorem ZpK (v w:ByteArray):∀b:List Zs,(Zfx b v w).length=b.length+1
 | []=>rfl
 | x::b=>by
  simp only[Zfx]
  split
  ·rfl
  ·rw [A5,ZpK v w b];rfl
theorem Zjx {v w u:ByteArray}:∀{b:List Zs},Xm b v=none→Xm (Zfx b v w) u=if v=u then some w else Xm b u
 | [],_=>by simp [Zfx,Xm]
 | x::b,h=>by
  simp only[Xm] at h
  split at h
  ·simp at h
  ·rename_i hx
   simp only[Zfx]
   split
   ·simp [Xm]
   ·simp only[Xm]
    rw [Zjx h]
    by_cases hu:x.var=u
    ·rw [if_pos hu,if_pos hu,if_neg (fun e=>hx (hu.trans e.symm))]
    ·rw [if_neg hu,if_neg hu]
theorem Zoq {v w:ByteArray} (hv:Ye v=true) (hw:ZQ w=true):∀{b:List Zs} {prev:Option ByteArray},YI prev b=true→Xm b v=none→(∀p,prev=some p→sLt p v=true)→YI prev (Zfx b v w)=true
 | [],prev,_,_,hp=>by
  simp only[Zfx,YI,ZfK,hv,hw,Bool.and_self,AP,Bool.and_true]
  cases prev with
  | none=>rfl
  | some p=>exact hp p rfl
 | x::b,prev,h,hg,hp=>by
  have hx:=ZtS hg x (by simp)
  simp only[Xm,hx,if_false] at hg
  simp only[YI,A3] at h
  obtain ⟨⟨h1,h2⟩,h3⟩:=h
  simp only[Zfx]
  by_cases hlt:sLt v x.var=true
  ·rw [if_pos hlt]
   have h4:Ziq prev v=true:=by
    cases prev with
    | none=>rfl
    | some p=>exact hp p rfl
   simp only[YI,A3]
   exact ⟨⟨by simp [ZfK,hv,hw],h4⟩,⟨⟨h1,hlt⟩,h3⟩⟩
  ·rw [if_neg hlt]
   simp only[YI,A3]
   refine ⟨⟨h1,h2⟩,Zoq hv hw h3 hg fun p hp2=>?_⟩
   obtain rfl:=AJ hp2
   exact ZeS (by simpa using hlt) (fun e=>hx e.symm)
def ZfH (b:List Zs) (v w:ByteArray):Option (List Zs):=
 if ZW b=true∧Ye v=true∧ZQ w=true then
  (match Xm b v with
  | some old=>if old=w then some b else none
  | none=>if b.length=6 then none else some (Zfx b v w))
 else none
theorem Zte {b b':List Zs} {v w:ByteArray} (h:ZfH b v w=some b'):ZW b'=true∧Xm b' v=some w∧∀u z,Xm b u=some z→Xm b' u=some z:=by
 unfold ZfH at h
 split at h
 ·rename_i hc
  obtain ⟨h1,h2,h3⟩:=hc
  cases hg:Xm b v with
  | some old=>
   rw [hg] at h
   simp only at h
   split at h
   ·rename_i he
    obtain rfl:=AJ h
    exact ⟨h1,by rw [hg,he],fun u z hu=>hu⟩
   ·simp at h
  | none=>
   rw [hg] at h
   simp only at h
   split at h
   ·simp at h
   ·rename_i hl
    obtain rfl:=AJ h
    unfold ZW at h1 ⊢
    rw [A3,decide_eq_true_iff] at h1
    refine ⟨?_,by rw [Zjx hg,if_pos rfl],fun u z hu=>?_⟩
    ·rw [A3,decide_eq_true_iff,ZpK]
     exact ⟨by omega,Zoq h2 h3 h1.2 hg (by simp)⟩
    ·rw [Zjx hg,if_neg (fun e=>by rw [←e,hg] at hu;simp at hu)];exact hu
 ·simp at h
def Zbb:List ByteArray→List ByteArray→List Zs→Option (List Zs)
 | [],_,b=>some b
 | _::_,[],_=>none
 | a::p,w::f,b=>if ZQ a=true then (if a=w then Zbb p f b else none) else (ZfH b a w).bind (Zbb p f)
theorem ZjS:∀{p f:List ByteArray} {b b':List Zs},ZW b=true→Zbb p f b=some b'→ZW b'=true∧(∀a∈p,Ye a=true→∃z,Xm b' a=some z)∧∀u z,Xm b u=some z→Xm b' u=some z
 | [],_,b,b',hb,h=>by
  simp only[Zbb,AW] at h
  subst h
  exact ⟨hb,by simp,fun u z h=>h⟩
 | _::_,[],_,_,_,h=>by simp [Zbb] at h
 | a::p,w::f,b,b',hb,h=>by
  simp only[Zbb] at h
  by_cases ha:ZQ a=true
  ·rw [if_pos ha] at h
   split at h
   ·obtain ⟨h1,h2,h3⟩:=ZjS hb h
    refine ⟨h1,fun x mx hx=>?_,h3⟩
    rcases A4.1 mx with rfl | mx
    ·rw [Zjm hx] at ha;simp at ha
    ·exact h2 x mx hx
   ·simp at h
  ·rw [if_neg ha] at h
   obtain ⟨b1,e1,h⟩:=B7.1 h
   obtain ⟨k1,k2,k3⟩:=Zte e1
   obtain ⟨h1,h2,h3⟩:=ZjS k1 h
   refine ⟨h1,fun x mx hx=>?_,fun u z hu=>h3 u z (k3 u z hu)⟩
   rcases A4.1 mx with rfl | mx
   ·exact ⟨w,h3 _ _ k2⟩
   ·exact h2 x mx hx
def Zcp (p:Zv) (f:Zb) (b:List Zs):Bool:=ZR p&&Yb f&&ZW b&&decide (p.rel=f.rel)&&decide (p.args.length=f.args.length)
def QG (p:Zv) (f:Zb) (b:List Zs):Option (List Zs):=if Zcp p f b=true then Zbb p.args f.args b else none
theorem Zjt {p:Zv} {f:Zb} {b b':List Zs} (h:QG p f b=some b'):ZW b'=true∧(∀a∈p.args,Ye a=true→∃z,Xm b' a=some z)∧∀u z,Xm b u=some z→Xm b' u=some z:=by
 unfold QG at h
 split at h
 ·rename_i hc
  unfold Zcp at hc
  simp only[A3] at hc
  exact ZjS hc.1.1.2 h
 ·simp at h
def ZaX:List ByteArray→List Zs→Option (List ByteArray)
 | [],_=>some []
 | a::p,b=>(YU b a).bind fun v=>(ZaX p b).map fun l=>v::l
theorem Zd4 {b:List Zs}:∀{p:List ByteArray},p.all Yj=true→(∀a∈p,Ye a=true→∃z,Xm b a=some z)→∃l,ZaX p b=some l∧l.length=p.length
 | [],_,_=>⟨[],rfl,rfl⟩
 | a::p,h,hv=>by
  simp only[List.all_cons,A3] at h
  obtain ⟨l,e,hl⟩:=Zd4 h.2 fun x mx=>hv x (by simp [mx])
  have:∃v,YU b a=some v:=by
   have ht:=h.1
   unfold Yj at ht
   rw [Am] at ht
   rcases ht with ht | ht
   ·exact ⟨a,by unfold YU;rw [if_pos ht]⟩
   ·obtain ⟨z,hz⟩:=hv a (by simp) ht
    exact ⟨z,by rw [ZfA ht];exact hz⟩
  obtain ⟨v,hv⟩:=this
  exact ⟨v::l,by simp only[ZaX,hv,e,A0,B6],by simp [hl]⟩
def Yf (p:Zv) (b:List Zs):Option Zb:=if ZR p=true∧ZW b=true then (ZaX p.args b).map fun l=>{ rel:=p.rel,args:=l } else none
def ZbI (p:Zv) (b:List Zs) (F:List Zb):List Zb:=F.filter fun f=>(QG p f b).isSome
def Zv6 (l r:ByteArray):Bool:=match Qy l,Qy r with | some m,some n=>decide (m<n) | _,_=>false
def Zq1 (k:Int) (l r:ByteArray):Bool:=if k=3 then decide (l=r) else if k=4 then !decide (l=r) else Zv6 l r
def ZmJ (x:Zt) (b:List Zs):Bool:=
 if Yk x=true∧3≤x.kind∧ZW b=true then (match YU b x.left,YU b x.right with | some l,some r=>Zq1 x.kind l r | _,_=>false) else false
def Zak (x:Zt) (b:List Zs) (F:List Zb):Bool:=
 if Yk x=true∧ZW b=true then
  (if x.kind=1 then decide (0<(ZbI x.pattern b F).length) else if x.kind=2 then decide ((ZbI x.pattern b F).length=0) else ZmJ x b)
 else false
def ZaR (x:Zt) (F:List Zb) (t:Zu):List Zu:=
 if x.kind=1 then F.filterMap fun f=>(QG x.pattern f t.binding).map fun b=>{ facts:=t.facts++[f],binding:=b }
 else if Zak x t.binding F=true then [t] else []
def Zf0 (x:Zt) (F:List Zb) (l:List Zu):List Zu:=l.flatMap (ZaR x F)
def Zu3:Zu:={ facts:=[],binding:=[] }
def Zw (l:List Zt) (F:List Zb):List Zu:=l.foldl (fun ts x=>Zf0 x F ts) [Zu3]
theorem Y6 (p:List Zt) (x:Zt) (F:List Zb):Zw (p++[x]) F=Zf0 x F (Zw p F):=by
 unfold Zw
 rw [AL]
 rfl
structure ZlH (p:List Zt) (F:List Zb) (t:Zu):Prop where
 bind:ZW t.binding=true
 len:t.facts.length≤p.length
 sub:∀f∈t.facts,f∈F
 vars:∀v∈Yr p,∃z,Xm t.binding v=some z
theorem ZxL {p:List Zt} {x:Zt} {F:List Zb} {t u:Zu} (h:ZlH p F t) (hu:u∈ZaR x F t):ZlH (p++[x]) F u:=by
 unfold ZaR at hu
 have hv:Yr (p++[x])=Yr p++(if x.kind=1 then Y2 x.pattern.args else []):=by simp [Yr]
 by_cases hk:x.kind=1
 ·rw [if_pos hk] at hu
  obtain ⟨f,mf,e⟩:=AN.1 hu
  obtain ⟨b,e2,rfl⟩:=Ae.1 e
  obtain ⟨h1,h2,h3⟩:=Zjt e2
  refine ⟨h1,by have:=h.len;simp;omega,fun g mg=>?_,fun v mv=>?_⟩
  ·rcases A7.1 mg with mg | mg
   ·exact h.sub g mg
   ·simp at mg;subst mg;exact mf
  ·rw [hv,if_pos hk] at mv
   rcases A7.1 mv with mv | mv
   ·obtain ⟨z,hz⟩:=h.vars v mv
    exact ⟨z,h3 v z hz⟩
   ·obtain ⟨m1,m2⟩:=ZbJ.1 mv
    exact h2 v m1 m2
 ·rw [if_neg hk] at hu
  split at hu
  ·simp at hu
   subst hu
   refine ⟨h.bind,by have:=h.len;simp;omega,h.sub,fun v mv=>?_⟩
   rw [hv,if_neg hk,B8] at mv
   exact h.vars v mv
  ·simp at hu
theorem ZxC (F:List Zb):ZlH [] F Zu3:=⟨rfl,AK _,by simp [Zu3],by simp [Yr]⟩
theorem Qp (F:List Zb) (l:List Zt):∀t∈Zw l F,ZlH l F t:=by
 have:∀n (l:List Zt),l.length=n→∀t∈Zw l F,ZlH l F t:=by
  intro n
  induction n with
  | zero=>
   intro l h
   rw [Af h]
   intro t mt
   simp [Zw] at mt
   subst mt
   exact ZxC F
  | succ n ih=>
   intro l h
   obtain ⟨p,x,rfl⟩:∃p x,l=p++[x]:=⟨l.dropLast,l.getLast (by intro e;simp [e] at h),(Ao _).symm⟩
   intro t mt
   rw [Y6] at mt
   obtain ⟨s,ms,mt⟩:=AQ.1 mt
   exact ZxL (ih p (by simpa using h) s ms) mt
 exact this _ l rfl
theorem Zlp (x:Zt) (F:List Zb) (hF:F.length≤24):∀l:List Zu,(Zf0 x F l).length≤24 * l.length
 | []=>AK _
 | t::l=>by
  have ih:=Zlp x F hF l
  have h1:(ZaR x F t).length≤24:=by
   unfold ZaR
   split
   ·exact A9 (List.length_filterMap_le _ _) hF
   ·split<;>simp
  unfold Zf0 at *
  rw [Ap,AX,A5]
  omega
theorem ZaO (F:List Zb) (hF:F.length≤24) (l:List Zt) (hl:l.length≤4):(Zw l F).length≤331776:=by
 have key:∀(l:List Zt) (ts:List Zu),(l.foldl (fun ts x=>Zf0 x F ts) ts).length≤24 ^ l.length * ts.length:=by
  intro l
  induction l with
  | nil=>intro ts;simp
  | cons x l ih=>
   intro ts
   rw [AB,A5,Nat.pow_succ]
   have h1:=ih (Zf0 x F ts)
   have h2:=Zlp x F hF ts
   refine A9 h1 (A9 (B9 _ h2) ?_)
   rw [←B5]
   exact AK _
 have h1:=key l [Zu3]
 have h2:24 ^ l.length≤24 ^ 4:=Aa (by omega) hl
 unfold Zw
 simp only[Aw,Nat.mul_one] at h1
 omega
def ZfD (b:List Zs) (i:Nat):Option ByteArray:=if i=0 then none else (b[i - 1]?).map (·.var)
theorem ZjI {b:List Zs} {body:Nat→Zs→Unit→Option (Unit ⊕ Bool)} {fin:Unit→Option Bool} (hb:∀i x,b[i]?=some x→body i x ()=if (ZfK x&&Ziq (ZfD b i) x.var)=true then some (.inl ()) else some (.inr false)):
  ∀(l:List Zs) (i:Nat),b.drop i=l→Zo body fin l i ()=if YI (ZfD b i) l=true then fin () else some false
 | [],i,_=>by simp [Zo,YI]
 | x::l,i,h=>by
  have hx:b[i]?=some x:=by rw [←List.head?_drop,h];rfl
  have hd:b.drop (i+1)=l:=by rw [←List.tail_drop,h];rfl
  have hp:ZfD b (i+1)=some x.var:=by unfold ZfD;rw [if_neg (by omega),BA,hx];rfl
  by_cases hc:(ZfK x&&Ziq (ZfD b i) x.var)=true
  ·rw [ZX (by rw [hb i x hx,if_pos hc]),ZjI hb l (i+1) hd,hp]
   simp only[YI,hc,AP]
  ·rw [Yi (by rw [hb i x hx,if_neg hc])]
   simp only[YI,eq_false_of_ne_true hc,Ax,AE,if_false]
theorem ZnM {b:List Zs} (hl:b.length≤1048576) {i:Nat} {x:Zs} (hx:b[i]?=some x):
  (if Ye x.var=true then (if ZQ x.value=true then (if (decide (0<((i:Nat):Int)))=true then (atI b (IntKind.i64.wrap (((i:Nat):Int) - 1))).bind fun x13=>if (sLt x13.var x.var)=true then some (.inl ()) else some (.inr false) else some (.inl ())) else some (.inr false)) else some (.inr false):Option (Unit ⊕ Bool))
   = if (ZfK x&&Ziq (ZfD b i) x.var)=true then some (.inl ()) else some (.inr false):=by
 have hi:=(AT.1 hx).1
 unfold ZfK
 cases Ye x.var with
 | false=>simp
 | true=>
  cases ZQ x.value with
  | false=>simp
  | true=>
   rw [if_pos rfl,if_pos rfl]
   by_cases h0:i=0
   ·subst h0
    rw [if_neg (by simp)]
    simp [ZfD,Ziq]
   ·have hp:ZfD b i=some (b[i - 1]).var:=by unfold ZfD;rw [if_neg h0,A8 (by omega)];rfl
    rw [if_pos (by simp;omega),show ((i:Nat):Int) - 1=((i - 1:Nat):Int) by omega,Zd9 (by omega) (by omega),Zav,A8 (by omega),A0,hp]
    simp [Ziq]
theorem Q1 (b:List Zs):Xz b=some (ZW b):=by
 unfold Xz ZW
 by_cases h6:b.length≤6
 ·rw [if_neg (by simp;omega),ZjI (b:=b) (fun i x hx=>by
   rw [ZdQ,A0,X1]
   exact ZnM (by omega) hx) b 0 rfl,decide_eq_true h6]
  show (if YI none b=true then some true else some false)=_
  cases YI none b<;>rfl
 ·rw [if_pos (by simp;omega),decide_eq_false h6]
  rfl
theorem QB (b:List Zs) (hl:b.length≤1048576):XE b=some (ZW b):=by
 unfold XE ZW
 rw [ZjI (b:=b) (fun i x hx=>by
   rw [QW,A0,X6]
   exact ZnM hl hx) b 0 rfl]
 show (if YI none b=true then some (decide (((b.length:Nat):Int)≤6)) else some false)=_
 have:decide (((b.length:Nat):Int)≤6)=decide (b.length≤6):=by rw [AC];simp;omega
 rw [this]
 cases YI none b<;>simp
def ZwQ (b:List Zs) (t:ByteArray):ByteArray × Bool:=match YU b t with | some v=>(v,true) | none=>(⟨#[]⟩,false)
def Zv0:Option ByteArray→ByteArray × Bool
 | some v=>(v,true)
 | none=>(⟨#[]⟩,false)
theorem Zb3 (b:List Zs) (t:ByteArray):ZwQ b t=Zv0 (YU b t):=by unfold ZwQ Zv0;cases YU b t<;>rfl
theorem Zlc {t:ByteArray} {body:Nat→Zs→Unit→Option (Unit ⊕ (ByteArray × Bool))} (hb:∀i x,body i x ()=if x.var=t then some (.inr (x.value,true)) else some (.inl ())):
  ∀(b:List Zs) (i:Nat),Zo body (fun _=>some ((⟨#[]⟩),false)) b i ()=some (Zv0 (Xm b t))
 | [],_=>rfl
 | x::b,i=>by
  by_cases hx:x.var=t
  ·rw [Yi (by rw [hb,if_pos hx])]
   simp [Xm,hx,Zv0]
  ·rw [ZX (by rw [hb,if_neg hx]),Zlc hb b (i+1)]
   simp [Xm,hx]
theorem ZcY (b:List Zs) (t:ByteArray):ZaP b t=some (ZwQ b t):=by
 unfold ZaP
 rw [Zb3,X1,A0]
 unfold YU
 by_cases ha:ZQ t=true
 ·rw [if_pos ha,if_pos ha];rfl
 ·rw [if_neg ha,if_neg ha,ZdQ,A0]
  by_cases hv:Ye t=true
  ·rw [if_pos hv,if_pos hv,Zlc]
   intro i x
   by_cases hx:x.var=t
   ·rw [if_pos (ZO.2 hx),if_pos hx]
   ·rw [if_neg (by rw [ZO];exact hx),if_neg hx]
  ·rw [if_neg hv,if_neg hv];rfl
theorem ZcU (b:List Zs) (t:ByteArray):ZaQ b t=some (ZwQ b t):=by
 unfold ZaQ
 rw [Zb3,X6,A0]
 unfold YU
 by_cases ha:ZQ t=true
 ·rw [if_pos ha,if_pos ha];rfl
 ·rw [if_neg ha,if_neg ha]
  by_cases hv:Ye t=true
  ·rw [if_pos hv,Zlc]
   intro i x
   by_cases hx:x.var=t
   ·rw [if_pos (ZO.2 hx),if_pos hx,QW,A0,if_pos hv]
   ·rw [if_neg (by rw [ZO];exact hx),if_neg hx]
  ·rw [if_neg hv,ZU (p:=fun _=>true) (r:=((⟨#[]⟩:ByteArray),false))]
   ·simp [Zv0]
   ·intro i x _
    rw [QW,A0,if_neg hv]
    split<;>rfl
theorem Zp2 {a v:ByteArray}:((sLt a v||sEq a v)=true)↔¬sLt v a=true:=by
 rw [Am,ZO]
 constructor
 ·rintro (h | h)
  ·rw [ZjA h];simp
  ·rw [h,Zii];simp
 ·intro h
  by_cases e:a=v
  ·exact .inr e
  ·exact .inl (ZeS (by simpa using h) (fun e2=>e e2.symm))
theorem Zre {ρ:Type} {v w:ByteArray} {K:List Zs→Option ρ} {body:Nat→Zs→(List Zs × Bool)→Option ((List Zs × Bool) ⊕ ρ)} {fin:(List Zs × Bool)→Option ρ}
  (h1:∀i x row,row.length≤1000→body i x (row,true)=some (.inl (row++[x],true)))
  (h2:∀i x row,row.length≤1000→body i x (row,false)=if (sLt x.var v||sEq x.var v)=true then some (.inl (row++[x],false)) else some (.inl ((row++[{ var:=v,value:=w }])++[x],true)))
  (h3:∀row,row.length≤1000→fin (row,true)=K row) (h4:∀row,row.length≤1000→fin (row,false)=K (row++[{ var:=v,value:=w }])) (b:List Zs) (hb:b.length≤100):Zo body fin b 0 ([],false)=K (Zfx b v w):=by
 rw [Zal (fun l _ s=>K (s.1++(if s.2=true then l else Zfx l v w))) (fun l _ s=>s.1.length+2 * l.length≤900) ?_ ?_ b 0 ([],false) (by simp;omega)]
 ·simp
 ·rintro i ⟨row,done⟩ hI
  simp only[An] at hI
  cases done with
  | true=>rw [h3 row (by omega)];simp
  | false=>rw [h4 row (by omega)];simp [Zfx]
 ·rintro x l i ⟨row,done⟩ hI
  simp only[A5] at hI
  left
  cases done with
  | true=>exact ⟨_,h1 i x row (by omega),by simp;omega,by simp⟩
  | false=>
   rw [h2 i x row (by omega)]
   by_cases hs:sLt v x.var=true
   ·rw [if_neg (by rw [Zp2];simpa using hs)]
    exact ⟨_,rfl,by simp;omega,by simp [Zfx,hs]⟩
   ·rw [if_pos (Zp2.2 hs)]
    exact ⟨_,rfl,by simp;omega,by simp [Zfx,hs]⟩
def Zkg:Option (List Zs)→List Zs × Bool
 | some b=>(b,true)
 | none=>([],false)
theorem Zhl {b:List Zs} {v w:ByteArray} (h:¬(ZW b=true∧Ye v=true∧ZQ w=true)):Zkg (ZfH b v w)=([],false):=by
 unfold ZfH
 rw [if_neg h]
 rfl
theorem Zjj {b:List Zs} {v w:ByteArray} (h1:ZW b=true) (h2:Ye v=true) (h3:ZQ w=true):ZfH b v w=match Xm b v with | some old=>if old=w then some b else none | none=>if b.length=6 then none else some (Zfx b v w):=by
 unfold ZfH
 exact if_pos ⟨h1,h2,h3⟩
theorem X2 {b:List Zs} (h:ZW b=true):b.length≤6:=by
 unfold ZW at h
 rw [A3,decide_eq_true_iff] at h
 exact h.1
theorem Zqa (b:List Zs) (v w:ByteArray):ZgK b v w=some (Zkg (ZfH b v w)):=by
 unfold ZgK
 rw [Q1,A0]
 by_cases h1:ZW b=true
 ·rw [if_pos h1,ZdQ,A0]
  by_cases h2:Ye v=true
  ·rw [if_pos h2,X1,A0]
   by_cases h3:ZQ w=true
   ·have h6:=X2 h1
    rw [if_pos h3,ZcY,A0,Zb3,ZfA h2]
    cases hg:Xm b v with
    | some old=>
     have hx:ZfH b v w=if old=w then some b else none:=by rw [Zjj h1 h2 h3,hg]
     rw [hx]
     show (if true=true then (if sEq old w=true then _ else _) else _)=_
     rw [if_pos rfl]
     by_cases he:old=w
     ·rw [if_pos (ZO.2 he),if_pos he]
      unfold ZaT
      rw [Zh _ (by omega)]
      rfl
     ·rw [if_neg (by rw [ZO];exact he),if_neg he]
      rfl
    | none=>
     have hx:ZfH b v w=if b.length=6 then none else some (Zfx b v w):=by rw [Zjj h1 h2 h3,hg]
     rw [hx]
     show (if false=true then _ else _)=_
     rw [if_neg (by simp)]
     by_cases hl:b.length=6
     ·rw [if_pos (by simp;omega),if_pos hl]
      rfl
     ·rw [if_neg (by simp;omega),if_neg hl]
      refine Zre (K:=fun r=>some (r,true)) (fun i x row hr=>?_) (fun i x row hr=>?_) (fun row hr=>?_) (fun row hr=>?_) b (by omega)
      ·show (if true=true then _ else _)=_
       rw [if_pos rfl,Zh _ (by omega)]
      ·show (if false=true then _ else _)=_
       rw [if_neg (by simp)]
       split
       ·rw [Zh _ (by omega)]
       ·rw [Zh _ (by omega),Zh _ (by omega)]
      ·show (if true=true then _ else _)=_
       rw [if_pos rfl]
      ·show (if false=true then _ else _)=_
       rw [if_neg (by simp),Zh _ (by omega)]
   ·rw [if_neg h3,Zhl (fun h=>h3 h.2.2)]
  ·rw [if_neg h2,Zhl (fun h=>h2 h.2.1)]
 ·rw [if_neg h1,Zhl (fun h=>h1 h.1)]
theorem ZsF (b:List Zs) (v w:ByteArray) (hb:b.length≤100):ZiO b v w=some (Zfx b v w):=by
 unfold ZiO
 refine Zre (K:=fun r=>some r) (fun i x row hr=>?_) (fun i x row hr=>?_) (fun row hr=>?_) (fun row hr=>?_) b hb
 ·show (if true=true then _ else _)=_
  rw [if_pos rfl,Zh _ (by omega)]
 ·show (if false=true then _ else _)=_
  rw [if_neg (by simp)]
  split
  ·rw [Zh _ (by omega)]
  ·rw [Zh _ (by omega),Zh _ (by omega)]
 ·show (if true=true then _ else _)=_
  rw [if_pos rfl]
 ·show (if false=true then _ else _)=_
  rw [if_neg (by simp),Zh _ (by omega)]
theorem Zq2 (b:List Zs) (v w:ByteArray) (hb:b.length≤1048576):ZgN b v w=some (Zkg (ZfH b v w)):=by
 unfold ZgN
 rw [QB b hb,A0]
 by_cases h1:ZW b=true
 ·rw [if_pos h1,QW,A0]
  by_cases h2:Ye v=true
  ·rw [if_pos h2,X6,A0]
   by_cases h3:ZQ w=true
   ·have h6:=X2 h1
    rw [if_pos h3,ZcU,A0,Zb3,ZfA h2]
    cases hg:Xm b v with
    | some old=>
     have hx:ZfH b v w=if old=w then some b else none:=by rw [Zjj h1 h2 h3,hg]
     rw [hx]
     show (if true=true then (if sEq old w=true then _ else _) else _)=_
     rw [if_pos rfl]
     by_cases he:old=w
     ·rw [if_pos (ZO.2 he),if_pos he]
      unfold ZcA
      rw [Zh _ (by omega)]
      rfl
     ·rw [if_neg (by rw [ZO];exact he),if_neg he]
      rfl
    | none=>
     have hx:ZfH b v w=if b.length=6 then none else some (Zfx b v w):=by rw [Zjj h1 h2 h3,hg]
     rw [hx]
     show (if false=true then _ else _)=_
     rw [if_neg (by simp)]
     by_cases hl:b.length=6
     ·rw [if_pos (by simp;omega),if_pos hl]
      rfl
     ·rw [if_neg (by simp;omega),if_neg hl,ZsF _ _ _ (by omega)]
      rfl
   ·rw [if_neg h3,Zhl (fun h=>h3 h.2.2)]
  ·rw [if_neg h2,Zhl (fun h=>h2 h.2.1)]
 ·rw [if_neg h1,Zhl (fun h=>h1 h.1)]
theorem Zfh {fa:List ByteArray} {body:Nat→ByteArray→List Zs→Option (List Zs ⊕ (List Zs × Bool))}
  (hb:∀i a w row,fa[i]?=some w→ZW row=true→body i a row=if ZQ a=true then (if a=w then some (.inl row) else some (.inr ([],false))) else (match ZfH row a w with | some r=>some (.inl r) | none=>some (.inr ([],false)))):
  ∀(l:List ByteArray) (i:Nat) (row:List Zs),i+l.length=fa.length→ZW row=true→Zo body (fun row=>some (row,true)) l i row=some (Zkg (Zbb l (fa.drop i) row))
 | [],i,row,_,_=>by simp [Zo,Zbb,Zkg]
 | a::l,i,row,h,hr=>by
  simp only[A5] at h
  have hi:i<fa.length:=by omega
  have hw:fa[i]?=some fa[i]:=A8 hi
  rw [Au hi]
  simp only[Zbb]
  have e:=hb i a _ row hw hr
  by_cases ha:ZQ a=true
  ·rw [if_pos ha] at e ⊢
   by_cases hq:a=fa[i]
   ·rw [if_pos hq] at e ⊢
    rw [ZX e]
    exact Zfh hb l (i+1) row (by omega) hr
   ·rw [if_neg hq] at e ⊢
    rw [Yi e]
    rfl
  ·rw [if_neg ha] at e ⊢
   cases hx:ZfH row a fa[i] with
   | none=>
    rw [hx] at e
    rw [Yi e]
    rfl
   | some r=>
    rw [hx] at e
    rw [ZX e,A0]
    exact Zfh hb l (i+1) r (by omega) (Zte hx).1
theorem Zgr (p:Zv) (f:Zb) (b:List Zs):Za0 p f b=some (Zkg (QG p f b)):=by
 unfold Za0 QG Zcp
 rw [Zbe,A0]
 cases h1:ZR p with
 | false=>rfl
 | true=>
  rw [if_pos rfl,Zj8,A0]
  cases h2:Yb f with
  | false=>rfl
  | true=>
   rw [if_pos rfl,Q1,A0]
   cases h3:ZW b with
   | false=>rfl
   | true=>
    rw [if_pos rfl]
    by_cases h4:p.rel=f.rel
    ·rw [if_pos (ZO.2 h4),decide_eq_true h4]
     by_cases h5:p.args.length=f.args.length
     ·have h6:=X2 h3
      rw [if_neg (by simp;omega),decide_eq_true h5]
      unfold ZaT
      rw [Zh _ (by omega),A0]
      rw [Zfh (fa:=f.args) (fun i a w row hw hr=>?_) p.args 0 b (by omega) h3]
      ·rfl
      ·rw [X1,A0,Zav,hw,A0,A0]
       split
       ·by_cases hq:a=w
        ·rw [if_pos (ZO.2 hq),if_pos hq]
        ·rw [if_neg (by rw [ZO];exact hq),if_neg hq]
       ·rw [Zqa,A0]
        cases ZfH row a w<;>rfl
     ·rw [if_pos (by simp;omega),decide_eq_false h5]
      rfl
    ·rw [if_neg (by rw [ZO];exact h4),decide_eq_false h4]
     rfl
theorem Zgn (p:Zv) (f:Zb) (b:List Zs) (hb:b.length≤1048576):Za3 p f b=some (Zkg (QG p f b)):=by
 unfold Za3 QG Zcp
 rw [QK,A0]
 cases h1:ZR p with
 | false=>rfl
 | true=>
  rw [if_pos rfl,Zko,A0]
  cases h2:Yb f with
  | false=>rfl
  | true=>
   rw [if_pos rfl,QB b hb,A0]
   cases h3:ZW b with
   | false=>rfl
   | true=>
    rw [if_pos rfl]
    by_cases h4:p.rel=f.rel
    ·rw [if_pos (ZO.2 h4),decide_eq_true h4]
     by_cases h5:p.args.length=f.args.length
     ·have h6:=X2 h3
      rw [if_neg (by simp;omega),decide_eq_true h5]
      unfold ZcA
      rw [Zh _ (by omega),A0]
      rw [Zfh (fa:=f.args) (fun i a w row hw hr=>?_) p.args 0 b (by omega) h3]
      ·rfl
      ·have hr6:=X2 hr
       rw [X6,A0,Zav,hw,A0,A0]
       split
       ·by_cases hq:a=w
        ·rw [if_pos (ZO.2 hq),if_pos hq]
        ·rw [if_neg (by rw [ZO];exact hq),if_neg hq]
       ·rw [Zq2 _ _ _ (by omega),A0]
        cases ZfH row a w<;>rfl
     ·rw [if_pos (by simp;omega),decide_eq_false h5]
      rfl
    ·rw [if_neg (by rw [ZO];exact h4),decide_eq_false h4]
     rfl
def YE:Option Zb→Zb × Bool
 | some f=>(f,true)
 | none=>({ rel:=⟨#[]⟩,args:=[] },false)
theorem Znz {b:List Zs} {rel:ByteArray} {body:Nat→ByteArray→List ByteArray→Option (List ByteArray ⊕ (Zb × Bool))} (hb:∀i a row,row.length≤1048576→body i a row=match YU b a with | some v=>some (.inl (row++[v])) | none=>some (.inr ({ rel:=⟨#[]⟩,args:=[] },false))) (l:List ByteArray) (hl:l.length≤1000000):
  Zo body (fun row=>some ({ rel:=rel,args:=row },true)) l 0 []=some (YE ((ZaX l b).map fun l=>{ rel:=rel,args:=l })):=by
 rw [Zal (fun l _ row=>some (YE ((ZaX l b).map fun l=>{ rel:=rel,args:=row++l }))) (fun l _ row=>row.length+l.length≤1048576) ?_ ?_ l 0 [] (by simp;omega)]
 ·simp
 ·intro i row _
  simp [ZaX,YE]
 ·intro a l i row hI
  simp only[A5] at hI
  have e:=hb i a row (by omega)
  cases hv:YU b a with
  | none=>
   rw [hv] at e
   exact .inr ⟨_,e,by simp [ZaX,hv,YE]⟩
  | some v=>
   rw [hv] at e
   refine .inl ⟨_,e,by simp;omega,?_⟩
   simp only[ZaX,hv,A0,Option.map_map]
   cases ZaX l b<;>simp
theorem Zcd (p:Zv) (b:List Zs):XL p b=some (YE (Yf p b)):=by
 unfold XL Yf
 rw [Zbe,A0]
 cases h1:ZR p with
 | false=>rfl
 | true=>
  rw [if_pos rfl,Q1,A0]
  cases h3:ZW b with
  | false=>rfl
  | true=>
   have hl:p.args.length≤3:=by unfold ZR at h1;simp at h1;exact h1.1.2
   rw [if_pos rfl,if_pos ⟨rfl,rfl⟩,Znz (b:=b) (fun i a row hr=>?_) p.args (by omega)]
   rw [ZcY,A0,Zb3]
   cases YU b a with
   | none=>rfl
   | some v=>
    show (if true=true then _ else _)=_
    rw [if_pos rfl,Zh _ (by omega)]
    rfl
theorem Zez (p:Zv) (b:List Zs) (hb:b.length≤1048576):Yy p b=some (YE (Yf p b)):=by
 unfold Yy Yf
 rw [QK,A0]
 cases h1:ZR p with
 | false=>rfl
 | true=>
  rw [if_pos rfl,QB b hb,A0]
  cases h3:ZW b with
  | false=>rfl
  | true=>
   have hl:p.args.length≤3:=by unfold ZR at h1;simp at h1;exact h1.1.2
   rw [if_pos rfl,if_pos ⟨rfl,rfl⟩,Znz (b:=b) (fun i a row hr=>?_) p.args (by omega)]
   rw [ZcU,A0,Zb3]
   cases YU b a with
   | none=>rfl
   | some v=>
    show (if true=true then _ else _)=_
    rw [if_pos rfl,Zh _ (by omega)]
    rfl
theorem Zfu (o:Option (List Zs)):(Zkg o).2=o.isSome:=by cases o<;>rfl
theorem Zdi (p:Zv) (b:List Zs) (F:List Zb) (hF:F.length≤1048576) (ha:∀f∈F,f.args.length≤1048576):Xt p b F=some (ZbI p b F):=by
 unfold Xt ZbI
 rw [Zcm (p:=fun f=>(QG p f b).isSome)]
 ·simp
 ·intro j f s mf hs
  rw [Zgr,A0,Zfu]
  split
  ·rw [YN f (ha f mf),A0,Zh _ (by simp at hs;omega)]
  ·rfl
theorem Zdu (p:Zv) (b:List Zs) (F:List Zb) (hb:b.length≤1048576) (hF:F.length≤1048576) (ha:∀f∈F,f.args.length≤1048576):Xs p b F=some (ZbI p b F):=by
 unfold Xs ZbI
 rw [Zcm (p:=fun f=>(QG p f b).isSome)]
 ·simp
 ·intro j f s mf hs
  rw [Zgn _ _ _ hb,A0,Zfu]
  split
  ·rw [Xb f (ha f mf),A0,Zh _ (by simp at hs;omega)]
  ·rfl
theorem Zk2 (x:Zt) (b:List Zs):Zcs x b=some (ZmJ x b):=by
 unfold Zcs ZmJ Zi1
 rw [Zg4,A0]
 cases h1:Yk x with
 | false=>rfl
 | true=>
  rw [if_pos rfl,A0]
  by_cases h2:3≤x.kind
  ·rw [if_pos (by simpa using h2),Q1,A0]
   cases h3:ZW b with
   | false=>simp
   | true=>
    rw [if_pos rfl,if_pos ⟨rfl,h2,rfl⟩,ZcY,A0,ZcY,A0,Zb3,Zb3]
    cases YU b x.left with
    | none=>rfl
    | some l=>
     cases YU b x.right with
     | none=>rfl
     | some r=>
      show (if true=true then (if true=true then (if (x.kind==3)=true then some (sEq l r) else _) else _) else _)=some (Zq1 x.kind l r)
      rw [if_pos rfl,if_pos rfl]
      unfold Zq1
      by_cases k3:x.kind=3
      ·rw [if_pos (by simpa using k3),if_pos k3];rfl
      ·rw [if_neg (by simpa using k3),if_neg k3]
       by_cases k4:x.kind=4
       ·rw [if_pos (by simpa using k4),if_pos k4];rfl
       ·rw [if_neg (by simpa using k4),if_neg k4,Zb7,A0,Zb7,A0]
        show (if (ZdG l).2=true then (if (ZdG r).2=true then some (decide ((ZdG l).1<(ZdG r).1)) else some false) else some false)=_
        unfold ZdG Zv6
        cases Qy l<;>cases Qy r<;>simp
  ·rw [if_neg (by simpa using h2),if_neg (fun h=>h2 h.2.1)]
theorem ZlC (x:Zt) (b:List Zs) (hb:b.length≤1048576):Zcj x b=some (ZmJ x b):=by
 unfold Zcj ZmJ Zbf
 rw [Zcv,A0]
 cases h1:Yk x with
 | false=>rfl
 | true=>
  rw [if_pos rfl,A0]
  by_cases h2:3≤x.kind
  ·rw [if_pos (by simpa using h2),QB b hb,A0]
   cases h3:ZW b with
   | false=>simp
   | true=>
    rw [if_pos rfl,if_pos ⟨rfl,h2,rfl⟩,ZcU,A0,ZcU,A0,Zb3,Zb3]
    cases YU b x.left with
    | none=>rfl
    | some l=>
     cases YU b x.right with
     | none=>rfl
     | some r=>
      show (if true=true then (if true=true then (if (x.kind==3)=true then some (sEq l r) else _) else _) else _)=some (Zq1 x.kind l r)
      rw [if_pos rfl,if_pos rfl]
      unfold Zq1
      by_cases k3:x.kind=3
      ·rw [if_pos (by simpa using k3),if_pos k3];rfl
      ·rw [if_neg (by simpa using k3),if_neg k3]
       by_cases k4:x.kind=4
       ·rw [if_pos (by simpa using k4),if_pos k4];rfl
       ·rw [if_neg (by simpa using k4),if_neg k4]
        unfold ZdN
        rw [Zap,A0,A0]
        show (if (ZdG l).2=true then ((Qe r).bind fun v1=>some v1.2).bind (fun v6=>if v6=true then (Xd l r).bind fun v7=>some (decide (v7<0)) else some false) else some false)=_
        unfold Zv6
        cases hl:Qy l with
        | none=>simp [ZdG,hl]
        | some m=>
         rw [if_pos (by simp [ZdG,hl]),Zap,A0,A0]
         cases hr:Qy r with
         | none=>simp [ZdG,hr]
         | some n=>
          have hd:decide (ZfX l r<0)=decide (m<n):=by
           have hc:ZfX l r=ZkE m n:=by unfold ZfX;rw [hl,hr]
           rw [hc,AC,decide_eq_true_iff,decide_eq_true_iff]
           unfold ZkE
           split
           ·omega
           ·split<;>omega
          rw [if_pos (by simp [ZdG,hr]),Zec,A0,hd]
  ·rw [if_neg (by simpa using h2),if_neg (fun h=>h2 h.2.1)]
theorem ZlS (x:Zt) (b:List Zs) (F:List Zb) (hF:F.length≤1048576) (ha:∀f∈F,f.args.length≤1048576):ZcD x b F=some (Zak x b F):=by
 unfold ZcD Zak
 rw [Zg4,A0]
 cases h1:Yk x with
 | false=>rfl
 | true=>
  rw [if_pos rfl,Q1,A0]
  cases h3:ZW b with
  | false=>rfl
  | true=>
   rw [if_pos rfl,if_pos (show true=true∧true=true from ⟨rfl,rfl⟩)]
   by_cases k1:x.kind=1
   ·rw [if_pos (by simpa using k1),if_pos k1,Zdi _ _ _ hF ha,A0]
    congr 1
    rw [AC];simp
   ·rw [if_neg (by simpa using k1),if_neg k1]
    by_cases k2:x.kind=2
    ·rw [if_pos (by simpa using k2),if_pos k2,Zdi _ _ _ hF ha,A0,Zud]
    ·rw [if_neg (by simpa using k2),if_neg k2,Zk2]
     rfl
theorem ZlR (x:Zt) (b:List Zs) (F:List Zb) (hb:b.length≤1048576) (hF:F.length≤1048576) (ha:∀f∈F,f.args.length≤1048576):Zcl x b F=some (Zak x b F):=by
 unfold Zcl Zak
 rw [Zcv,A0]
 cases h1:Yk x with
 | false=>rfl
 | true=>
  rw [if_pos rfl,QB b hb,A0]
  cases h3:ZW b with
  | false=>rfl
  | true=>
   rw [if_pos rfl,if_pos (show true=true∧true=true from ⟨rfl,rfl⟩)]
   by_cases k1:x.kind=1
   ·rw [if_pos (by simpa using k1),if_pos k1,Zdu _ _ _ hb hF ha,A0]
    congr 1
    rw [AC];simp
   ·rw [if_neg (by simpa using k1),if_neg k1]
    by_cases k2:x.kind=2
    ·rw [if_pos (by simpa using k2),if_pos k2,Zdu _ _ _ hb hF ha,A0,Zud]
    ·rw [if_neg (by simpa using k2),if_neg k2,ZlC _ _ hb]
     rfl
section
theorem ZtX (l:List Zg) (n:ByteArray):∃z,QF l n=some z:=by
 unfold QF
 rcases ZbG (ρ:=Int) (body:=fun (i4:Nat) (x5:Zg) (_:Unit)=>
   if (sEq x5.name n)=true then
    some (.inr ((i4:Nat):Int))
   else
    some (.inl ())) (fun _ _=>True) (fun _=>True) l () trivial (fun p x s mx hp _=>by
  cases h:sEq x.name n with
  | true=>exact .inr ⟨_,by rw [if_pos rfl],trivial⟩
  | false=>exact .inl ⟨(),by rw [if_neg (by simp)],trivial⟩) with ⟨s,e,_⟩ | ⟨z,e,_⟩
 ·exact ⟨-1,e _⟩
 ·exact ⟨z,e _⟩
noncomputable def Zag (l:List Zg) (n:ByteArray):Int:=(QF l n).getD 0
theorem Zeo (l:List Zg) (n:ByteArray):QF l n=some (Zag l n):=by
 obtain ⟨z,h⟩:=ZtX l n
 unfold Zag
 rw [h];rfl
theorem ZhR (l:List Zg) (n:ByteArray):ZdZ l n=some (Zag l n):=Zeo l n
noncomputable def Zd2 (R:List Zg) (j:Nat) (r:Zg):Bool:=YQ r&&(Zag R r.name==((j:Nat):Int))
noncomputable def Z6 (R:List Zg):Bool:=decide (R.length≤6)&&Q0 (Zd2 R) R 0
theorem Zen {R:List Zg} (h:∀r∈R,QC r):ZaL R=some (Z6 R):=by
 unfold ZaL Z6
 by_cases h6:R.length≤6
 ·rw [if_neg (by simp;omega),decide_eq_true h6,AP,Xu (p:=Zd2 R) (r:=false)]
  ·cases Q0 (Zd2 R) R 0<;>rfl
  ·intro j r hj
   rw [Zj7 r (h r (Ag hj)),A0,Zeo]
   unfold Zd2
   simp only[A0,AM]
   cases YQ r with
   | false=>rfl
   | true=>
    by_cases hf:Zag R r.name=((j:Nat):Int)
    ·simp [hf]
    ·have e:(Zag R r.name==((j:Nat):Int))=false:=by simpa using hf
     simp [e,hf]
 ·rw [if_pos (by simp;omega),decide_eq_false h6];rfl
theorem ZmM {R:List Zg} (h:∀r∈R,QC r):ZdU R=some (Z6 R):=by
 unfold ZdU Z6
 rw [Xu (p:=Zd2 R) (r:=false)]
 ·have:decide (((R.length:Nat):Int)≤6)=decide (R.length≤6):=by rw [AC];simp;omega
  rw [this]
  cases Q0 (Zd2 R) R 0<;>simp
 ·intro j r hj
  rw [Zgg r (h r (Ag hj)),A0,ZhR]
  unfold Zd2
  simp only[A0,AM]
  cases YQ r with
  | false=>rfl
  | true=>
   by_cases hf:Zag R r.name=((j:Nat):Int)
   ·simp [hf]
   ·have e:(Zag R r.name==((j:Nat):Int))=false:=by simpa using hf
    simp [e,hf]
open Classical
noncomputable def Zjl (R:List Zg) (rel w:ByteArray):Bool:=!sEq w rel&&!decide (YJ R rel w)
noncomputable def ZgX (R:List Zg) (r:Zg) (x:Zt):Bool:=!(x.kind==2)||(ZT (Xk r)).all (Zjl R x.pattern.rel)
noncomputable def Y4 (R:List Zg) (r:Zg):Bool:=ZM r&&r.cond.all (ZgX R r)
theorem ZfU {R:List Zg} (hR:Zbc R):Zbt R=some (Z6 R&&R.all (Y4 R)):=by
 unfold Zbt
 rw [Zen hR.s,A0]
 cases Z6 R with
 | false=>rfl
 | true=>
  rw [if_pos rfl,ZU (p:=Y4 R) (r:=false)]
  ·cases R.all (Y4 R)<;>rfl
  ·intro i r mr
   have hsm:=hR.s r mr
   rw [ZlO r hsm,A0]
   unfold Y4
   cases ZM r with
   | false=>rfl
   | true=>
    rw [if_pos rfl,ZU (p:=ZgX R r) (r:=.inr false)]
    ·cases r.cond.all (ZgX R r)<;>rfl
    ·intro i x mx
     unfold ZgX
     by_cases hk:x.kind=2
     ·obtain ⟨m,e,hm⟩:=Zni hR x.pattern.rel
      rw [if_neg (by simp [hk]),e,A0,ZhI r hsm.tl,A0,ZU (p:=Zjl R x.pattern.rel) (r:=.inr (.inr false))]
      ·rw [show (!(x.kind==2))=false by simp [hk],Ay]
       cases (ZT (Xk r)).all (Zjl R x.pattern.rel)<;>rfl
      ·intro i w mw
       unfold Zjl
       have:Zah m w false=decide (YJ R x.pattern.rel w):=by
        rw [AC,decide_eq_true_iff];exact hm w
       rw [this]
       cases sEq w x.pattern.rel<;>cases decide (YJ R x.pattern.rel w)<;>rfl
     ·rw [if_pos (by simp [hk]),show (!(x.kind==2))=true by simp [hk]];rfl
theorem Ztx {α ρ:Type} {r:ρ}:∀(l:List α),Zo (σ:=Unit) (fun (_:Nat) (_:α) _=>some (.inr r)) (fun _=>some r) l 0 ()=some r
 | []=>rfl
 | _::_=>rfl
theorem Zwf (x y:ByteArray):sEq x y=sEq y x:=by
 rw [AC,ZO,ZO]
 exact eq_comm
theorem ZfN {R:List Zg} (hR:Zbc R):Zbs R=some (Z6 R&&R.all (Y4 R)):=by
 unfold Zbs
 rw [ZU (p:=Y4 R) (r:=false)]
 ·rw [ZmM hR.s,A0]
  cases R.all (Y4 R)<;>simp
 ·intro i r mr
  have hsm:=hR.s r mr
  rw [ZlX r hsm,A0]
  unfold Y4
  cases ZM r with
  | false=>rfl
  | true=>
   rw [if_pos rfl,ZhJ r hsm.tl,A0,ZU (p:=ZgX R r) (r:=.inr false)]
   ·cases r.cond.all (ZgX R r)<;>rfl
   ·intro i x mx
    unfold ZgX
    by_cases hk:x.kind=2
    ·rw [ZU (p:=Zjl R x.pattern.rel) (r:=.inr (.inr false))]
     ·rw [show (!(x.kind==2))=false by simp [hk],Ay]
      cases (ZT (Xk r)).all (Zjl R x.pattern.rel)<;>rfl
     ·intro i w mw
      rw [if_pos (by simp [hk]),ZkL hR,Zwf]
      unfold Zjl
      cases sEq w x.pattern.rel<;>cases decide (YJ R x.pattern.rel w)<;>rfl
    ·have hf:(x.kind==2)=false:=by simp [hk]
     simp only[hf,AE,if_false]
     rw [Ztx]
     rfl
end
section
open Classical
noncomputable def Zda (F:List Zb) (i:Nat) (x:Zb):Bool:=Yb x&&(if i=0 then true else match F[i - 1]? with | some y=>decide (ZbB y x<0) | none=>true)
noncomputable def Z3 (F:List Zb):Bool:=decide (F.length≤24)&&Q0 (Zda F) F 0
theorem Zmp {α:Type} {p:Nat→α→Bool} {q:α→Bool} (h:∀i x,p i x=true→q x=true):∀{l:List α} {i:Nat},Q0 p l i=true→∀x∈l,q x=true
 | [],_,_=>by simp
 | y::l,i,ha=>by
  simp only[Q0,A3] at ha
  intro x mx
  rcases A4.1 mx with rfl | mx
  ·exact h i _ ha.1
  ·exact Zmp h ha.2 x mx
theorem QQ {F:List Zb} (h:Z3 F=true):F.length≤24∧∀f∈F,Yb f=true:=by
 unfold Z3 at h
 rw [A3,decide_eq_true_iff] at h
 refine ⟨h.1,Zmp (fun i x hx=>?_) h.2⟩
 unfold Zda at hx
 rw [A3] at hx
 exact hx.1
theorem YY {f:Zb} (h:Yb f=true):f.args.length≤3:=by
 unfold Yb at h
 simp only[A3,decide_eq_true_iff] at h
 exact h.1.2
theorem Znt {F:List Zb} (hl:F.length≤1048576) {i:Nat} {x:Zb} (hx:F[i]?=some x):
  (if Yb x=true then (if (decide (0<((i:Nat):Int)))=true then (atI F (IntKind.i64.wrap (((i:Nat):Int) - 1))).bind fun x11=>(some (ZbB x11 x)).bind fun v12=>if (decide (0≤v12))=true then some (.inr false) else some (.inl ()) else some (.inl ())) else some (.inr false):Option (Unit ⊕ Bool))
   = some (bif Zda F i x then .inl () else .inr false):=by
 have hi:=(AT.1 hx).1
 unfold Zda
 cases Yb x with
 | false=>rfl
 | true=>
  rw [if_pos rfl]
  by_cases h0:i=0
  ·subst h0
   rw [if_neg (by simp)]
   simp
  ·have hg:F[i - 1]?=some F[i - 1]:=A8 (by omega)
   rw [if_pos (by simp;omega),show ((i:Nat):Int) - 1=((i - 1:Nat):Int) by omega,Zd9 (by omega) (by omega),Zav,hg,A0,A0,if_neg h0]
   by_cases hc:ZbB F[i - 1] x<0
   ·rw [if_neg (by simpa using hc)]
    simp [hc]
   ·rw [if_pos (by simpa using hc)]
    simp [hc]
theorem Zca (F:List Zb):ZaH F=some (Z3 F):=by
 unfold ZaH Z3
 by_cases h:F.length≤24
 ·rw [if_neg (by simp;omega),decide_eq_true h,Xu (p:=Zda F) (r:=false)]
  ·cases Q0 (Zda F) F 0<;>rfl
  ·intro j x hx
   rw [AM,Zj8,A0]
   simp only[Zeb]
   exact Znt (by omega) hx
 ·rw [if_pos (by simp;omega),decide_eq_false h]
  rfl
theorem ZhY (F:List Zb) (hl:F.length≤1048576):Zdv F=some (Z3 F):=by
 unfold Zdv Z3
 rw [Xu (p:=Zda F) (r:=false)]
 ·have:decide (((F.length:Nat):Int)≤24)=decide (F.length≤24):=by rw [AC];simp;omega
  rw [this]
  cases Q0 (Zda F) F 0<;>simp
 ·intro j x hx
  rw [AM,Zko,A0]
  simp only[Zbo]
  exact Znt hl hx
theorem ZgF (l:List Zb) (hl:l.length≤1048576) (h:∀f∈l,f.args.length≤1048576):Za7 l=some l:=by
 unfold Za7
 rw [Zjo (g:=fun y=>y)]
 ·simp
 ·intro j y s my hs
  rw [YN y (h y my),A0,Zh _ (by simp at hs;omega)]
theorem Zey (l:List Zb) (hl:l.length≤1048576) (h:∀f∈l,f.args.length≤1048576):ZaJ l=some l:=by
 unfold ZaJ
 rw [Zjo (g:=fun y=>y)]
 ·simp
 ·intro j y s my hs
  rw [Xb y (h y my),A0,Zh _ (by simp at hs;omega)]
structure ZuM (F:List Zb) (t:Zu):Prop where
 bind:t.binding.length≤6
 len:t.facts.length≤4
 args:∀f∈t.facts,f.args.length≤3
theorem ZlH.s {p:List Zt} {F:List Zb} {t:Zu} (h:ZlH p F t) (hp:p.length≤4) (hF:∀f∈F,f.args.length≤3):ZuM F t:=
 ⟨X2 h.bind,by have:=h.len;omega,fun f mf=>hF f (h.sub f mf)⟩
theorem ZnJ {ρ:Type} {x:Zt} {F:List Zb} {body:Nat→Zu→List Zu→Option (List Zu ⊕ ρ)} {fin:List Zu→Option ρ} (hF:F.length≤24) (ts:List Zu) (hts:ts.length≤331776)
  (hb:∀i t row,t∈ts→row.length≤10000000→body i t row=some (.inl (row++ZaR x F t))):Zo body fin ts 0 []=fin (Zf0 x F ts):=by
 have hst:Zf0 x F []=[]:=rfl
 rw [←hst,Zae (fun p=>Zf0 x F p) ts]
 intro p t q e
 have hl:=Zlp x F hF p
 have hp:p.length≤ts.length:=by rw [e];simp
 rw [hb _ _ _ (by rw [e];simp) (by omega)]
 unfold Zf0
 rw [Aq]
 simp
theorem ZeA (l:List Zt) (F:List Zb) (hl:l.length≤4) (hF:F.length≤24) (hA:∀f∈F,f.args.length≤3):QU l F=some (Zw l F):=by
 unfold QU
 have h0:Zw [] F=[({ facts:=[],binding:=[] }:Zu)]:=rfl
 rw [←h0,Zae (fun p=>Zw p F) l]
 intro p x q e
 have hpl:p.length+(q.length+1)=l.length:=by rw [e,AX,A5]
 rw [Y6]
 refine ZnJ (fin:=fun r=>(some (Sum.inl r):Option (List Zu ⊕ List Zu))) hF (Zw p F) (ZaO F hF p (by omega)) (fun i t row mt hr=>?_)
 have ht:=(Qp F p t mt).s (by omega) hA
 unfold ZaR
 by_cases hk:x.kind=1
 ·rw [if_neg (by simpa using hk),if_pos hk,YC (g:=fun f=>(QG x.pattern f t.binding).map fun b=>({ facts:=t.facts++[f],binding:=b }:Zu))]
  intro j f s mf hs
  rw [Zgr,A0,Zfu]
  cases hm:QG x.pattern f t.binding with
  | none=>simp
  | some b=>
   simp only[BB,if_true]
   rw [ZgF _ (by have:=ht.len;omega) (fun g mg=>by have:=ht.args g mg;omega),A0,YN f (by have:=hA f mf;omega),A0,Zh _ (by have:=ht.len;omega),Zh _ (by omega)]
   rfl
 ·rw [if_pos (by simpa using hk),if_neg hk,ZlS _ _ _ (by omega) (fun f mf=>by have:=hA f mf;omega),A0]
  split
  ·rw [Zh _ (by omega)]
  ·simp
theorem Zrt {F:List Zb} {t:Zu} (ht:ZuM F t):Zf4 t=some t:=by
 unfold Zf4 ZcA
 rw [Zey _ (by have:=ht.len;omega) (fun g mg=>by have:=ht.args g mg;omega),A0,Zh _ (by have:=ht.bind;omega)]
 rfl
theorem ZqG (ts:List Zu) (x:Zt) (F:List Zb) (hts:ts.length≤331776) (hF:F.length≤24) (hA:∀f∈F,f.args.length≤3) (ht:∀t∈ts,ZuM F t):Zf9 ts x F=some (Zf0 x F ts):=by
 unfold Zf9
 refine ZnJ (fin:=fun r=>some r) hF ts hts (fun i t row mt hr=>?_)
 have ht:=ht t mt
 have htb:=ht.bind
 unfold ZaR
 by_cases hk:x.kind=1
 ·rw [if_neg (by simpa using hk),if_pos hk,YC (g:=fun f=>(QG x.pattern f t.binding).map fun b=>({ facts:=t.facts++[f],binding:=b }:Zu))]
  intro j f s mf hs
  rw [Zgn _ _ _ (by omega),A0,Zfu]
  cases hm:QG x.pattern f t.binding with
  | none=>simp
  | some b=>
   simp only[BB,if_true]
   rw [Zey _ (by have:=ht.len;omega) (fun g mg=>by have:=ht.args g mg;omega),A0,Xb f (by have:=hA f mf;omega),A0,Zh _ (by have:=ht.len;omega),Zh _ (by omega)]
   rfl
 ·rw [if_pos (by simpa using hk),if_neg hk,ZlR _ _ _ (by omega) (by omega) (fun f mf=>by have:=hA f mf;omega),A0]
  split
  ·rw [Zrt ht,A0,Zh _ (by omega)]
  ·simp
theorem ZhC (l:List Zt) (F:List Zb) (hl:l.length≤4) (hF:F.length≤24) (hA:∀f∈F,f.args.length≤3):ZaF l F=some (Zw l F):=by
 unfold ZaF
 have h0:Zw [] F=[({ facts:=[],binding:=[] }:Zu)]:=rfl
 rw [←h0,Zae (fun p=>Zw p F) l]
 intro p x q e
 have hpl:p.length+(q.length+1)=l.length:=by rw [e,AX,A5]
 rw [Y6,ZqG _ _ _ (ZaO F hF p (by omega)) hF hA (fun t mt=>(Qp F p t mt).s (by omega) hA)]
 rfl
theorem ZcX {R:List Zg} (h:Z6 R=true):R.length≤6∧∀r∈R,YQ r=true:=by
 unfold Z6 at h
 rw [A3,decide_eq_true_iff] at h
 refine ⟨h.1,Zmp (fun i x hx=>?_) h.2⟩
 unfold Zd2 at hx
 rw [A3] at hx
 exact hx.1
theorem Zue {r:Zg} (h:YQ r=true):∀a∈r.thn,a.kind=1→ZR a.pattern=true∧∀v∈a.pattern.args,Ye v=true→v∈Yr r.cond:=by
 intro a ma hk
 unfold YQ at h
 simp only[A3] at h
 have ha:=AF.1 h.1.2 a ma
 rw [A3] at ha
 obtain ⟨h1,h2⟩:=ha
 unfold Xq at h1
 rw [if_pos (.inl hk)] at h1
 refine ⟨h1,fun v mv hv=>?_⟩
 have:=AF.1 h2 v (ZbJ.2 ⟨mv,hv⟩)
 rw [Xw] at this
 unfold YD at this
 rw [ZP,List.take_length] at this
 exact this
end
section
open Classical
theorem Zc5 {α:Type}:∀{l m:List α},l.Nodup→(∀x∈l,x∈m)→l.length≤m.length
 | [],_,_,_=>Ab _
 | x::l,m,h,hs=>by
  rw [BC] at h
  have hx:x∈m:=hs x (by simp)
  have h2:=Zc5 (m:=m.erase x) h.2 (fun y my=>(List.mem_erase_of_ne (fun e=>h.1 (by rw [←e];exact my))).2 (hs y (by simp [my])))
  rw [List.length_erase_of_mem hx] at h2
  have:=List.length_pos_of_mem hx
  simp only[A5]
  omega
theorem Zso {α:Type} {l m:List α} (hl:l.Nodup) (hs:∀x∈l,x∈m) (hm:m.length≤l.length):∀x∈m,x∈l:=fun x mx=>by
 refine Classical.byContradiction fun hn=>?_
 have:=Zc5 (l:=x::l) (m:=m) (BC.2 ⟨hn,hl⟩) (fun y my=>by
  rcases A4.1 my with rfl | my
  ·exact mx
  ·exact hs y my)
 simp only[A5] at this
 omega
theorem ZiL (x:Zb):¬ZbB x x<0:=by rw [(ZcQ.eq x x).2 rfl];omega
theorem ZdT {l:List Zb} (h:Zg3 l):l.Nodup:=List.Pairwise.imp (fun {a b} hab e=>by subst e;exact ZiL a hab) h
theorem Zk8:∀{a b:List Zb},Zg3 a→Zg3 b→(∀x,x∈a↔x∈b)→a=b
 | [],[],_,_,_=>rfl
 | [],y::b,_,_,h=>by have:=(h y).2 (by simp);simp at this
 | x::a,[],_,_,h=>by have:=(h x).1 (by simp);simp at this
 | x::a,y::b,ha,hb,h=>by
  unfold Zg3 at ha hb
  rw [AD] at ha hb
  have e:x=y:=by
   rcases A4.1 ((h x).1 (by simp)) with e | h1
   ·exact e
   ·rcases A4.1 ((h y).2 (by simp)) with e | h2
    ·exact e.symm
    ·exact absurd (ZcQ.tr _ _ _ (ha.1 y h2) (hb.1 x h1)) (ZiL x)
  subst e
  rw [Zk8 ha.2 hb.2 fun z=>?_]
  constructor
  ·intro hz
   rcases A4.1 ((h z).1 (by simp [hz])) with e | hz2
   ·subst e;exact absurd (ha.1 z hz) (ZiL z)
   ·exact hz2
  ·intro hz
   rcases A4.1 ((h z).2 (by simp [hz])) with e | hz2
   ·subst e;exact absurd (hb.1 z hz) (ZiL z)
   ·exact hz2
theorem ZiS {f:Zb}:∀{l:List Zb},f∉l→(Zd6 l f).length=l.length+1
 | [],_=>rfl
 | x::l,h=>by
  simp only[A4,not_or] at h
  simp only[Zd6]
  split
  ·rw [A5,ZiS h.2];rfl
  ·rw [if_neg (fun e=>h.1 ((ZcQ.eq _ _).1 e).symm)]
   rfl
def XT (r:Zg):List Zt:=r.cond.filter fun x=>x.kind != 2
theorem ZnZ {r:Zg}:∀x∈XT r,¬x.kind=2:=fun x mx=>by
 have:=(Az.1 mx).2
 simpa using this
theorem ZdL (r:Zg):(XT r).length≤r.cond.length:=BD _ _
theorem ZqD (l:List Zt):Yr (l.filter fun x=>x.kind != 2)=Yr l:=by
 induction l with
 | nil=>rfl
 | cons x l ih=>
  by_cases hx:x.kind=2
  ·rw [List.filter_cons_of_neg (by simpa using hx),ih]
   simp [Yr,hx]
  ·rw [List.filter_cons_of_pos (by simpa using hx)]
   unfold Yr at ih ⊢
   rw [Ap,Ap,ih]
theorem ZbN (r:Zg) (h:r.cond.length≤1048576):YP r=some (XT r):=by
 unfold YP XT
 rw [Zcm (p:=fun x:Zt=>x.kind != 2)]
 ·simp
 ·intro j x s mx hs
  split
  ·rw [Zh _ (by simp at hs;omega)]
  ·rfl
theorem Ze3 (r:Zg) (h:r.cond.length≤1048576):XJ r=some (XT r):=ZbN r h
theorem Zrn {F G:List Zb} (h:∀f∈F,f∈G):∀{l:List Zt},(∀x∈l,¬x.kind=2)→∀t∈Zw l F,t∈Zw l G:=by
 have:∀n (l:List Zt),l.length=n→(∀x∈l,¬x.kind=2)→∀t∈Zw l F,t∈Zw l G:=by
  intro n
  induction n with
  | zero=>intro l hl _ t mt;rw [Af hl] at mt ⊢;exact mt
  | succ n ih=>
   intro l hl hk
   obtain ⟨p,x,rfl⟩:∃p x,l=p++[x]:=⟨l.dropLast,l.getLast (by intro e;simp [e] at hl),(Ao _).symm⟩
   intro t mt
   rw [Y6] at mt ⊢
   obtain ⟨s,ms,mt⟩:=AQ.1 mt
   refine AQ.2 ⟨s,ih p (by simpa using hl) (fun y my=>hk y (by simp [my])) s ms,?_⟩
   unfold ZaR at mt ⊢
   by_cases h1:x.kind=1
   ·rw [if_pos h1] at mt ⊢
    obtain ⟨f,mf,e⟩:=AN.1 mt
    exact AN.2 ⟨f,h f mf,e⟩
   ·have h2:=hk x (by simp)
    have e:Zak x s.binding G=Zak x s.binding F:=by unfold Zak;simp only[if_neg h1,if_neg h2]
    rw [if_neg h1] at mt ⊢
    rw [e]
    exact mt
 intro l hk
 exact this _ l rfl hk
theorem ZcT {F:List Zb} (h:Z3 F=true):Zg3 F:=by
 unfold Z3 at h
 rw [A3] at h
 have hadj:∀i y x,F[i]?=some y→F[i+1]?=some x→ZbB y x<0:=fun i y x hy hx=>by
  have:=Zfo h.2 (i+1) x hx
  unfold Zda at this
  rw [A3,AM,if_neg (by omega),BA,hy] at this
  simpa using this.2
 have key:∀(l:List Zb),(∀i y x,l[i]?=some y→l[i+1]?=some x→ZbB y x<0)→Zg3 l:=by
  intro l
  induction l with
  | nil=>intro _;exact Ah
  | cons a l ih=>
   intro hl
   have hp:=ih (fun i y x hy hx=>hl (i+1) y x (by simpa using hy) (by simpa using hx))
   unfold Zg3 at hp ⊢
   rw [AD]
   refine ⟨fun x mx=>?_,hp⟩
   cases l with
   | nil=>simp at mx
   | cons b l=>
    have hab:=hl 0 a b rfl rfl
    rcases A4.1 mx with rfl | mx
    ·exact hab
    ·rw [AD] at hp
     exact ZcQ.tr _ _ _ hab (hp.1 x mx)
 exact key F hadj
def Z8 (a:Zz) (t:Zu):Zb:=(YE (Yf a.pattern t.binding)).1
def ZiK (R:List Zg) (G:List Zb):Prop:=∀r∈R,∀t∈Zw (XT r) G,∀a∈r.thn,Z8 a t∈G
structure Cl (R:List Zg) (base G:List Zb):Prop where
 asc:Zg3 G
 base:∀f∈base,f∈G
 closed:ZiK R G
structure ZeE (R:List Zg) (base F:List Zb):Prop where
 asc:Zg3 F
 ok:∀f∈F,Yb f=true
 inc:∀f∈base,f∈F
 low:∀G,Cl R base G→∀f∈F,f∈G
def Znm (R:List Zg) (base:List Zb):Prop:=∀G,Cl R base G→25≤G.length
theorem ZeE.over {R:List Zg} {base F:List Zb} (h:ZeE R base F) (hl:25≤F.length):Znm R base:=fun G hG=>A9 hl (Zc5 (ZdT h.asc) (h.low G hG))
theorem ZeE.add {R:List Zg} {base F:List Zb} (h:ZeE R base F) {f:Zb} (hf:Yb f=true) (hin:∀G,Cl R base G→f∈G):ZeE R base (Zd6 F f) where
 asc:=ZpV h.asc
 ok:=fun g mg=>by
  rcases QP.1 mg with rfl | mg
  ·exact hf
  ·exact h.ok g mg
 inc:=fun g mg=>QP.2 (.inr (h.inc g mg))
 low:=fun G hG g mg=>by
  rcases QP.1 mg with rfl | mg
  ·exact hin G hG
  ·exact h.low G hG g mg
theorem Zkk {b:List Zs} (hb:ZW b=true):∀{p l:List ByteArray},ZaX p b=some l→l.all ZQ=true∧l.length=p.length
 | [],l,h=>by
  simp only[ZaX,AW] at h
  subst h
  simp
 | a::p,l,h=>by
  simp only[ZaX] at h
  obtain ⟨v,hv,h⟩:=B7.1 h
  obtain ⟨l',hl',rfl⟩:=Ae.1 h
  obtain ⟨h1,h2⟩:=Zkk hb hl'
  have ha:ZQ v=true:=by
   unfold YU at hv
   split at hv
   ·rename_i ha
    obtain rfl:=AJ hv
    exact ha
   ·split at hv
    ·obtain ⟨x,mx,_,rfl⟩:=ZtQ hv
     unfold ZW at hb
     rw [A3] at hb
     have:=(Zuw hb.2 x mx).1
     unfold ZfK at this
     rw [A3] at this
     exact this.2
    ·simp at hv
  simp [ha,h1,h2]
theorem Zs6 {r:Zg} {F:List Zb} {t:Zu} (hr:ZM r=true) (ht:t∈Zw (XT r) F) {a:Zz} (ma:a∈r.thn):Yb (Z8 a t)=true:=by
 unfold ZM at hr
 simp only[A3] at hr
 have hk:a.kind=1:=by
  have:=AF.1 hr.2 a ma
  simpa using this
 have htk:=Qp F _ t ht
 obtain ⟨h1,h2⟩:=Zue hr.1.1 a ma hk
 have hp:=h1
 unfold ZR at hp
 simp only[A3,decide_eq_true_iff] at hp
 obtain ⟨l,e,_⟩:=Zd4 (b:=t.binding) hp.2 (fun v mv hv=>htk.vars v (by
  unfold XT
  rw [ZqD]
  exact h2 v mv hv))
 obtain ⟨h3,h4⟩:=Zkk htk.bind e
 have:Yf a.pattern t.binding=some { rel:=a.pattern.rel,args:=l }:=by
  unfold Yf
  rw [if_pos ⟨h1,htk.bind⟩,e]
  rfl
 unfold Z8
 rw [this]
 show Yb { rel:=a.pattern.rel,args:=l }=true
 unfold Yb
 simp only[A3,decide_eq_true_iff]
 exact ⟨⟨hp.1.1,by omega⟩,h3⟩
theorem ZeE.derived {R:List Zg} {base F:List Zb} (h:ZeE R base F) {r:Zg} (mr:r∈R) {t:Zu} (mt:t∈Zw (XT r) F) {a:Zz} (ma:a∈r.thn):∀G,Cl R base G→Z8 a t∈G:=
 fun G hG=>hG.closed r mr t (Zrn (h.low G hG) ZnZ t mt) a ma
def Res (R:List Zg) (base:List Zb) (x:List Zb × Bool):Prop:=
 (x.2=true∧ZeE R base x.1∧x.1.length≤24∧ZiK R x.1)∨(x.2=false∧x.1=[]∧Znm R base)
theorem Res.uniq {R:List Zg} {base:List Zb} {x y:List Zb × Bool} (hx:Res R base x) (hy:Res R base y):x=y:=by
 obtain ⟨F,b⟩:=x
 obtain ⟨G,c⟩:=y
 rcases hx with ⟨h1,h2,h3,h4⟩ | ⟨h1,h2,h3⟩<;>rcases hy with ⟨k1,k2,k3,k4⟩ | ⟨k1,k2,k3⟩<;>simp only at h1 h2 h3 k1 k2 k3<;>subst h1<;>subst k1
 ·have e:F=G:=Zk8 h2.asc k2.asc fun f=>⟨fun hf=>h2.low G ⟨k2.asc,k2.inc,k4⟩ f hf,fun hf=>k2.low F ⟨h2.asc,h2.inc,h4⟩ f hf⟩
  rw [e]
 ·have:=k3 F ⟨h2.asc,h2.inc,h4⟩
  omega
 ·have:=h3 G ⟨k2.asc,k2.inc,k4⟩
  omega
 ·rw [h2,k2]
structure Zi7 (R:List Zg) (base row0:List Zb) (s:List Zb × Bool):Prop where
 good:ZeE R base s.1
 len:s.1.length≤24
 sub:∀f∈row0,f∈s.1
 grow:s.2=true→row0.length<s.1.length
 same:s.2=false→s.1=row0
theorem Zuh {ρ:Type} {R:List Zg} {base row0:List Zb} {r:Zg} (mr:r∈R) (hr:ZM r=true) {rowS:List Zb} (hS:ZeE R base rowS) {t:Zu} (mt:t∈Zw (XT r) rowS) {q:ρ}
  {body:Nat→Zz→(List Zb × Bool)→Option ((List Zb × Bool) ⊕ ρ)}
  (hb:∀i a s,body i a s=(Yc s.1 (Z8 a t)).bind fun v836=>if (decide (0≤v836))=true then some (.inl s) else if (decide (24≤((s.1.length:Nat):Int)))=true then some (.inr q) else (XW s.1 (Z8 a t)).bind fun v837=>some (.inl (v837,true)))
  (s:List Zb × Bool) (h:Zi7 R base row0 s):
  (∃s',(∀fin:(List Zb × Bool)→Option ρ,Zo body fin r.thn 0 s=fin s')∧Zi7 R base row0 s'∧(s'.2=false→s.2=false∧∀a∈r.thn,Z8 a t∈row0))∨((∀fin:(List Zb × Bool)→Option ρ,Zo body fin r.thn 0 s=some q)∧Znm R base):=by
 rcases ZbG (body:=body) (fun p s'=>Zi7 R base row0 s'∧(s'.2=false→s.2=false∧∀a∈p,Z8 a t∈row0)) (fun x=>x=q∧Znm R base) r.thn s ⟨h,fun hs=>⟨hs,by simp⟩⟩ (fun p a s' ma hp hI=>by
  obtain ⟨hP,hC⟩:=hI
  rw [hb]
  obtain ⟨z,hz,hz2⟩:=ZhG s'.1 (Z8 a t)
  rw [hz,A0]
  have hok:=Zs6 hr mt ma
  have hin:=hS.derived mr mt ma
  by_cases hm:Z8 a t∈s'.1
  ·left
   have hz3:¬z<0:=fun h=>hz2.1 h hm
   rw [if_pos (by simp;omega)]
   refine ⟨s',rfl,hP,fun hs=>⟨(hC hs).1,fun b mb=>?_⟩⟩
   rcases A7.1 mb with mb | mb
   ·exact (hC hs).2 b mb
   ·simp at mb
    subst mb
    rw [←hP.same hs]
    exact hm
  ·have hz3:=hz2.2 hm
   rw [if_neg (by simp;omega)]
   by_cases h24:24≤s'.1.length
   ·right
    rw [if_pos (by simp;omega)]
    refine ⟨q,rfl,rfl,(hP.good.add hok hin).over ?_⟩
    rw [ZiS hm]
    omega
   ·left
    rw [if_neg (by simp;omega),Zpe _ _ hm (by omega) (fun f mf=>by have:=YY (hP.good.ok f mf);omega) (by have:=YY hok;omega),A0]
    refine ⟨_,rfl,⟨hP.good.add hok hin,by rw [ZiS hm];omega,fun f mf=>QP.2 (.inr (hP.sub f mf)),fun _=>?_,fun h=>by simp at h⟩,fun h=>by simp at h⟩
    rw [ZiS hm]
    have:=Zc5 (l:=row0) (m:=s'.1)
    cases hs:s'.2 with
    | true=>have:=hP.grow hs;omega
    | false=>rw [hP.same hs];omega) with ⟨s',e,h'⟩ | ⟨x,e,rfl,h'⟩
 ·exact .inl ⟨s',e,h'⟩
 ·exact .inr ⟨e,h'⟩
theorem ZtF {ρ:Type} {R:List Zg} {base row0:List Zb} {r:Zg} (mr:r∈R) (hr:ZM r=true) {q:ρ}
  {ab:Zu→Nat→Zz→(List Zb × Bool)→Option ((List Zb × Bool) ⊕ ((List Zb × Bool) ⊕ ρ))} {body:Nat→Zu→(List Zb × Bool)→Option ((List Zb × Bool) ⊕ ρ)}
  (hab:∀t i a s,ab t i a s=(Yc s.1 (Z8 a t)).bind fun v836=>if (decide (0≤v836))=true then some (.inl s) else if (decide (24≤((s.1.length:Nat):Int)))=true then some (.inr (.inr q)) else (XW s.1 (Z8 a t)).bind fun v837=>some (.inl (v837,true)))
  (hb:∀i t s,body i t s=Zo (ab t) (fun s=>some (.inl s)) r.thn 0 s)
  (s:List Zb × Bool) (h:Zi7 R base row0 s):
  (∃s',(∀fin:(List Zb × Bool)→Option ρ,Zo body fin (Zw (XT r) s.1) 0 s=fin s')∧Zi7 R base row0 s'∧(s'.2=false→s.2=false∧∀t∈Zw (XT r) row0,∀a∈r.thn,Z8 a t∈row0))∨((∀fin:(List Zb × Bool)→Option ρ,Zo body fin (Zw (XT r) s.1) 0 s=some q)∧Znm R base):=by
 rcases ZbG (body:=body) (fun p s'=>Zi7 R base row0 s'∧(s'.2=false→s.2=false∧∀t∈p,∀a∈r.thn,Z8 a t∈row0)) (fun x=>x=q∧Znm R base) (Zw (XT r) s.1) s ⟨h,fun hs=>⟨hs,by simp⟩⟩ (fun p t s' mt hp hI=>by
  obtain ⟨hP,hC⟩:=hI
  rw [hb]
  rcases Zuh mr hr h.good mt (hab t) s' hP with ⟨s2,e2,hP2,hC2⟩ | ⟨e2,ho⟩
  ·left
   refine ⟨s2,e2 _,hP2,fun hs=>?_⟩
   obtain ⟨k1,k2⟩:=hC2 hs
   obtain ⟨k3,k4⟩:=hC k1
   refine ⟨k3,fun u mu=>?_⟩
   rcases A7.1 mu with mu | mu
   ·exact k4 u mu
   ·simp at mu
    subst mu
    exact k2
  ·exact .inr ⟨q,e2 _,rfl,ho⟩) with ⟨s',e,hP,hC⟩ | ⟨x,e,rfl,h'⟩
 ·refine .inl ⟨s',e,hP,fun hs=>?_⟩
  obtain ⟨k1,k2⟩:=hC hs
  exact ⟨k1,by rw [h.same k1] at k2;exact k2⟩
 ·exact .inr ⟨e,h'⟩
theorem ZzU {ρ:Type} {R:List Zg} {base row0:List Zb} (hL:∀r∈R,ZM r=true) (h0:ZeE R base row0) (hl0:row0.length≤24) {q:ρ}
  {ab:Zu→Nat→Zz→(List Zb × Bool)→Option ((List Zb × Bool) ⊕ ((List Zb × Bool) ⊕ ((List Zb × Bool) ⊕ ρ)))} {tb:Zg→Nat→Zu→(List Zb × Bool)→Option ((List Zb × Bool) ⊕ ((List Zb × Bool) ⊕ ρ))} {body:Nat→Zg→(List Zb × Bool)→Option ((List Zb × Bool) ⊕ ρ)}
  (hab:∀t i a s,ab t i a s=(Yc s.1 (Z8 a t)).bind fun v836=>if (decide (0≤v836))=true then some (.inl s) else if (decide (24≤((s.1.length:Nat):Int)))=true then some (.inr (.inr (.inr q))) else (XW s.1 (Z8 a t)).bind fun v837=>some (.inl (v837,true)))
  (htb:∀r i t s,tb r i t s=Zo (ab t) (fun s=>some (.inl s)) r.thn 0 s)
  (hb:∀i r s,r∈R→s.1.length≤24→(∀f∈s.1,Yb f=true)→body i r s=Zo (tb r) (fun s=>some (.inl s)) (Zw (XT r) s.1) 0 s):
  (∃s',(∀fin:(List Zb × Bool)→Option ρ,Zo body fin R 0 (row0,false)=fin s')∧Zi7 R base row0 s'∧(s'.2=false→ZiK R row0))∨((∀fin:(List Zb × Bool)→Option ρ,Zo body fin R 0 (row0,false)=some q)∧Znm R base):=by
 rcases ZbG (body:=body) (fun p s'=>Zi7 R base row0 s'∧(s'.2=false→∀r∈p,∀t∈Zw (XT r) row0,∀a∈r.thn,Z8 a t∈row0)) (fun x=>x=q∧Znm R base) R (row0,false) ⟨⟨h0,hl0,fun f mf=>mf,fun h=>by simp at h,fun _=>rfl⟩,by simp⟩ (fun p r s' mr hp hI=>by
  obtain ⟨hP,hC⟩:=hI
  rw [hb _ _ _ mr hP.len hP.good.ok]
  rcases ZtF (q:=.inr q) mr (hL r mr) (hab) (htb r) s' hP with ⟨s2,e2,hP2,hC2⟩ | ⟨e2,ho⟩
  ·left
   refine ⟨s2,e2 _,hP2,fun hs=>?_⟩
   obtain ⟨k1,k2⟩:=hC2 hs
   intro u mu
   rcases A7.1 mu with mu | mu
   ·exact hC k1 u mu
   ·simp at mu
    subst mu
    exact k2
  ·exact .inr ⟨q,e2 _,rfl,ho⟩) with ⟨s',e,hP,hC⟩ | ⟨x,e,rfl,h'⟩
 ·exact .inl ⟨s',e,hP,hC⟩
 ·exact .inr ⟨e,h'⟩
theorem Zvr {R:List Zg} {base:List Zb} {body:(List Zb × Bool)→Option ((List Zb × Bool) ⊕ (List Zb × Bool))} (stop:∀row,body (row,false)=some (.inr (row,true)))
  (pass:∀row,ZeE R base row→row.length≤24→(∃s',body (row,true)=some (.inl s')∧Zi7 R base row s'∧(s'.2=false→ZiK R row))∨(body (row,true)=some (.inr ([],false))∧Znm R base)) (hbase:ZeE R base base) (hF24:base.length≤24):∃x,Yp body (base,true)=some x∧Res R base x:=by
 have key:∀n row,ZeE R base row→row.length≤24→25≤row.length+n→∃x,Yp body (row,true)=some x∧Res R base x:=by
  intro n
  induction n with
  | zero=>intro row _ h3 h4;omega
  | succ n ih=>
   intro row hg hl hn
   rcases pass row hg hl with ⟨⟨row',u⟩,e,hP,hC⟩ | ⟨e,ho⟩
   ·rw [Yh e]
    cases u with
    | true=>
     have:=hP.grow rfl
     exact ih row' hP.good hP.len (by simp only at this;omega)
    | false=>
     have hs:=hP.same rfl
     simp only at hs
     subst hs
     exact ⟨_,Z2 (stop _),.inl ⟨rfl,hP.good,hP.len,hC rfl⟩⟩
   ·exact ⟨_,Z2 e,.inr ⟨rfl,rfl,ho⟩⟩
 exact key 25 base hbase hF24 (by omega)
theorem Zhx {R:List Zg} (hR:Zbc R) (base:List Zb):(¬(Z6 R&&R.all (Y4 R))=true∨¬Z3 base=true→Yt R base=some ([],false))∧((Z6 R&&R.all (Y4 R))=true→Z3 base=true→∃x,Yt R base=some x∧Res R base x):=by
 constructor
 ·intro h
  unfold Yt
  rw [ZfU hR,A0]
  split
  ·rename_i h1
   rw [Zca,A0,if_neg (h.resolve_left (fun h=>h h1))]
  ·rfl
 ·intro h1 h2
  have hL:∀r∈R,ZM r=true:=fun r mr=>by
   rw [A3] at h1
   have:=AF.1 h1.2 r mr
   unfold Y4 at this
   rw [A3] at this
   exact this.1
  have hrl:∀r∈R,r.cond.length≤4:=fun r mr=>by
   have:=hL r mr
   unfold ZM at this
   simp only[A3] at this
   exact (XB this.1.1).1
  obtain ⟨hF24,hFF⟩:=QQ h2
  have hbase:ZeE R base base:=⟨ZcT h2,hFF,fun f mf=>mf,fun G hG f mf=>hG.base f mf⟩
  unfold Yt
  rw [ZfU hR,A0,if_pos h1,Zca,A0,if_pos h2,ZgF _ (by omega) (fun f mf=>by have:=YY (hFF f mf);omega),A0]
  refine Zvr (fun row=>rfl) (fun row hg hl=>?_) hbase hF24
  have hgen:=ZzU (ρ:=(List Zb × Bool) ⊕ (List Zb × Bool)) (q:=.inr ([],false)) hL hg hl
   (ab:=fun t _ a s=>(Yc s.1 (Z8 a t)).bind fun v836=>if (decide (0≤v836))=true then some (.inl s) else if (decide (24≤((s.1.length:Nat):Int)))=true then some (.inr (.inr (.inr (.inr ([],false))))) else (XW s.1 (Z8 a t)).bind fun v837=>some (.inl (v837,true)))
   (tb:=fun r _ t s=>Zo (fun _ a s=>(Yc s.1 (Z8 a t)).bind fun v836=>if (decide (0≤v836))=true then some (.inl s) else if (decide (24≤((s.1.length:Nat):Int)))=true then some (.inr (.inr (.inr (.inr ([],false))))) else (XW s.1 (Z8 a t)).bind fun v837=>some (.inl (v837,true))) (fun s=>some (.inl s)) r.thn 0 s)
   (body:=fun _ r s=>(YP r).bind fun v757=>(QU v757 s.1).bind fun v758=>Zo (fun _ t s=>Zo (fun _ a s=>(XL a.pattern t.binding).bind fun v835=>(Yc s.1 v835.1).bind fun v836=>if (decide (0≤v836))=true then some (.inl s) else if (decide (24≤((s.1.length:Nat):Int)))=true then some (.inr (.inr (.inr (.inr ([],false))))) else (XW s.1 v835.1).bind fun v837=>some (.inl (v837,true))) (fun s=>some (.inl s)) r.thn 0 s) (fun s=>some (.inl s)) v758 0 s)
   (fun _ _ _ _=>rfl) (fun _ _ _ _=>rfl) (fun i r s mr hs hok=>by
    show (YP r).bind _=_
    rw [ZbN r (by have:=hrl r mr;omega),A0,ZeA _ _ (by have:=ZdL r;have:=hrl r mr;omega) hs (fun f mf=>YY (hok f mf)),A0]
    simp only[Zcd,A0]
    rfl)
  rcases hgen with ⟨s',e,hP,hC⟩ | ⟨e,ho⟩
  ·exact .inl ⟨s',e (fun s=>some (.inl s)),hP,hC⟩
  ·exact .inr ⟨e (fun s=>some (.inl s)),ho⟩
structure Zmt (R:List Zg) (base l:List Zb) (row:List Zb):Prop where
 good:ZeE R base row
 sub:∀f∈l,f∈row
theorem ZBC {ρ:Type} {R:List Zg} {base l:List Zb} {r:Zg} (mr:r∈R) (hr:ZM r=true) (hS:ZeE R base l) {t:Zu} (mt:t∈Zw (XT r) l) {N:Nat} (hN:N≤1000000) (ht2:r.thn.length≤2)
  {body:Nat→Zz→List Zb→Option (List Zb ⊕ ρ)} (hb:∀i a row,body i a row=(YX row (Z8 a t)).bind fun v=>some (.inl v)) (row:List Zb) (h:Zmt R base l row) (hlen:row.length≤N):
  ∃row',(∀fin:List Zb→Option ρ,Zo body fin r.thn 0 row=fin row')∧Zmt R base l row'∧row'.length≤N+2∧(∀f∈row,f∈row')∧∀a∈r.thn,Z8 a t∈row':=by
 obtain ⟨row',e,h1,h2,h3,h4⟩:=ZeL (body:=body) (fun p row'=>Zmt R base l row'∧row'.length≤N+p.length∧(∀f∈row,f∈row')∧∀a∈p,Z8 a t∈row') r.thn row ⟨h,by simpa using hlen,fun f mf=>mf,by simp⟩ (fun p a row' ma hp hI=>by
  obtain ⟨h1,h2,h3,h4⟩:=hI
  have hok:=Zs6 hr mt ma
  rw [hb,ZlP _ _ (by omega) (fun f mf=>by have:=YY (h1.good.ok f mf);omega) (by have:=YY hok;omega),A0]
  refine ⟨_,rfl,⟨h1.good.add hok (hS.derived mr mt ma),fun f mf=>QP.2 (.inr (h1.sub f mf))⟩,?_,fun f mf=>QP.2 (.inr (h3 f mf)),fun b mb=>?_⟩
  ·have:=Zmb (Z8 a t) row'
   simp only[AX,Aw]
   omega
  ·rcases A7.1 mb with mb | mb
   ·exact QP.2 (.inr (h4 b mb))
   ·simp at mb
    subst mb
    exact QP.2 (.inl rfl))
 exact ⟨row',e,h1,by omega,h3,h4⟩
theorem ZBK {ρ:Type} {R:List Zg} {base l:List Zb} {r:Zg} (mr:r∈R) (hr:ZM r=true) (hS:ZeE R base l) (hl24:l.length≤24) (hc4:r.cond.length≤4) (ht2:r.thn.length≤2)
  {body:Nat→Zu→List Zb→Option (List Zb ⊕ ρ)} (hb:∀i t row,t∈Zw (XT r) l→body i t row=Zo (fun (_:Nat) (a:Zz) row=>(YX row (Z8 a t)).bind fun v=>(some (.inl v):Option (List Zb ⊕ (List Zb ⊕ ρ)))) (fun row=>some (.inl row)) r.thn 0 row) (row:List Zb) (h:Zmt R base l row) (hlen:row.length≤24):
  ∃row',(∀fin:List Zb→Option ρ,Zo body fin (Zw (XT r) l) 0 row=fin row')∧Zmt R base l row'∧(∀f∈row,f∈row')∧∀t∈Zw (XT r) l,∀a∈r.thn,Z8 a t∈row':=by
 have hn:=ZaO l hl24 (XT r) (by have:=ZdL r;omega)
 obtain ⟨row',e,h1,h2,h3,h4⟩:=ZeL (body:=body) (fun p row'=>Zmt R base l row'∧row'.length≤24+2 * p.length∧(∀f∈row,f∈row')∧∀t∈p,∀a∈r.thn,Z8 a t∈row') (Zw (XT r) l) row ⟨h,by simpa using hlen,fun f mf=>mf,by simp⟩ (fun p t row' mt hp hI=>by
  obtain ⟨h1,h2,h3,h4⟩:=hI
  rw [hb _ _ _ mt]
  obtain ⟨row2,e2,k1,k2,k3,k4⟩:=ZBC (ρ:=List Zb ⊕ ρ) (body:=fun (_:Nat) (a:Zz) row=>(YX row (Z8 a t)).bind fun v=>some (.inl v)) mr hr hS mt (N:=24+2 * p.length) (by omega) ht2 (fun _ _ _=>rfl) row' h1 h2
  refine ⟨row2,e2 _,k1,by simp only[AX,Aw];omega,fun f mf=>k3 f (h3 f mf),fun u mu a ma=>?_⟩
  rcases A7.1 mu with mu | mu
  ·exact k3 _ (h4 u mu a ma)
  ·simp at mu
   subst mu
   exact k4 a ma)
 exact ⟨row',e,h1,h3,h4⟩
theorem Zhv {R:List Zg} (hR:Zbc R) (base:List Zb) (hb20:base.length≤1048576):(¬(Z6 R&&R.all (Y4 R))=true∨¬Z3 base=true→Yu R base=some ([],false))∧((Z6 R&&R.all (Y4 R))=true→Z3 base=true→∃x,Yu R base=some x∧Res R base x):=by
 constructor
 ·intro h
  unfold Yu
  rw [ZfN hR,A0]
  split
  ·rename_i h1
   rw [ZhY _ hb20,A0,if_neg (h.resolve_left (fun h=>h h1))]
  ·rfl
 ·intro h1 h2
  have hL:∀r∈R,ZM r=true:=fun r mr=>by
   rw [A3] at h1
   have:=AF.1 h1.2 r mr
   unfold Y4 at this
   rw [A3] at this
   exact this.1
  have hrl:∀r∈R,r.cond.length≤4∧r.thn.length≤2:=fun r mr=>by
   have:=hL r mr
   unfold ZM at this
   simp only[A3] at this
   exact XB this.1.1
  obtain ⟨hF24,hFF⟩:=QQ h2
  have hbase:ZeE R base base:=⟨ZcT h2,hFF,fun f mf=>mf,fun G hG f mf=>hG.base f mf⟩
  unfold Yu
  rw [ZfN hR,A0,if_pos h1,ZhY _ hb20,A0,if_pos h2,Zey _ (by omega) (fun f mf=>by have:=YY (hFF f mf);omega),A0]
  refine Zvr (fun row=>rfl) (fun l hg hl=>?_) hbase hF24
  rcases ZbG (σ:=List Zb) (ρ:=(List Zb × Bool) ⊕ (List Zb × Bool)) (body:=fun (_:Nat) (r:Zg) row=>(XJ r).bind fun v745=>(ZaF v745 l).bind fun v746=>Zo (fun _ t row=>Zo (fun _ a row=>(Yy a.pattern t.binding).bind fun v802=>(YX row v802.1).bind fun v803=>some (.inl v803)) (fun row=>some (.inl row)) r.thn 0 row) (fun row=>if (decide (24<((row.length:Nat):Int)))=true then some (.inr (.inr ([],false))) else some (.inl row)) v746 0 row)
   (fun p row=>Zmt R base l row∧row.length≤24∧∀r∈p,∀t∈Zw (XT r) l,∀a∈r.thn,Z8 a t∈row) (fun x=>x=.inr ([],false)∧Znm R base) R l ⟨⟨hg,fun f mf=>mf⟩,hl,by simp⟩ (fun p r row mr hp hI=>by
    obtain ⟨i1,i2,i3⟩:=hI
    obtain ⟨hc4,ht2⟩:=hrl r mr
    obtain ⟨row',e,k1,k3,k4⟩:=ZBK (ρ:=List Zb ⊕ ((List Zb × Bool) ⊕ (List Zb × Bool))) (body:=fun (_:Nat) (t:Zu) row=>Zo (fun _ a row=>(Yy a.pattern t.binding).bind fun v802=>(YX row v802.1).bind fun v803=>some (.inl v803)) (fun row=>some (.inl row)) r.thn 0 row) mr (hL r mr) hg hl hc4 ht2 (fun i t row mt=>by
     have hb6:=X2 (Qp l _ t mt).bind
     have e1:∀p,Yy p t.binding=some (YE (Yf p t.binding)):=fun p=>Zez p t.binding (by omega)
     simp only[e1,A0]
     rfl) row i1 i2
    simp only[Ze3 r (by omega),A0,ZhC (XT r) l (by have:=ZdL r;omega) hl (fun f mf=>YY (hg.ok f mf)),e]
    by_cases h24:24<row'.length
    ·rw [if_pos (by simp;omega)]
     exact .inr ⟨_,rfl,rfl,k1.good.over (by omega)⟩
    ·rw [if_neg (by simp;omega)]
     refine .inl ⟨_,rfl,k1,by omega,fun u mu t mt a ma=>?_⟩
     rcases A7.1 mu with mu | mu
     ·exact k3 _ (i3 u mu t mt a ma)
     ·simp at mu
      subst mu
      exact k4 t mt a ma) with ⟨row,e,hP,hlen,hC⟩ | ⟨x,e,rfl,ho⟩
  ·left
   refine ⟨_,e (fun row=>some (.inl (row,decide (((l.length:Nat):Int)<((row.length:Nat):Int))))),?_⟩
   by_cases hlt:l.length<row.length
   ·have hd:decide (((l.length:Nat):Int)<((row.length:Nat):Int))=true:=by simpa using hlt
    rw [hd]
    exact ⟨⟨hP.good,hlen,hP.sub,fun _=>hlt,fun h=>by simp at h⟩,fun h=>by simp at h⟩
   ·have hd:decide (((l.length:Nat):Int)<((row.length:Nat):Int))=false:=by simpa using hlt
    have hback:=Zso (ZdT hg.asc) hP.sub (by omega)
    have heq:row=l:=Zk8 hP.good.asc hg.asc fun f=>⟨hback f,hP.sub f⟩
    rw [hd]
    exact ⟨⟨hP.good,hlen,hP.sub,fun h=>by simp at h,fun _=>heq⟩,fun _ r mr t mt a ma=>hback _ (hC r mr t mt a ma)⟩
  ·exact .inr ⟨e (fun row=>some (.inl (row,decide (((l.length:Nat):Int)<((row.length:Nat):Int))))),ho⟩
theorem Zij {R:List Zg} (hR:Zbc R) (base:List Zb) (hb20:base.length≤1048576):∃x,Yu R base=some x∧Yt R base=some x∧(x=([],false)∨(Z6 R&&R.all (Y4 R))=true∧Z3 base=true∧Res R base x):=by
 obtain ⟨s1,s2⟩:=Zhv hR base hb20
 obtain ⟨i1,i2⟩:=Zhx hR base
 by_cases h1:(Z6 R&&R.all (Y4 R))=true
 ·by_cases h2:Z3 base=true
  ·obtain ⟨x,e1,r1⟩:=s2 h1 h2
   obtain ⟨y,e2,r2⟩:=i2 h1 h2
   rw [←r1.uniq r2] at e2
   exact ⟨x,e1,e2,.inr ⟨h1,h2,r1⟩⟩
  ·exact ⟨_,s1 (.inr h2),i1 (.inr h2),.inl rfl⟩
 ·exact ⟨_,s1 (.inl h1),i1 (.inl h1),.inl rfl⟩
end
def Zc6 (m n:Nat):Prop:=m &&& n=m
theorem Zf7 {m n:Nat}:Zc6 m n↔∀i,m.testBit i=true→n.testBit i=true:=by
 constructor
 ·intro h i hi
  have:=congrArg (fun z=>z.testBit i) h
  simp only[BE,hi,AP] at this
  exact this
 ·intro h
  refine Nat.eq_of_testBit_eq fun i=>?_
  rw [BE]
  cases hm:m.testBit i with
  | false=>rfl
  | true=>rw [h i hm];rfl
theorem Znu (m:Nat):Zc6 m m:=Zf7.2 fun _ h=>h
theorem Zfr {a b c:Nat} (h1:Zc6 a b) (h2:Zc6 b c):Zc6 a c:=Zf7.2 fun i h=>Zf7.1 h2 i (Zf7.1 h1 i h)
theorem Zo0 {m n:Nat} (h:Zc6 m n):m≤n:=by
 have:=Nat.and_le_right (n:=m) (m:=n)
 rw [show m &&& n=m from h] at this
 exact this
theorem Zny {a b:Nat} (h1:Zc6 a b) (h2:Zc6 b a):a=b:=Nat.le_antisymm (Zo0 h1) (Zo0 h2)
def Zrk (A:Nat→Prop) (y:Nat):Prop:=A y∧∀t,A t→Zc6 t y→t=y
theorem Zwc {A:Nat→Prop}:∀(n a:Nat),a≤n→A a→∃b,Zrk A b∧Zc6 b a
 | n,a,hn,ha=>by
  by_cases h:∃t,A t∧Zc6 t a∧t≠a
  ·obtain ⟨t,h1,h2,h3⟩:=h
   have hlt:t<a:=Nat.lt_of_le_of_ne (Zo0 h2) h3
   cases n with
   | zero=>omega
   | succ n=>
    obtain ⟨b,h4,h5⟩:=Zwc n t (by omega) h1
    exact ⟨b,h4,Zfr h5 h2⟩
  ·exact ⟨a,⟨ha,fun t ht hp=>Classical.byContradiction fun hne=>h ⟨t,ht,hp,hne⟩⟩,Znu a⟩
theorem ZzC {A:Nat→Prop} {a:Nat} (h:A a):∃b,Zrk A b∧Zc6 b a:=Zwc a a (AK _) h
def Cof (A B:Nat→Prop):Prop:=∀y,A y→∃x,B x∧Zc6 x y
theorem Cof.of {A B:Nat→Prop} (h:∀y,A y→B y):Cof A B:=fun y hy=>⟨y,h y hy,Znu y⟩
theorem Zw3 {A B:Nat→Prop} (h1:Cof A B) (h2:Cof B A):∀y,Zrk A y↔Zrk B y:=by
 have key:∀{A B:Nat→Prop},Cof A B→Cof B A→∀y,Zrk A y→Zrk B y:=by
  intro A B h1 h2 y hy
  obtain ⟨x,hx,p⟩:=h1 y hy.1
  obtain ⟨x',hx',p'⟩:=h2 x hx
  have e:x'=y:=hy.2 x' hx' (Zfr p' p)
  subst e
  have e2:=Zny p p'
  subst e2
  refine ⟨hx,fun t ht pt=>?_⟩
  obtain ⟨u,hu,pu⟩:=h2 t ht
  have e3:=hy.2 u hu (Zfr pu pt)
  subst e3
  exact Zny pt pu
 exact fun y=>⟨key h1 h2 y,key h2 h1 y⟩
def meets (a b:Nat):Prop:=a &&& b≠0
theorem ZJl {s n i:Nat} (h:s<2 ^ n) (hi:s.testBit i=true):i<n:=by
 refine Nat.lt_of_not_le fun hn=>?_
 rw [Nat.testBit_lt_two_pow (BF h (Aa (by omega) hn))] at hi
 simp at hi
def Zu2 (r:List Int) (A:Nat→Prop):Prop:=r.Pairwise (·<·)∧∀y:Int,y∈r↔0≤y∧Zrk A y.toNat
theorem ZmI:∀{a b:List Int},a.Pairwise (·<·)→b.Pairwise (·<·)→(∀x,x∈a↔x∈b)→a=b
 | [],[],_,_,_=>rfl
 | [],y::b,_,_,h=>by have:=(h y).2 (by simp);simp at this
 | x::a,[],_,_,h=>by have:=(h x).1 (by simp);simp at this
 | x::a,y::b,ha,hb,h=>by
  rw [AD] at ha hb
  have hxy:x=y:=by
   have h1:=(h x).1 (by simp)
   have h2:=(h y).2 (by simp)
   rcases A4.1 h1 with e | h1
   ·exact e
   ·rcases A4.1 h2 with e | h2
    ·exact e.symm
    ·have:=hb.1 x h1;have:=ha.1 y h2;omega
  subst hxy
  rw [ZmI ha.2 hb.2 fun z=>?_]
  constructor
  ·intro hz
   rcases A4.1 ((h z).1 (by simp [hz])) with e | hz'
   ·subst e;have:=ha.1 z hz;omega
   ·exact hz'
  ·intro hz
   rcases A4.1 ((h z).2 (by simp [hz])) with e | hz'
   ·subst e;have:=hb.1 z hz;omega
   ·exact hz'
def ZJo (l:List Int) (n:Nat):Prop:=((n:Nat):Int)∈l
theorem ZHZ {m:Nat} (h:m≤9223372036854775807):(BitVec.ofInt 64 ((m:Nat):Int)).toNat=m:=by
 rw [BitVec.ofInt_natCast,BitVec.toNat_ofNat]
 exact Nat.mod_eq_of_lt (by omega)
theorem ZHD {m n:Nat} (hm:m≤9223372036854775807) (hn:n≤9223372036854775807):ZlF .i64 ((m:Nat):Int) ((n:Nat):Int)=((m &&& n:Nat):Int):=by
 show IntKind.i64.wrap (((BitVec.ofInt 64 ((m:Nat):Int) &&& BitVec.ofInt 64 ((n:Nat):Int)).toNat:Nat):Int)=_
 rw [BitVec.toNat_and,ZHZ hm,ZHZ hn]
 have:=Nat.and_le_left (n:=m) (m:=n)
 exact YW (by omega) (by omega)
def Fit (l:List Int):Prop:=∀x∈l,x≤9223372036854775807
def ZGq (a b:Int):Bool:=decide (0≤a)&&(decide (0≤b)&&(ZlF .i64 a b==a))
theorem ZIz (a b:Int):ZGC a b=some (ZGq a b):=by
 unfold ZGC ZGq
 cases decide (0≤a)<;>cases decide (0≤b)<;>simp
theorem ZIu (a b:Int):ZGK a b=some (ZGq a b):=by
 unfold ZGK ZGq
 cases decide (0≤a)<;>cases decide (0≤b)<;>simp
theorem ZH0 {a b:Int} (ha:a≤9223372036854775807) (hb:b≤9223372036854775807):ZGq a b=true↔0≤a∧0≤b∧Zc6 a.toNat b.toNat:=by
 simp only[ZGq,A3,decide_eq_true_eq,beq_iff_eq]
 constructor
 ·rintro ⟨h1,h2,h3⟩
  refine ⟨h1,h2,?_⟩
  obtain ⟨m,rfl⟩:=AU h1
  obtain ⟨n,rfl⟩:=AU h2
  rw [ZHD (by omega) (by omega)] at h3
  show m &&& n=m
  omega
 ·rintro ⟨h1,h2,h3⟩
  refine ⟨h1,h2,?_⟩
  obtain ⟨m,rfl⟩:=AU h1
  obtain ⟨n,rfl⟩:=AU h2
  rw [ZHD (by omega) (by omega)]
  have h4:m &&& n=m:=h3
  rw [h4]
def ZxR (l:List Int) (x:Int):Bool:=l.any fun y=>y==x
theorem ZqQ {l:List Int} {x:Int}:ZxR l x=true↔x∈l:=by simp [ZxR]
theorem Zqf (l:List Int) (x:Int):Zgz l x=some (ZxR l x):=by
 unfold Zgz ZxR
 rw [Zco (p:=fun y=>y==x) (r:=true)]
 ·cases l.any fun y=>y==x<;>simp
 ·intro i y _
  cases y==x<;>simp
def ZGA (l:List Int) (x:Int):Bool:=decide (0≤x)&&l.all fun t=>t==x||!ZGq t x
theorem ZH4 {l:List Int} {x:Int} (hf:Fit l) (hx:x∈l):ZGA l x=true↔0≤x∧Zrk (ZJo l) x.toNat:=by
 simp only[ZGA,A3,decide_eq_true_eq,AF,Am,beq_iff_eq,Ai]
 constructor
 ·rintro ⟨h0,h⟩
  obtain ⟨n,rfl⟩:=AU h0
  refine ⟨h0,hx,fun t ht hp=>?_⟩
  rcases h _ ht with e | e
  ·show t=n
   omega
  ·have:=(ZH0 (hf _ ht) (hf _ hx)).2 ⟨by omega,h0,by simpa using hp⟩
   rw [e] at this
   simp at this
 ·rintro ⟨h0,h⟩
  refine ⟨h0,fun t ht=>?_⟩
  cases hp:ZGq t x with
  | false=>exact .inr rfl
  | true=>
   obtain ⟨h1,h2,h3⟩:=(ZH0 (hf _ ht) (hf _ hx)).1 hp
   obtain ⟨m,rfl⟩:=AU h1
   have:=h.2 m ht (by simpa using h3)
   left
   omega
theorem ZJr {α:Type} (p:α→Bool) (a b:Bool):∀(l:List α) (c:Bool),l.foldl (fun (s:Bool × Bool × Bool) t=>(s.1,s.2.1,s.2.2&&p t)) (a,b,c)=(a,b,c&&l.all p)
 | [],c=>by simp
 | x::l,c=>by rw [AB,ZJr p a b l];simp [BG]
theorem ZJb {α:Type} (p:α→Bool):∀(l:List α) (c:Bool),l.foldl (fun s t=>s&&p t) c=(c&&l.all p)
 | [],c=>by simp
 | x::l,c=>by rw [AB,ZJb p l];simp [BG]
def ZF0 (l:List Int) (row:List Int) (x:Int):List Int:=if ZGA l x&&!ZxR row x then row++[x] else row
theorem ZHO (l row:List Int) (x:Int):(ZF0 l row x).length≤row.length+1:=by
 unfold ZF0;split<;>simp
theorem ZGE (l:List Int):∀(q row:List Int),row.Nodup→(q.foldl (ZF0 l) row).Nodup∧∀y,y∈q.foldl (ZF0 l) row↔y∈row∨(y∈q∧ZGA l y=true)
 | [],row,h=>⟨h,fun y=>by simp⟩
 | x::q,row,h=>by
  have h1:(ZF0 l row x).Nodup∧∀y,y∈ZF0 l row x↔y∈row∨(y=x∧ZGA l x=true):=by
   unfold ZF0
   split
   ·rename_i hc
    simp only[A3,Ai] at hc
    have hn:x∉row:=fun hm=>by rw [ZqQ.2 hm] at hc;simp at hc
    refine ⟨by rw [BH];exact ⟨h,by simp,fun a ha b hb=>by simp at hb;subst hb;exact fun e=>hn (e ▸ ha)⟩,fun y=>by simp [hc.1]⟩
   ·rename_i hc
    refine ⟨h,fun y=>⟨.inl,?_⟩⟩
    rintro (hy | ⟨rfl,hg⟩)
    ·exact hy
    ·rw [hg] at hc
     simp only[AP,Ai,Bool.not_eq_false] at hc
     exact ZqQ.1 hc
  obtain ⟨h2,h3⟩:=ZGE l q _ h1.1
  refine ⟨h2,fun y=>?_⟩
  rw [AB,h3,h1.2]
  constructor
  ·rintro ((h | ⟨rfl,h⟩) | h)
   ·exact .inl h
   ·exact .inr ⟨by simp,h⟩
   ·exact .inr ⟨by simp [h.1],h.2⟩
  ·rintro (h | ⟨hm,h⟩)
   ·exact .inl (.inl h)
   ·rcases A4.1 hm with rfl | hm
    ·exact .inl (.inr ⟨rfl,h⟩)
    ·exact .inr ⟨hm,h⟩
theorem Zua {l:List Int} {x:Int}:x∈Zkx l↔x∈l:=(BI l _).mem_iff
theorem Zuf {l:List Int} (h:l.Nodup):(Zkx l).Pairwise (·<·):=by
 have h1:(Zkx l).Pairwise fun x y=>decide (x≤y)=true:=List.pairwise_mergeSort (fun a b c h1 h2=>by simp at *;omega) (fun a b=>by simp;omega) l
 have h2:(Zkx l).Nodup:=(BI l _).nodup_iff.2 h
 have h3:(Zkx l).Pairwise (·≠·):=h2
 exact (h1.and h3).imp fun ⟨a,b⟩=>by simp at a;omega
theorem ZGa (l:List Int) (h:l.length≤1073741824):ZFQ l=some (Zkx (l.foldl (ZF0 l) [])):=by
 unfold ZFQ
 rw [YM (f:=ZF0 l) (fun j row=>row.length≤j) (by simp)]
 ·have hl:∀(q row:List Int),(q.foldl (ZF0 l) row).length≤row.length+q.length:=by
   intro q
   induction q with
   | nil=>intro row;simp
   | cons x q ih=>intro row;rw [AB];have:=ih (ZF0 l row x);have:=ZHO l row x;simp;omega
  have:=hl l []
  simp only[ZfG]
  rw [Zh _ (by simp at this;omega)]
  rfl
 ·intro j x row mx hj hl hI
  refine ⟨?_,by have:=ZHO l row x;omega⟩
  cases h0:decide (0≤x) with
  | false=>
   simp only[AE,if_false]
   rw [Zif (f:=fun s _=>s) (fun _ _ _ _=>rfl)]
   simp [ZF0,ZGA,h0]
  | true=>
   simp only[if_true,Zqf,A0]
   rw [Zif (f:=fun (s:Bool × Bool × Bool) t=>(s.1,s.2.1,s.2.2&&(t==x||!ZGq t x))),ZJr]
   ·simp only[ZF0,ZGA,h0,AP]
    cases ZxR row x<;>cases l.all (fun t=>t==x||!ZGq t x)<;>simp
    rw [Zh _ (by omega)]
   ·rintro i t ⟨a,b,c⟩ _
    cases c<;>simp only[AE,if_false,if_true,Ax,AP]
    cases t==x<;>simp [ZIz]
theorem ZHr (l:List Int) (h:l.length≤1073741824) (hf:Fit l):∃r,ZFQ l=some r∧Zu2 r (ZJo l)∧(∀y∈r,y∈l)∧r.length≤l.length:=by
 obtain ⟨h1,h2⟩:=ZGE l l [] BJ
 have hm:∀y∈Zkx (l.foldl (ZF0 l) []),y∈l:=fun y hy=>by
  have:=(h2 y).1 (Zua.1 hy)
  simp at this
  exact this.1
 refine ⟨_,ZGa l h,⟨Zuf h1,fun y=>?_⟩,hm,?_⟩
 ·rw [Zua,h2]
  constructor
  ·rintro (h | ⟨hy,hg⟩)
   ·simp at h
   ·exact (ZH4 hf hy).1 hg
  ·rintro ⟨h0,hg⟩
   have hy:y∈l:=by
    have:=hg.1
    unfold ZJo at this
    rwa [AR h0] at this
   exact .inr ⟨hy,(ZH4 hf hy).2 ⟨h0,hg⟩⟩
 ·have h3:(Zkx (l.foldl (ZF0 l) [])).Nodup:=(Zuf h1).imp fun h=>by omega
  exact h3.length_le_of_subset hm
def Zd5:List Int→Int→List Int
 | [],x=>[x]
 | y::l,x=>if y<x then y::Zd5 l x else if y=x then y::l else x::y::l
theorem ZpM (l:List Int) (x:Int) (h:l.length+1≤1073741824):Zgk l x=some (Zd5 l x):=by
 unfold Zgk
 refine (Zal (fun l _ (st:List Int × Bool)=>some (if st.2=true then st.1++l else st.1++Zd5 l x)) (fun l _ (st:List Int × Bool)=>st.1.length+l.length+(if st.2=true then 0 else 1)≤1073741824) ?_ ?_ l 0 ([],false) (by simpa using h)).trans (by simp)
 ·rintro i ⟨row,d⟩ hI
  cases d with
  | true=>simp
  | false=>simp only[AE,if_false,Zd5];simp at hI;rw [Zh _ (by omega)]
 ·rintro y l i ⟨row,d⟩ hI
  left
  cases d with
  | true=>
   simp at hI
   exact ⟨(row++[y],true),by simp only[if_true];rw [Zh _ (by omega)],by simp;omega,by simp⟩
  | false=>
   simp at hI
   by_cases h1:x≤y
   ·by_cases h2:y=x
    ·subst h2
     exact ⟨(row++[y],true),by simp;rw [Zh _ (by omega)],by simp;omega,by simp [Zd5]⟩
    ·exact ⟨(row++[x]++[y],true),by simp [h1,h2];rw [Zh _ (by omega),Zh _ (by omega)],by simp;omega,by simp [Zd5,h2,show ¬y<x by omega]⟩
   ·exact ⟨(row++[y],false),by simp [h1];rw [Zh _ (by omega)],by simp;omega,by simp [Zd5,show y<x by omega]⟩
theorem Zk9 {x y:Int}:∀{l:List Int},y∈Zd5 l x↔y=x∨y∈l
 | []=>by simp [Zd5]
 | z::l=>by
  simp only[Zd5]
  split
  ·rw [A4,Zk9,A4]
   constructor
   ·rintro (h | h | h)<;>simp [h]
   ·rintro (h | h | h)<;>simp [h]
  ·split
   ·rename_i h;subst h;simp
   ·simp
theorem Zqo {x:Int}:∀{l:List Int},l.Pairwise (·<·)→(Zd5 l x).Pairwise (·<·)
 | [],_=>by simp [Zd5]
 | z::l,h=>by
  rw [AD] at h
  simp only[Zd5]
  split
  ·rw [AD]
   refine ⟨fun y hy=>?_,Zqo h.2⟩
   rcases Zk9.1 hy with rfl | hy
   ·assumption
   ·exact h.1 y hy
  ·split
   ·rw [AD];exact h
   ·rw [AD,AD]
    refine ⟨fun y hy=>?_,h⟩
    rcases A4.1 hy with rfl | hy
    ·omega
    ·have:=h.1 y hy;omega
theorem Zp1 (x:Int):∀l:List Int,(Zd5 l x).length≤l.length+1
 | []=>by simp [Zd5]
 | z::l=>by
  simp only[Zd5]
  split
  ·have:=Zp1 x l;simp;omega
  ·split<;>simp
def ZGl (l:List Int) (row:List Int) (x:Int):List Int:=if ZGA l x then Zd5 row x else row
theorem ZIL (l row:List Int) (x:Int):(ZGl l row x).length≤row.length+1:=by
 unfold ZGl
 split
 ·exact Zp1 x row
 ·omega
theorem ZHd (l:List Int):∀(q row:List Int),row.Pairwise (·<·)→(q.foldl (ZGl l) row).Pairwise (·<·)∧∀y,y∈q.foldl (ZGl l) row↔y∈row∨(y∈q∧ZGA l y=true)
 | [],row,h=>⟨h,fun y=>by simp⟩
 | x::q,row,h=>by
  have h1:(ZGl l row x).Pairwise (·<·)∧∀y,y∈ZGl l row x↔y∈row∨(y=x∧ZGA l x=true):=by
   unfold ZGl
   split
   ·rename_i hc
    exact ⟨Zqo h,fun y=>by rw [Zk9];simp [hc,or_comm]⟩
   ·rename_i hc
    exact ⟨h,fun y=>by simp [hc]⟩
  obtain ⟨h2,h3⟩:=ZHd l q _ h1.1
  refine ⟨h2,fun y=>?_⟩
  rw [AB,h3,h1.2]
  constructor
  ·rintro ((h | ⟨rfl,h⟩) | h)
   ·exact .inl h
   ·exact .inr ⟨by simp,h⟩
   ·exact .inr ⟨by simp [h.1],h.2⟩
  ·rintro (h | ⟨hm,h⟩)
   ·exact .inl (.inl h)
   ·rcases A4.1 hm with rfl | hm
    ·exact .inl (.inr ⟨rfl,h⟩)
    ·exact .inr ⟨hm,h⟩
theorem ZHp (l:List Int) (h:l.length+1≤1073741824):ZFS l=some (l.foldl (ZGl l) []):=by
 unfold ZFS
 rw [YM (f:=ZGl l) (fun j row=>row.length≤j) (by simp)]
 intro j x row mx hj hl hI
 refine ⟨?_,by have:=ZIL l row x;omega⟩
 rw [Zif (f:=fun s t=>s&&(t==x||!ZGq t x)),ZJb]
 ·rw [show (decide (0≤x)&&l.all fun t=>t==x||!ZGq t x)=ZGA l x from rfl]
  unfold ZGl
  cases ZGA l x with
  | false=>simp
  | true=>simp only[if_true];rw [ZpM row x (by omega)];rfl
 ·intro i t c _
  cases c<;>simp only[AE,if_false,if_true,Ax,AP]
  rw [ZIu]
  cases ZGq t x<;>simp
theorem ZHB (l:List Int) (h:l.length+1≤1073741824):ZFS l=ZFQ l:=by
 rw [ZHp l h,ZGa l (by omega)]
 obtain ⟨a1,a2⟩:=ZHd l l [] Ah
 obtain ⟨b1,b2⟩:=ZGE l l [] BJ
 rw [ZmI a1 (Zuf b1) fun y=>by rw [Zua,a2,b2]]
section
open Classical
section
variable {α σ ρ:Type} {body:Nat→α→σ→Option (σ ⊕ ρ)} {fin:σ→Option ρ}
theorem Zla (st:List α→σ) (ok:List α→Prop) [DecidablePred ok] (q:ρ) (l:List α) (h0:ok []) (mono:∀p r,l=p++r→ok l→ok p)
  (h:∀p x r,l=p++x::r→ok p→body p.length x (st p)=if ok (p++[x]) then some (.inl (st (p++[x]))) else some (.inr q)):Zo body fin l 0 (st [])=if ok l then fin (st l) else some q:=by
 have key:∀(r pre:List α),l=pre++r→ok pre→Zo body fin r pre.length (st pre)=if ok l then fin (st l) else some q:=by
  intro r
  induction r with
  | nil=>intro pre e hp;rw [B8] at e;subst e;rw [if_pos hp];rfl
  | cons x r ih=>
   intro pre e hp
   have hx:=h pre x r e hp
   have e2:l=(pre++[x])++r:=by rw [e];simp
   by_cases hk:ok (pre++[x])
   ·rw [if_pos hk] at hx
    rw [ZX hx]
    simpa using ih (pre++[x]) e2 hk
   ·rw [if_neg hk] at hx
    rw [Yi hx,if_neg fun hl=>hk (mono _ _ e2 hl)]
 exact key l [] rfl h0
end
noncomputable def Zr4:List Zb→Zb→Nat→Int
 | [],_,_=>-1
 | x::l,f,i=>if x=f then ((i:Nat):Int) else Zr4 l f (i+1)
noncomputable def ZY (l:List Zb) (f:Zb):Int:=Zr4 l f 0
theorem Zam (l:List Zb) (f:Zb):Yc l f=some (ZY l f):=by
 unfold Yc ZY
 generalize 0=i
 induction l generalizing i with
 | nil=>rfl
 | cons x l ih=>
  by_cases hx:x=f
  ·rw [Yi (r:=((i:Nat):Int)) (by rw [Zb4,A0,if_pos (decide_eq_true hx)])]
   simp [Zr4,hx]
  ·rw [ZX (s':=()) (by rw [Zb4,A0,if_neg (by simpa using hx)]),ih (i+1)]
   simp [Zr4,hx]
theorem Zb5 (l:List Zb) (f:Zb):QT l f=some (ZY l f):=Zam l f
theorem Zn2 {f:Zb}:∀{l:List Zb} {i:Nat},(f∉l∧Zr4 l f i=-1)∨∃j,Zr4 l f i=((i+j:Nat):Int)∧l[j]?=some f
 | [],i=>.inl ⟨by simp,rfl⟩
 | x::l,i=>by
  unfold Zr4
  by_cases hx:x=f
  ·rw [if_pos hx];exact .inr ⟨0,by simp,by simp [hx]⟩
  ·rw [if_neg hx]
   rcases Zn2 (f:=f) (l:=l) (i:=i+1) with ⟨h1,h2⟩ | ⟨j,h1,h2⟩
   ·exact .inl ⟨by simp only[A4,not_or];exact ⟨fun e=>hx e.symm,h1⟩,h2⟩
   ·exact .inr ⟨j+1,by rw [h1];congr 1;omega,by simpa using h2⟩
theorem ZfL (l:List Zb) (f:Zb):(f∉l∧ZY l f=-1)∨∃j,ZY l f=((j:Nat):Int)∧l[j]?=some f:=by
 have:=Zn2 (f:=f) (l:=l) (i:=0)
 simpa [ZY] using this
theorem Q6 {l:List Zb} {f:Zb} (h:f∈l):∃j,ZY l f=((j:Nat):Int)∧l[j]?=some f:=(ZfL l f).resolve_left fun h'=>h'.1 h
noncomputable def Qr (F l:List Zb):List Int:=l.foldl (fun row f=>if 0≤ZY F f then Zd5 row (ZY F f) else row) []
theorem Zh2 (F:List Zb):∀(l:List Zb) (row:List Int),row.Pairwise (·<·)→(l.foldl (fun row f=>if 0≤ZY F f then Zd5 row (ZY F f) else row) row).Pairwise (·<·)∧(∀x,x∈l.foldl (fun row f=>if 0≤ZY F f then Zd5 row (ZY F f) else row) row↔x∈row∨∃f∈l,ZY F f=x∧0≤x)∧(l.foldl (fun row f=>if 0≤ZY F f then Zd5 row (ZY F f) else row) row).length≤row.length+l.length
 | [],row,h=>⟨h,by simp,by simp⟩
 | f::l,row,h=>by
  rw [AB]
  by_cases h0:0≤ZY F f
  ·rw [if_pos h0]
   obtain ⟨h1,h2,h3⟩:=Zh2 F l (Zd5 row (ZY F f)) (Zqo h)
   have:=Zp1 (ZY F f) row
   refine ⟨h1,fun x=>?_,by simp only[A5];omega⟩
   rw [h2,Zk9]
   constructor
   ·rintro ((rfl | h) | ⟨g,mg,e⟩)
    ·exact .inr ⟨f,by simp,rfl,h0⟩
    ·exact .inl h
    ·exact .inr ⟨g,by simp [mg],e⟩
   ·rintro (h | ⟨g,mg,e,e0⟩)
    ·exact .inl (.inr h)
    ·rcases A4.1 mg with rfl | mg
     ·exact .inl (.inl e.symm)
     ·exact .inr ⟨g,mg,e,e0⟩
  ·rw [if_neg h0]
   obtain ⟨h1,h2,h3⟩:=Zh2 F l row h
   refine ⟨h1,fun x=>?_,by simp only[A5];omega⟩
   rw [h2]
   constructor
   ·rintro (h | ⟨g,mg,e⟩)
    ·exact .inl h
    ·exact .inr ⟨g,by simp [mg],e⟩
   ·rintro (h | ⟨g,mg,e,e0⟩)
    ·exact .inl h
    ·rcases A4.1 mg with rfl | mg
     ·rw [e] at h0;exact absurd e0 h0
     ·exact .inr ⟨g,mg,e,e0⟩
theorem Yv (F l:List Zb):(Qr F l).Pairwise (·<·)∧(∀x,x∈Qr F l↔∃f∈l,ZY F f=x∧0≤x)∧(Qr F l).length≤l.length:=by
 obtain ⟨h1,h2,h3⟩:=Zh2 F l [] Ah
 exact ⟨h1,fun x=>by rw [Qr,h2];simp,by simpa [Qr] using h3⟩
theorem ZpL (F p:List Zb) (f:Zb):Qr F (p++[f])=if 0≤ZY F f then Zd5 (Qr F p) (ZY F f) else Qr F p:=by rw [Qr,AL];rfl
theorem ZhB (F l:List Zb) (h:l.length≤1000000):ZbP F l=some (Qr F l):=by
 unfold ZbP
 have h0:Qr F []=[]:=rfl
 rw [←h0,Zae (fun p=>Qr F p) l]
 intro p f q e
 have hp:p.length≤l.length:=by rw [e];simp
 have:=(Yv F p).2.2
 rw [Zb5,A0,ZpL]
 by_cases h0:0≤ZY F f
 ·rw [if_pos (by simpa using h0),if_pos h0,ZpM _ _ (by omega)]
  rfl
 ·rw [if_neg (by simpa using h0),if_neg h0]
noncomputable def ZbA (F l:List Zb):List Int:=l.foldl (fun row f=>if 0≤ZY F f∧ZY F f∉row then row++[ZY F f] else row) []
theorem Zj6 (F p:List Zb) (f:Zb):ZbA F (p++[f])=if 0≤ZY F f∧ZY F f∉ZbA F p then ZbA F p++[ZY F f] else ZbA F p:=by rw [ZbA,AL];rfl
theorem Zki (F:List Zb):∀n (l:List Zb),l.length=n→(ZbA F l).Nodup∧(∀x,x∈ZbA F l↔∃f∈l,ZY F f=x∧0≤x)∧(ZbA F l).length≤l.length:=by
 intro n
 induction n with
 | zero=>intro l hl;rw [Af hl];simp [ZbA]
 | succ n ih=>
  intro l hl
  obtain ⟨p,f,rfl⟩:∃p f,l=p++[f]:=⟨l.dropLast,l.getLast (by intro e;simp [e] at hl),(Ao _).symm⟩
  obtain ⟨h1,h2,h3⟩:=ih p (by simpa using hl)
  rw [Zj6]
  by_cases hc:0≤ZY F f∧ZY F f∉ZbA F p
  ·rw [if_pos hc]
   refine ⟨by rw [BH];exact ⟨h1,by simp,fun a ha b hb e=>by simp at hb;subst hb;subst e;exact hc.2 ha⟩,fun x=>?_,by simp;omega⟩
   rw [A7,h2]
   constructor
   ·rintro (⟨g,mg,e⟩ | h)
    ·exact ⟨g,by simp [mg],e⟩
    ·simp at h;subst h;exact ⟨f,by simp,rfl,hc.1⟩
   ·rintro ⟨g,mg,e,e0⟩
    rcases A7.1 mg with mg | mg
    ·exact .inl ⟨g,mg,e,e0⟩
    ·simp at mg;subst mg;exact .inr (by simp [e])
  ·rw [if_neg hc]
   refine ⟨h1,fun x=>?_,by simp;omega⟩
   rw [h2]
   constructor
   ·rintro ⟨g,mg,e⟩
    exact ⟨g,by simp [mg],e⟩
   ·rintro ⟨g,mg,e,e0⟩
    rcases A7.1 mg with mg | mg
    ·exact ⟨g,mg,e,e0⟩
    ·simp at mg;subst mg
     have:ZY F g∈ZbA F p:=Classical.byContradiction fun hn=>hc ⟨by rw [e];exact e0,hn⟩
     rw [e] at this
     exact (h2 x).1 this
theorem ZiM (F l:List Zb) (h:l.length≤1000000):Zc0 F l=some (Qr F l):=by
 unfold Zc0
 have h0:ZbA F []=[]:=rfl
 rw [←h0,Zae (fun p=>ZbA F p) l]
 ·obtain ⟨h1,h2,h3⟩:=Zki F _ l rfl
  obtain ⟨k1,k2,_⟩:=Yv F l
  simp only[ZfG]
  rw [Zh _ (by omega),A0,ZmI (Zuf h1) k1 fun x=>by rw [Zua,h2,k2]]
 ·intro p f q e
  have hp:p.length≤l.length:=by rw [e];simp
  have h3:=(Zki F _ p rfl).2.2
  rw [Zam,A0,Zj6]
  by_cases h0:0≤ZY F f
  ·rw [if_pos (by simpa using h0),Zqf,A0]
   by_cases hm:ZY F f∈ZbA F p
   ·rw [if_pos (ZqQ.2 hm),if_neg (fun h=>h.2 hm)]
   ·rw [if_neg (by rw [ZqQ];exact hm),if_pos ⟨h0,hm⟩,Zh _ (by omega)]
    rfl
  ·rw [if_neg (by simpa using h0),if_neg (fun h=>h0 h.1)]
theorem Zex (a b:List Int):ZbL a b=some (decide (a=b)):=by
 unfold ZbL
 by_cases h:a.length=b.length
 ·rw [if_neg (by simp;omega),Xu (p:=fun i x=>decide (b[i]?=some x)) (r:=false)]
  ·have:Q0 (fun i x=>decide (b[i]?=some x)) a 0=decide (a=b):=by
    rw [AC,decide_eq_true_iff]
    constructor
    ·intro ha
     apply Aj
     intro i
     by_cases hi:i<a.length
     ·have hx:=A8 hi
      have:=Zfo ha i _ hx
      simp only[AM,decide_eq_true_eq] at this
      rw [hx,this]
     ·rw [AG (by omega),AG (by omega)]
    ·rintro rfl
     have:∀(l pre:List Int),Q0 (fun i x=>decide ((pre++l)[i]?=some x)) l pre.length=true:=by
      intro l
      induction l with
      | nil=>intro pre;rfl
      | cons x l ih=>
       intro pre
       simp only[Q0,A3,decide_eq_true_eq]
       refine ⟨by simp,?_⟩
       have:=ih (pre++[x])
       simpa using this
     simpa using this a []
   rw [this]
   cases decide (a=b)<;>rfl
  ·intro j x hx
   have hj:=(AT.1 hx).1
   have hb:b[j]?=some b[j]:=A8 (by omega)
   rw [AM,Zav,hb,A0]
   by_cases he:x=b[j]
   ·simp [he]
   ·have:¬b[j]=x:=fun e=>he e.symm
    simp [he,this]
 ·rw [if_pos (by simp;omega),decide_eq_false (fun e=>h (by rw [e]))]
theorem ZaC (a b:List Int):Zbi a b=some (decide (a=b)):=Zex a b
theorem ZlL {a b:Zf} (h1:a.for_=b.for_) (h2:a.inn=b.inn) (h3:a.outs=b.outs):a=b:=by
 cases a;cases b;simp only at h1 h2 h3;subst h1 h2 h3;rfl
theorem ZkI (a b:Zf):Zbw a b=some (decide (a=b)):=by
 unfold Zbw
 by_cases h1:a.for_=b.for_
 ·rw [if_pos (by simpa using h1),Zex,A0]
  by_cases h2:a.inn=b.inn
  ·rw [if_pos (decide_eq_true h2),Zex,A0]
   congr 1
   rw [AC,decide_eq_true_iff,decide_eq_true_iff]
   exact ⟨ZlL h1 h2,fun e=>by rw [e]⟩
  ·rw [if_neg (by simpa using h2),decide_eq_false (fun e=>h2 (by rw [e]))]
 ·rw [if_neg (by simpa using h1),decide_eq_false (fun e=>h1 (by rw [e]))]
theorem Zml (l:List Zf) (r:Zf):Za5 l r=some (decide (r∈l)):=by
 unfold Za5
 rw [Zco (p:=fun x=>decide (x=r)) (r:=true)]
 ·have:l.any (fun x=>decide (x=r))=decide (r∈l):=by
   rw [AC,List.any_eq_true,decide_eq_true_iff]
   exact ⟨fun ⟨x,mx,e⟩=>by rw [decide_eq_true_iff] at e;rw [←e];exact mx,fun h=>⟨r,h,by simp⟩⟩
  rw [this]
  cases decide (r∈l)<;>rfl
 ·intro i x mx
  rw [ZkI,A0]
  cases decide (x=r)<;>rfl
theorem ZoS (l:List Zf) (r:Zf):∃z,ZeD l r=some z∧(0≤z↔r∈l):=by
 unfold ZeD
 generalize 0=i
 induction l generalizing i with
 | nil=>exact ⟨-1,rfl,by simp⟩
 | cons x l ih=>
  by_cases hx:x=r
  ·subst hx
   refine ⟨((i:Nat):Int),Yi ?_,by simp⟩
   rw [if_pos (by simp),ZaC,A0,if_pos (by simp),ZaC,A0,if_pos (by simp)]
  ·obtain ⟨z,e,hz⟩:=ih (i+1)
   refine ⟨z,(ZX ?_).trans e,by rw [hz,A4];exact ⟨.inr,fun h=>h.resolve_left fun e=>hx e.symm⟩⟩
   by_cases h1:x.for_=r.for_
   ·rw [if_pos (by simpa using h1),ZaC,A0]
    by_cases h2:x.inn=r.inn
    ·rw [if_pos (decide_eq_true h2),ZaC,A0,if_neg (by simpa using fun e=>hx (ZlL h1 h2 e))]
    ·rw [if_neg (by simpa using h2)]
   ·rw [if_neg (by simpa using h1)]
noncomputable def ZiJ (r:Zg) (t:Zu):List Zb:=(r.cond.filter fun x=>x.kind==2).map fun x=>(YE (Yf x.pattern t.binding)).1
noncomputable def Yg (F:List Zb) (r:Zg) (t:Zu) (a:Zz):Zf:={ for_:=ZY F (Z8 a t),inn:=Qr F t.facts,outs:=Qr F (ZiJ r t) }
theorem ZqO {ρ:Type} {r:Zg} {t:Zu} (hr:r.cond.length≤1000000) {fin:List Zb→Option ρ} {body:Nat→Zt→List Zb→Option (List Zb ⊕ ρ)}
  (hb:∀i x row,row.length≤1000000→body i x row=if (x.kind==2)=true then some (.inl (row++[(YE (Yf x.pattern t.binding)).1])) else some (.inl row)):Zo body fin r.cond 0 []=fin (ZiJ r t):=by
 rw [YC (g:=fun x:Zt=>if (x.kind==2)=true then some (YE (Yf x.pattern t.binding)).1 else none)]
 ·rw [List.nil_append]
  congr 1
  unfold ZiJ
  induction r.cond with
  | nil=>rfl
  | cons x l ih=>
   by_cases hx:(x.kind==2)=true
   ·simp only[BK,BL,hx,if_true,List.map_cons,ih]
   ·simp only[BK,BL,hx,if_false,ih]
    simp
 ·intro j x s mx hs
  rw [hb _ _ _ (by simp at hs;omega)]
  by_cases hx:(x.kind==2)=true
  ·rw [if_pos hx,if_pos hx]
   rfl
  ·rw [if_neg hx,if_neg hx]
   simp
theorem Zlr (r:Zg) (t:Zu):(ZiJ r t).length≤r.cond.length:=by
 rw [ZiJ,AY]
 exact BD _ _
theorem Zk0 {F:List Zb} {r:Zg} {t:Zu} (hr:r.cond.length≤4) (ht:ZuM F t) {j:Nat} {a:Zz} (ha:r.thn[j]?=some a):ZaS r ((j:Nat):Int) t F=some (Yg F r t a):=by
 have hb:=ht.bind
 have hl:=ht.len
 have e1:∀p,Yy p t.binding=some (YE (Yf p t.binding)):=fun p=>Zez p t.binding (by omega)
 unfold ZaS
 rw [Zav,ha,A0,e1,A0,ZqO (t:=t) (by omega) (fun i x row hrow=>by rw [e1,A0,Zh _ (by omega)])]
 have:=Zlr r t
 rw [Zb5,A0,ZhB _ _ (by omega),A0,ZhB _ _ (by omega),A0]
 rfl
noncomputable def Zjz (l:List Zf) (r:Zf):List Zf:=if r∈l then l else l++[r]
theorem Zwq (l:List Zf) (r:Zf):l.length≤(Zjz l r).length∧(Zjz l r).length≤l.length+1:=by
 unfold Zjz
 split<;>simp
theorem ZnR:∀(c l:List Zf),l.length≤(c.foldl Zjz l).length∧(c.foldl Zjz l).length≤l.length+c.length
 | [],l=>by simp
 | r::c,l=>by
  have h1:=ZnR c (Zjz l r)
  have h2:=Zwq l r
  simp only[AB,A5]
  omega
theorem Zlf {α β:Type} {g:α→List β} {N:Nat}:∀{l:List α},(∀x∈l,(g x).length≤N)→(l.flatMap g).length≤N * l.length
 | [],_=>by simp
 | x::l,h=>by
  have h1:=h x (by simp)
  have h2:=Zlf (l:=l) fun y my=>h y (by simp [my])
  rw [Ap,AX,A5,Nat.mul_add]
  omega
noncomputable def Qz {β:Type} (s:List Zf × List β) (p:Zf × β):List Zf × List β:=if p.1∈s.1 then s else (s.1++[p.1],s.2++[p.2])
theorem Zdr {β:Type}:∀(c:List (Zf × β)) (s:List Zf × List β),(c.foldl Qz s).1=(c.map B1).foldl Zjz s.1∧(s.2.length=s.1.length→(c.foldl Qz s).2.length=(c.foldl Qz s).1.length)
 | [],s=>⟨rfl,fun h=>h⟩
 | p::c,s=>by
  obtain ⟨h1,h2⟩:=Zdr c (Qz s p)
  have e:(Qz s p).1=Zjz s.1 p.1:=by unfold Qz Zjz;split<;>rfl
  refine ⟨by rw [AB,h1,e];rfl,fun h=>h2 ?_⟩
  unfold Qz
  split
  ·exact h
  ·simp [h]
theorem Zi2 {β:Type} (c:List (Zf × β)) (s:List Zf × List β):s.1.length≤(c.foldl Qz s).1.length∧(c.foldl Qz s).1.length≤s.1.length+c.length:=by
 have:=ZnR (c.map B1) s.1
 rw [(Zdr c s).1]
 simpa using this
section
variable {β:Type} (o:Zg→Zu→β) (F:List Zb)
noncomputable def Zm0 (r:Zg) (t:Zu):List (Zf × β):=r.thn.map fun a=>(Yg F r t a,o r t)
noncomputable def Zmy (r:Zg):List (Zf × β):=(Zw (XT r) F).flatMap (Zm0 o F r)
noncomputable def Zdj (base:List Zb):List Zf:=base.map fun f=>{ for_:=ZY F f,inn:=[],outs:=[] }
noncomputable def ZaB (z:β) (R:List Zg) (base:List Zb):List Zf × List β:=(R.flatMap (Zmy o F)).foldl Qz (Zdj F base,base.map fun _=>z)
theorem Zqm (r:Zg) (t:Zu):(Zm0 o F r t).length=r.thn.length:=by simp [Zm0]
end
noncomputable def ZCw (F:List Zb) (r:Zg) (t:Zu):List Zf:=r.thn.map (Yg F r t)
noncomputable def Zvb (F:List Zb) (r:Zg):List Zf:=(Zw (XT r) F).flatMap (ZCw F r)
noncomputable def ZZ (R:List Zg) (F base:List Zb):List Zf:=(R.flatMap (Zvb F)).foldl Zjz (Zdj F base)
theorem Zkh {β:Type} (o:Zg→Zu→β) (F:List Zb) (z:β) (R:List Zg) (base:List Zb):(ZaB o F z R base).1=ZZ R F base∧(ZaB o F z R base).2.length=(ZZ R F base).length:=by
 obtain ⟨h1,h2⟩:=Zdr (R.flatMap (Zmy o F)) (Zdj F base,base.map fun _=>z)
 have e:(R.flatMap (Zmy o F)).map B1=R.flatMap (Zvb F):=by
  rw [BM]
  congr 1
  funext r
  rw [Zmy,Zvb,BM]
  congr 1
  funext t
  simp [Zm0,ZCw]
 have h3:(ZaB o F z R base).1=ZZ R F base:=by unfold ZaB ZZ;rw [h1,e]
 refine ⟨h3,?_⟩
 rw [←h3]
 exact h2 (by simp [Zdj])
section
variable {β ρ:Type} {o:Zg→Zu→β} {F:List Zb}
theorem Zos {base:List Zb} (hl:base.length≤1000000) {z:β} {fin:List Zf × List β→Option ρ} {body:Nat→Zb→List Zf × List β→Option ((List Zf × List β) ⊕ ρ)}
  (hb:∀i f a b,a.length≤1000000→b.length≤1000000→body i f (a,b)=some (.inl (a++[{ for_:=ZY F f,inn:=[],outs:=[] }],b++[z]))):Zo body fin base 0 ([],[])=fin (Zdj F base,base.map fun _=>z):=by
 have h0:(([],[]):List Zf × List β)=(Zdj F [],([]:List Zb).map fun _=>z):=rfl
 rw [h0,Zae (fun p=>(Zdj F p,p.map fun _=>z)) base]
 intro p f q e
 have hp:p.length≤base.length:=by rw [e];simp
 rw [hb _ _ _ _ (by rw [Zdj,AY];omega) (by rw [AY];omega)]
 simp [Zdj]
theorem Zy3 {r:Zg} {t:Zu} (hr2:r.thn.length≤2) {fin:List Zf × List β→Option ρ} {body:Nat→Zz→List Zf × List β→Option ((List Zf × List β) ⊕ ρ)} {s:List Zf × List β} (hl:s.1.length≤99999998) (hs:s.2.length=s.1.length)
  (hb:∀i a c d,c.length≤100000000→d.length≤100000000→body i a (c,d)=if decide (Yg F r t a∈c)=true then some (.inl (c,d)) else some (.inl (c++[Yg F r t a],d++[o r t]))):Zo body fin r.thn 0 s=fin ((Zm0 o F r t).foldl Qz s):=by
 have h0:s=((([]:List Zz).map fun a=>(Yg F r t a,o r t))).foldl Qz s:=rfl
 conv=>lhs;rw [h0]
 rw [Zae (fun p:List Zz=>(p.map fun a=>(Yg F r t a,o r t)).foldl Qz s) r.thn]
 ·rfl
 ·intro p a q e
  have hp:p.length≤r.thn.length:=by rw [e];simp
  have h1:=Zi2 (p.map fun a=>(Yg F r t a,o r t)) s
  have h2:=(Zdr (p.map fun a=>(Yg F r t a,o r t)) s).2 hs
  rw [AY] at h1
  rw [B2,AL]
  generalize (p.map fun a=>(Yg F r t a,o r t)).foldl Qz s=u at h1 h2 ⊢
  obtain ⟨c,d⟩:=u
  simp only at h1 h2
  rw [hb _ _ _ _ (by omega) (by omega)]
  show _=some (Sum.inl (Qz (c,d) (Yg F r t a,o r t)))
  unfold Qz
  by_cases hm:Yg F r t a∈c
  ·rw [if_pos (decide_eq_true hm),if_pos hm]
  ·rw [if_neg (by simpa using hm),if_neg hm]
theorem Zvw {α:Type} {g:α→List (Zf × β)} {L:List α} {M N:Nat} (hg:∀x∈L,(g x).length≤N) {fin:List Zf × List β→Option ρ} {body:Nat→α→List Zf × List β→Option ((List Zf × List β) ⊕ ρ)} {s:List Zf × List β} (hl:s.1.length+N * L.length≤M) (hs:s.2.length=s.1.length)
  (hb:∀i x u,x∈L→u.1.length≤M→u.2.length=u.1.length→body i x u=some (.inl ((g x).foldl Qz u))):Zo body fin L 0 s=fin ((L.flatMap g).foldl Qz s):=by
 have h0:s=(([]:List α).flatMap g).foldl Qz s:=rfl
 conv=>lhs;rw [h0]
 rw [Zae (fun p=>(p.flatMap g).foldl Qz s) L]
 intro p x q e
 have hp:p.length≤L.length:=by rw [e];simp
 have h1:=Zi2 (p.flatMap g) s
 have h2:=(Zdr (p.flatMap g) s).2 hs
 have h3:=Zlf (l:=p) (g:=g) (N:=N) fun y my=>hg y (by rw [e];simp [my])
 have h4:=B9 N hp
 rw [hb _ _ _ (by rw [e];simp) (by omega) h2,Aq,AL]
 simp
theorem ZA6 {r:Zg} {t:Zu} {q:ρ} {fin:List Zf × List β→Option ρ} {body:Nat→Zz→List Zf × List β→Option ((List Zf × List β) ⊕ ρ)} {s:List Zf × List β} (hl:s.1.length≤60) (hs:s.2.length=s.1.length)
  (hb:∀j a c d,r.thn[j]?=some a→c.length≤60→d.length≤60→body j a (c,d)=if Yg F r t a∈c then some (.inl (c,d)) else if 60≤c.length then some (.inr q) else some (.inl (c++[Yg F r t a],d++[o r t]))):Zo body fin r.thn 0 s=if ((Zm0 o F r t).foldl Qz s).1.length≤60 then fin ((Zm0 o F r t).foldl Qz s) else some q:=by
 have h0:s=((([]:List Zz).map fun a=>(Yg F r t a,o r t))).foldl Qz s:=rfl
 conv=>lhs;rw [h0]
 rw [Zla (fun p:List Zz=>(p.map fun a=>(Yg F r t a,o r t)).foldl Qz s) (fun p=>((p.map fun a=>(Yg F r t a,o r t)).foldl Qz s).1.length≤60) q r.thn (by simpa using hl) (fun p c e h=>by
  rw [e,B2,AL] at h
  exact A9 (Zi2 _ _).1 h)]
 ·rfl
 ·intro p a c e h60
  have h2:=(Zdr (p.map fun a=>(Yg F r t a,o r t)) s).2 hs
  rw [B2,AL]
  generalize (p.map fun a=>(Yg F r t a,o r t)).foldl Qz s=u at h60 h2 ⊢
  obtain ⟨x,y⟩:=u
  simp only at h60 h2
  rw [hb _ _ _ _ (by rw [e];simp) h60 (by omega)]
  show _=if (Qz (x,y) (Yg F r t a,o r t)).1.length≤60 then some (Sum.inl (Qz (x,y) (Yg F r t a,o r t))) else some (Sum.inr q)
  unfold Qz
  by_cases hm:Yg F r t a∈x
  ·rw [if_pos hm,if_pos hm,if_pos h60]
  ·rw [if_neg hm,if_neg hm]
   by_cases h1:60≤x.length
   ·rw [if_pos h1,if_neg (by simp;omega)]
   ·rw [if_neg h1,if_pos (by simp;omega)]
theorem ZuX {α:Type} {g:α→List (Zf × β)} {L:List α} {q:ρ} {fin:List Zf × List β→Option ρ} {body:Nat→α→List Zf × List β→Option ((List Zf × List β) ⊕ ρ)} {s:List Zf × List β} (hl:s.1.length≤60) (hs:s.2.length=s.1.length)
  (hb:∀i x u,x∈L→u.1.length≤60→u.2.length=u.1.length→body i x u=if ((g x).foldl Qz u).1.length≤60 then some (.inl ((g x).foldl Qz u)) else some (.inr q)):Zo body fin L 0 s=if ((L.flatMap g).foldl Qz s).1.length≤60 then fin ((L.flatMap g).foldl Qz s) else some q:=by
 have h0:s=(([]:List α).flatMap g).foldl Qz s:=rfl
 conv=>lhs;rw [h0]
 rw [Zla (fun p=>(p.flatMap g).foldl Qz s) (fun p=>((p.flatMap g).foldl Qz s).1.length≤60) q L (by simpa using hl) (fun p c e h=>by
  rw [e,Aq,AL] at h
  exact A9 (Zi2 _ _).1 h)]
 intro p x c e h60
 have h2:=(Zdr (p.flatMap g) s).2 hs
 rw [hb _ _ _ (by rw [e];simp) h60 h2,Aq,AL]
 simp
end
def noB:Zr:={ nodes:=0,reasons:=[] }
def ZoR (r:Zg) (t:Zu):ZaA:={ rule:=r.name,facts:=t.facts }
def Zqh (r:Zg) (t:Zu):Xr:={ rule:=r.name,token:=t }
def noI:ZaA:={ rule:=⟨#[]⟩,facts:=[] }
def noS:Xr:={ rule:=⟨#[]⟩,token:={ facts:=[],binding:=[] } }
def Zsq {β:Type} (F:List Zb) (g:List Zf × List β):List Zb × Zr × List β × Bool:=if 60<g.1.length then ([],noB,[],false) else (F,{ nodes:=((F.length:Nat):Int),reasons:=g.1 },g.2,true)
structure Z0 (R:List Zg) (base F:List Zb):Prop where
 logical:(Z6 R&&R.all (Y4 R))=true
 facts:Z3 base=true
 good:ZeE R base F
 len:F.length≤24
 closed:ZiK R F
theorem Z0.rule {R:List Zg} {base F:List Zb} (h:Z0 R base F) {r:Zg} (mr:r∈R):ZM r=true∧r.cond.length≤4∧r.thn.length≤2:=by
 have h1:=h.logical
 rw [A3] at h1
 have h2:=AF.1 h1.2 r mr
 unfold Y4 at h2
 rw [A3] at h2
 have h3:=h2.1
 unfold ZM at h3
 simp only[A3] at h3
 exact ⟨h2.1,XB h3.1.1⟩
theorem Z0.toks {R:List Zg} {base F:List Zb} (h:Z0 R base F) {r:Zg} (mr:r∈R):(Zw (XT r) F).length≤331776:=ZaO F h.len (XT r) (by have:=ZdL r;have:=(h.rule mr).2.1;omega)
theorem Z0.tokS {R:List Zg} {base F:List Zb} (h:Z0 R base F) {r:Zg} (mr:r∈R) {t:Zu} (mt:t∈Zw (XT r) F):ZuM F t:=(Qp F _ t mt).s (by have:=ZdL r;have:=(h.rule mr).2.1;omega) fun f mf=>YY (h.good.ok f mf)
theorem Zqn {R:List Zg} {base F:List Zb} (h:Z0 R base F) (hp:Yt R base=some (F,true)):Zbh R base=some (Zsq F (ZaB ZoR F noI R base)):=by
 have h6:R.length≤6:=by have:=h.logical;rw [A3] at this;exact (ZcX this.1).1
 have hb24:=(QQ h.facts).1
 unfold Zbh
 rw [hp,A0,if_pos rfl,Zos (F:=F) (z:=noI) (by omega)]
 ·show Zo _ _ R 0 (Zdj F base,base.map fun _=>noI)=_
  rw [Zvw (g:=Zmy ZoR F) (N:=663552) (M:=90000000)]
  ·show (if decide (60<(((ZaB ZoR F noI R base).1.length:Nat):Int))=true then _ else _)=_
   unfold Zsq
   by_cases h60:60<(ZaB ZoR F noI R base).1.length
   ·rw [if_pos (decide_eq_true (by omega)),if_pos h60]
    rfl
   ·rw [if_neg (fun h=>h60 (by have:=of_decide_eq_true h;omega)),if_neg h60]
    rfl
  ·intro r mr
   obtain ⟨_,_,h2⟩:=h.rule mr
   have h3:=h.toks mr
   have:=Zlf (l:=Zw (XT r) F) (g:=Zm0 ZoR F r) (N:=2) fun x _=>by rw [Zqm];omega
   unfold Zmy
   omega
  ·simp only[Zdj,AY];omega
  ·simp [Zdj]
  ·intro i r u mr hu hu2
   obtain ⟨c,d⟩:=u
   obtain ⟨_,h1,h2⟩:=h.rule mr
   have h3:=h.toks mr
   simp only at hu hu2
   show (YP r).bind _=_
   rw [ZbN r (by omega),A0,ZeA _ _ (by have:=ZdL r;omega) h.len (fun f mf=>YY (h.good.ok f mf)),A0,Zvw (g:=Zm0 ZoR F r) (N:=2) (M:=99999998)]
   ·rfl
   ·intro t mt
    rw [Zqm]
    exact h2
   ·simp only;omega
   ·exact hu2
   ·intro j t v mt hv hv2
    obtain ⟨c2,d2⟩:=v
    simp only at hv hv2
    have ht:=h.tokS mr mt
    have hl:=ht.len
    have ha:=Zlr r t
    show Zo _ _ r.cond 0 []=_
    rw [ZqO (t:=t) (by omega) (fun i x row hrow=>by rw [Zcd,A0,Zh _ (by omega)])]
    rw [Zy3 (o:=ZoR) (F:=F) (t:=t) h2 (s:=(c2,d2)) hv hv2]
    ·intro k a x y hx hy
     show (XL a.pattern t.binding).bind _=_
     rw [Zcd,A0,Zam,A0,ZiM _ _ (by omega),A0,ZiM _ _ (by omega),A0]
     show (Za5 x (Yg F r t a)).bind _=_
     rw [Zml,A0]
     by_cases hm:Yg F r t a∈x
     ·rw [if_pos (decide_eq_true hm),if_pos (decide_eq_true hm)]
     ·rw [if_neg (by simpa using hm),if_neg (by simpa using hm),Zh _ (by omega),Zh _ (by omega)]
      rfl
 ·intro i f a b ha hb
  show (Yc F f).bind _=_
  rw [Zam,A0,Zh _ (by omega),Zh _ (by omega)]
  rfl
theorem ZpJ {R:List Zg} {base F:List Zb} (h:Z0 R base F) (hp:Yu R base=some (F,true)):Xy R base=some (Zsq F (ZaB Zqh F noS R base)):=by
 have h6:R.length≤6:=by have:=h.logical;rw [A3] at this;exact (ZcX this.1).1
 have hb24:=(QQ h.facts).1
 unfold Xy
 rw [hp,A0,if_pos rfl,Zos (F:=F) (z:=noS) (by omega)]
 ·show Zo _ _ R 0 (Zdj F base,base.map fun _=>noS)=_
  rw [ZuX (g:=Zmy Zqh F) (q:=([],noB,[],false))]
  ·show (if (ZaB Zqh F noS R base).1.length≤60 then _ else _)=_
   unfold Zsq
   by_cases h60:60<(ZaB Zqh F noS R base).1.length
   ·rw [if_neg (by omega),if_pos h60]
   ·rw [if_pos (by omega),if_neg h60]
    rfl
  ·simp only[Zdj,AY];omega
  ·simp [Zdj]
  ·intro i r u mr hu hu2
   obtain ⟨c,d⟩:=u
   obtain ⟨_,h1,h2⟩:=h.rule mr
   simp only at hu hu2
   show (XJ r).bind _=_
   rw [Ze3 r (by omega),A0,ZhC _ _ (by have:=ZdL r;omega) h.len (fun f mf=>YY (h.good.ok f mf)),A0,ZuX (g:=Zm0 Zqh F r) (q:=.inr ([],noB,[],false)) (s:=(c,d)) hu hu2]
   ·rfl
   ·intro j t v mt hv hv2
    obtain ⟨c2,d2⟩:=v
    simp only at hv hv2
    have ht:=h.tokS mr mt
    show Zo _ _ r.thn 0 (c2,d2)=_
    rw [ZA6 (o:=Zqh) (F:=F) (t:=t) (q:=.inr (.inr ([],noB,[],false))) (s:=(c2,d2)) hv hv2]
    ·intro k a x y ha hx hy
     show (ZaS r ((k:Nat):Int) t F).bind _=_
     rw [Zk0 h1 ht ha,A0]
     obtain ⟨z,hz,hz2⟩:=ZoS x (Yg F r t a)
     rw [hz,A0]
     by_cases hm:Yg F r t a∈x
     ·rw [if_pos (by simpa using hz2.2 hm),if_pos hm]
     ·rw [if_neg (by simpa using fun h0=>hm (hz2.1 h0)),if_neg hm]
      by_cases h60:60≤x.length
      ·rw [if_pos (by simp;omega),if_pos h60]
       rfl
      ·rw [if_neg (by simp;omega),if_neg h60,Zh _ (by omega),Zh _ (by omega)]
       rfl
 ·intro i f a b ha hb
  show (QT F f).bind _=_
  rw [Zb5,A0,Zh _ (by omega),Zh _ (by omega)]
  rfl
theorem Zqd {R:List Zg} (hR:Zbc R) (base:List Zb) (hb20:base.length≤1048576):(Zbh R base=some ([],noB,[],false)∧Xy R base=some ([],noB,[],false))∨∃F,Z0 R base F∧Zbh R base=some (Zsq F (ZaB ZoR F noI R base))∧Xy R base=some (Zsq F (ZaB Zqh F noS R base)):=by
 obtain ⟨⟨F,b⟩,h1,h2,h3⟩:=Zij hR base hb20
 have no:b=false→(Zbh R base=some ([],noB,[],false)∧Xy R base=some ([],noB,[],false)):=fun e=>by
  subst e
  unfold Zbh Xy
  rw [h1,h2]
  exact ⟨rfl,rfl⟩
 rcases h3 with h3 | ⟨h3,h4,⟨h5,h6,h7,h8⟩ | ⟨h5,_⟩⟩
 ·simp only[Prod.mk.injEq] at h3
  exact .inl (no h3.2)
 ·simp only at h5
  subst h5
  have hG:Z0 R base F:=⟨h3,h4,h6,h7,h8⟩
  exact .inr ⟨F,hG,Zqn hG h2,ZpJ hG h1⟩
 ·exact .inl (no h5)
def Zpr (R:List Zg) (base F:List Zb) (b:Zr) (ok:Bool):Prop:=(ok=false∧F=[]∧b=noB)∨(ok=true∧Z0 R base F∧b={ nodes:=((F.length:Nat):Int),reasons:=ZZ R F base }∧(ZZ R F base).length≤60)
theorem Zh9 {R:List Zg} (hR:Zbc R) (base:List Zb) (hb20:base.length≤1048576):∃F b ok,Ql R base=some (F,b,ok)∧Qi R base=some (F,b,ok)∧Zpr R base F b ok:=by
 unfold Ql Qi
 rcases Zqd hR base hb20 with ⟨h1,h2⟩ | ⟨F,hG,h1,h2⟩
 ·rw [h1,h2]
  exact ⟨_,_,_,rfl,rfl,.inl ⟨rfl,rfl,rfl⟩⟩
 ·obtain ⟨e1,_⟩:=Zkh ZoR F noI R base
  obtain ⟨e2,_⟩:=Zkh Zqh F noS R base
  rw [h1,h2]
  unfold Zsq
  rw [e1,e2]
  by_cases h60:60<(ZZ R F base).length
  ·rw [if_pos h60,if_pos h60]
   exact ⟨_,_,_,rfl,rfl,.inl ⟨rfl,rfl,rfl⟩⟩
  ·rw [if_neg h60,if_neg h60]
   exact ⟨_,_,_,rfl,rfl,.inr ⟨rfl,hG,rfl,Nat.le_of_not_lt h60⟩⟩
theorem Zrz {r:Zf}:∀{c l:List Zf},r∈c.foldl Zjz l↔r∈l∨r∈c
 | [],l=>by simp
 | x::c,l=>by
  rw [AB,Zrz]
  have:r∈Zjz l x↔r∈l∨r=x:=by
   unfold Zjz
   split
   ·rename_i h
    exact ⟨.inl,fun h'=>h'.elim id fun e=>e ▸ h⟩
   ·simp
  rw [this,A4,or_assoc]
theorem Zib {R:List Zg} {F base:List Zb} {x:Zf}:x∈ZZ R F base↔(∃f∈base,x={ for_:=ZY F f,inn:=[],outs:=[] })∨∃r∈R,∃t∈Zw (XT r) F,∃a∈r.thn,x=Yg F r t a:=by
 unfold ZZ
 rw [Zrz]
 constructor
 ·rintro (h | h)
  ·obtain ⟨f,mf,e⟩:=AH.1 h
   exact .inl ⟨f,mf,e.symm⟩
  ·obtain ⟨r,mr,h⟩:=AQ.1 h
   obtain ⟨t,mt,h⟩:=AQ.1 h
   obtain ⟨a,ma,e⟩:=AH.1 h
   exact .inr ⟨r,mr,t,mt,a,ma,e.symm⟩
 ·rintro (⟨f,mf,e⟩ | ⟨r,mr,t,mt,a,ma,e⟩)
  ·exact .inl (AH.2 ⟨f,mf,e.symm⟩)
  ·exact .inr (AQ.2 ⟨r,mr,AQ.2 ⟨t,mt,AH.2 ⟨a,ma,e.symm⟩⟩⟩)
theorem Zfg {R:List Zg} {base F:List Zb} (h:Z0 R base F) {x:Zf} (mx:x∈ZZ R F base):x.inn.length≤4∧x.outs.length≤4:=by
 rcases Zib.1 mx with ⟨f,_,rfl⟩ | ⟨r,mr,t,mt,a,_,rfl⟩
 ·exact ⟨Ab _,Ab _⟩
 ·have h1:=(h.tokS mr mt).len
  have h2:=Zlr r t
  have h3:=(h.rule mr).2.1
  exact ⟨A9 (Yv F t.facts).2.2 h1,A9 (Yv F (ZiJ r t)).2.2 (by omega)⟩
end
section
open Classical
def mx (a b:Int):Int:=if a<b then b else a
theorem Zu4 (a b:Int):a≤mx a b∧b≤mx a b:=by unfold mx;split<;>omega
theorem ZxU {a b c:Int} (h1:a≤c) (h2:b≤c):mx a b≤c:=by unfold mx;split<;>omega
theorem ZsH (g:Int→Int):∀(l:List Int) (m:Int),m≤l.foldl (fun m y=>mx m (g y)) m∧∀y∈l,g y≤l.foldl (fun m y=>mx m (g y)) m
 | [],m=>⟨Ak _,by simp⟩
 | x::l,m=>by
  obtain ⟨h1,h2⟩:=ZsH g l (mx m (g x))
  have h3:=Zu4 m (g x)
  refine ⟨by rw [AB];omega,fun y my=>?_⟩
  rw [AB]
  rcases A4.1 my with rfl | my
  ·omega
  ·exact h2 y my
theorem ZrW {g:Int→Int} {T:Int}:∀{l:List Int} {m:Int},m≤T→(∀y∈l,g y≤T)→l.foldl (fun m y=>mx m (g y)) m≤T
 | [],_,h,_=>h
 | x::l,m,h,hl=>ZrW (l:=l) (ZxU h (hl x (by simp))) fun y my=>hl y (by simp [my])
def OkN (n:Nat) (r:Zf):Prop:=(0≤r.for_∧r.for_.toNat<n)∧(∀y∈r.inn,0≤y∧y.toNat<n)∧∀y∈r.outs,0≤y∧y.toNat<n
def lvN (row:List Int) (i:Nat):Int:=(row[i]?).getD 0
theorem Zad (row:List Int) (i j:Nat) (v:Int):lvN (row.set i v) j=if j=i∧i<row.length then v else lvN row j:=by
 unfold lvN
 rw [Ar]
 by_cases h:i=j
 ·subst h
  by_cases h2:i<row.length
  ·simp [h2]
  ·simp [h2]
 ·have:¬j=i:=fun e=>h e.symm
  simp [h,this]
theorem Zfp {a b:List Int} (hl:a.length=b.length) (h:∀i,i<a.length→lvN a i=lvN b i):a=b:=by
 apply Aj
 intro i
 by_cases hi:i<a.length
 ·have:=h i hi
  unfold lvN at this
  rw [A8 hi,A8 (by omega)] at this ⊢
  simpa using this
 ·rw [AG (by omega),AG (by omega)]
def Zh3 (row:List Int) (r:Zf):Int:=r.outs.foldl (fun m y=>mx m (lvN row y.toNat+1)) (r.inn.foldl (fun m y=>mx m (lvN row y.toNat)) (lvN row r.for_.toNat))
theorem ZoO (row:List Int) (r:Zf):lvN row r.for_.toNat≤Zh3 row r∧(∀y∈r.inn,lvN row y.toNat≤Zh3 row r)∧∀y∈r.outs,lvN row y.toNat+1≤Zh3 row r:=by
 obtain ⟨h1,h2⟩:=ZsH (fun y=>lvN row y.toNat) r.inn (lvN row r.for_.toNat)
 obtain ⟨h3,h4⟩:=ZsH (fun y=>lvN row y.toNat+1) r.outs (r.inn.foldl (fun m y=>mx m (lvN row y.toNat)) (lvN row r.for_.toNat))
 exact ⟨AS h1 h3,fun y my=>AS (h2 y my) h3,h4⟩
theorem ZxM {row:List Int} {r:Zf} {T:Int} (h1:lvN row r.for_.toNat≤T) (h2:∀y∈r.inn,lvN row y.toNat≤T) (h3:∀y∈r.outs,lvN row y.toNat+1≤T):Zh3 row r≤T:=
 ZrW (g:=fun y=>lvN row y.toNat+1) (ZrW (g:=fun y=>lvN row y.toNat) h1 h2) h3
def XS (row:List Int) (r:Zf):List Int:=row.set r.for_.toNat (Zh3 row r)
def XM (R:List Zf) (row:List Int):List Int:=R.foldl XS row
theorem Zc4 (row:List Int) (r:Zf):(XS row r).length=row.length:=by simp [XS]
theorem Ze8:∀(R:List Zf) (row:List Int),(XM R row).length=row.length
 | [],_=>rfl
 | r::R,row=>(Ze8 R (XS row r)).trans (Zc4 row r)
theorem ZgM (row:List Int) (r:Zf) (i:Nat):lvN row i≤lvN (XS row r) i:=by
 unfold XS
 rw [Zad]
 split
 ·rename_i h
  rw [h.1]
  exact (ZoO row r).1
 ·exact Ak _
theorem Zbk:∀(R:List Zf) (row:List Int) (i:Nat),lvN row i≤lvN (XM R row) i
 | [],_,_=>Ak _
 | r::R,row,i=>AS (ZgM row r i) (Zbk R (XS row r) i)
theorem Zmi {row:List Int} {r:Zf} (h:¬lvN row r.for_.toNat<Zh3 row r):XS row r=row:=by
 have e:Zh3 row r=lvN row r.for_.toNat:=by have:=(ZoO row r).1;omega
 refine Zfp (Zc4 row r) fun i _=>?_
 unfold XS
 rw [Zad]
 split
 ·rename_i h;rw [h.1,e]
 ·rfl
structure Zhy (R:List Zf) (t:Nat→Int):Prop where
 pos:∀i,0≤t i
 inn:∀r∈R,∀y∈r.inn,t y.toNat≤t r.for_.toNat
 outs:∀r∈R,∀y∈r.outs,t y.toNat+1≤t r.for_.toNat
theorem Zln {R:List Zf} {t:Nat→Int} (ht:Zhy R t) {r:Zf} (mr:r∈R) {row:List Int} (h:∀i,lvN row i≤t i) (i:Nat):lvN (XS row r) i≤t i:=by
 unfold XS
 rw [Zad]
 split
 ·rename_i hi
  rw [hi.1]
  exact ZxM (h _) (fun y my=>AS (h _) (ht.inn r mr y my)) fun y my=>by have:=h y.toNat;have:=ht.outs r mr y my;omega
 ·exact h i
theorem Zdt {R:List Zf} {t:Nat→Int} (ht:Zhy R t):∀{l:List Zf},(∀r∈l,r∈R)→∀{row:List Int},(∀i,lvN row i≤t i)→∀i,lvN (XM l row) i≤t i
 | [],_,_,h=>h
 | r::l,hl,row,h=>Zdt ht (l:=l) (fun x mx=>hl x (by simp [mx])) (Zln ht (hl r (by simp)) h)
theorem Zhm {n:Nat}:∀{R:List Zf} {row:List Int},row.length=n→(∀r∈R,OkN n r)→∀r∈R,(∀y∈r.inn,lvN row y.toNat≤lvN (XM R row) r.for_.toNat)∧∀y∈r.outs,lvN row y.toNat+1≤lvN (XM R row) r.for_.toNat
 | [],_,_,_,r,mr=>by simp at mr
 | q::R,row,hl,hR,r,mr=>by
  have hs:=Zbk R (XS row q)
  show (∀y∈r.inn,lvN row y.toNat≤lvN (XM R (XS row q)) r.for_.toNat)∧∀y∈r.outs,lvN row y.toNat+1≤lvN (XM R (XS row q)) r.for_.toNat
  rcases A4.1 mr with rfl | mr
  ·have h0:=(hR r (by simp)).1.2
   have e:lvN (XS row r) r.for_.toNat=Zh3 row r:=by
    unfold XS
    rw [Zad,if_pos ⟨rfl,by omega⟩]
   have h1:=hs r.for_.toNat
   rw [e] at h1
   obtain ⟨_,h2,h3⟩:=ZoO row r
   exact ⟨fun y my=>AS (h2 y my) h1,fun y my=>AS (h3 y my) h1⟩
  ·obtain ⟨h2,h3⟩:=Zhm (n:=n) (R:=R) (row:=XS row q) (by rw [Zc4,hl]) (fun x mx=>hR x (by simp [mx])) r mr
   refine ⟨fun y my=>AS (ZgM row q _) (h2 y my),fun y my=>?_⟩
   have:=ZgM row q y.toNat
   have:=h3 y my
   omega
structure ZaI (n:Nat) (R:List Zf) (L:List Int):Prop where
 len:L.length=n
 sol:Zhy R (lvN L)
 least:∀t,Zhy R t→∀i,lvN L i≤t i
theorem ZaI.uniq {n:Nat} {R:List Zf} {L M:List Int} (h:ZaI n R L) (k:ZaI n R M):L=M:=
 Zfp (h.len.trans k.len.symm) fun i _=>Int.le_antisymm (h.least _ k.sol i) (k.least _ h.sol i)
theorem Zt8 {n:Nat} {R:List Zf} {row:List Int} (hl:row.length=n) (hR:∀r∈R,OkN n r) (h0:∀i,0≤lvN row i) (hle:∀t,Zhy R t→∀i,lvN row i≤t i) (h:XM R row=row):ZaI n R row:=by
 have:=Zhm hl hR
 rw [h] at this
 exact ⟨hl,⟨h0,fun r mr=>(this r mr).1,fun r mr=>(this r mr).2⟩,hle⟩
noncomputable def Ziu (n:Nat) (L row:List Int):Nat:=(AI n).countP fun i=>decide (¬lvN row i=lvN L i)
theorem ZlB {n:Nat} {R:List Zf} {L row:List Int} (hL:ZaI n R L) (hl:row.length=n) (hR:∀r∈R,OkN n r) (h0:∀i,0≤lvN row i) (hle:∀i,lvN row i≤lvN L i):Ziu n L row=0∨Ziu n L (XM R row)+1≤Ziu n L row:=by
 have hs:=Zdt hL.sol (l:=R) (fun _ h=>h) hle
 have hge:=Zbk R row
 by_cases hz:∃i,i<n∧¬lvN row i=lvN L i∧lvN (XM R row) i=lvN L i
 ·right
  obtain ⟨i,hi,h1,h2⟩:=hz
  refine Zfb (fun j _ hj=>?_) i (AZ.2 hi) (by simpa using h2) (by simpa using h1)
  simp only[decide_eq_true_eq] at hj ⊢
  intro e
  have:=hs j
  have:=hge j
  omega
 ·left
  have hno:∀i,i<n→¬lvN row i=lvN L i→lvN (XM R row) i≤lvN L i - 1:=fun i hi h1=>by
   have h2:¬lvN (XM R row) i=lvN L i:=fun h=>hz ⟨i,hi,h1,h⟩
   have:=hs i
   omega
  let t:Nat→Int:=fun i=>if i<n∧¬lvN row i=lvN L i then lvN L i - 1 else lvN L i
  have tle:∀i,t i≤lvN L i:=fun i=>by simp only[t];split<;>omega
  have key:∀(x y:Nat) (d:Int),0≤d→x<n→lvN L y+d≤lvN L x→lvN row y+d≤lvN (XM R row) x→t y+d≤t x:=fun x y d hd hx h1 h2=>by
   by_cases hA:x<n∧¬lvN row x=lvN L x
   ·have e:t x=lvN L x - 1:=if_pos hA
    have h3:=hno x hA.1 hA.2
    by_cases hB:y<n∧¬lvN row y=lvN L y
    ·have e2:t y=lvN L y - 1:=if_pos hB
     omega
    ·have e2:t y=lvN L y:=if_neg hB
     by_cases hy:y<n
     ·have h4:lvN row y=lvN L y:=Classical.byContradiction fun h=>hB ⟨hy,h⟩
      omega
     ·have h4:lvN row y=0:=by unfold lvN;rw [AG (by omega)];rfl
      have h5:lvN L y=0:=by unfold lvN;rw [AG (by rw [hL.len];omega)];rfl
      omega
   ·have e:t x=lvN L x:=if_neg hA
    have:=tle y
    omega
  have ht:Zhy R t:=⟨fun i=>by
   simp only[t]
   split
   ·rename_i h
    have:=h0 i;have:=hle i;have:=h.2
    omega
   ·exact hL.sol.pos i,fun r mr y my=>by
    have h1:=hL.sol.inn r mr y my
    have h2:=(Zhm hl hR r mr).1 y my
    have:=key r.for_.toNat y.toNat 0 (Ak _) (hR r mr).1.2 (by omega) (by omega)
    omega,fun r mr y my=>key r.for_.toNat y.toNat 1 (by omega) (hR r mr).1.2 (hL.sol.outs r mr y my) ((Zhm hl hR r mr).2 y my)⟩
  unfold Ziu
  rw [As]
  intro i hi
  simp only[decide_eq_true_eq,Classical.not_not]
  refine Classical.byContradiction fun h=>?_
  have h1:=hL.least t ht i
  have e:t i=lvN L i - 1:=if_pos ⟨AZ.1 hi,h⟩
  omega
noncomputable def ZsN (R:List Zf):Nat→List Int→List Int
 | 0,row=>row
 | k+1,row=>ZsN R k (XM R row)
theorem Zmq {n:Nat} {R:List Zf} {L:List Int} (hL:ZaI n R L) (hR:∀r∈R,OkN n r):∀(k:Nat) (row:List Int),row.length=n→(∀i,0≤lvN row i)→(∀i,lvN row i≤lvN L i)→Ziu n L row≤k→ZsN R k row=L
 | 0,row,hl,h0,hle,hk=>by
  show row=L
  refine Zfp (hl.trans hL.len.symm) fun i hi=>?_
  have:Ziu n L row=0:=by omega
  unfold Ziu at this
  rw [As] at this
  simpa using this i (AZ.2 (by omega))
 | k+1,row,hl,h0,hle,hk=>by
  refine Zmq hL hR k (XM R row) (by rw [Ze8,hl]) (fun i=>AS (h0 i) (Zbk R row i)) (Zdt hL.sol (fun _ h=>h) hle) ?_
  rcases ZlB hL hl hR h0 hle with h | h
  ·have:Ziu n L (XM R row)=0:=by
    have e:row=L:=by
     refine Zfp (hl.trans hL.len.symm) fun i hi=>?_
     unfold Ziu at h
     rw [As] at h
     simpa using h i (AZ.2 (by omega))
    unfold Ziu
    rw [As]
    intro i hi
    have h1:=Zdt hL.sol (l:=R) (fun _ h=>h) hle i
    have h2:=Zbk R row i
    rw [e] at h1 h2 ⊢
    simp only[decide_eq_true_eq,Classical.not_not]
    omega
   omega
  ·omega
def Zj1 (R:List Zf) (x y:Int):Prop:=∃r∈R,r.for_=x∧(y∈r.inn∨y∈r.outs)
inductive Zaj (R:List Zf) (x:Int):Int→Prop
 | one {y:Int}:Zj1 R x y→Zaj R x y
 | step {y z:Int}:Zaj R x y→Zj1 R y z→Zaj R x z
theorem Zaj.head {R:List Zf} {x y z:Int} (h:Zj1 R x y) (k:Zaj R y z):Zaj R x z:=by
 induction k with
 | one h1=>exact .step (.one h) h1
 | step _ h1 ih=>exact .step ih h1
def ZpD (R:List Zf):Prop:=∀r∈R,∀y∈r.outs,y≠r.for_∧¬Zaj R y r.for_
noncomputable def Zg6 (n:Nat) (R:List Zf) (i:Nat):Int:=if i<n then (((AI n).countP fun j=>decide (j=i∨Zaj R ((i:Nat):Int) ((j:Nat):Int)):Nat):Int) - 1 else 0
theorem Zn7 {α:Type} {p q:α→Bool}:∀{l:List α},(∀x∈l,p x=true→q x=true)→l.countP p≤l.countP q
 | [],_=>AK _
 | x::l,h=>by
  have ih:=Zn7 (l:=l) fun y my=>h y (by simp [my])
  have hx:=h x (by simp)
  simp only[Al]
  cases hp:p x with
  | true=>rw [hx hp];simpa using ih
  | false=>simp;omega
theorem ZrR {n:Nat} {R:List Zf} (hR:∀r∈R,OkN n r) (hS:ZpD R):Zhy R (Zg6 n R)∧∀i,Zg6 n R i<n∨Zg6 n R i=0:=by
 have hx:∀i,i<n→Zg6 n R i=(((AI n).countP fun j=>decide (j=i∨Zaj R ((i:Nat):Int) ((j:Nat):Int)):Nat):Int) - 1:=fun i hi=>if_pos hi
 refine ⟨⟨fun i=>?_,fun r mr y my=>?_,fun r mr y my=>?_⟩,fun i=>?_⟩
 ·by_cases hi:i<n
  ·rw [hx i hi]
   have:0<(AI n).countP fun j=>decide (j=i∨Zaj R ((i:Nat):Int) ((j:Nat):Int)):=BN.2 ⟨i,AZ.2 hi,by simp⟩
   omega
  ·unfold Zg6;rw [if_neg hi];exact Ak _
 ·obtain ⟨⟨f0,f1⟩,f2,_⟩:=hR r mr
  obtain ⟨y0,y1⟩:=f2 y my
  rw [hx _ y1,hx _ f1]
  have ey:((y.toNat:Nat):Int)=y:=AR y0
  have ef:((r.for_.toNat:Nat):Int)=r.for_:=AR f0
  have hd:Zj1 R r.for_ y:=⟨r,mr,rfl,.inl my⟩
  have:=Zn7 (l:=AI n) (p:=fun j=>decide (j=y.toNat∨Zaj R ((y.toNat:Nat):Int) ((j:Nat):Int))) (q:=fun j=>decide (j=r.for_.toNat∨Zaj R ((r.for_.toNat:Nat):Int) ((j:Nat):Int))) (fun j _ hj=>by
   simp only[decide_eq_true_eq,ey,ef] at hj ⊢
   rcases hj with rfl | hj
   ·exact .inr (by rw [ey];exact .one hd)
   ·exact .inr (.head hd hj))
  omega
 ·obtain ⟨⟨f0,f1⟩,_,f3⟩:=hR r mr
  obtain ⟨y0,y1⟩:=f3 y my
  rw [hx _ y1,hx _ f1]
  have ey:((y.toNat:Nat):Int)=y:=AR y0
  have ef:((r.for_.toNat:Nat):Int)=r.for_:=AR f0
  have hd:Zj1 R r.for_ y:=⟨r,mr,rfl,.inr my⟩
  obtain ⟨s1,s2⟩:=hS r mr y my
  have:=Zfb (l:=AI n) (p:=fun j=>decide (j=y.toNat∨Zaj R ((y.toNat:Nat):Int) ((j:Nat):Int))) (q:=fun j=>decide (j=r.for_.toNat∨Zaj R ((r.for_.toNat:Nat):Int) ((j:Nat):Int))) (fun j _ hj=>by
   simp only[decide_eq_true_eq,ey,ef] at hj ⊢
   rcases hj with rfl | hj
   ·exact .inr (by rw [ey];exact .one hd)
   ·exact .inr (.head hd hj)) r.for_.toNat (AZ.2 f1) (by
    simp only[decide_eq_false_iff_not,ey,ef,not_or]
    exact ⟨fun e=>s1 (by rw [←ey,←ef,e]),s2⟩) (by simp)
  omega
 ·by_cases hi:i<n
  ·left
   rw [hx i hi]
   have:=BO (p:=fun j=>decide (j=i∨Zaj R ((i:Nat):Int) ((j:Nat):Int))) (l:=AI n)
   rw [List.length_range] at this
   omega
  ·right;unfold Zg6;rw [if_neg hi]
end
section
open Classical
def rdN (row:List Int) (y:Int):Int:=(row[y.toNat]?).getD (-1)
def ZiT (row:List Int) (k:Nat) (r:Zf):Prop:=(∀y∈r.inn,0≤rdN row y∧rdN row y<((k:Nat):Int))∧∀y∈r.outs,rdN row y<0
def ZcJ (row l:List Int) (k:Int):List Int:=l.foldl (fun s x=>s.set x.toNat k) row
theorem Zri (k:Int):∀(l row:List Int),(ZcJ row l k).length=row.length
 | [],_=>rfl
 | x::l,row=>(Zri k l (row.set x.toNat k)).trans (by simp)
theorem Ziw (k:Int):∀(l row:List Int) (i:Nat),(ZcJ row l k)[i]?=if (∃x∈l,x.toNat=i)∧i<row.length then some k else row[i]?
 | [],row,i=>by simp [ZcJ]
 | x::l,row,i=>by
  have ih:=Ziw k l (row.set x.toNat k) i
  show (ZcJ (row.set x.toNat k) l k)[i]?=_
  rw [ih,BP,Ar]
  by_cases h2:i<row.length
  ·by_cases h1:∃y∈l,y.toNat=i
   ·have:∃y∈x::l,y.toNat=i:=by obtain ⟨y,m,e⟩:=h1;exact ⟨y,by simp [m],e⟩
    rw [if_pos ⟨h1,h2⟩,if_pos ⟨this,h2⟩]
   ·rw [if_neg (fun h=>h1 h.1)]
    by_cases h3:x.toNat=i
    ·rw [if_pos h3,if_pos (by omega),if_pos ⟨⟨x,by simp,h3⟩,h2⟩]
    ·rw [if_neg h3,if_neg]
     rintro ⟨⟨y,m,e⟩,_⟩
     rcases A4.1 m with rfl | m
     ·exact h3 e
     ·exact h1 ⟨y,m,e⟩
  ·have e:row[i]?=none:=AG (by omega)
   by_cases h3:x.toNat=i
   ·have:¬x.toNat<row.length:=by omega
    simp [h2,e,h3]
   ·simp [h2,e,h3]
theorem ZrP {row l m:List Int} {k:Int} (h:∀i,(∃x∈l,x.toNat=i)↔∃x∈m,x.toNat=i):ZcJ row l k=ZcJ row m k:=by
 apply Aj
 intro i
 rw [Ziw,Ziw]
 by_cases hc:(∃x∈l,x.toNat=i)∧i<row.length
 ·rw [if_pos hc,if_pos ⟨(h i).1 hc.1,hc.2⟩]
 ·rw [if_neg hc,if_neg fun h'=>hc ⟨(h i).2 h'.1,h'.2⟩]
def ZeB (row:List Int):Nat:=row.countP fun v=>decide (v<0)
theorem ZlI {k:Int} (hk:0≤k):∀(row:List Int) (i:Nat),ZeB (row.set i k)≤ZeB row∧(∀v,row[i]?=some v→v<0→ZeB (row.set i k)+1≤ZeB row)
 | [],i=>by simp [ZeB]
 | v::row,0=>by
  simp only[BQ,ZeB,Al]
  have:¬k<0:=by omega
  refine ⟨by simp [this],fun u hu hn=>?_⟩
  simp at hu;subst hu
  simp [this,hn]
 | v::row,i+1=>by
  obtain ⟨h1,h2⟩:=ZlI hk row i
  simp only[BR,ZeB,Al] at *
  refine ⟨by omega,fun u hu hn=>?_⟩
  have:=h2 u (by simpa using hu) hn
  omega
theorem ZnB {k:Int} (hk:0≤k):∀(l row:List Int),ZeB (ZcJ row l k)≤ZeB row
 | [],_=>AK _
 | x::l,row=>A9 (ZnB hk l (row.set x.toNat k)) (ZlI hk row _).1
noncomputable def Yw (R:List Zf) (L:List Int) (s:Int) (row:List Int) (k:Nat):List Int:=R.filterMap fun r=>if lvN L r.for_.toNat=s∧rdN row r.for_<0∧ZiT row k r then some r.for_ else none
theorem ZbV {R:List Zf} {L:List Int} {s:Int} {row:List Int} {k:Nat} {x:Int}:x∈Yw R L s row k↔∃r∈R,r.for_=x∧lvN L x.toNat=s∧rdN row x<0∧ZiT row k r:=by
 unfold Yw
 rw [AN]
 constructor
 ·rintro ⟨r,mr,h⟩
  split at h
  ·rename_i hc
   obtain rfl:=AJ h
   exact ⟨r,mr,rfl,hc⟩
  ·simp at h
 ·rintro ⟨r,mr,rfl,h⟩
  exact ⟨r,mr,by rw [if_pos h]⟩
structure RIn (n:Nat) (row:List Int) (k:Nat):Prop where
 len:row.length=n
 val:∀i,i<n→∃v,row[i]?=some v∧(v=-1∨(0≤v∧v<((k:Nat):Int)))
 few:k+ZeB row≤n
theorem RIn.next {n:Nat} {R:List Zf} {L row:List Int} {s:Int} {k:Nat} (hR:∀r∈R,OkN n r) (h:RIn n row k) (hc:Yw R L s row k≠[]):RIn n (ZcJ row (Yw R L s row k) ((k:Nat):Int)) (k+1)∧ZeB (ZcJ row (Yw R L s row k) ((k:Nat):Int))+1≤ZeB row:=by
 have hd:ZeB (ZcJ row (Yw R L s row k) ((k:Nat):Int))+1≤ZeB row:=by
  cases e:Yw R L s row k with
  | nil=>exact absurd e hc
  | cons x l=>
   have mx:x∈Yw R L s row k:=by rw [e];simp
   obtain ⟨r,mr,rfl,_,h2,_⟩:=ZbV.1 mx
   obtain ⟨v,hv,_⟩:=h.val r.for_.toNat (hR r mr).1.2
   have h3:v<0:=by unfold rdN at h2;rw [hv] at h2;exact h2
   have h4:=(ZlI (k:=((k:Nat):Int)) (by omega) row r.for_.toNat).2 v hv h3
   have h5:=ZnB (k:=((k:Nat):Int)) (by omega) l (row.set r.for_.toNat ((k:Nat):Int))
   exact A9 (BS h5) h4
 refine ⟨⟨by rw [Zri,h.len],fun i hi=>?_,by have:=h.few;omega⟩,hd⟩
 rw [Ziw]
 obtain ⟨v,hv,hv2⟩:=h.val i hi
 split
 ·exact ⟨_,rfl,.inr ⟨by omega,by omega⟩⟩
 ·refine ⟨v,hv,?_⟩
  rcases hv2 with hv2 | ⟨h1,h2⟩
  ·exact .inl hv2
  ·exact .inr ⟨h1,by omega⟩
noncomputable def YL (R:List Zf) (L:List Int) (s:Int):Nat→List Int→Nat→List Int × Nat
 | 0,row,k=>(row,k)
 | f+1,row,k=>if Yw R L s row k=[] then (row,k) else YL R L s f (ZcJ row (Yw R L s row k) ((k:Nat):Int)) (k+1)
theorem ZdK {n:Nat} {R:List Zf} {L:List Int} {s:Int} (hR:∀r∈R,OkN n r):∀(f:Nat) (row:List Int) (k:Nat),RIn n row k→ZeB row≤f→RIn n (YL R L s f row k).1 (YL R L s f row k).2∧Yw R L s (YL R L s f row k).1 (YL R L s f row k).2=[]
 | 0,row,k,h,hf=>by
  refine ⟨h,Classical.byContradiction fun hc=>?_⟩
  have:=(h.next hR hc).2
  omega
 | f+1,row,k,h,hf=>by
  unfold YL
  by_cases hc:Yw R L s row k=[]
  ·rw [if_pos hc];exact ⟨h,hc⟩
  ·rw [if_neg hc]
   obtain ⟨h1,h2⟩:=h.next hR hc
   exact ZdK hR f _ _ h1 (by omega)
theorem ZtN {R:List Zf} {L:List Int} {s:Int} (hs:∀r∈R,¬lvN L r.for_.toNat=s) (f:Nat) (row:List Int) (k:Nat):YL R L s f row k=(row,k):=by
 cases f with
 | zero=>rfl
 | succ f=>
  unfold YL
  rw [if_pos]
  rw [List.eq_nil_iff_forall_not_mem]
  intro x mx
  obtain ⟨r,mr,rfl,h,_⟩:=ZbV.1 mx
  exact hs r mr h
noncomputable def Xl (R:List Zf) (L:List Int) (n:Nat) (l:List Nat) (st:List Int × Nat):List Int × Nat:=l.foldl (fun st s=>YL R L ((s:Nat):Int) n st.1 st.2) st
theorem Zk1 {n:Nat} {R:List Zf} {L:List Int} (hR:∀r∈R,OkN n r):∀(l:List Nat) (st:List Int × Nat),RIn n st.1 st.2→RIn n (Xl R L n l st).1 (Xl R L n l st).2
 | [],_,h=>h
 | s::l,st,h=>Zk1 hR l _ (ZdK hR n st.1 st.2 h (by have:=h.few;omega)).1
theorem ZoZ (R:List Zf) (L:List Int) (n:Nat) (l:List Nat) (s:Nat) (st:List Int × Nat):Xl R L n (l++[s]) st=YL R L ((s:Nat):Int) n (Xl R L n l st).1 (Xl R L n l st).2:=by
 unfold Xl
 rw [AL]
 rfl
theorem ZrN {n:Nat} {R:List Zf} {L:List Int} {a b:Nat} (h1:∀r∈R,lvN L r.for_.toNat<((a:Nat):Int)) (h2:∀r∈R,lvN L r.for_.toNat<((b:Nat):Int)) (st:List Int × Nat):Xl R L n (AI a) st=Xl R L n (AI b) st:=by
 have key:∀(a d:Nat),(∀r∈R,lvN L r.for_.toNat<((a:Nat):Int))→Xl R L n (AI (a+d)) st=Xl R L n (AI a) st:=by
  intro a d ha
  induction d with
  | zero=>rfl
  | succ d ih=>
   rw [show a+(d+1)=(a+d)+1 by omega,List.range_succ,ZoZ,ih,ZtN]
   intro r mr e
   have:=ha r mr
   omega
 rcases Nat.le_total a b with h | h
 ·have:=key a (b - a) h1
  rw [show a+(b - a)=b by omega] at this
  exact this.symm
 ·have:=key b (a - b) h2
  rw [show b+(a - b)=a by omega] at this
  exact this
end
section
open Classical
theorem Zxv (F:List Zb):∀n (l:List Zt),l.length=n→∀t∈Zw l F,∀f∈t.facts,∃x∈l,x.kind=1∧x.pattern.rel=f.rel:=by
 intro n
 induction n with
 | zero=>
  intro l h t mt f mf
  rw [Af h] at mt
  simp [Zw] at mt
  subst mt
  simp [Zu3] at mf
 | succ n ih=>
  intro l h
  obtain ⟨p,x,rfl⟩:∃p x,l=p++[x]:=⟨l.dropLast,l.getLast (by intro e;simp [e] at h),(Ao _).symm⟩
  intro t mt f mf
  rw [Y6] at mt
  obtain ⟨s,ms,mt⟩:=AQ.1 mt
  have old:f∈s.facts→∃y∈p++[x],y.kind=1∧y.pattern.rel=f.rel:=fun hf=>by
   obtain ⟨y,my,hy⟩:=ih p (by simpa using h) s ms f hf
   exact ⟨y,by simp [my],hy⟩
  unfold ZaR at mt
  by_cases hk:x.kind=1
  ·rw [if_pos hk] at mt
   obtain ⟨g,mg,hg⟩:=AN.1 mt
   obtain ⟨b,hb,rfl⟩:=Ae.1 hg
   simp only[A7,List.mem_singleton] at mf
   rcases mf with mf | rfl
   ·exact old mf
   ·refine ⟨x,by simp,hk,?_⟩
    unfold QG at hb
    split at hb
    ·rename_i hc
     unfold Zcp at hc
     simp only[A3,decide_eq_true_eq,ZO] at hc
     first | exact hc.1.2 | exact hc.2 | exact hc.1.1.2 | exact hc.2.1 | exact hc.1.2.1
    ·simp at hb
  ·rw [if_neg hk] at mt
   split at mt
   ·simp at mt;subst mt;exact old mf
   ·simp at mt
def ZfV (F:List Zb) (x:Int):ByteArray:=match F[x.toNat]? with | some f=>f.rel | none=>⟨#[]⟩
theorem ZjE {F:List Zb} {f:Zb} {x:Int} (e:ZY F f=x) (h0:0≤x):(0≤x∧x.toNat<F.length)∧ZfV F x=f.rel∧f∈F:=by
 rcases ZfL F f with ⟨_,h2⟩ | ⟨j,h1,h2⟩
 ·omega
 ·have ej:x.toNat=j:=by omega
  refine ⟨⟨h0,?_⟩,?_,Ag h2⟩
  ·rw [ej];exact (AT.1 h2).1
  ·unfold ZfV;rw [ej,h2]
structure ZEE (R:List Zg) (F:List Zb) (x:Zf):Prop where
 node:0≤x.for_∧x.for_.toNat<F.length
 inn:∀y∈x.inn,(0≤y∧y.toNat<F.length)∧Zdq R (ZfV F x.for_) (ZfV F y)
 outs:∀y∈x.outs,(0≤y∧y.toNat<F.length)∧Zdq R (ZfV F x.for_) (ZfV F y)∧ZfV F y≠ZfV F x.for_∧¬YJ R (ZfV F y) (ZfV F x.for_)
 up:x.inn.Pairwise (·<·)∧x.outs.Pairwise (·<·)
theorem Zee {R:List Zg} {base F:List Zb} (h:Z0 R base F) {x:Zf} (mx:x∈ZZ R F base):ZEE R F x:=by
 rcases Zib.1 mx with ⟨f,mf,rfl⟩ | ⟨r,mr,t,mt,a,ma,rfl⟩
 ·obtain ⟨j,h1,h2⟩:=Q6 (h.good.inc f mf)
  have:=(AT.1 h2).1
  exact ⟨⟨by simp only;omega,by simp only;omega⟩,by simp,by simp,Ah,Ah⟩
 ·have hin:Z8 a t∈F:=h.closed r mr t mt a ma
  obtain ⟨j,h1,h2⟩:=Q6 hin
  have hr:=(h.rule mr).1
  have hr2:=hr
  unfold ZM at hr2
  simp only[A3] at hr2
  have hk:a.kind=1:=by
   have:=AF.1 hr2.2 a ma
   simpa using this
  obtain ⟨hn,hrel,_⟩:=ZjE (F:=F) (f:=Z8 a t) rfl (by rw [h1];omega)
  have hok:=h.good.ok _ hin
  have hname:∀p b,Yb (YE (Yf p b)).1=true→(YE (Yf p b)).1.rel=p.rel:=fun p b hf=>by
   cases hi:Yf p b with
   | none=>
    rw [hi] at hf
    exact absurd hf (by decide)
   | some g=>
    unfold Yf at hi
    split at hi
    ·obtain ⟨l,_,rfl⟩:=Ae.1 hi
     rfl
    ·simp at hi
  have hfor:ZfV F (ZY F (Z8 a t))=a.pattern.rel:=hrel.trans (hname a.pattern t.binding hok)
  have hw:a.pattern.rel∈Xk r:=AN.2 ⟨a,ma,by rw [if_pos (.inl hk)]⟩
  refine ⟨hn,fun y my=>?_,fun y my=>?_,(Yv F _).1,(Yv F _).1⟩
  ·obtain ⟨f,mf,e,e0⟩:=((Yv F t.facts).2.1 y).1 my
   obtain ⟨k1,k2,_⟩:=ZjE e e0
   obtain ⟨c,mc,ck,cr⟩:=Zxv F _ (XT r) rfl t mt f mf
   refine ⟨k1,r,mr,?_,?_⟩
   ·show ZfV F (ZY F (Z8 a t))∈_
    rw [hfor];exact hw
   ·rw [k2,←cr]
    exact AN.2 ⟨c,(Az.1 mc).1,by rw [if_pos (.inl ck)]⟩
  ·obtain ⟨f,mf,e,e0⟩:=((Yv F (ZiJ r t)).2.1 y).1 my
   obtain ⟨k1,k2,k3⟩:=ZjE e e0
   obtain ⟨c,mc,rfl⟩:=AH.1 mf
   obtain ⟨mc,ck⟩:=Az.1 mc
   have cr:=hname c.pattern t.binding (h.good.ok _ k3)
   have hy:ZfV F y=c.pattern.rel:=k2.trans cr
   have hfor':ZfV F (Yg F r t a).for_=a.pattern.rel:=hfor
   have hlog:Zjl R c.pattern.rel a.pattern.rel=true:=by
    have h1:=h.logical
    rw [A3] at h1
    have h2:=AF.1 h1.2 r mr
    unfold Y4 at h2
    rw [A3] at h2
    have h3:=AF.1 h2.2 c mc
    unfold ZgX at h3
    rw [ck] at h3
    simp only[Bool.not_true,Ay] at h3
    exact AF.1 h3 _ (ZP.2 hw)
   unfold Zjl at hlog
   simp only[A3,Ai,decide_eq_false_iff_not] at hlog
   rw [hfor',hy]
   refine ⟨k1,⟨r,mr,hw,AN.2 ⟨c,mc,by rw [if_pos (.inr (by simpa using ck))]⟩⟩,fun e=>?_,hlog.2⟩
   have:=ZuE.1 hlog.1
   exact this e.symm
theorem Zun {R:List Zg} {base F:List Zb} (h:Z0 R base F):∀x∈ZZ R F base,OkN F.length x:=fun x mx=>by
 have hf:=Zee h mx
 exact ⟨hf.node,fun y my=>(hf.inn y my).1,fun y my=>(hf.outs y my).1⟩
theorem ZoH {R:List Zg} {base F:List Zb} (h:Z0 R base F):ZpD (ZZ R F base):=by
 have hstep:∀x y,Zj1 (ZZ R F base) x y→Zdq R (ZfV F x) (ZfV F y):=fun x y ⟨r,mr,e,hy⟩=>by
  have hf:=Zee h mr
  subst e
  rcases hy with hy | hy
  ·exact (hf.inn y hy).2
  ·exact (hf.outs y hy).2.1
 have hreach:∀x y,Zaj (ZZ R F base) x y→YJ R (ZfV F x) (ZfV F y):=fun x y hd=>by
  induction hd with
  | one h1=>exact .one (hstep _ _ h1)
  | step _ h1 ih=>exact .next ih (hstep _ _ h1)
 intro r mr y my
 obtain ⟨_,_,h2,h3⟩:=(Zee h mr).outs y my
 exact ⟨fun e=>h2 (by rw [e]),fun hd=>h3 (hreach _ _ hd)⟩
end
def OkR (n:Nat) (r:Zf):Prop:=0≤r.for_∧r.for_.toNat<n∧(∀y∈r.inn,0≤y∧y.toNat<n)∧r.outs=[]
inductive Der (R:List Zf):Int→Prop
 | mk (r:Zf):r∈R→(∀y∈r.inn,Der R y)→Der R r.for_
theorem Der.mono {R R':List Zf} (h:∀r∈R,r∈R') {x:Int} (hx:Der R x):Der R' x:=by
 induction hx with
 | mk r hr _ ih=>exact .mk r (h r hr) ih
theorem Der.node {R:List Zf} {n:Nat} (h:∀r∈R,OkR n r) {x:Int} (hx:Der R x):0≤x∧x.toNat<n:=by
 cases hx with
 | mk r hr _=>exact ⟨(h r hr).1,(h r hr).2.1⟩
theorem ZGG {k:Nat} (h:k<1000000000):IntKind.i64.wrap (((k:Nat):Int)+1)=((k+1:Nat):Int):=Zj (n:=k+1) (by omega) (by omega)
theorem ZGM {α:Type} {n k:Nat} {z:α} (h:k<n):(A6 n z)[k]?=some z:=by simp [h]
theorem ZHV {b:Zr} (h0:0≤b.nodes) (h1:b.nodes≤1000) (hR:∀r∈b.reasons,OkR b.nodes.toNat r):ZgJ b=some (A6 b.nodes.toNat 0):=by
 unfold ZgJ
 rw [Zh _ ⟨h0,by omega⟩,Zfq]
 simp only[if_true]
 have key:∀(fin:List Int × Bool→Option ((List Int × Bool) ⊕ List Int)) (body:Nat→Zf→List Int × Bool→Option ((List Int × Bool) ⊕ ((List Int × Bool) ⊕ List Int))),
   (∀j r,r∈b.reasons→body j r (A6 b.nodes.toNat 0,false)=some (.inl (A6 b.nodes.toNat 0,false)))→Zo body fin b.reasons 0 (A6 b.nodes.toNat 0,false)=fin (A6 b.nodes.toNat 0,false):=by
  intro fin body hb
  rw [YM (f:=fun s _=>s) (fun _ s=>s=(A6 b.nodes.toNat 0,false)) rfl (fun j r s mr _ _ hs=>by subst hs;exact ⟨hb j r mr,rfl⟩)]
  congr 1
  induction b.reasons with
  | nil=>rfl
  | cons r l ih=>simpa using ih
 rw [key]
 ·show Yp _ _=_
  rw [Zfq];rfl
 ·intro j r mr
  obtain ⟨f0,f1,f2,f3⟩:=hR r mr
  have hz:(A6 b.nodes.toNat (0:Int))[r.for_.toNat]?=some 0:=ZGM f1
  simp only[List.length_replicate]
  rw [Zh _ ⟨f0,by omega⟩,hz,A0,f3,YM (f:=fun s _=>s) (fun _ s=>s=(0:Int)) rfl (fun j y s my _ _ hs=>by
   subst hs
   obtain ⟨y0,y1⟩:=f2 y my
   have hy:(A6 b.nodes.toNat (0:Int))[y.toNat]?=some 0:=ZGM y1
   refine ⟨?_,rfl⟩
   rw [Zh _ ⟨y0,by omega⟩,hy]
   rfl)]
  have e:∀(l:List Int),l.foldl (fun s _=>s) (0:Int)=0:=fun l=>by induction l with
   | nil=>rfl
   | cons x l ih=>simpa using ih
  rw [e,ZlZ]
  simp
structure Zno (R:List Zf) (n:Nat) (row:List Int) (k:Nat):Prop where
 len:row.length=n
 val:∀(i:Nat) (v:Int),row[i]?=some v→v=-1∨(0≤v∧v<((k:Nat):Int)∧Der R ((i:Nat):Int))
def ZmR (row:List Int) (y:Int):Bool:=match row[y.toNat]? with | some v=>decide (0≤v) | none=>false
def ZGc (row:List Int):Nat:=row.countP fun v=>decide (v<0)
def Zx1 (row:List Int) (r:Zf):Bool:=r.inn.all (ZmR row)
theorem Zno.at {R:List Zf} {n k:Nat} {row:List Int} (h:Zno R n row k) {y:Int} (hy:y.toNat<n):∃v,row[y.toNat]?=some v∧(v=-1∨(0≤v∧v<((k:Nat):Int))):=by
 have hl:y.toNat<row.length:=by rw [h.len];exact hy
 refine ⟨row[y.toNat],A8 hl,?_⟩
 rcases h.val _ _ (A8 hl) with h1 | ⟨h1,h2,_⟩
 ·exact .inl h1
 ·exact .inr ⟨h1,h2⟩
theorem ZHy {R:List Zf} {n k:Nat} {row:List Int} (h:Zno R n row k) {r:Zf} (hr:OkR n r):ZaY r row ((k:Nat):Int)=some (Zx1 row r):=by
 obtain ⟨f0,f1,f2,f3⟩:=hr
 unfold ZaY Zx1
 rw [f3,ZU (p:=ZmR row) (r:=false)]
 ·cases r.inn.all (ZmR row)<;>rfl
 ·intro i y my
  obtain ⟨y0,y1⟩:=f2 y my
  obtain ⟨v,hv,hv2⟩:=h.at y1
  have ha:atI row y=some v:=by unfold atI;rw [if_pos y0];exact hv
  rw [ha,A0]
  simp only[ZmR,hv]
  rcases hv2 with rfl | ⟨h1,h2⟩
  ·simp
  ·have e1:¬v<0:=by omega
   have e2:¬((k:Nat):Int)≤v:=by omega
   simp [e1,e2,h1]
def Zql (row:List Int) (R:List Zf):List Int:=R.filterMap fun r=>if !ZmR row r.for_&&Zx1 row r then some r.for_ else none
def Zic (row:List Int) (l:List Int) (k:Int):List Int:=l.foldl (fun s x=>s.set x.toNat k) row
theorem ZlK (k:Int):∀(l row:List Int),(Zic row l k).length=row.length
 | [],_=>rfl
 | x::l,row=>by rw [Zic,AB];exact (ZlK k l _).trans (by simp)
theorem Zn9 (k:Int):∀(l row:List Int) (i:Nat),(Zic row l k)[i]?=if (∃x∈l,x.toNat=i)∧i<row.length then some k else row[i]?
 | [],row,i=>by simp [Zic]
 | x::l,row,i=>by
  have ih:=Zn9 k l (row.set x.toNat k) i
  rw [Zic,AB]
  show (Zic (row.set x.toNat k) l k)[i]?=_
  rw [ih,BP,Ar]
  by_cases h1:∃y∈l,y.toNat=i
  ·by_cases h2:i<row.length
   ·have:∃y∈x::l,y.toNat=i:=by obtain ⟨y,m,e⟩:=h1;exact ⟨y,by simp [m],e⟩
    simp [h1,h2,this]
   ·simp [h2]
    intro e;omega
  ·by_cases h3:x.toNat=i
   ·by_cases h2:i<row.length
    ·have:∃y∈x::l,y.toNat=i:=⟨x,by simp,h3⟩
     rw [if_neg (fun h=>h1 h.1),if_pos h3,if_pos (by omega),if_pos ⟨this,h2⟩]
    ·rw [if_neg (fun h=>h2 h.2),if_pos h3,if_neg (by omega),if_neg (fun h=>h2 h.2)]
     simp;omega
   ·have:¬∃y∈x::l,y.toNat=i:=by
     rintro ⟨y,m,e⟩
     rcases A4.1 m with rfl | m
     ·exact h3 e
     ·exact h1 ⟨y,m,e⟩
    rw [if_neg (fun h=>h1 h.1),if_neg h3,if_neg (fun h=>this h.1)]
theorem ZIC (row:List Int):ZGc row≤row.length:=BO
theorem ZG6 {k:Int} (hk:0≤k):∀(row:List Int) (i:Nat),ZGc (row.set i k)≤ZGc row∧(∀v,row[i]?=some v→v<0→ZGc (row.set i k)+1≤ZGc row)
 | [],i=>by simp [ZGc]
 | v::row,0=>by
  simp only[BQ,ZGc,Al]
  have:¬k<0:=by omega
  refine ⟨by simp [this],fun u hu hn=>?_⟩
  simp at hu;subst hu
  simp [this,hn]
 | v::row,i+1=>by
  obtain ⟨h1,h2⟩:=ZG6 hk row i
  simp only[BR,ZGc,Al] at *
  refine ⟨by omega,fun u hu hn=>?_⟩
  have:=h2 u (by simpa using hu) hn
  omega
theorem ZG1 {k:Int} (hk:0≤k):∀(l row:List Int),ZGc (Zic row l k)≤ZGc row
 | [],_=>AK _
 | x::l,row=>by
  rw [Zic,AB]
  exact A9 (ZG1 hk l _) (ZG6 hk row _).1
theorem Zn5 {row:List Int} {R:List Zf} {x:Int}:x∈Zql row R↔∃r∈R,ZmR row r.for_=false∧Zx1 row r=true∧r.for_=x:=by
 simp only[Zql,AN,Option.ite_none_right_eq_some,AW,A3,Ai]
 constructor
 ·rintro ⟨r,h1,⟨h2,h3⟩,h4⟩;exact ⟨r,h1,h2,h3,h4⟩
 ·rintro ⟨r,h1,h2,h3,h4⟩;exact ⟨r,h1,⟨h2,h3⟩,h4⟩
theorem Zvk {R:List Zf} {n k:Nat} {row:List Int} (h:Zno R n row k) {y:Int} (hy:y.toNat<n):(ZmR row y=true↔∃v,row[y.toNat]?=some v∧0≤v)∧(ZmR row y=false↔row[y.toNat]?=some (-1)):=by
 obtain ⟨v,hv,hv2⟩:=h.at hy
 simp only[ZmR,hv,decide_eq_true_eq,AW,decide_eq_false_iff_not]
 constructor
 ·constructor
  ·intro h;exact ⟨v,rfl,h⟩
  ·rintro ⟨u,rfl,h⟩;exact h
 ·omega
theorem Zno.set_der {R:List Zf} {n k:Nat} {row:List Int} (h:Zno R n row k) {y:Int} (h0:0≤y) (hs:ZmR row y=true):Der R y:=by
 unfold ZmR at hs
 split at hs
 ·rename_i v hv
  rcases h.val _ _ hv with rfl | ⟨_,_,h3⟩
  ·simp at hs
  ·rwa [AR h0] at h3
 ·simp at hs
theorem Zno.next {R:List Zf} {n k:Nat} {row:List Int} (h:Zno R n row k) (hR:∀r∈R,OkR n r):Zno R n (Zic row (Zql row R) ((k:Nat):Int)) (k+1):=by
 refine ⟨by rw [ZlK,h.len],fun i v hv=>?_⟩
 rw [Zn9] at hv
 split at hv
 ·rename_i hc
  simp only[AW] at hv
  subst hv
  obtain ⟨⟨x,mx,rfl⟩,_⟩:=hc
  obtain ⟨r,h1,h2,h3,rfl⟩:=Zn5.1 mx
  refine .inr ⟨by omega,by omega,?_⟩
  obtain ⟨f0,f1,f2,f3⟩:=hR r h1
  rw [AR f0]
  refine .mk r h1 fun y my=>h.set_der (f2 y my).1 ?_
  exact AF.1 h3 y my
 ·rcases h.val i v hv with h1 | ⟨h1,h2,h3⟩
  ·exact .inl h1
  ·exact .inr ⟨h1,by omega,h3⟩
structure ZEF (R:List Zf) (n:Nat) (row:List Int):Prop where
 len:row.length=n
 iff:∀(i:Nat),i<n→((∃v,row[i]?=some v∧0≤v)↔Der R ((i:Nat):Int))
theorem Zno.fin {R:List Zf} {n k:Nat} {row:List Int} (h:Zno R n row k) (hR:∀r∈R,OkR n r) (he:Zql row R=[]):ZEF R n row:=by
 have closed:∀x,Der R x→ZmR row x=true:=by
  intro x hx
  induction hx with
  | mk r hr _ ih=>
   cases hs:ZmR row r.for_ with
   | true=>rfl
   | false=>
    have:r.for_∈Zql row R:=Zn5.2 ⟨r,hr,hs,AF.2 ih,rfl⟩
    rw [he] at this
    simp at this
 refine ⟨h.len,fun i hi=>?_⟩
 have hi':(((i:Nat):Int)).toNat<n:=by simpa using hi
 have h1:=(Zvk h hi').1
 simp only[AO] at h1
 rw [←h1]
 exact ⟨fun hs=>h.set_der (by omega) hs,closed _⟩
theorem ZIy {R:List Zf} {n:Nat} {X:Type} (hR:∀r∈R,OkR n r) {body:List Int × Int × Int→Option ((List Int × Int × Int) ⊕ (X ⊕ List Int))}
  (h1:∀row k,Zno R n row k→k≤n→Zql row R≠[]→body (row,((k:Nat):Int),0)=some (.inl (Zic row (Zql row R) ((k:Nat):Int),((k+1:Nat):Int),0)))
  (h2:∀row k,Zno R n row k→k≤n→Zql row R=[]→body (row,((k:Nat):Int),0)=some (.inl (row,((k:Nat):Int),1)))
  (h3:∀row k,body (row,k,1)=some (.inr (.inr row))):
  ∀m row k,Zno R n row k→k+ZGc row≤n→ZGc row≤m→∃row',Yp body (row,((k:Nat):Int),0)=some (.inr row')∧ZEF R n row':=by
 intro m
 induction m with
 | zero=>
  intro row k hI hk hm
  have he:Zql row R=[]:=by
   cases hc:Zql row R with
   | nil=>rfl
   | cons x l=>
    exfalso
    have mx:x∈Zql row R:=by rw [hc];simp
    obtain ⟨r,r1,r2,r3,rfl⟩:=Zn5.1 mx
    have hs:=(Zvk hI (hR r r1).2.1).2.1 r2
    have:0<ZGc row:=BN.2 ⟨-1,Ag hs,by decide⟩
    omega
  refine ⟨row,?_,hI.fin hR he⟩
  rw [Zfq,h2 row k hI (by omega) he]
  show Yp body (row,((k:Nat):Int),1)=_
  rw [Zfq,h3]
 | succ m ih=>
  intro row k hI hk hm
  by_cases he:Zql row R=[]
  ·refine ⟨row,?_,hI.fin hR he⟩
   rw [Zfq,h2 row k hI (by omega) he]
   show Yp body (row,((k:Nat):Int),1)=_
   rw [Zfq,h3]
  ·have hd:ZGc (Zic row (Zql row R) ((k:Nat):Int))+1≤ZGc row:=by
    cases hc:Zql row R with
    | nil=>exact absurd hc he
    | cons x l=>
     have mx:x∈Zql row R:=by rw [hc];simp
     obtain ⟨r,r1,r2,r3,rfl⟩:=Zn5.1 mx
     have hs:=(Zvk hI (hR r r1).2.1).2.1 r2
     have h5:=(ZG6 (k:=((k:Nat):Int)) (by omega) row r.for_.toNat).2 (-1) hs (by decide)
     have h6:=ZG1 (k:=((k:Nat):Int)) (by omega) l (row.set r.for_.toNat ((k:Nat):Int))
     rw [Zic,AB]
     exact A9 (BS h6) h5
   obtain ⟨row',e1,e2⟩:=ih (Zic row (Zql row R) ((k:Nat):Int)) (k+1) (hI.next hR) (by omega) (by omega)
   refine ⟨row',?_,e2⟩
   rw [Zfq,h1 row k hI (by omega) he]
   exact e1
theorem ZH6 {R:List Zf} {n k:Nat} {row:List Int} {ρ:Type} (hI:Zno R n row k) (hR:∀r∈R,OkR n r) (hl:R.length≤1000000) {fin:List Int→Option ρ} {body:Nat→Zf→List Int→Option (List Int ⊕ ρ)}
  (hb:∀j r s,r∈R→s.length+1≤1073741824→body j r s=chk (0≤r.for_∧r.for_<(((A6 n (0:Int)).length:Nat):Int)) (((A6 n (0:Int))[(AA r.for_)]?).bind fun x111=>
         if (x111==0)=true then
          chk (r.for_<((row.length:Nat):Int)) <|
          (row[(AA r.for_)]?).bind fun x112=>
          if (decide (x112<0))=true then
           (ZaY r row ((k:Nat):Int)).bind fun v113=>
           if v113=true then
            chk (s.length+1≤1073741824) <|
            some (.inl (s++[r.for_]))
           else
            some (.inl s)
          else
           some (.inl s)
         else
          some (.inl s))):Zo body fin R 0 []=fin (Zql row R):=by
 rw [YC (g:=fun r=>if !ZmR row r.for_&&Zx1 row r then some r.for_ else none)]
 ·rfl
 ·intro j r s mr hs
  obtain ⟨f0,f1,f2,f3⟩:=hR r mr
  simp only[An,AM] at hs
  have hz:(A6 n (0:Int))[r.for_.toNat]?=some 0:=ZGM f1
  obtain ⟨v,hv,hv2⟩:=hI.at f1
  rw [hb j r s mr (by omega),Zh _ ⟨f0,by simp;omega⟩,hz,A0]
  simp only[beq_self_eq_true,if_true]
  rw [Zh _ (by rw [hI.len];omega),hv,A0]
  have hs1:ZmR row r.for_=decide (0≤v):=by simp only[ZmR,hv]
  rw [hs1,ZHy hI (hR r mr),A0]
  rcases hv2 with rfl | ⟨v0,v1⟩
  ·have:decide ((-1:Int)<0)=true:=by decide
   simp only[this,if_true]
   have h2:decide ((0:Int)≤-1)=false:=by decide
   rw [h2]
   cases Zx1 row r with
   | true=>rw [Zh _ (by omega)];rfl
   | false=>simp
  ·have h1:decide (v<0)=false:=decide_eq_false (by omega)
   have h2:decide (0≤v)=true:=decide_eq_true v0
   simp [h1,h2]
theorem ZJd {n:Nat} {ρ:Type} {body:List Int × Int × Int→Option ((List Int × Int × Int) ⊕ ρ)} {r:ρ}
  (h1:∀k row,k<n→row.length=n→body (row,((k:Nat):Int),0)=some (.inl (row.set k (-1),((k+1:Nat):Int),0)))
  (h2:body (A6 n (-1),((n:Nat):Int),0)=some (.inr r)):
  ∀m k row,n - k≤m→k≤n→row.length=n→(∀i,i<k→row[i]?=some (-1))→Yp body (row,((k:Nat):Int),0)=some r:=by
 intro m
 induction m with
 | zero=>
  intro k row hm hk hl hv
  obtain rfl:k=n:=by omega
  have:row=A6 k (-1):=by
   apply Aj
   intro i
   by_cases hi:i<k
   ·rw [hv i hi,ZGM hi]
   ·rw [AG (by omega),AG (by simp;omega)]
  rw [this,Zfq,h2]
 | succ m ih=>
  intro k row hm hk hl hv
  by_cases hkn:k=n
  ·exact (by
    subst hkn
    have:row=A6 k (-1):=by
     apply Aj
     intro i
     by_cases hi:i<k
     ·rw [hv i hi,ZGM hi]
     ·rw [AG (by omega),AG (by simp;omega)]
    rw [this,Zfq,h2])
  ·rw [Zfq,h1 k row (by omega) hl]
   refine ih (k+1) (row.set k (-1)) (by omega) (by omega) (by simp [hl]) fun i hi=>?_
   rw [Ar]
   by_cases hik:k=i
   ·rw [if_pos hik,if_pos (by omega)]
   ·rw [if_neg hik];exact hv i (by omega)
theorem ZIE {b:Zr} (h0:0≤b.nodes) (h1:b.nodes≤1000) (hl:b.reasons.length≤1000000) (hR:∀r∈b.reasons,OkR b.nodes.toNat r):∃row,ZfZ b=some row∧ZEF b.reasons b.nodes.toNat row:=by
 unfold ZfZ
 rw [ZHV h0 h1 hR,A0,Zh _ ⟨h0,by omega⟩]
 generalize hn:b.nodes.toNat=n at *
 have hn':n≤1000:=by omega
 have h00:Zno b.reasons n (A6 n (-1)) 0:=⟨by simp,fun i v hv=>.inl (by
  by_cases hi:i<n
  ·rw [ZGM hi] at hv;exact (AJ hv).symm
  ·rw [AG (by simp;omega)] at hv;simp at hv)⟩
 refine (fun (h:∃row,_∧_)=>h) ?_
 have second:∃row',_=some (Sum.inr row')∧ZEF b.reasons n row':=ZIy (R:=b.reasons) (n:=n) (X:=List Int × Int × Int) hR (body:=fun s=>
      match s with
      | (row_84,u_85,u_46)=>
      if (decide (u_46≤(0:Int)))=true then
       Zo (σ:=(List Int))
        (fun (i109:Nat) (x110:Zf) row_94=>
         chk (0≤x110.for_∧x110.for_<(((A6 n (0:Int)).length:Nat):Int)) <|
         ((A6 n (0:Int))[(AA x110.for_)]?).bind fun x111=>
         if (x111==u_46)=true then
          chk (x110.for_<((row_84.length:Nat):Int)) <|
          (row_84[(AA x110.for_)]?).bind fun x112=>
          if (decide (x112<0))=true then
           (ZaY x110 row_84 u_85).bind fun v113=>
           if v113=true then
            chk (row_94.length+1≤1073741824) <|
            some (.inl (row_94++[x110.for_]))
           else
            some (.inl row_94)
          else
           some (.inl row_94)
         else
          some (.inl row_94))
        (fun row_94=>
         if (((row_94.length:Nat):Int)==0)=true then
          some (.inl (row_84,u_85,(IntKind.i64.wrap (u_46+1))))
         else
          Zo (σ:=(List Int))
           (fun (i120:Nat) (x121:Int) row_116=>
            chk (0≤x121∧x121<((row_116.length:Nat):Int)) <|
            (row_116[(AA x121)]?).bind fun x122=>
            some (.inl (List.set row_116 (AA x121) u_85)))
           (fun row_116=>
            some (.inl (row_116,(IntKind.i64.wrap (u_85+1)),u_46)))
           row_94 0 row_84)
        b.reasons 0 []
      else
       some (.inr (.inr row_84))) ?_ ?_ ?_ n (A6 n (-1)) 0 h00 (by have:=ZIC (A6 n (-1));simp at this ⊢;omega) (by have:=ZIC (A6 n (-1));simpa using this)
 ·obtain ⟨row',e1,e2⟩:=second
  refine ⟨row',?_,e2⟩
  refine ZJd (n:=n) ?_ ?_ n 0 _ (by omega) (by omega) (by simp) (fun i hi=>by omega)
  ·intro k row hk hl
   have ht:decide (((k:Nat):Int)<((n:Nat):Int))=true:=decide_eq_true (by omega)
   have hz:(A6 n (0:Int))[k]?=some 0:=ZGM hk
   have hrow:row[k]?=some row[k]:=A8 (by omega)
   simp only[ht,if_true,AO,hrow,hz,A0,ZGG (show k<1000000000 by omega)]
   rw [Zh _ ⟨by omega,by omega⟩,Zh _ (by simp;omega)]
   simp
  ·have hf:decide (((n:Nat):Int)<((n:Nat):Int))=false:=Zy n
   simp only[hf,AE,if_false]
   exact e1
 ·intro row k hI hk hne
  have hd:decide ((0:Int)≤0)=true:=by decide
  simp only[hd,if_true]
  rw [ZH6 hI hR hl]
  ·have hl0:((((Zql row b.reasons).length:Nat):Int)==0)=false:=by
    have:(Zql row b.reasons).length≠0:=fun e=>hne (Af e)
    simpa using this
   simp only[hl0,AE,if_false]
   rw [YM (f:=fun s x=>s.set x.toNat ((k:Nat):Int)) (fun _ s=>s.length=n) hI.len (fun j x s mx _ _ hs=>by
    obtain ⟨r,r1,_,_,rfl⟩:=Zn5.1 mx
    obtain ⟨f0,f1,_⟩:=hR r r1
    have hg:s[r.for_.toNat]?=some s[r.for_.toNat]:=A8 (by omega)
    refine ⟨?_,by simp [hs]⟩
    rw [Zh _ ⟨f0,by omega⟩,hg,A0])]
   rw [ZGG (by omega)]
   rfl
  ·intro j r s mr hs
   rfl
 ·intro row k hI hk he
  have hd:decide ((0:Int)≤0)=true:=by decide
  simp only[hd,if_true]
  rw [ZH6 hI hR hl]
  ·rw [he];rfl
  ·intro j r s mr hs
   rfl
 ·intro row k
  rfl
theorem Zl8 {σ ρ:Type} {body:σ × Int→Option ((σ × Int) ⊕ ρ)} {f:σ→Nat→σ} {fin:σ→Option ρ} (I:Nat→σ→Prop) (m:Nat)
  (h1:∀k s,k<m→I k s→body (s,((k:Nat):Int))=some (.inl (f s k,((k+1:Nat):Int)))∧I (k+1) (f s k))
  (h2:∀s,I m s→body (s,((m:Nat):Int))=(fin s).bind fun x=>some (.inr x)):
  ∀(d k:Nat) (s:σ),k+d=m→I k s→Yp body (s,((k:Nat):Int))=fin ((List.range' k d).foldl f s)
 | 0,k,s,hk,hI=>by
  have e:k=m:=by omega
  subst e
  rw [Zfq,h2 s hI]
  show _=fin s
  cases fin s<;>rfl
 | d+1,k,s,hk,hI=>by
  obtain ⟨e1,e2⟩:=h1 k s (by omega) hI
  rw [Zfq,e1]
  show Yp body (f s k,((k+1:Nat):Int))=_
  rw [Zl8 I m h1 h2 d (k+1) (f s k) (by omega) e2]
  rfl
theorem ZJm {n:Int} (h0:0≤n) (h1:n≤6):ZCy .i64 1 n=((2 ^ n.toNat:Nat):Int)∧2 ^ n.toNat≤64:=by
 obtain ⟨m,rfl⟩:=AU h0
 have hm:m=0∨m=1∨m=2∨m=3∨m=4∨m=5∨m=6:=by omega
 rcases hm with rfl | rfl | rfl | rfl | rfl | rfl | rfl<;>decide
theorem ZiD (x a b:Int):X7 x a b=some (decide (a≤x)&&decide (x≤b)):=by
 unfold X7
 cases decide (a≤x)<;>simp
structure Lab (l:List Bool) (n:Nat) (D:Int→Prop):Prop where
 len:l.length=n
 iff:∀i:Nat,i<n→(l[i]?=some true↔D ((i:Nat):Int))
theorem Lab.at {l:List Bool} {n:Nat} {D:Int→Prop} (h:Lab l n D) {y:Int} (h0:0≤y) (h1:y.toNat<n):∃b,l[y.toNat]?=some b∧(b=true↔D y):=by
 have hl:y.toNat<l.length:=by rw [h.len];exact h1
 refine ⟨l[y.toNat],A8 hl,?_⟩
 have:=h.iff y.toNat h1
 rw [A8 hl,AW,AR h0] at this
 exact this
theorem ZIw {b:Zr} (h0:0≤b.nodes) (h1:b.nodes≤1000) (hl:b.reasons.length≤1000000) (hR:∀r∈b.reasons,OkR b.nodes.toNat r):∃l,Zgt b=some l∧Lab l b.nodes.toNat (Der b.reasons):=by
 obtain ⟨row,e1,e2⟩:=ZIE h0 h1 hl hR
 refine ⟨row.map fun v=>decide (0≤v),?_,by simp [e2.len],fun i hi=>?_⟩
 ·unfold Zgt
  rw [e1,A0,Zjo (g:=fun v=>decide (0≤v))]
  ·rfl
  ·intro j x s _ hs
   have:=e2.len
   rw [Zh _ (by simp at hs;omega)]
 ·rw [←e2.iff i hi,List.getElem?_map]
  simp only[Ae,decide_eq_true_eq]
/- the bits of a set -/
theorem ZJj {s i:Nat} (h:s≤9223372036854775807):Ztw .i64 ((s:Nat):Int) ((i:Nat):Int)=((s >>> i:Nat):Int):=by
 unfold Ztw
 have hb:IntKind.i64.bits=64:=rfl
 rw [AO,hb,Int.fdiv_eq_ediv_of_nonneg _ (by exact Int.le_of_lt (Int.pow_pos (by omega)))]
 rw [B3]
 by_cases hi:i≤64
 ·rw [Nat.min_eq_left hi]
  push_cast
  rfl
 ·rw [Nat.min_eq_right (by omega)]
  have e1:s / 2 ^ i=0:=Nat.div_eq_of_lt (BF (show s<2 ^ 64 by omega) (Aa (by omega) (by omega)))
  have e2:((s:Nat):Int) / (2 ^ 64:Int)=0:=Int.ediv_eq_zero_of_lt (by omega) (by omega)
  rw [e1]
  exact e2
theorem ZIN {s i:Nat} (h:s≤9223372036854775807):(ZlF .i64 (Ztw .i64 ((s:Nat):Int) ((i:Nat):Int)) 1==1)=s.testBit i:=by
 have h2:s >>> i≤9223372036854775807:=A9 (by rw [B3];exact Nat.div_le_self _ _) h
 rw [ZJj h,show (1:Int)=((1:Nat):Int) from rfl,ZHD h2 (by omega)]
 rw [Nat.testBit_eq_decide_div_mod_eq,Nat.and_one_is_mod,B3]
 rw [AC]
 simp only[beq_iff_eq,decide_eq_true_eq]
 omega
def Zhj:List Int→Nat→Nat→List Int
 | [],_,_=>[]
 | x::l,s,i=>if s.testBit i=true then x::Zhj l s (i+1) else Zhj l s (i+1)
theorem ZGD (s:Nat):∀(l:List Int) (i:Nat),(Zhj l s i).length≤l.length
 | [],_=>by simp [Zhj]
 | x::l,i=>by
  have:=ZGD s l (i+1)
  simp only[Zhj]
  split<;>simp<;>omega
theorem Zea {s:Nat} {x:Int}:∀{l:List Int} {i:Nat},x∈Zhj l s i↔∃j,l[j]?=some x∧s.testBit (i+j)=true
 | [],i=>⟨fun h=>by simp [Zhj] at h,fun ⟨j,h,_⟩=>by simp at h⟩
 | y::l,i=>by
  have ih:=Zea (s:=s) (x:=x) (l:=l) (i:=i+1)
  have key:(∃j,l[j]?=some x∧s.testBit (i+1+j)=true)↔∃j,(y::l)[j+1]?=some x∧s.testBit (i+(j+1))=true:=
   ⟨fun ⟨j,h1,h2⟩=>⟨j,by simpa using h1,by rw [show i+(j+1)=i+1+j by omega];exact h2⟩,fun ⟨j,h1,h2⟩=>⟨j,by simpa using h1,by rw [show i+1+j=i+(j+1) by omega];exact h2⟩⟩
  simp only[Zhj]
  constructor
  ·intro h
   split at h
   ·rename_i hb
    rcases A4.1 h with rfl | h
    ·exact ⟨0,by simp,by simpa using hb⟩
    ·obtain ⟨j,h1,h2⟩:=key.1 (ih.1 h);exact ⟨j+1,h1,h2⟩
   ·obtain ⟨j,h1,h2⟩:=key.1 (ih.1 h);exact ⟨j+1,h1,h2⟩
  ·rintro ⟨j,h1,h2⟩
   cases j with
   | zero=>
    simp at h1;subst h1
    rw [if_pos (by simpa using h2)];simp
   | succ j=>
    have:=ih.2 (key.2 ⟨j,h1,h2⟩)
    split
    ·simp [this]
    ·exact this
theorem ZHg (l:List Int) {s:Nat} (h:s≤9223372036854775807) (hl:l.length≤1000000):ZGn l ((s:Nat):Int)=some (Zhj l s 0):=by
 unfold ZGn
 rw [Zal (fun l i acc=>some (acc++Zhj l s i)) (fun l i acc=>acc.length+l.length≤1000000) (fun i acc _=>by simp [Zhj]) (fun x l i acc hI=>by
  left
  simp only[A5] at hI
  rw [Zh _ (by omega)]
  simp only[ZIN h]
  by_cases hb:s.testBit i=true
  ·rw [if_pos hb,Zh _ (by omega)]
   exact ⟨_,rfl,by simp;omega,by simp [Zhj,hb]⟩
  ·rw [if_neg hb]
   exact ⟨_,rfl,by omega,by simp [Zhj,hb]⟩) l 0 [] (by simpa using hl)]
 simp
def Zvz (x:Int):Zf:={ for_:=x,inn:=[],outs:=[] }
structure Zur (f:QZ):Prop where
 n0:0≤f.beliefs.nodes
 n1:f.beliefs.nodes≤24
 r1:f.beliefs.reasons.length≤60
 R:∀r∈f.beliefs.reasons,OkR f.beliefs.nodes.toNat r
 a1:f.assumed.length≤6
 a:∀x∈f.assumed,0≤x∧x.toNat<f.beliefs.nodes.toNat
 b:∀x∈f.bad,0≤x∧x.toNat<f.beliefs.nodes.toNat
 asc:f.assumed.Pairwise (·<·)
 inn:∀r∈f.beliefs.reasons,r.inn.Pairwise (·<·)
theorem ZuJ {n:Nat} {l:List Int} (h:l.Pairwise (·<·)) (hb:∀x∈l,0≤x∧x.toNat<n):l.length≤n:=by
 have:∀(l:List Int) (lo:Int),l.Pairwise (·<·)→(∀x∈l,lo≤x∧x<n)→(l.length:Int)≤max 0 (n - lo):=by
  intro l
  induction l with
  | nil=>intro lo _ _;simp;omega
  | cons x l ih=>
   intro lo hp hb
   rw [AD] at hp
   have h1:=hb x (by simp)
   have:=ih (x+1) hp.2 fun y my=>⟨by have:=hp.1 y my;omega,(hb y (by simp [my])).2⟩
   simp only[A5]
   omega
 have:=this l 0 h fun x mx=>by have:=hb x mx;omega
 omega
theorem ZHe (l:List Int) (h:l.length≤1073741824):ZF8 l=some l:=by
 unfold ZF8
 rw [Zh _ h]
theorem ZG9 {b:Zr} (hr:b.reasons.length≤1000000) (h:∀r∈b.reasons,r.inn.length≤1073741824∧r.outs.length≤1073741824):ZFX b=some b:=by
 unfold ZFX
 rw [Zjo (g:=fun r=>r)]
 ·simp
 ·intro j r s mr hs
  obtain ⟨h1,h2⟩:=h r mr
  unfold ZGb
  rw [ZHe _ h1,ZHe _ h2]
  simp only[A0]
  rw [Zh _ (by simp at hs;omega)]
def RF (f:QZ) (s:Nat):List Zf:=f.beliefs.reasons++(Zhj f.assumed s 0).map Zvz
def UnF (f:QZ) (s:Nat) (x:Int):Prop:=Der (RF f s) x
theorem Zur.RF {f:QZ} (h:Zur f) (s:Nat):∀r∈RF f s,OkR f.beliefs.nodes.toNat r:=fun r mr=>by
 rcases A7.1 mr with m | m
 ·exact h.R r m
 ·obtain ⟨x,mx,rfl⟩:=AH.1 m
  obtain ⟨j,h1,_⟩:=Zea.1 mx
  have:=h.a x (Ag h1)
  exact ⟨this.1,this.2,by simp [Zvz],rfl⟩
theorem Zur.small {f:QZ} (h:Zur f):∀r∈f.beliefs.reasons,r.inn.length≤1073741824∧r.outs.length≤1073741824:=fun r mr=>by
 have h1:=ZuJ (h.inn r mr) (h.R r mr).2.2.1
 have h2:=(h.R r mr).2.2.2
 have:=h.n1
 rw [h2]
 simp
 omega
theorem ZIU {f:QZ} (h:Zur f) {s:Nat} (hs:s≤9223372036854775807):∃l,ZGQ f ((s:Nat):Int)=some l∧Lab l f.beliefs.nodes.toNat (UnF f s):=by
 have hc:=ZGD s f.assumed 0
 have h1:=h.a1
 have h2:=h.r1
 have h3:=h.n1
 have hl:(RF f s).length≤66:=by simp [RF];omega
 obtain ⟨l,e1,e2⟩:=ZIw (b:={ nodes:=f.beliefs.nodes,reasons:=RF f s }) h.n0 (by show f.beliefs.nodes≤1000;omega) (by show (RF f s).length≤_;omega) (h.RF s)
 refine ⟨l,?_,e2⟩
 unfold ZGQ
 rw [ZG9 (by omega) h.small,A0,ZHg _ hs (by omega),A0,Zjo (g:=Zvz)]
 ·show (Zgt { nodes:=f.beliefs.nodes,reasons:=RF f s }).bind _=_
  rw [e1];rfl
 ·intro j x q _ hq
  rw [Zh _ (by omega)]
  rfl
theorem UnF.mono {f:QZ} {s t:Nat} (h:Zc6 s t) {x:Int} (hx:UnF f s x):UnF f t x:=by
 refine Der.mono (fun r mr=>?_) hx
 rcases A7.1 mr with m | m
 ·exact A7.2 (.inl m)
 ·obtain ⟨y,my,rfl⟩:=AH.1 m
  obtain ⟨j,h1,h2⟩:=Zea.1 my
  exact A7.2 (.inr (AH.2 ⟨y,Zea.2 ⟨j,h1,Zf7.1 h _ h2⟩,rfl⟩))
theorem ZIV {f:QZ} {s:Nat} {x:Int}:UnF f s x↔(∃i,f.assumed[i]?=some x∧s.testBit i=true)∨∃r∈f.beliefs.reasons,r.for_=x∧∀y∈r.inn,UnF f s y:=by
 constructor
 ·intro h
  cases h with
  | mk r hr hi=>
   rcases A7.1 hr with m | m
   ·exact .inr ⟨r,m,rfl,hi⟩
   ·obtain ⟨y,my,rfl⟩:=AH.1 m
    obtain ⟨j,h1,h2⟩:=Zea.1 my
    exact .inl ⟨j,h1,by simpa using h2⟩
 ·rintro (⟨i,h1,h2⟩ | ⟨r,h1,rfl,h3⟩)
  ·exact .mk (Zvz x) (A7.2 (.inr (AH.2 ⟨x,Zea.2 ⟨i,h1,by simpa using h2⟩,rfl⟩))) (by simp [Zvz])
  ·exact .mk r (A7.2 (.inl h1)) h3
def ZBo (f:QZ) (s:Nat):Prop:=∀y∈f.bad,¬UnF f s y
open Classical in
theorem ZIA {l:List Bool} {n:Nat} {D:Int→Prop} (h:Lab l n D) {q:List Int} (hq:∀x∈q,0≤x∧x.toNat<n):ZGw q l=some (decide (∀y∈q,¬D y)):=by
 unfold ZGw
 rw [ZU (p:=fun y=>decide (¬D y)) (r:=false)]
 ·have:q.all (fun y=>decide (¬D y))=decide (∀y∈q,¬D y):=by
   rw [AC];simp
  rw [this]
  by_cases hh:∀y∈q,¬D y
  ·rw [decide_eq_true hh];rfl
  ·rw [decide_eq_false hh];rfl
 ·intro i x mx
  obtain ⟨h0,h1⟩:=hq x mx
  obtain ⟨b,e1,e2⟩:=h.at h0 h1
  have ha:atI l x=some b:=by unfold atI;rw [if_pos h0];exact e1
  rw [ha,A0]
  by_cases hD:D x
  ·rw [e2.2 hD];simp [hD]
  ·have:b=false:=by cases b with
    | false=>rfl
    | true=>exact absurd (e2.1 rfl) hD
   rw [this];simp [hD]
end Go.Proofs.YtfehfkfdfmcgfaaGreatDoor
