/- Texts of this proof, joined: Df, PL, E1, P1, E2, E3, E15, P5, F3, F4, P14, R14, S14, F6, K1, K2. What each holds is said at its theorems. -/
import Derived.Test.YtcaokdmjlknmmaaGreatDoorIsDeskQ1
import Derived.Lib.ItoaLen
import Derived.Laws.BitsLemmas
import Derived.Lib.Bytealg
open Bool renaming and_eq_true→AA,true_and→AB,eq_iff_iff→AC,false_eq_true→AF,or_eq_true→Aa,false_and→Aj,and_true→Am,not_not→At,false_or→Au
open ByteArray renaming size→Ak
open Go.ByteArray renaming toList_eq→AX
open Int renaming toNat→AG,toNat_natCast→AL
open List renaming mem_cons→AD,length_cons→AE,getElem?_eq_some_iff→AI,foldl_cons→AJ,getElem?_eq_getElem→AM,pairwise_cons→AN,mem_of_getElem?→AQ,length_append→AR,all_eq_true→AT,mem_append→AU,flatMap_cons→AW,mem_flatMap→AY,mem_cons_of_mem→Ac,tail→Ad,drop_eq_nil_of_le→Ag,drop_eq_getElem_cons→Ah,foldl_append→Ai,mem_map→Al,append_nil→An,not_mem_nil→Ar,not_any_eq_all_not→As,length_nil→Aw,getElem?_eq_none→Az,getElem?_map→B9,getElem?_append_left→BB
open List.Pairwise renaming nil→AH
open Nat renaming zero_add→AK,le_refl→AP,le_trans→AS,pow_le_pow_right→Ae,mul_assoc→Ao
open Option renaming bind_some→A0,map_some→Aq,isSome_some→Ay
open Option.some renaming inj→AO,injEq→Ax
open UInt8 renaming ofNat→AZ
set_option linter.unusedSimpArgs false
set_option linter.unusedVariables false
set_option maxRecDepth 1000000
set_option maxHeartbeats 4000000
namespace Go.Proofs.YtcaokdmjlknmmaaGreatDoor
section
noncomputable def XJ (x_0:Int) (least_1:Int) (most_2:Int):Option Bool:=
 if (decide (least_1<=x_0))=true then
  some (decide (x_0<=most_2))
 else
  some false
noncomputable def QG (s_0:ByteArray):Option Bool:=
 Zv (σ:=Unit)
  (fun (i9:Nat) (a:UInt8) _=>
   (XJ (IntKind.i64.wrap ((a.toNat:Nat):Int)) 97 122).bind fun b=>
   if b=true then
    some (.inl ())
   else
    (XJ (IntKind.i64.wrap ((a.toNat:Nat):Int)) 48 57).bind fun c=>
    if c=true then
     some (.inl ())
    else
     some (.inr false))
  (fun _=>
   (XJ ((s_0.size:Nat):Int) 1 8).bind fun d=>
   some d)
  s_0.data.toList 0 ()
noncomputable def Xx (s_0:ByteArray):Option Bool:=
 (QG s_0).bind fun a=>
 if a=true then
  (sAt s_0 0).bind fun b=>
  (XJ (IntKind.i64.wrap ((b.toNat:Nat):Int)) 97 122).bind fun c=>
  some c
 else
  some false
noncomputable def Zbb (l_0:(List ByteArray)) (s_1:ByteArray):Option (List ByteArray):=
 Zv (σ:=(List ByteArray)×Bool)
  (fun (i8:Nat) (b:ByteArray) s=>
   match s with
   |(a,c)=>
   if c=true then
    chk (a.length+1<=1073741824) <|
    some (.inl ((a++[b]),true))
   else
    if (sLt b s_1)=true then
     chk (a.length+1<=1073741824) <|
     some (.inl ((a++[b]),false))
    else
     if (sEq b s_1)=true then
      chk (a.length+1<=1073741824) <|
      some (.inl ((a++[b]),true))
     else
      chk (a.length+1<=1073741824) <|
      chk (a.length+1+1<=1073741824) <|
      some (.inl (((a++[s_1])++[b]),true)))
  (fun s=>
   match s with
   |(a,c)=>
   if c=true then
    some a
   else
    chk (a.length+1<=1073741824) <|
    some (a++[s_1]))
  l_0 0 ([],false)
noncomputable def ZaC (a:ByteArray):Option Bool:=
 if (decide (1<((a.size:Nat):Int)))=true then
  (sAt a 0).bind fun b=>
  if (((b.toNat:Nat):Int)==63)=true then
   chk (0<=1/\1<=((a.size:Nat):Int)) <|
   (QG (a.extract (AG 1) a.size)).bind fun c=>
   some c
  else
   some false
 else
  some false
noncomputable def ZbY (p_0:Zj):Option (List ByteArray):=
 Zv (σ:=(List ByteArray))
  (fun (i9:Nat) (b:ByteArray) a=>
   (ZaC b).bind fun c=>
   if c=true then
    (Zbb a b).bind fun d=>
    some (.inl d)
   else
    some (.inl a))
  (fun a=>
   some a)
  p_0.args 0 []
noncomputable def Zao (r_0:Zl) (n_1:Int):Option (List ByteArray):=
 Zv (σ:=(List ByteArray))
  (fun (i25:Nat) (c:Zf) a=>
   if (decide (((i25:Nat):Int)<n_1))=true then
    if (c.kind==1)=true then
     (ZbY c.pattern).bind fun d=>
     Zv (σ:=(List ByteArray))
      (fun (i34:Nat) (e:ByteArray) b=>
       (Zbb b e).bind fun f=>
       some (.inl f))
      (fun b=>
       some (.inl b))
      d 0 a
    else
     some (.inl a)
   else
    some (.inr a))
  (fun a=>
   some a)
  r_0.cond 0 []
noncomputable def Q9 (s_0:ByteArray):Option Bool:=
 (QG s_0).bind fun a=>
 if a=true then
  some true
 else
  (ZaC s_0).bind fun b=>
  some b
noncomputable def XR (p_0:Zj):Option Bool:=
 Zv (σ:=Unit)
  (fun (i7:Nat) (a:ByteArray) _=>
   (Q9 a).bind fun b=>
   if b=true then
    some (.inl ())
   else
    some (.inr false))
  (fun _=>
   (Xx p_0.rel).bind fun c=>
   if c=true then
    some (decide (((p_0.args.length:Nat):Int)<=3))
   else
    some false)
  p_0.args 0 ()
noncomputable def Zd7 (x_0:Zf):Option Bool:=
 if (x_0.kind==1)=true then
  (XR x_0.pattern).bind fun a=>
  if a=true then
   if (sEq x_0.left ⟨#[]⟩)=true then
    some (sEq x_0.right ⟨#[]⟩)
   else
    some false
  else
   some false
 else
  if (x_0.kind==2)=true then
   (XR x_0.pattern).bind fun b=>
   if b=true then
    if (sEq x_0.left ⟨#[]⟩)=true then
     some (sEq x_0.right ⟨#[]⟩)
    else
     some false
   else
    some false
  else
   if (x_0.kind==3)=true then
    if (sEq x_0.pattern.rel ⟨#[]⟩)=true then
     if (((x_0.pattern.args.length:Nat):Int)==0)=true then
      (Q9 x_0.left).bind fun c=>
      if c=true then
       (Q9 x_0.right).bind fun d=>
       some d
      else
       some false
     else
      some false
    else
     some false
   else
    if (x_0.kind==4)=true then
     if (sEq x_0.pattern.rel ⟨#[]⟩)=true then
      if (((x_0.pattern.args.length:Nat):Int)==0)=true then
       (Q9 x_0.left).bind fun e=>
       if e=true then
        (Q9 x_0.right).bind fun f=>
        some f
       else
        some false
      else
       some false
     else
      some false
    else
     if (x_0.kind==5)=true then
      if (sEq x_0.pattern.rel ⟨#[]⟩)=true then
       if (((x_0.pattern.args.length:Nat):Int)==0)=true then
        (Q9 x_0.left).bind fun g=>
        if g=true then
         (Q9 x_0.right).bind fun i=>
         some i
        else
         some false
       else
        some false
      else
       some false
     else
      some false
noncomputable def Qv (x_0:Zf):Option (List ByteArray):=
 (ZbY x_0.pattern).bind fun a=>
 (ZaC x_0.left).bind fun c=>
 if c=true then
  (Zbb a x_0.left).bind fun b=>
  (ZaC x_0.right).bind fun d=>
  if d=true then
   (Zbb b x_0.right).bind fun e=>
   some e
  else
   some b
 else
  (ZaC x_0.right).bind fun f=>
  if f=true then
   (Zbb a x_0.right).bind fun g=>
   some g
  else
   some a
noncomputable def YU (l_0:(List ByteArray)) (s_1:ByteArray):Option Bool:=
 Zv (σ:=Unit)
  (fun (i4:Nat) (a:ByteArray) _=>
   if (sEq a s_1)=true then
    some (.inr true)
   else
    some (.inl ()))
  (fun _=>
   some false)
  l_0 0 ()
noncomputable def Zb3 (x_0:Zf):Option Bool:=
 (Zd7 x_0).bind fun a=>
 if a=true then
  some (decide (3<=x_0.kind))
 else
  some false
noncomputable def X3 (r_0:Zl) (i_1:Int) (v_2:ByteArray):Option Bool:=
 Zv (σ:=Unit)
  (fun (i19:Nat) (a:Zf) _=>
   if (((i19:Nat):Int) != i_1)=true then
    (Qv a).bind fun b=>
    (YU b v_2).bind fun c=>
    if c=true then
     some (.inr true)
    else
     some (.inl ())
   else
    some (.inl ()))
  (fun _=>
   Zv (σ:=Unit)
    (fun (i30:Nat) (d:ZY) _=>
     (ZbY d.pattern).bind fun e=>
     (YU e v_2).bind fun f=>
     if f=true then
      some (.inr true)
     else
      some (.inl ()))
    (fun _=>
     some false)
    r_0.thn 0 ())
  r_0.cond 0 ()
noncomputable def Zet (a_0:ZY):Option Bool:=
 if (a_0.kind==1)=true then
  (XR a_0.pattern).bind fun a=>
  some a
 else
  if (a_0.kind==2)=true then
   (XR a_0.pattern).bind fun b=>
   some b
  else
   if (a_0.kind==3)=true then
    if (sEq a_0.pattern.rel ⟨#[]⟩)=true then
     some (((a_0.pattern.args.length:Nat):Int)==0)
    else
     some false
   else
    some false
noncomputable def ZdU (r_0:Zl):Option (List ByteArray):=
 Zv (σ:=(List ByteArray))
  (fun (i61:Nat) (e:Zf) a=>
   (Qv e).bind fun f=>
   Zv (σ:=(List ByteArray))
    (fun (i70:Nat) (g:ByteArray) b=>
     (Zbb b g).bind fun i=>
     some (.inl i))
    (fun b=>
     some (.inl b))
    f 0 a)
  (fun a=>
   Zv (σ:=(List ByteArray))
    (fun (i97:Nat) (j:ZY) c=>
     (ZbY j.pattern).bind fun k=>
     Zv (σ:=(List ByteArray))
      (fun (i106:Nat) (l:ByteArray) d=>
       (Zbb d l).bind fun m=>
       some (.inl m))
      (fun d=>
       some (.inl d))
      k 0 c)
    (fun c=>
     some c)
    r_0.thn 0 a)
  r_0.cond 0 []
noncomputable def ZgQ (append_0:Zl):Option Bool:=
 (Xx append_0.name).bind fun g=>
 if g=true then
  (XJ append_0.priority 0 9).bind fun i=>
  if i=true then
   (XJ ((append_0.cond.length:Nat):Int) 1 4).bind fun j=>
   if j=true then
    (XJ ((append_0.thn.length:Nat):Int) 1 2).bind fun k=>
    if k=true then
     (Zao append_0 ((append_0.cond.length:Nat):Int)).bind fun l=>
     Zv (σ:=Unit)
      (fun (i96:Nat) (a:Zf) _=>
       (Zd7 a).bind fun m=>
       if m=true then
        if (((i96:Nat):Int)==0)=true then
         if (a.kind != 1)=true then
          some (.inr false)
         else
          (Zao append_0 ((i96:Nat):Int)).bind fun o=>
          (Qv a).bind fun p=>
          Zv (σ:=Unit)
           (fun (i110:Nat) (b:ByteArray) _=>
            (YU o b).bind fun c=>
            (Zb3 a).bind fun q=>
            if q=true then
             if c=true then
              if (a.kind==2)=true then
               some (.inl ())
              else
               some (.inl ())
             else
              some (.inr (.inr false))
            else
             if (a.kind==2)=true then
              if c=true then
               some (.inl ())
              else
               (X3 append_0 ((i96:Nat):Int) b).bind fun t=>
               if t=true then
                some (.inr (.inr false))
               else
                some (.inl ())
             else
              some (.inl ()))
           (fun _=>
            some (.inl ()))
           p 0 ()
        else
         (Zao append_0 ((i96:Nat):Int)).bind fun u=>
         (Qv a).bind fun v=>
         Zv (σ:=Unit)
          (fun (i126:Nat) (d:ByteArray) _=>
           (YU u d).bind fun e=>
           (Zb3 a).bind fun w=>
           if w=true then
            if e=true then
             if (a.kind==2)=true then
              some (.inl ())
             else
              some (.inl ())
            else
             some (.inr (.inr false))
           else
            if (a.kind==2)=true then
             if e=true then
              some (.inl ())
             else
              (X3 append_0 ((i96:Nat):Int) d).bind fun x=>
              if x=true then
               some (.inr (.inr false))
              else
               some (.inl ())
            else
             some (.inl ()))
          (fun _=>
           some (.inl ()))
          v 0 ()
       else
        some (.inr false))
      (fun _=>
       Zv (σ:=Unit)
        (fun (i155:Nat) (f:ZY) _=>
         (Zet f).bind fun y=>
         if y=true then
          (ZbY f.pattern).bind fun z=>
          Zv (σ:=Unit)
           (fun (i164:Nat) (A:ByteArray) _=>
            (YU l A).bind fun B=>
            if B=true then
             some (.inl ())
            else
             some (.inr (.inr false)))
           (fun _=>
            some (.inl ()))
           z 0 ()
         else
          some (.inr false))
        (fun _=>
         (ZdU append_0).bind fun C=>
         some (decide (((C.length:Nat):Int)<=6)))
        append_0.thn 0 ())
      append_0.cond 0 ()
    else
     some false
   else
    some false
  else
   some false
 else
  some false
noncomputable def ZdX (l_0:(List Zl)) (name_1:ByteArray):Option Int:=
 Zv (σ:=Unit)
  (fun (i4:Nat) (a:Zl) _=>
   if (sEq a.name name_1)=true then
    some (.inr ((i4:Nat):Int))
   else
    some (.inl ()))
  (fun _=>
   some (-1))
  l_0 0 ()
noncomputable def Zcj (l_0:(List Zl)):Option Bool:=
 Zv (σ:=Unit)
  (fun (i8:Nat) (a:Zl) _=>
   (ZgQ a).bind fun b=>
   if b=true then
    (ZdX l_0 a.name).bind fun c=>
    if (c != ((i8:Nat):Int))=true then
     some (.inr false)
    else
     some (.inl ())
   else
    some (.inr false))
  (fun _=>
   some (decide (((l_0.length:Nat):Int)<=6)))
  l_0 0 ()
noncomputable def ZdC (l_0:(List ByteArray)):Option (List ByteArray):=
 chk (l_0.length<=1073741824) <|
 some l_0
noncomputable def Zdd (f_0:Zk):Option Zk:=
 (ZdC f_0.args).bind fun a=>
 some ({ rel:=f_0.rel,args:=a }:Zk)
noncomputable def ZdG (l_0:(List Z2)):Option (List Zk):=
 Zv (σ:=(List Zk))
  (fun (i7:Nat) (b:Z2) a=>
   (Zdd b.fact).bind fun c=>
   chk (a.length+1<=1073741824) <|
   some (.inl (a++[c])))
  (fun a=>
   some a)
  l_0 0 []
noncomputable def XS (f_0:Zk):Option Bool:=
 Zv (σ:=Unit)
  (fun (i7:Nat) (a:ByteArray) _=>
   (QG a).bind fun b=>
   if b=true then
    some (.inl ())
   else
    some (.inr false))
  (fun _=>
   (Xx f_0.rel).bind fun c=>
   if c=true then
    some (decide (((f_0.args.length:Nat):Int)<=3))
   else
    some false)
  f_0.args 0 ()
noncomputable def ZhA (a:ByteArray) (b:ByteArray):Option Int:=
 if (sLt a b)=true then
  some (-1)
 else
  if (sLt a b||sEq a b)=true then
   some 0
  else
   some 1
noncomputable def Za3 (n_0:Int):Option ByteArray:=
 if (n_0==(-9223372036854775808))=true then
  some (⟨#[45,57,50,50,51,51,55,50,48,51,54,56,53,52,55,55,53,56,48,56]⟩)
 else
  if (decide (n_0<0))=true then
   none
  else
   ZaT (σ:=Int×ByteArray)
    (fun s=>
     match s with
     |(a,b)=>
     chk ((Xd [(IntKind.u8.wrap (IntKind.i64.wrap (48+(Int.tmod a 10))))]).size+b.size<=9223372036854775807) <|
     if ((IntKind.i64.wrap (Int.tdiv a 10))==0)=true then
      some (.inr ((Xd [(IntKind.u8.wrap (IntKind.i64.wrap (48+(Int.tmod a 10))))])++b))
     else
      some (.inl ((IntKind.i64.wrap (Int.tdiv a 10)),((Xd [(IntKind.u8.wrap (IntKind.i64.wrap (48+(Int.tmod a 10))))])++b))))
    (n_0,⟨#[]⟩)
noncomputable def Zap (n_0:Int):Option ByteArray:=
 if (n_0==(-9223372036854775808))=true then
  some (⟨#[45,57,50,50,51,51,55,50,48,51,54,56,53,52,55,55,53,56,48,56]⟩)
 else
  if (decide (n_0<0))=true then
   (Za3 (IntKind.i64.wrap (0 - n_0))).bind fun c=>
   chk ((⟨#[45]⟩:ByteArray).size+c.size<=9223372036854775807) <|
   some ((⟨#[45]⟩:ByteArray)++c)
  else
   ZaT (σ:=Int×ByteArray)
    (fun s=>
     match s with
     |(a,b)=>
     chk ((Xd [(IntKind.u8.wrap (IntKind.i64.wrap (48+(Int.tmod a 10))))]).size+b.size<=9223372036854775807) <|
     if ((IntKind.i64.wrap (Int.tdiv a 10))==0)=true then
      some (.inr ((Xd [(IntKind.u8.wrap (IntKind.i64.wrap (48+(Int.tmod a 10))))])++b))
     else
      some (.inl ((IntKind.i64.wrap (Int.tdiv a 10)),((Xd [(IntKind.u8.wrap (IntKind.i64.wrap (48+(Int.tmod a 10))))])++b))))
    (n_0,⟨#[]⟩)
noncomputable def Zau (s_0:ByteArray):Option (Int×Bool):=
 (XJ ((s_0.size:Nat):Int) 1 4).bind fun c=>
 if c=true then
  Zv (σ:=Int)
   (fun (i7:Nat) (b:UInt8) a=>
    if (decide (((b.toNat:Nat):Int)<48))=true then
     some (.inr (0,false))
    else
     if (decide (57<((b.toNat:Nat):Int)))=true then
      some (.inr (0,false))
     else
      some (.inl (IntKind.i64.wrap ((IntKind.i64.wrap (10*a))+IntKind.i64.wrap (IntKind.u8.wrap (((b.toNat:Nat):Int) - 48))))))
   (fun a=>
    (Zap a).bind fun d=>
    if (sEq d s_0)=true then
     some (a,true)
    else
     some (0,false))
   s_0.data.toList 0 0
 else
  some (0,false)
noncomputable def XC (a_0:ByteArray) (b_1:ByteArray):Option Int:=
 (Zau a_0).bind fun b=>
 (Zau b_1).bind fun a=>
 if b.2=true then
  if a.2=true then
   if (decide (b.1<a.1))=true then
    some (-1)
   else
    if (decide (a.1<b.1))=true then
     some 1
    else
     some 0
  else
   some (-1)
 else
  if a.2=true then
   some 1
  else
   (ZhA a_0 b_1).bind fun c=>
   some c
noncomputable def Zaw (a_0:Zk) (a:Zk):Option Int:=
 if (sEq a_0.rel a.rel)=true then
  Zv (σ:=Unit)
   (fun (b:Nat) (d:ByteArray) _=>
    if (decide (((b:Nat):Int)<((a.args.length:Nat):Int)))=true then
     (atI a.args ((b:Nat):Int)).bind fun e=>
     (XC d e).bind fun c=>
     if (c != 0)=true then
      some (.inr c)
     else
      some (.inl ())
    else
     if (decide (((a_0.args.length:Nat):Int)<((a.args.length:Nat):Int)))=true then
      some (.inr (-1))
     else
      if (decide (((a.args.length:Nat):Int)<((a_0.args.length:Nat):Int)))=true then
       some (.inr 1)
      else
       some (.inr 0))
   (fun _=>
    if (decide (((a_0.args.length:Nat):Int)<((a.args.length:Nat):Int)))=true then
     some (-1)
    else
     if (decide (((a.args.length:Nat):Int)<((a_0.args.length:Nat):Int)))=true then
      some 1
     else
      some 0)
   a_0.args 0 ()
 else
  (ZhA a_0.rel a.rel).bind fun f=>
  some f
noncomputable def Zcw (a:(List Zk)):Option Bool:=
 Zv (σ:=Unit)
  (fun (b:Nat) (c:Zk) _=>
   (XS c).bind fun d=>
   if d=true then
    if (decide (0<((b:Nat):Int)))=true then
     (atI a (IntKind.i64.wrap (((b:Nat):Int) - 1))).bind fun e=>
     (Zaw e c).bind fun f=>
     if (decide (0<=f))=true then
      some (.inr false)
     else
      some (.inl ())
    else
     some (.inl ())
   else
    some (.inr false))
  (fun _=>
   some (decide (((a.length:Nat):Int)<=24)))
  a 0 ()
noncomputable def ZdQ (a:(List Z2)):Option Bool:=
 Zv (σ:=Unit)
  (fun (i11:Nat) (c:Z2) _=>
   (XJ c.time 1 200).bind fun d=>
   if d=true then
    ZaT (σ:=Int)
     (fun b=>
      if (decide (b<((i11:Nat):Int)))=true then
       (atI a b).bind fun e=>
       if (e.time==c.time)=true then
        some (.inr (.inr false))
       else
        some (.inl (IntKind.i64.wrap (b+1)))
      else
       some (.inr (.inl ())))
     0
   else
    some (.inr false))
  (fun _=>
   (ZdG a).bind fun f=>
   (Zcw f).bind fun g=>
   some g)
  a 0 ()
noncomputable def Zi9 (r_0:Zl):Option Int:=
 Zv (σ:=Int)
  (fun (i5:Nat) (b:Zf) a=>
   if (b.kind==1)=true then
    some (.inl (IntKind.i64.wrap (a+1)))
   else
    some (.inl a))
  (fun a=>
   some a)
  r_0.cond 0 0
noncomputable def ZcN (a:Yq) (x_1:ZX):Option Bool:=
 (ZdX a.rules x_1.rule).bind fun b=>
 if (decide (b<0))=true then
  some false
 else
  (atI a.rules b).bind fun c=>
  (Zi9 c).bind fun d=>
  if (((x_1.times.length:Nat):Int) != d)=true then
   some false
  else
   Zv (σ:=Unit)
    (fun (i9:Nat) (e:Int) _=>
     (XJ e 1 a.clock).bind fun f=>
     if f=true then
      some (.inl ())
     else
      some (.inr false))
    (fun _=>
     some true)
    x_1.times 0 ()
noncomputable def ZaD (a_0:(List Int)) (a:(List Int)):Option Bool:=
 if (((a_0.length:Nat):Int) != ((a.length:Nat):Int))=true then
  some false
 else
  Zv (σ:=Unit)
   (fun (b:Nat) (c:Int) _=>
    (atI a ((b:Nat):Int)).bind fun d=>
    if (c != d)=true then
     some (.inr false)
    else
     some (.inl ()))
   (fun _=>
    some true)
   a_0 0 ()
noncomputable def Zel (l_0:(List ZX)) (x_1:Zht):Option Bool:=
 Zv (σ:=Unit)
  (fun (i6:Nat) (a:ZX) _=>
   if (sEq a.rule x_1.mtch.rule)=true then
    (ZaD a.times x_1.times).bind fun b=>
    if b=true then
     some (.inr true)
    else
     some (.inl ())
   else
    some (.inl ()))
  (fun _=>
   some false)
  l_0 0 ()
noncomputable def Zcl (x_0:Y3):Option Bool:=
 if (sEq x_0.fact.rel ⟨#[]⟩)=true then
  if (x_0.kind==1)=true then
   if (sEq x_0.rule ⟨#[]⟩)=true then
    (XS x_0.fact).bind fun a=>
    some a
   else
    some false
  else
   if (x_0.kind==2)=true then
    if (sEq x_0.rule ⟨#[]⟩)=true then
     (XS x_0.fact).bind fun b=>
     some b
    else
     some false
   else
    if (x_0.kind==3)=true then
     (Xx x_0.rule).bind fun c=>
     if c=true then
      some (((x_0.fact.args.length:Nat):Int)==0)
     else
      some false
    else
     if (x_0.kind==6)=true then
      (Xx x_0.rule).bind fun d=>
      if d=true then
       some (((x_0.fact.args.length:Nat):Int)==0)
      else
       some false
     else
      if (x_0.kind==4)=true then
       (Xx x_0.rule).bind fun e=>
       if e=true then
        (XS x_0.fact).bind fun f=>
        some f
       else
        some false
      else
       if (x_0.kind==5)=true then
        (Xx x_0.rule).bind fun g=>
        if g=true then
         (XS x_0.fact).bind fun i=>
         some i
        else
         some false
       else
        some false
 else
  if (x_0.kind==1)=true then
   if (sEq x_0.rule ⟨#[]⟩)=true then
    (XS x_0.fact).bind fun j=>
    some j
   else
    some false
  else
   if (x_0.kind==2)=true then
    if (sEq x_0.rule ⟨#[]⟩)=true then
     (XS x_0.fact).bind fun k=>
     some k
    else
     some false
   else
    if (x_0.kind==3)=true then
     (Xx x_0.rule).bind fun l=>
     if l=true then
      some false
     else
      some false
    else
     if (x_0.kind==6)=true then
      (Xx x_0.rule).bind fun m=>
      if m=true then
       some false
      else
       some false
     else
      if (x_0.kind==4)=true then
       (Xx x_0.rule).bind fun o=>
       if o=true then
        (XS x_0.fact).bind fun p=>
        some p
       else
        some false
      else
       if (x_0.kind==5)=true then
        (Xx x_0.rule).bind fun q=>
        if q=true then
         (XS x_0.fact).bind fun t=>
         some t
        else
         some false
       else
        some false
noncomputable def Zeg (append_0:Yq):Option Bool:=
 (Zcj append_0.rules).bind fun b=>
 if b=true then
  (ZdQ append_0.memory).bind fun c=>
  if c=true then
   (XJ append_0.clock 0 200).bind fun d=>
   if d=true then
    if (decide (40<((append_0.fired.length:Nat):Int)))=true then
     some false
    else
     if (decide (500<((append_0.log.length:Nat):Int)))=true then
      some false
     else
      Zv (σ:=Unit)
       (fun (i34:Nat) (e:Z2) _=>
        if (decide (append_0.clock<e.time))=true then
         some (.inr false)
        else
         some (.inl ()))
       (fun _=>
        Zv (σ:=Unit)
         (fun (i51:Nat) (a:ZX) _=>
          (ZcN append_0 a).bind fun f=>
          if f=true then
           chk (0<=((i51:Nat):Int)/\((i51:Nat):Int)<=((append_0.fired.length:Nat):Int)) <|
           (Zel (List.drop 0 (List.take i51 append_0.fired)) ({ mtch:=({ rule:=a.rule,facts:=[],binding:=[] }:Zo6),priority:=0,times:=a.times,specific:=0,ordr:=0 }:Zht)).bind fun g=>
           if g=true then
            some (.inr false)
           else
            some (.inl ())
          else
           some (.inr false))
         (fun _=>
          Zv (σ:=Unit)
           (fun (i60:Nat) (i:Y3) _=>
            (Zcl i).bind fun j=>
            if j=true then
             some (.inl ())
            else
             some (.inr false))
           (fun _=>
            some true)
           append_0.log 0 ())
         append_0.fired 0 ())
       append_0.memory 0 ()
   else
    some false
  else
   some false
 else
  some false
noncomputable def ZcG (a_0:(List ByteArray)) (a:(List ByteArray)):Option Bool:=
 if (((a_0.length:Nat):Int) != ((a.length:Nat):Int))=true then
  some false
 else
  Zv (σ:=Unit)
   (fun (b:Nat) (c:ByteArray) _=>
    (atI a ((b:Nat):Int)).bind fun d=>
    if (sEq c d)=true then
     some (.inl ())
    else
     some (.inr false))
   (fun _=>
    some true)
   a_0 0 ()
noncomputable def ZlI (a_0:Zk) (b_1:Zk):Option Bool:=
 if (sEq a_0.rel b_1.rel)=true then
  (ZcG a_0.args b_1.args).bind fun a=>
  some a
 else
  some false
noncomputable def Zbr (a_0:(List Zk)) (a:(List Zk)):Option Bool:=
 if (((a_0.length:Nat):Int) != ((a.length:Nat):Int))=true then
  some false
 else
  Zv (σ:=Unit)
   (fun (b:Nat) (c:Zk) _=>
    (atI a ((b:Nat):Int)).bind fun d=>
    (ZlI c d).bind fun e=>
    if e=true then
     some (.inl ())
    else
     some (.inr false))
   (fun _=>
    some true)
   a_0 0 ()
noncomputable def Q2 (s_0:ByteArray) (a_1:(List Zg)):Option ByteArray:=
 Zv (σ:=Unit)
  (fun (i4:Nat) (a:Zg) _=>
   if (sEq a.var s_0)=true then
    some (.inr a.value)
   else
    some (.inl ()))
  (fun _=>
   some s_0)
  a_1 0 ()
noncomputable def Xe (x_0:Zf) (a_1:(List Zg)):Option Zf:=
 (Q2 x_0.left a_1).bind fun b=>
 (Q2 x_0.right a_1).bind fun c=>
 Zv (σ:=(List ByteArray))
  (fun (i11:Nat) (d:ByteArray) a=>
   (Q2 d a_1).bind fun e=>
   chk (a.length+1<=1073741824) <|
   some (.inl (a++[e])))
  (fun a=>
   some ({ kind:=x_0.kind,pattern:=({ rel:=x_0.pattern.rel,args:=a }:Zj),left:=b,right:=c }:Zf))
  x_0.pattern.args 0 []
noncomputable def ZcV (x_0:Zf):Option Zf:=
 (Xe x_0 []).bind fun a=>
 some a
noncomputable def QD (p_0:Zj):Option Zj:=
 (ZdC p_0.args).bind fun a=>
 some ({ rel:=p_0.rel,args:=a }:Zj)
noncomputable def Zhk (r_0:Zl):Option Zl:=
 Zv (σ:=(List Zf))
  (fun (i20:Nat) (d:Zf) a=>
   (ZcV d).bind fun e=>
   chk (a.length+1<=1073741824) <|
   some (.inl (a++[e])))
  (fun a=>
   Zv (σ:=(List ZY))
    (fun (i31:Nat) (c:ZY) b=>
     (QD c.pattern).bind fun f=>
     chk (b.length+1<=1073741824) <|
     some (.inl (b++[({ kind:=c.kind,pattern:=f }:ZY)])))
    (fun b=>
     some ({ name:=r_0.name,priority:=r_0.priority,cond:=a,thn:=b }:Zl))
    r_0.thn 0 [])
  r_0.cond 0 []
noncomputable def ZdZ (l_0:(List Zl)):Option (List Zl):=
 Zv (σ:=(List Zl))
  (fun (i7:Nat) (b:Zl) a=>
   (Zhk b).bind fun c=>
   chk (a.length+1<=1073741824) <|
   some (.inl (a++[c])))
  (fun a=>
   some a)
  l_0 0 []
noncomputable def QH (l_0:(List Zg)) (term_1:ByteArray):Option (List Zg):=
 (ZaC term_1).bind fun b=>
 if b=true then
  Zv (σ:=Unit)
   (fun (i6:Nat) (c:Zg) _=>
    if (sEq c.var term_1)=true then
     some (.inr l_0)
    else
     some (.inl ()))
   (fun _=>
    (Zap (IntKind.i64.wrap (((l_0.length:Nat):Int)+1))).bind fun a=>
    chk ((⟨#[63]⟩:ByteArray).size+a.size<=9223372036854775807) <|
    chk (l_0.length+1<=1073741824) <|
    some (l_0++[({ var:=term_1,value:=((⟨#[63]⟩:ByteArray)++a) }:Zg)]))
   l_0 0 ()
 else
  some l_0
noncomputable def Zb2 (r_0:Zl):Option (List Zg):=
 Zv (σ:=(List Zg))
  (fun (i23:Nat) (a:Zf) b=>
   Zv (σ:=(List Zg))
    (fun (i33:Nat) (d:ByteArray) c=>
     (QH c d).bind fun e=>
     some (.inl e))
    (fun c=>
     (QH c a.left).bind fun f=>
     (QH f a.right).bind fun g=>
     some (.inl g))
    a.pattern.args 0 b)
  (fun b=>
   some b)
  r_0.cond 0 []
noncomputable def ZbT (r_0:Zl):Option (List Zf):=
 (Zb2 r_0).bind fun b=>
 Zv (σ:=(List Zf))
  (fun (i8:Nat) (c:Zf) a=>
   (Xe c b).bind fun d=>
   chk (a.length+1<=1073741824) <|
   some (.inl (a++[d])))
  (fun a=>
   some a)
  r_0.cond 0 []
noncomputable def XZ (a_0:Zj) (b_1:Zj):Option Bool:=
 if (sEq a_0.rel b_1.rel)=true then
  (ZcG a_0.args b_1.args).bind fun a=>
  some a
 else
  some false
noncomputable def Zbl (a_0:Zf) (a:Zf):Option Bool:=
 if (a_0.kind==a.kind)=true then
  (XZ a_0.pattern a.pattern).bind fun b=>
  if b=true then
   if (sEq a_0.left a.left)=true then
    some (sEq a_0.right a.right)
   else
    some false
  else
   some false
 else
  some false
noncomputable def ZdF (n_0:Ze) (shape_1:Zj):Option (Int×Ze):=
 Zv (σ:=Unit)
  (fun (i6:Nat) (a:Z7) _=>
   (XZ a.shape shape_1).bind fun b=>
   if b=true then
    some (.inr (((i6:Nat):Int),n_0))
   else
    some (.inl ()))
  (fun _=>
   chk (n_0.alphas.length+1<=1073741824) <|
   some ((IntKind.i64.wrap (((n_0.alphas.length+1:Nat):Int) - 1)),({ rules:=n_0.rules,ends:=n_0.ends,alphas:=(n_0.alphas++[({ shape:=shape_1,facts:=[] }:Z7)]),nodes:=n_0.nodes,facts:=n_0.facts,tries:=n_0.tries }:Ze)))
  n_0.alphas 0 ()
noncomputable def ZdE (p_0:Zj):Option Zj:=
 Zv (σ:=(List Zg))
  (fun (i8:Nat) (b:ByteArray) a=>
   (QH a b).bind fun c=>
   some (.inl c))
  (fun a=>
   (Xe ({ kind:=0,pattern:=p_0,left:=(⟨#[]⟩),right:=(⟨#[]⟩) }:Zf) a).bind fun d=>
   some d.pattern)
  p_0.args 0 []
noncomputable def Zfd (append_0:Ze) (String_1:Int) (a_2:Zf):Option (Int×Ze):=
 ZaT (σ:=Int)
  (fun c=>
   if (decide (c<((append_0.nodes.length:Nat):Int)))=true then
    chk (0<=c/\c<((append_0.nodes.length:Nat):Int)) <|
    (append_0.nodes[(AG c)]?).bind fun e=>
    if (e.parent==String_1)=true then
     (Zbl e.cond a_2).bind fun f=>
     if f=true then
      some (.inr (c,append_0))
     else
      some (.inl (IntKind.i64.wrap (c+1)))
    else
     some (.inl (IntKind.i64.wrap (c+1)))
   else
    (ZcV a_2).bind fun d=>
    if (a_2.kind==1)=true then
     (ZdE a_2.pattern).bind fun g=>
     (ZdF append_0 g).bind fun a=>
     chk (a.2.nodes.length+1<=1073741824) <|
     some (.inr ((IntKind.i64.wrap (((a.2.nodes.length+1:Nat):Int) - 1)),({ rules:=a.2.rules,ends:=a.2.ends,alphas:=a.2.alphas,nodes:=(a.2.nodes++[({ parent:=String_1,cond:=d,alpha:=a.1,tokens:=[] }:ZL)]),facts:=a.2.facts,tries:=a.2.tries }:Ze)))
    else
     if (a_2.kind==2)=true then
      (ZdE a_2.pattern).bind fun i=>
      (ZdF append_0 i).bind fun b=>
      chk (b.2.nodes.length+1<=1073741824) <|
      some (.inr ((IntKind.i64.wrap (((b.2.nodes.length+1:Nat):Int) - 1)),({ rules:=b.2.rules,ends:=b.2.ends,alphas:=b.2.alphas,nodes:=(b.2.nodes++[({ parent:=String_1,cond:=d,alpha:=b.1,tokens:=[] }:ZL)]),facts:=b.2.facts,tries:=b.2.tries }:Ze)))
     else
      chk (append_0.nodes.length+1<=1073741824) <|
      some (.inr ((IntKind.i64.wrap (((append_0.nodes.length+1:Nat):Int) - 1)),({ rules:=append_0.rules,ends:=append_0.ends,alphas:=append_0.alphas,nodes:=(append_0.nodes++[({ parent:=String_1,cond:=d,alpha:=(-1),tokens:=[] }:ZL)]),facts:=append_0.facts,tries:=append_0.tries }:Ze))))
  1
noncomputable def Q6 (rules_0:(List Zl)):Option (Ze×Bool):=
 (Zcj rules_0).bind fun q=>
 if q=true then
  (ZdZ rules_0).bind fun t=>
  Zv (σ:=Int×(List Zl)×(List Int)×(List Z7)×(List ZL)×(List Zk))
   (fun (i63:Nat) (u:Zl) s=>
    match s with
    |(c,d,e,f,g,i)=>
    (ZbT u).bind fun v=>
    Zv (σ:=Int×(List Zl)×(List Int)×(List Z7)×(List ZL)×(List Zk)×Int)
     (fun (i78:Nat) (w:Zf) s=>
      match s with
      |(j,k,b,l,m,o,p)=>
      (Zfd ({ rules:=k,ends:=b,alphas:=l,nodes:=m,facts:=o,tries:=j }:Ze) p w).bind fun a=>
      some (.inl (a.2.tries,a.2.rules,a.2.ends,a.2.alphas,a.2.nodes,a.2.facts,a.1)))
     (fun s=>
      match s with
      |(j,k,b,l,m,o,p)=>
      chk (b.length+1<=1073741824) <|
      some (.inl (j,k,(b++[p]),l,m,o)))
     v 0 (c,d,e,f,g,i,0))
   (fun s=>
    match s with
    |(c,d,e,f,g,i)=>
    some (({ rules:=d,ends:=e,alphas:=f,nodes:=g,facts:=i,tries:=c }:Ze),true))
   rules_0 0 (0,t,[],[],[({ parent:=(-1),cond:=({ kind:=0,pattern:=({ rel:=(⟨#[]⟩),args:=[] }:Zj),left:=(⟨#[]⟩),right:=(⟨#[]⟩) }:Zf),alpha:=(-1),tokens:=[({ facts:=[],binding:=[] }:Zs)] }:ZL)],[])
 else
  some (({ rules:=[],ends:=[],alphas:=[],nodes:=[],facts:=[],tries:=0 }:Ze),false)
noncomputable def ZbI (append_0:Ze) (a:Ze):Option Bool:=
 if (((append_0.alphas.length:Nat):Int) != ((a.alphas.length:Nat):Int))=true then
  some false
 else
  if (((append_0.nodes.length:Nat):Int) != ((a.nodes.length:Nat):Int))=true then
   some false
  else
   if (((append_0.ends.length:Nat):Int) != ((a.ends.length:Nat):Int))=true then
    some false
   else
    Zv (σ:=Unit)
     (fun (d:Nat) (e:Z7) _=>
      (atI a.alphas ((d:Nat):Int)).bind fun f=>
      (XZ e.shape f.shape).bind fun g=>
      if g=true then
       some (.inl ())
      else
       some (.inr false))
     (fun _=>
      Zv (σ:=Unit)
       (fun (i:Nat) (b:ZL) _=>
        (atI a.nodes ((i:Nat):Int)).bind fun c=>
        if (b.parent != c.parent)=true then
         some (.inr false)
        else
         if (b.alpha != c.alpha)=true then
          some (.inr false)
         else
          (Zbl b.cond c.cond).bind fun j=>
          if j=true then
           some (.inl ())
          else
           some (.inr false))
       (fun _=>
        Zv (σ:=Unit)
         (fun (k:Nat) (l:Int) _=>
          (atI a.ends ((k:Nat):Int)).bind fun m=>
          if (l != m)=true then
           some (.inr false)
          else
           some (.inl ()))
         (fun _=>
          some true)
         append_0.ends 0 ())
       append_0.nodes 0 ())
     append_0.alphas 0 ()
noncomputable def Ql (a:(List Zg)):Option Bool:=
 Zv (σ:=Unit)
  (fun (c:Nat) (b:Zg) _=>
   (ZaC b.var).bind fun d=>
   if d=true then
    (QG b.value).bind fun e=>
    if e=true then
     if (decide (0<((c:Nat):Int)))=true then
      (atI a (IntKind.i64.wrap (((c:Nat):Int) - 1))).bind fun f=>
      if (sLt f.var b.var)=true then
       some (.inl ())
      else
       some (.inr false)
     else
      some (.inl ())
    else
     some (.inr false)
   else
    some (.inr false))
  (fun _=>
   some (decide (((a.length:Nat):Int)<=6)))
  a 0 ()
noncomputable def ZcW (b_0:(List Zg)):Option (List Zg):=
 chk (b_0.length<=1073741824) <|
 some b_0
noncomputable def Zcn (b_0:(List Zg)) (term_1:ByteArray):Option (ByteArray×Bool):=
 (QG term_1).bind fun b=>
 if b=true then
  some (term_1,true)
 else
  Zv (σ:=Unit)
   (fun (i7:Nat) (a:Zg) _=>
    if (sEq a.var term_1)=true then
     (ZaC term_1).bind fun c=>
     if c=true then
      some (.inr (a.value,true))
     else
      some (.inl ())
    else
     some (.inl ()))
   (fun _=>
    some ((⟨#[]⟩),false))
   b_0 0 ()
noncomputable def ZiW (b_0:(List Zg)) (c:ByteArray) (value_2:ByteArray):Option (List Zg):=
 Zv (σ:=(List Zg)×Bool)
  (fun (i8:Nat) (b:Zg) s=>
   match s with
   |(a,d)=>
   if d=true then
    chk (a.length+1<=1073741824) <|
    some (.inl ((a++[b]),true))
   else
    if (sLt b.var c||sEq b.var c)=true then
     chk (a.length+1<=1073741824) <|
     some (.inl ((a++[b]),false))
    else
     chk (a.length+1<=1073741824) <|
     chk (a.length+1+1<=1073741824) <|
     some (.inl (((a++[({ var:=c,value:=value_2 }:Zg)])++[b]),true)))
  (fun s=>
   match s with
   |(a,d)=>
   if d=true then
    some a
   else
    chk (a.length+1<=1073741824) <|
    some (a++[({ var:=c,value:=value_2 }:Zg)]))
  b_0 0 ([],false)
noncomputable def ZgJ (b_0:(List Zg)) (v_1:ByteArray) (value_2:ByteArray):Option ((List Zg)×Bool):=
 (Ql b_0).bind fun b=>
 if b=true then
  (ZaC v_1).bind fun c=>
  if c=true then
   (QG value_2).bind fun d=>
   if d=true then
    (Zcn b_0 v_1).bind fun a=>
    if a.2=true then
     if (sEq a.1 value_2)=true then
      (ZcW b_0).bind fun e=>
      some (e,true)
     else
      some ([],false)
    else
     if (((b_0.length:Nat):Int)==6)=true then
      some ([],false)
     else
      (ZiW b_0 v_1 value_2).bind fun f=>
      some (f,true)
   else
    some ([],false)
  else
   some ([],false)
 else
  some ([],false)
noncomputable def Zby (append_0:Zj) (a:Zk) (a_2:(List Zg)):Option ((List Zg)×Bool):=
 (XR append_0).bind fun f=>
 if f=true then
  (XS a).bind fun g=>
  if g=true then
   (Ql a_2).bind fun i=>
   if i=true then
    if (sEq append_0.rel a.rel)=true then
     if (((append_0.args.length:Nat):Int) != ((a.args.length:Nat):Int))=true then
      some ([],false)
     else
      (ZcW a_2).bind fun j=>
      Zv (σ:=(List Zg))
       (fun (d:Nat) (c:ByteArray) b=>
        (QG c).bind fun k=>
        if k=true then
         (atI a.args ((d:Nat):Int)).bind fun l=>
         if (sEq c l)=true then
          some (.inl b)
         else
          some (.inr ([],false))
        else
         (atI a.args ((d:Nat):Int)).bind fun m=>
         (ZgJ b c m).bind fun e=>
         if e.2=true then
          some (.inl e.1)
         else
          some (.inr ([],false)))
       (fun b=>
        some (b,true))
       append_0.args 0 j
    else
     some ([],false)
   else
    some ([],false)
  else
   some ([],false)
 else
  some ([],false)
noncomputable def Y4 (p_0:Zj) (b_1:(List Zg)) (facts_2:(List Zk)):Option (List Zk):=
 Zv (σ:=(List Zk))
  (fun (i9:Nat) (b:Zk) a=>
   (Zby p_0 b b_1).bind fun c=>
   if c.2=true then
    (Zdd b).bind fun d=>
    chk (a.length+1<=1073741824) <|
    some (.inl (a++[d]))
   else
    some (.inl a))
  (fun a=>
   some a)
  facts_2 0 []
noncomputable def Zdk (a_0:(List Zg)) (a:(List Zg)):Option Bool:=
 if (((a_0.length:Nat):Int) != ((a.length:Nat):Int))=true then
  some false
 else
  Zv (σ:=Unit)
   (fun (d:Nat) (b:Zg) _=>
    (atI a ((d:Nat):Int)).bind fun c=>
    if (sEq b.var c.var&&sEq b.value c.value)=true then
     some (.inl ())
    else
     some (.inr false))
   (fun _=>
    some true)
   a_0 0 ()
noncomputable def Zb7 (a_0:(List Zs)) (a:(List Zs)):Option Bool:=
 if (((a_0.length:Nat):Int) != ((a.length:Nat):Int))=true then
  some false
 else
  Zv (σ:=Unit)
   (fun (d:Nat) (b:Zs) _=>
    (atI a ((d:Nat):Int)).bind fun c=>
    (Zbr b.facts c.facts).bind fun e=>
    if e=true then
     (Zdk b.binding c.binding).bind fun f=>
     if f=true then
      some (.inl ())
     else
      some (.inr false)
    else
     some (.inr false))
   (fun _=>
    some true)
   a_0 0 ()
noncomputable def Zeo (s_0:ByteArray):Option Bool:=
 (Zau s_0).bind fun a=>
 some a.2
noncomputable def Zc7 (x_0:Zf) (b_1:(List Zg)):Option Bool:=
 (Zb3 x_0).bind fun c=>
 if c=true then
  (Ql b_1).bind fun d=>
  if d=true then
   (Zcn b_1 x_0.left).bind fun a=>
   (Zcn b_1 x_0.right).bind fun b=>
   if a.2=true then
    if b.2=true then
     if (x_0.kind==3)=true then
      some (sEq a.1 b.1)
     else
      if (x_0.kind==4)=true then
       some (!(sEq a.1 b.1))
      else
       (Zeo a.1).bind fun e=>
       if e=true then
        (Zeo b.1).bind fun f=>
        if f=true then
         (XC a.1 b.1).bind fun g=>
         some (decide (g<0))
        else
         some false
       else
        some false
    else
     some false
   else
    some false
  else
   some false
 else
  some false
noncomputable def Zc3 (x_0:Zf) (a:(List Zg)) (b:(List Zk)):Option Bool:=
 (Zd7 x_0).bind fun c=>
 if c=true then
  (Ql a).bind fun d=>
  if d=true then
   if (x_0.kind==1)=true then
    (Y4 x_0.pattern a b).bind fun e=>
    some (decide (0<((e.length:Nat):Int)))
   else
    if (x_0.kind==2)=true then
     (Y4 x_0.pattern a b).bind fun f=>
     some (((f.length:Nat):Int)==0)
    else
     (Zc7 x_0 a).bind fun g=>
     some g
  else
   some false
 else
  some false
noncomputable def Zcf (l_0:(List Zk)):Option (List Zk):=
 Zv (σ:=(List Zk))
  (fun (i7:Nat) (b:Zk) a=>
   (Zdd b).bind fun c=>
   chk (a.length+1<=1073741824) <|
   some (.inl (a++[c])))
  (fun a=>
   some a)
  l_0 0 []
noncomputable def ZgH (t_0:Zs):Option Zs:=
 (Zcf t_0.facts).bind fun a=>
 (ZcW t_0.binding).bind fun b=>
 some ({ facts:=a,binding:=b }:Zs)
noncomputable def Zhh (append_0:(List Zs)) (String_1:Zf) (a_2:(List Zk)):Option (List Zs):=
 Zv (σ:=(List Zs))
  (fun (i45:Nat) (c:Zs) a=>
   if (String_1.kind != 1)=true then
    (Zc3 String_1 c.binding a_2).bind fun g=>
    if g=true then
     (ZgH c).bind fun i=>
     chk (a.length+1<=1073741824) <|
     some (.inl (a++[i]))
    else
     some (.inl a)
   else
    Zv (σ:=(List Zs))
     (fun (i59:Nat) (d:Zk) b=>
      (Zby String_1.pattern d c.binding).bind fun e=>
      if e.2=true then
       (Zcf c.facts).bind fun f=>
       (Zdd d).bind fun j=>
       chk (f.length+1<=1073741824) <|
       chk (b.length+1<=1073741824) <|
       some (.inl (b++[({ facts:=(f++[j]),binding:=e.1 }:Zs)]))
      else
       some (.inl b))
     (fun b=>
      some (.inl b))
     a_2 0 a)
  (fun a=>
   some a)
  append_0 0 []
noncomputable def ZdT (l_0:(List Zf)) (facts_1:(List Zk)):Option (List Zs):=
 Zv (σ:=(List Zs))
  (fun (i7:Nat) (b:Zf) a=>
   (Zhh a b facts_1).bind fun c=>
   some (.inl c))
  (fun a=>
   some a)
  l_0 0 ([({ facts:=[],binding:=[] }:Zs)])
noncomputable def ZgC (d:Ze) (node_1:Int):Option (List Zf):=
 ZaT (σ:=(List Zf)×Int)
  (fun s=>
   match s with
   |(a,b)=>
   (XJ b 1 (IntKind.i64.wrap (((d.nodes.length:Nat):Int) - 1))).bind fun f=>
   if f=true then
    (atI d.nodes b).bind fun c=>
    (ZcV c.cond).bind fun e=>
    chk (1+a.length<=1073741824) <|
    if (decide (b<=c.parent))=true then
     some (.inr ([e]++a))
    else
     some (.inl (([e]++a),c.parent))
   else
    some (.inr a))
  ([],node_1)
noncomputable def Zdb (append_0:Ze):Option Bool:=
 (Q6 append_0.rules).bind fun a=>
 if a.2=true then
  (Zcw append_0.facts).bind fun c=>
  if c=true then
   (ZbI append_0 a.1).bind fun d=>
   if d=true then
    if (decide (append_0.tries<0))=true then
     some false
    else
     Zv (σ:=Unit)
      (fun (i25:Nat) (b:Z7) _=>
       (Y4 b.shape [] append_0.facts).bind fun e=>
       (Zbr b.facts e).bind fun f=>
       if f=true then
        some (.inl ())
       else
        some (.inr false))
      (fun _=>
       Zv (σ:=Unit)
        (fun (i38:Nat) (g:ZL) _=>
         (ZgC append_0 ((i38:Nat):Int)).bind fun i=>
         (ZdT i append_0.facts).bind fun j=>
         (Zb7 g.tokens j).bind fun k=>
         if k=true then
          some (.inl ())
         else
          some (.inr false))
        (fun _=>
         some true)
        append_0.nodes 0 ())
      append_0.alphas 0 ()
   else
    some false
  else
   some false
 else
  some false
noncomputable def Zes (append_0:Zl) (a:Zl):Option Bool:=
 if (sEq append_0.name a.name)=true then
  if (append_0.priority != a.priority)=true then
   some false
  else
   if (((append_0.cond.length:Nat):Int) != ((a.cond.length:Nat):Int))=true then
    some false
   else
    if (((append_0.thn.length:Nat):Int) != ((a.thn.length:Nat):Int))=true then
     some false
    else
     Zv (σ:=Unit)
      (fun (d:Nat) (e:Zf) _=>
       (atI a.cond ((d:Nat):Int)).bind fun f=>
       (Zbl e f).bind fun g=>
       if g=true then
        some (.inl ())
       else
        some (.inr false))
      (fun _=>
       Zv (σ:=Unit)
        (fun (i:Nat) (b:ZY) _=>
         (atI a.thn ((i:Nat):Int)).bind fun c=>
         if (b.kind != c.kind)=true then
          some (.inr false)
         else
          (XZ b.pattern c.pattern).bind fun j=>
          if j=true then
           some (.inl ())
          else
           some (.inr false))
        (fun _=>
         some true)
        append_0.thn 0 ())
      append_0.cond 0 ()
 else
  some false
noncomputable def ZfA (a:ZaQ):Option Bool:=
 (Zeg a.engine).bind fun b=>
 if b=true then
  (Zdb a.network).bind fun c=>
  if c=true then
   if (((a.engine.rules.length:Nat):Int) != ((a.network.rules.length:Nat):Int))=true then
    some false
   else
    (ZdG a.engine.memory).bind fun d=>
    (Zbr a.network.facts d).bind fun e=>
    if e=true then
     Zv (σ:=Unit)
      (fun (f:Nat) (g:Zl) _=>
       (atI a.network.rules ((f:Nat):Int)).bind fun i=>
       (Zes g i).bind fun j=>
       if j=true then
        some (.inl ())
       else
        some (.inr false))
      (fun _=>
       some true)
      a.engine.rules 0 ()
    else
     some false
  else
   some false
 else
  some false
noncomputable def QI (s_0:ByteArray):Option Bool:=
 if (decide (((s_0.size:Nat):Int)<1))=true then
  some false
 else
  if (decide (8<((s_0.size:Nat):Int)))=true then
   some false
  else
   Zv (σ:=Unit)
    (fun (i4:Nat) (a:UInt8) _=>
     if (decide (((a.toNat:Nat):Int)<97))=true then
      if (decide (((a.toNat:Nat):Int)<48))=true then
       some (.inr false)
      else
       if (decide (57<((a.toNat:Nat):Int)))=true then
        some (.inr false)
       else
        some (.inl ())
     else
      if (decide (122<((a.toNat:Nat):Int)))=true then
       if (decide (((a.toNat:Nat):Int)<48))=true then
        some (.inr false)
       else
        if (decide (57<((a.toNat:Nat):Int)))=true then
         some (.inr false)
        else
         some (.inl ())
      else
       some (.inl ()))
    (fun _=>
     some true)
    s_0.data.toList 0 ()
noncomputable def XB (s_0:ByteArray):Option Bool:=
 (QI s_0).bind fun a=>
 if a=true then
  (sAt s_0 0).bind fun b=>
  some (decide (97<=((b.toNat:Nat):Int)))
 else
  some false
noncomputable def ZbR (a:ByteArray):Option Bool:=
 if (decide (1<((a.size:Nat):Int)))=true then
  (sAt a 0).bind fun b=>
  if (((b.toNat:Nat):Int)==63)=true then
   chk (0<=1/\1<=((a.size:Nat):Int)) <|
   (QI (a.extract (AG 1) a.size)).bind fun c=>
   some c
  else
   some false
 else
  some false
noncomputable def Q8 (s_0:ByteArray):Option Bool:=
 (QI s_0).bind fun a=>
 if a=true then
  some true
 else
  (ZbR s_0).bind fun b=>
  some b
noncomputable def XQ (p_0:Zj):Option Bool:=
 (XB p_0.rel).bind fun a=>
 if a=true then
  if (decide (3<((p_0.args.length:Nat):Int)))=true then
   some false
  else
   Zv (σ:=Unit)
    (fun (i7:Nat) (b:ByteArray) _=>
     (Q8 b).bind fun c=>
     if c=true then
      some (.inl ())
     else
      some (.inr false))
    (fun _=>
     some true)
    p_0.args 0 ()
 else
  some false
noncomputable def Xi (p_0:Zj):Option Bool:=
 if (sEq p_0.rel ⟨#[]⟩)=true then
  some (((p_0.args.length:Nat):Int)==0)
 else
  some false
noncomputable def Zd5 (x_0:Zf):Option Bool:=
 if (x_0.kind==1)=true then
  (XQ x_0.pattern).bind fun a=>
  if a=true then
   if (sEq x_0.left ⟨#[]⟩)=true then
    some (sEq x_0.right ⟨#[]⟩)
   else
    some false
  else
   some false
 else
  if (x_0.kind==2)=true then
   (XQ x_0.pattern).bind fun b=>
   if b=true then
    if (sEq x_0.left ⟨#[]⟩)=true then
     some (sEq x_0.right ⟨#[]⟩)
    else
     some false
   else
    some false
  else
   if (x_0.kind==3)=true then
    (Q8 x_0.left).bind fun c=>
    if c=true then
     (Q8 x_0.right).bind fun d=>
     if d=true then
      (Xi x_0.pattern).bind fun e=>
      some e
     else
      some false
    else
     some false
   else
    if (x_0.kind==4)=true then
     (Q8 x_0.left).bind fun f=>
     if f=true then
      (Q8 x_0.right).bind fun g=>
      if g=true then
       (Xi x_0.pattern).bind fun i=>
       some i
      else
       some false
     else
      some false
    else
     if (x_0.kind==5)=true then
      (Q8 x_0.left).bind fun j=>
      if j=true then
       (Q8 x_0.right).bind fun k=>
       if k=true then
        (Xi x_0.pattern).bind fun l=>
        some l
       else
        some false
      else
       some false
     else
      some false
noncomputable def Zas (l_0:(List ByteArray)):Option (List ByteArray):=
 Zv (σ:=(List ByteArray))
  (fun (i9:Nat) (b:ByteArray) a=>
   (ZbR b).bind fun c=>
   if c=true then
    chk (a.length+1<=1073741824) <|
    some (.inl (a++[b]))
   else
    some (.inl a))
  (fun a=>
   some a)
  l_0 0 []
noncomputable def X0 (l_0:(List ByteArray)):Option (List ByteArray):=
 chk (l_0.length<=1073741824) <|
 (ZcI l_0).bind fun c=>
 Zv (σ:=(List ByteArray))
  (fun (b:Nat) (d:ByteArray) a=>
   if (((b:Nat):Int)==0)=true then
    chk (a.length+1<=1073741824) <|
    some (.inl (a++[d]))
   else
    chk (0<=(IntKind.i64.wrap (((b:Nat):Int) - 1))/\(IntKind.i64.wrap (((b:Nat):Int) - 1))<((c.length:Nat):Int)) <|
    (c[(AG (IntKind.i64.wrap (((b:Nat):Int) - 1)))]?).bind fun e=>
    if (sEq e d)=true then
     some (.inl a)
    else
     chk (a.length+1<=1073741824) <|
     some (.inl (a++[d])))
  (fun a=>
   some a)
  c 0 []
noncomputable def Zbx (r_0:Zl) (n_1:Int):Option (List ByteArray):=
 Zv (σ:=(List ByteArray))
  (fun (i10:Nat) (b:Zf) a=>
   if (decide (((i10:Nat):Int)<n_1))=true then
    if (b.kind==1)=true then
     (Zas b.pattern.args).bind fun c=>
     chk (a.length+c.length<=1073741824) <|
     some (.inl (a++c))
    else
     some (.inl a)
   else
    some (.inl a))
  (fun a=>
   (X0 a).bind fun d=>
   some d)
  r_0.cond 0 []
noncomputable def ZaJ (l_0:(List ByteArray)) (s_1:ByteArray):Option Bool:=
 Zv (σ:=Unit)
  (fun (i4:Nat) (a:ByteArray) _=>
   if (sEq a s_1)=true then
    some (.inr true)
   else
    some (.inl ()))
  (fun _=>
   some false)
  l_0 0 ()
noncomputable def Q3 (l_0:(List ByteArray)):Option (List ByteArray):=
 chk (l_0.length<=1073741824) <|
 some l_0
noncomputable def Zbz (x_0:Zf):Option (List ByteArray):=
 (Q3 x_0.pattern.args).bind fun a=>
 chk (a.length+2<=1073741824) <|
 some (a++[x_0.left,x_0.right])
noncomputable def Zax (x_0:Zf):Option (List ByteArray):=
 (Zbz x_0).bind fun a=>
 (Zas a).bind fun b=>
 (X0 b).bind fun c=>
 some c
noncomputable def XV (r_0:Zl) (k_1:Int) (a:ByteArray):Option Bool:=
 Zv (σ:=Unit)
  (fun (i16:Nat) (b:Zf) _=>
   if (((i16:Nat):Int) != k_1)=true then
    (Zax b).bind fun c=>
    (ZaJ c a).bind fun d=>
    if d=true then
     some (.inr true)
    else
     some (.inl ())
   else
    some (.inl ()))
  (fun _=>
   Zv (σ:=Unit)
    (fun (i25:Nat) (e:ZY) _=>
     (ZaJ e.pattern.args a).bind fun f=>
     if f=true then
      some (.inr true)
     else
      some (.inl ()))
    (fun _=>
     some false)
    r_0.thn 0 ())
  r_0.cond 0 ()
noncomputable def Zcc (a:Zl) (b:Int):Option Bool:=
 (atI a.cond b).bind fun c=>
 (Zbx a b).bind fun e=>
 (Zax c).bind fun f=>
 Zv (σ:=Unit)
  (fun (i11:Nat) (d:ByteArray) _=>
   if (c.kind==1)=true then
    some (.inl ())
   else
    (ZaJ e d).bind fun g=>
    if g=true then
     some (.inl ())
    else
     if (c.kind != 2)=true then
      some (.inr false)
     else
      (XV a b d).bind fun i=>
      if i=true then
       some (.inr false)
      else
       some (.inl ()))
  (fun _=>
   some true)
  f 0 ()
noncomputable def Zei (a_0:ZY):Option Bool:=
 if (a_0.kind==1)=true then
  (XQ a_0.pattern).bind fun a=>
  some a
 else
  if (a_0.kind==2)=true then
   (XQ a_0.pattern).bind fun b=>
   some b
  else
   if (a_0.kind==3)=true then
    (Xi a_0.pattern).bind fun c=>
    some c
   else
    some false
noncomputable def ZbC (l_0:(List Zf)):Option (List ByteArray):=
 Zv (σ:=(List ByteArray))
  (fun (i9:Nat) (c:Zf) a=>
   (Zax c).bind fun b=>
   chk (a.length+b.length<=1073741824) <|
   some (.inl (a++b)))
  (fun a=>
   some a)
  l_0 0 []
noncomputable def ZgB (append_0:Zl):Option Bool:=
 (XB append_0.name).bind fun c=>
 if c=true then
  if (decide (append_0.priority<0))=true then
   some false
  else
   if (decide (9<append_0.priority))=true then
    some false
   else
    if (decide (((append_0.cond.length:Nat):Int)<1))=true then
     some false
    else
     if (decide (4<((append_0.cond.length:Nat):Int)))=true then
      some false
     else
      if (decide (((append_0.thn.length:Nat):Int)<1))=true then
       some false
      else
       if (decide (2<((append_0.thn.length:Nat):Int)))=true then
        some false
       else
        Zv (σ:=Unit)
         (fun (i50:Nat) (a:Zf) _=>
          (Zd5 a).bind fun d=>
          if d=true then
           if (((i50:Nat):Int)==0)=true then
            if (a.kind != 1)=true then
             some (.inr false)
            else
             (Zcc append_0 ((i50:Nat):Int)).bind fun e=>
             if e=true then
              some (.inl ())
             else
              some (.inr false)
           else
            (Zcc append_0 ((i50:Nat):Int)).bind fun f=>
            if f=true then
             some (.inl ())
            else
             some (.inr false)
          else
           some (.inr false))
         (fun _=>
          (Zbx append_0 ((append_0.cond.length:Nat):Int)).bind fun g=>
          Zv (σ:=Unit)
           (fun (i81:Nat) (b:ZY) _=>
            (Zei b).bind fun i=>
            if i=true then
             (Zas b.pattern.args).bind fun j=>
             Zv (σ:=Unit)
              (fun (i90:Nat) (k:ByteArray) _=>
               (ZaJ g k).bind fun l=>
               if l=true then
                some (.inl ())
               else
                some (.inr (.inr false)))
              (fun _=>
               some (.inl ()))
              j 0 ()
            else
             some (.inr false))
           (fun _=>
            (ZbC append_0.cond).bind fun m=>
            (X0 m).bind fun o=>
            some (decide (((o.length:Nat):Int)<=6)))
           append_0.thn 0 ())
         append_0.cond 0 ()
 else
  some false
noncomputable def QB (l_0:(List Zl)) (name_1:ByteArray):Option Int:=
 Zv (σ:=Unit)
  (fun (i4:Nat) (a:Zl) _=>
   if (sEq a.name name_1)=true then
    some (.inr ((i4:Nat):Int))
   else
    some (.inl ()))
  (fun _=>
   some (-1))
  l_0 0 ()
noncomputable def Zcs (l_0:(List Zl)):Option Bool:=
 if (decide (6<((l_0.length:Nat):Int)))=true then
  some false
 else
  Zv (σ:=Unit)
   (fun (i8:Nat) (a:Zl) _=>
    (ZgB a).bind fun b=>
    if b=true then
     (QB l_0 a.name).bind fun c=>
     if (c != ((i8:Nat):Int))=true then
      some (.inr false)
     else
      some (.inl ())
    else
     some (.inr false))
   (fun _=>
    some true)
   l_0 0 ()
noncomputable def QA (f_0:Zk):Option Zk:=
 (Q3 f_0.args).bind fun a=>
 some ({ rel:=f_0.rel,args:=a }:Zk)
noncomputable def Zbq (l_0:(List Z2)):Option (List Zk):=
 Zv (σ:=(List Zk))
  (fun (i9:Nat) (b:Z2) a=>
   (QA b.fact).bind fun c=>
   chk (a.length+1<=1073741824) <|
   some (.inl (a++[c])))
  (fun a=>
   some a)
  l_0 0 []
noncomputable def XW (f_0:Zk):Option Bool:=
 (XB f_0.rel).bind fun a=>
 if a=true then
  if (decide (3<((f_0.args.length:Nat):Int)))=true then
   some false
  else
   Zv (σ:=Unit)
    (fun (i7:Nat) (b:ByteArray) _=>
     (QI b).bind fun c=>
     if c=true then
      some (.inl ())
     else
      some (.inr false))
    (fun _=>
     some true)
    f_0.args 0 ()
 else
  some false
noncomputable def X2 (a_0:Int) (b_1:Int):Option Int:=
 if (decide (a_0<b_1))=true then
  some (-1)
 else
  if (decide (b_1<a_0))=true then
   some 1
  else
   some 0
noncomputable def Qn (n_0:Int):Option ByteArray:=
 (Zph n_0).bind fun a=>
 some a
noncomputable def Q5 (s_0:ByteArray):Option (Int×Bool):=
 if (decide (((s_0.size:Nat):Int)<1))=true then
  some (0,false)
 else
  if (decide (4<((s_0.size:Nat):Int)))=true then
   some (0,false)
  else
   (Zl2 s_0).bind fun a=>
   if a.2=true then
    if (decide (a.1<0))=true then
     some (0,false)
    else
     if (decide (9999<a.1))=true then
      some (0,false)
     else
      (Qn a.1).bind fun b=>
      if (sEq b s_0)=true then
       some (a.1,true)
      else
       some (0,false)
   else
    some (0,false)
noncomputable def Zah (a_0:ByteArray) (b_1:ByteArray):Option Int:=
 (Q5 a_0).bind fun b=>
 (Q5 b_1).bind fun a=>
 if b.2=true then
  if a.2=true then
   (X2 b.1 a.1).bind fun c=>
   some c
  else
   some (-1)
 else
  if a.2=true then
   some 1
  else
   (Zfl a_0 b_1).bind fun d=>
   some d
noncomputable def Zaa (a_0:Zk) (a:Zk):Option Int:=
 (Zfl a_0.rel a.rel).bind fun b=>
 if (b != 0)=true then
  some b
 else
  Zv (σ:=Unit)
   (fun (c:Nat) (e:ByteArray) _=>
    if (decide (((c:Nat):Int)<((a.args.length:Nat):Int)))=true then
     (atI a.args ((c:Nat):Int)).bind fun f=>
     (Zah e f).bind fun d=>
     if (d != 0)=true then
      some (.inr d)
     else
      some (.inl ())
    else
     (X2 ((a_0.args.length:Nat):Int) ((a.args.length:Nat):Int)).bind fun g=>
     some (.inr g))
   (fun _=>
    (X2 ((a_0.args.length:Nat):Int) ((a.args.length:Nat):Int)).bind fun i=>
    some i)
   a_0.args 0 ()
noncomputable def Zbi (a:(List Zk)):Option Bool:=
 if (decide (24<((a.length:Nat):Int)))=true then
  some false
 else
  Zv (σ:=Unit)
   (fun (b:Nat) (c:Zk) _=>
    (XW c).bind fun d=>
    if d=true then
     if (decide (0<((b:Nat):Int)))=true then
      (atI a (IntKind.i64.wrap (((b:Nat):Int) - 1))).bind fun e=>
      (Zaa e c).bind fun f=>
      if (decide (0<=f))=true then
       some (.inr false)
      else
       some (.inl ())
     else
      some (.inl ())
    else
     some (.inr false))
   (fun _=>
    some true)
   a 0 ()
noncomputable def ZdK (l_0:(List Z2)):Option Bool:=
 Zv (σ:=(List (Int×Bool)))
  (fun (i7:Nat) (a:Z2) b=>
   if (decide (a.time<1))=true then
    some (.inr false)
   else
    if (decide (200<a.time))=true then
     some (.inr false)
    else
     if (Za2 b a.time false)=true then
      some (.inr false)
     else
      some (.inl (Zft b a.time true)))
  (fun b=>
   (Zbq l_0).bind fun c=>
   (Zbi c).bind fun d=>
   some d)
  l_0 0 []
noncomputable def ZbU (b:Yq) (f_1:ZX):Option Bool:=
 (QB b.rules f_1.rule).bind fun c=>
 if (decide (c<0))=true then
  some false
 else
  (atI b.rules c).bind fun e=>
  Zv (σ:=Int)
   (fun (i12:Nat) (f:Zf) a=>
    if (f.kind==1)=true then
     some (.inl (IntKind.i64.wrap (a+1)))
    else
     some (.inl a))
   (fun a=>
    Zv (σ:=Unit)
     (fun (i17:Nat) (d:Int) _=>
      if (decide (d<1))=true then
       some (.inr false)
      else
       if (decide (b.clock<d))=true then
        some (.inr false)
       else
        some (.inl ()))
     (fun _=>
      some (((f_1.times.length:Nat):Int)==a))
     f_1.times 0 ())
   e.cond 0 0
noncomputable def Zcp (a_0:(List Int)) (a:(List Int)):Option Bool:=
 if (((a_0.length:Nat):Int) != ((a.length:Nat):Int))=true then
  some false
 else
  Zv (σ:=Unit)
   (fun (b:Nat) (c:Int) _=>
    (atI a ((b:Nat):Int)).bind fun d=>
    if (c != d)=true then
     some (.inr false)
    else
     some (.inl ()))
   (fun _=>
    some true)
   a_0 0 ()
noncomputable def ZbD (a_0:ZX) (b_1:ZX):Option Bool:=
 if (sEq a_0.rule b_1.rule)=true then
  (Zcp a_0.times b_1.times).bind fun a=>
  some a
 else
  some false
noncomputable def QM (x_0:Y3):Option Bool:=
 if (sEq x_0.fact.rel ⟨#[]⟩)=true then
  if (x_0.kind==1)=true then
   if (sEq x_0.rule ⟨#[]⟩)=true then
    (XW x_0.fact).bind fun a=>
    some a
   else
    some false
  else
   if (x_0.kind==2)=true then
    if (sEq x_0.rule ⟨#[]⟩)=true then
     (XW x_0.fact).bind fun b=>
     some b
    else
     some false
   else
    if (x_0.kind==3)=true then
     (XB x_0.rule).bind fun c=>
     if c=true then
      some (((x_0.fact.args.length:Nat):Int)==0)
     else
      some false
    else
     if (x_0.kind==6)=true then
      (XB x_0.rule).bind fun d=>
      if d=true then
       some (((x_0.fact.args.length:Nat):Int)==0)
      else
       some false
     else
      if (x_0.kind==4)=true then
       (XB x_0.rule).bind fun e=>
       if e=true then
        (XW x_0.fact).bind fun f=>
        some f
       else
        some false
      else
       if (x_0.kind==5)=true then
        (XB x_0.rule).bind fun g=>
        if g=true then
         (XW x_0.fact).bind fun i=>
         some i
        else
         some false
       else
        some false
 else
  if (x_0.kind==1)=true then
   if (sEq x_0.rule ⟨#[]⟩)=true then
    (XW x_0.fact).bind fun j=>
    some j
   else
    some false
  else
   if (x_0.kind==2)=true then
    if (sEq x_0.rule ⟨#[]⟩)=true then
     (XW x_0.fact).bind fun k=>
     some k
    else
     some false
   else
    if (x_0.kind==3)=true then
     (XB x_0.rule).bind fun l=>
     if l=true then
      some false
     else
      some false
    else
     if (x_0.kind==6)=true then
      (XB x_0.rule).bind fun m=>
      if m=true then
       some false
      else
       some false
     else
      if (x_0.kind==4)=true then
       (XB x_0.rule).bind fun o=>
       if o=true then
        (XW x_0.fact).bind fun p=>
        some p
       else
        some false
      else
       if (x_0.kind==5)=true then
        (XB x_0.rule).bind fun q=>
        if q=true then
         (XW x_0.fact).bind fun t=>
         some t
        else
         some false
       else
        some false
noncomputable def Zee (a:Yq):Option Bool:=
 (Zcs a.rules).bind fun d=>
 if d=true then
  (ZdK a.memory).bind fun e=>
  if e=true then
   if (decide (a.clock<0))=true then
    some false
   else
    if (decide (200<a.clock))=true then
     some false
    else
     if (decide (40<((a.fired.length:Nat):Int)))=true then
      some false
     else
      if (decide (500<((a.log.length:Nat):Int)))=true then
       some false
      else
       Zv (σ:=Unit)
        (fun (i40:Nat) (f:Z2) _=>
         if (decide (a.clock<f.time))=true then
          some (.inr false)
         else
          some (.inl ()))
        (fun _=>
         Zv (σ:=Unit)
          (fun (i60:Nat) (c:ZX) _=>
           (ZbU a c).bind fun g=>
           if g=true then
            ZaT (σ:=Int)
             (fun b=>
              if (decide (b<((i60:Nat):Int)))=true then
               (atI a.fired b).bind fun i=>
               (ZbD i c).bind fun j=>
               if j=true then
                some (.inr (.inr false))
               else
                some (.inl (IntKind.i64.wrap (b+1)))
              else
               some (.inr (.inl ())))
             0
           else
            some (.inr false))
          (fun _=>
           Zv (σ:=Unit)
            (fun (i73:Nat) (k:Y3) _=>
             (QM k).bind fun l=>
             if l=true then
              some (.inl ())
             else
              some (.inr false))
            (fun _=>
             some true)
            a.log 0 ())
          a.fired 0 ())
        a.memory 0 ()
  else
   some false
 else
  some false
noncomputable def Zbs (a_0:(List ByteArray)) (a:(List ByteArray)):Option Bool:=
 if (((a_0.length:Nat):Int) != ((a.length:Nat):Int))=true then
  some false
 else
  Zv (σ:=Unit)
   (fun (b:Nat) (c:ByteArray) _=>
    (atI a ((b:Nat):Int)).bind fun d=>
    if (sEq c d)=true then
     some (.inl ())
    else
     some (.inr false))
   (fun _=>
    some true)
   a_0 0 ()
noncomputable def Xh (a_0:Zj) (b_1:Zj):Option Bool:=
 if (sEq a_0.rel b_1.rel)=true then
  (Zbs a_0.args b_1.args).bind fun a=>
  some a
 else
  some false
noncomputable def Zaq (a_0:Zf) (a:Zf):Option Bool:=
 if (a_0.kind==a.kind)=true then
  if (sEq a_0.left a.left)=true then
   if (sEq a_0.right a.right)=true then
    (Xh a_0.pattern a.pattern).bind fun b=>
    some b
   else
    some false
  else
   some false
 else
  some false
noncomputable def ZdO (append_0:Zl) (a:Zl):Option Bool:=
 if (sEq append_0.name a.name)=true then
  if (append_0.priority != a.priority)=true then
   some false
  else
   if (((append_0.cond.length:Nat):Int) != ((a.cond.length:Nat):Int))=true then
    some false
   else
    if (((append_0.thn.length:Nat):Int) != ((a.thn.length:Nat):Int))=true then
     some false
    else
     Zv (σ:=Unit)
      (fun (d:Nat) (e:Zf) _=>
       (atI a.cond ((d:Nat):Int)).bind fun f=>
       (Zaq e f).bind fun g=>
       if g=true then
        some (.inl ())
       else
        some (.inr false))
      (fun _=>
       Zv (σ:=Unit)
        (fun (i:Nat) (b:ZY) _=>
         (atI a.thn ((i:Nat):Int)).bind fun c=>
         if (b.kind != c.kind)=true then
          some (.inr false)
         else
          (Xh b.pattern c.pattern).bind fun j=>
          if j=true then
           some (.inl ())
          else
           some (.inr false))
        (fun _=>
         some true)
        append_0.thn 0 ())
      append_0.cond 0 ()
 else
  some false
noncomputable def Zbv (a_0:(List Zl)) (a:(List Zl)):Option Bool:=
 if (((a_0.length:Nat):Int) != ((a.length:Nat):Int))=true then
  some false
 else
  Zv (σ:=Unit)
   (fun (b:Nat) (c:Zl) _=>
    (atI a ((b:Nat):Int)).bind fun d=>
    (ZdO c d).bind fun e=>
    if e=true then
     some (.inl ())
    else
     some (.inr false))
   (fun _=>
    some true)
   a_0 0 ()
noncomputable def Zem (a_0:Zk) (b_1:Zk):Option Bool:=
 if (sEq a_0.rel b_1.rel)=true then
  (Zbs a_0.args b_1.args).bind fun a=>
  some a
 else
  some false
noncomputable def Qo (a_0:(List Zk)) (a:(List Zk)):Option Bool:=
 if (((a_0.length:Nat):Int) != ((a.length:Nat):Int))=true then
  some false
 else
  Zv (σ:=Unit)
   (fun (b:Nat) (c:Zk) _=>
    (atI a ((b:Nat):Int)).bind fun d=>
    (Zem c d).bind fun e=>
    if e=true then
     some (.inl ())
    else
     some (.inr false))
   (fun _=>
    some true)
   a_0 0 ()
noncomputable def Zda (a_0:(List Zg)) (a:(List Zg)):Option Bool:=
 if (((a_0.length:Nat):Int) != ((a.length:Nat):Int))=true then
  some false
 else
  Zv (σ:=Unit)
   (fun (d:Nat) (b:Zg) _=>
    (atI a ((d:Nat):Int)).bind fun c=>
    if (sEq b.var c.var&&sEq b.value c.value)=true then
     some (.inl ())
    else
     some (.inr false))
   (fun _=>
    some true)
   a_0 0 ()
noncomputable def ZbE (a_0:(List Zs)) (a:(List Zs)):Option Bool:=
 if (((a_0.length:Nat):Int) != ((a.length:Nat):Int))=true then
  some false
 else
  Zv (σ:=Unit)
   (fun (d:Nat) (b:Zs) _=>
    (atI a ((d:Nat):Int)).bind fun c=>
    (Qo b.facts c.facts).bind fun e=>
    if e=true then
     (Zda b.binding c.binding).bind fun f=>
     if f=true then
      some (.inl ())
     else
      some (.inr false)
    else
     some (.inr false))
   (fun _=>
    some true)
   a_0 0 ()
noncomputable def Zay (append_0:Ze) (a:Ze):Option Bool:=
 (Zbv append_0.rules a.rules).bind fun f=>
 if f=true then
  (Zcp append_0.ends a.ends).bind fun g=>
  if g=true then
   (Qo append_0.facts a.facts).bind fun i=>
   if i=true then
    if (((append_0.alphas.length:Nat):Int) != ((a.alphas.length:Nat):Int))=true then
     some false
    else
     if (((append_0.nodes.length:Nat):Int) != ((a.nodes.length:Nat):Int))=true then
      some false
     else
      Zv (σ:=Unit)
       (fun (j:Nat) (d:Z7) _=>
        (atI a.alphas ((j:Nat):Int)).bind fun e=>
        (Xh d.shape e.shape).bind fun k=>
        if k=true then
         (Qo d.facts e.facts).bind fun l=>
         if l=true then
          some (.inl ())
         else
          some (.inr false)
        else
         some (.inr false))
       (fun _=>
        Zv (σ:=Unit)
         (fun (m:Nat) (b:ZL) _=>
          (atI a.nodes ((m:Nat):Int)).bind fun c=>
          if (b.parent != c.parent)=true then
           some (.inr false)
          else
           if (b.alpha != c.alpha)=true then
            some (.inr false)
           else
            (Zaq b.cond c.cond).bind fun o=>
            if o=true then
             (ZbE b.tokens c.tokens).bind fun p=>
             if p=true then
              some (.inl ())
             else
              some (.inr false)
            else
             some (.inr false))
         (fun _=>
          some true)
         append_0.nodes 0 ())
       append_0.alphas 0 ()
   else
    some false
  else
   some false
 else
  some false
noncomputable def QL (p_0:Zj):Option Zj:=
 (Q3 p_0.args).bind fun a=>
 some ({ rel:=p_0.rel,args:=a }:Zj)
noncomputable def YN (x_0:Zf):Option Zf:=
 (QL x_0.pattern).bind fun a=>
 some ({ kind:=x_0.kind,pattern:=a,left:=x_0.left,right:=x_0.right }:Zf)
noncomputable def Zc9 (l_0:(List Zf)):Option (List Zf):=
 Zv (σ:=(List Zf))
  (fun (i9:Nat) (b:Zf) a=>
   (YN b).bind fun c=>
   chk (a.length+1<=1073741824) <|
   some (.inl (a++[c])))
  (fun a=>
   some a)
  l_0 0 []
noncomputable def Zen (r_0:Zl):Option Zl:=
 (Zc9 r_0.cond).bind fun c=>
 Zv (σ:=(List ZY))
  (fun (i10:Nat) (b:ZY) a=>
   (QL b.pattern).bind fun d=>
   chk (a.length+1<=1073741824) <|
   some (.inl (a++[({ kind:=b.kind,pattern:=d }:ZY)])))
  (fun a=>
   some ({ name:=r_0.name,priority:=r_0.priority,cond:=c,thn:=a }:Zl))
  r_0.thn 0 []
noncomputable def ZcP (l_0:(List Zl)):Option (List Zl):=
 Zv (σ:=(List Zl))
  (fun (i9:Nat) (b:Zl) a=>
   (Zen b).bind fun c=>
   chk (a.length+1<=1073741824) <|
   some (.inl (a++[c])))
  (fun a=>
   some a)
  l_0 0 []
noncomputable def Qy (l_0:(List ByteArray)):Option (List Zg):=
 Zv (σ:=(List (ByteArray×Bool))×(List Zg))
  (fun (i16:Nat) (c:ByteArray) s=>
   match s with
   |(b,a)=>
   (ZbR c).bind fun e=>
   if e=true then
    if (Za2 b c false)=true then
     some (.inl (b,a))
    else
     (Qn (IntKind.i64.wrap (((a.length:Nat):Int)+1))).bind fun d=>
     chk ((⟨#[63]⟩:ByteArray).size+d.size<=9223372036854775807) <|
     chk (a.length+1<=1073741824) <|
     some (.inl ((Zft b c true),(a++[({ var:=c,value:=((⟨#[63]⟩:ByteArray)++d) }:Zg)])))
   else
    some (.inl (b,a)))
  (fun s=>
   match s with
   |(b,a)=>
   some a)
  l_0 0 ([],[])
noncomputable def ZbB (r_0:Zl):Option (List Zg):=
 Zv (σ:=(List ByteArray))
  (fun (i10:Nat) (c:Zf) a=>
   (Zbz c).bind fun b=>
   chk (a.length+b.length<=1073741824) <|
   some (.inl (a++b)))
  (fun a=>
   (Qy a).bind fun d=>
   some d)
  r_0.cond 0 []
noncomputable def QO (s_0:ByteArray) (a_1:(List Zg)):Option ByteArray:=
 Zv (σ:=Unit)
  (fun (i4:Nat) (a:Zg) _=>
   if (sEq a.var s_0)=true then
    some (.inr a.value)
   else
    some (.inl ()))
  (fun _=>
   some s_0)
  a_1 0 ()
noncomputable def ZaO (x_0:Zf) (a_1:(List Zg)):Option Zf:=
 (QO x_0.left a_1).bind fun b=>
 (QO x_0.right a_1).bind fun c=>
 Zv (σ:=(List ByteArray))
  (fun (i11:Nat) (d:ByteArray) a=>
   (QO d a_1).bind fun e=>
   chk (a.length+1<=1073741824) <|
   some (.inl (a++[e])))
  (fun a=>
   some ({ kind:=x_0.kind,pattern:=({ rel:=x_0.pattern.rel,args:=a }:Zj),left:=b,right:=c }:Zf))
  x_0.pattern.args 0 []
noncomputable def ZbM (r_0:Zl):Option (List Zf):=
 (ZbB r_0).bind fun b=>
 Zv (σ:=(List Zf))
  (fun (i10:Nat) (c:Zf) a=>
   (ZaO c b).bind fun d=>
   chk (a.length+1<=1073741824) <|
   some (.inl (a++[d])))
  (fun a=>
   some a)
  r_0.cond 0 []
noncomputable def XL (n_0:Ze) (shape_1:Zj):Option (Int×Ze):=
 Zv (σ:=Unit)
  (fun (i6:Nat) (a:Z7) _=>
   (Xh a.shape shape_1).bind fun b=>
   if b=true then
    some (.inr (((i6:Nat):Int),n_0))
   else
    some (.inl ()))
  (fun _=>
   chk (n_0.alphas.length+1<=1073741824) <|
   some ((IntKind.i64.wrap (((n_0.alphas.length+1:Nat):Int) - 1)),({ rules:=n_0.rules,ends:=n_0.ends,alphas:=(n_0.alphas++[({ shape:=shape_1,facts:=[] }:Z7)]),nodes:=n_0.nodes,facts:=n_0.facts,tries:=n_0.tries }:Ze)))
  n_0.alphas 0 ()
noncomputable def ZdH (p_0:Zj):Option Zj:=
 (Qy p_0.args).bind fun a=>
 (ZaO ({ kind:=0,pattern:=p_0,left:=(⟨#[]⟩),right:=(⟨#[]⟩) }:Zf) a).bind fun b=>
 some b.pattern
noncomputable def QE (append_0:Ze) (String_1:Int) (a_2:Zf):Option (Int×Ze):=
 Zv (σ:=Unit)
  (fun (i12:Nat) (c:ZL) _=>
   if (decide (0<((i12:Nat):Int)))=true then
    if (c.parent==String_1)=true then
     (Zaq c.cond a_2).bind fun d=>
     if d=true then
      some (.inr (((i12:Nat):Int),append_0))
     else
      some (.inl ())
    else
     some (.inl ())
   else
    some (.inl ()))
  (fun _=>
   if (a_2.kind==1)=true then
    (ZdH a_2.pattern).bind fun e=>
    (XL append_0 e).bind fun a=>
    (YN a_2).bind fun f=>
    chk (a.2.nodes.length+1<=1073741824) <|
    some ((IntKind.i64.wrap (((a.2.nodes.length+1:Nat):Int) - 1)),({ rules:=a.2.rules,ends:=a.2.ends,alphas:=a.2.alphas,nodes:=(a.2.nodes++[({ parent:=String_1,cond:=f,alpha:=a.1,tokens:=[] }:ZL)]),facts:=a.2.facts,tries:=a.2.tries }:Ze))
   else
    if (a_2.kind==2)=true then
     (ZdH a_2.pattern).bind fun g=>
     (XL append_0 g).bind fun b=>
     (YN a_2).bind fun i=>
     chk (b.2.nodes.length+1<=1073741824) <|
     some ((IntKind.i64.wrap (((b.2.nodes.length+1:Nat):Int) - 1)),({ rules:=b.2.rules,ends:=b.2.ends,alphas:=b.2.alphas,nodes:=(b.2.nodes++[({ parent:=String_1,cond:=i,alpha:=b.1,tokens:=[] }:ZL)]),facts:=b.2.facts,tries:=b.2.tries }:Ze))
    else
     (YN a_2).bind fun j=>
     chk (append_0.nodes.length+1<=1073741824) <|
     some ((IntKind.i64.wrap (((append_0.nodes.length+1:Nat):Int) - 1)),({ rules:=append_0.rules,ends:=append_0.ends,alphas:=append_0.alphas,nodes:=(append_0.nodes++[({ parent:=String_1,cond:=j,alpha:=(-1),tokens:=[] }:ZL)]),facts:=append_0.facts,tries:=append_0.tries }:Ze)))
  append_0.nodes 0 ()
noncomputable def Zdg (rules_0:(List Zl)):Option Ze:=
 (ZcP rules_0).bind fun q=>
 Zv (σ:=Int×(List Zl)×(List Int)×(List Z7)×(List ZL)×(List Zk))
  (fun (i62:Nat) (t:Zl) s=>
   match s with
   |(c,d,e,f,g,i)=>
   (ZbM t).bind fun u=>
   Zv (σ:=Int×(List Zl)×(List Int)×(List Z7)×(List ZL)×(List Zk)×Int)
    (fun (i77:Nat) (v:Zf) s=>
     match s with
     |(j,k,b,l,m,o,p)=>
     (QE ({ rules:=k,ends:=b,alphas:=l,nodes:=m,facts:=o,tries:=j }:Ze) p v).bind fun a=>
     some (.inl (a.2.tries,a.2.rules,a.2.ends,a.2.alphas,a.2.nodes,a.2.facts,a.1)))
    (fun s=>
     match s with
     |(j,k,b,l,m,o,p)=>
     chk (b.length+1<=1073741824) <|
     some (.inl (j,k,(b++[p]),l,m,o)))
    u 0 (c,d,e,f,g,i,0))
  (fun s=>
   match s with
   |(c,d,e,f,g,i)=>
   some ({ rules:=d,ends:=e,alphas:=f,nodes:=g,facts:=i,tries:=c }:Ze))
  rules_0 0 (0,q,[],[],[({ parent:=(-1),cond:=({ kind:=0,pattern:=({ rel:=(⟨#[]⟩),args:=[] }:Zj),left:=(⟨#[]⟩),right:=(⟨#[]⟩) }:Zf),alpha:=(-1),tokens:=[] }:ZL)],[])
noncomputable def Zaf (l_0:(List Zk)):Option (List Zk):=
 Zv (σ:=(List Zk))
  (fun (i9:Nat) (b:Zk) a=>
   (QA b).bind fun c=>
   chk (a.length+1<=1073741824) <|
   some (.inl (a++[c])))
  (fun a=>
   some a)
  l_0 0 []
noncomputable def Qm (a:(List Zg)):Option Bool:=
 if (decide (6<((a.length:Nat):Int)))=true then
  some false
 else
  Zv (σ:=Unit)
   (fun (c:Nat) (b:Zg) _=>
    (ZbR b.var).bind fun d=>
    if d=true then
     (QI b.value).bind fun e=>
     if e=true then
      if (decide (0<((c:Nat):Int)))=true then
       (atI a (IntKind.i64.wrap (((c:Nat):Int) - 1))).bind fun f=>
       if (sLt f.var b.var)=true then
        some (.inl ())
       else
        some (.inr false)
      else
       some (.inl ())
     else
      some (.inr false)
    else
     some (.inr false))
   (fun _=>
    some true)
   a 0 ()
noncomputable def ZbA (b_0:(List Zg)):Option (List Zg):=
 chk (b_0.length<=1073741824) <|
 some b_0
noncomputable def Zcd (b_0:(List Zg)) (term_1:ByteArray):Option (ByteArray×Bool):=
 (QI term_1).bind fun b=>
 if b=true then
  some (term_1,true)
 else
  (ZbR term_1).bind fun c=>
  if c=true then
   Zv (σ:=Unit)
    (fun (i6:Nat) (a:Zg) _=>
     if (sEq a.var term_1)=true then
      some (.inr (a.value,true))
     else
      some (.inl ()))
    (fun _=>
     some ((⟨#[]⟩),false))
    b_0 0 ()
  else
   some ((⟨#[]⟩),false)
noncomputable def ZgX (append_0:(List Zg)) (b:ByteArray) (a_2:ByteArray):Option ((List Zg)×Bool):=
 (Qm append_0).bind fun f=>
 if f=true then
  (ZbR b).bind fun g=>
  if g=true then
   (QI a_2).bind fun i=>
   if i=true then
    (Zcd append_0 b).bind fun e=>
    if e.2=true then
     if (sEq e.1 a_2)=true then
      (ZbA append_0).bind fun j=>
      some (j,true)
     else
      some ([],false)
    else
     if (decide (6<=((append_0.length:Nat):Int)))=true then
      some ([],false)
     else
      Zv (σ:=(List Zg)×Bool)
       (fun (i13:Nat) (c:Zg) s=>
        match s with
        |(a,d)=>
        if d=true then
         chk (a.length+1<=1073741824) <|
         some (.inl ((a++[c]),true))
        else
         if (sLt c.var b||sEq c.var b)=true then
          chk (a.length+1<=1073741824) <|
          some (.inl ((a++[c]),false))
         else
          chk (a.length+1<=1073741824) <|
          chk (a.length+1+1<=1073741824) <|
          some (.inl (((a++[({ var:=b,value:=a_2 }:Zg)])++[c]),true)))
       (fun s=>
        match s with
        |(a,d)=>
        if d=true then
         some (a,true)
        else
         chk (a.length+1<=1073741824) <|
         some ((a++[({ var:=b,value:=a_2 }:Zg)]),true))
       append_0 0 ([],false)
   else
    some ([],false)
  else
   some ([],false)
 else
  some ([],false)
noncomputable def Qt (append_0:Zj) (a:Zk) (a_2:(List Zg)):Option ((List Zg)×Bool):=
 (XQ append_0).bind fun f=>
 if f=true then
  (XW a).bind fun g=>
  if g=true then
   (Qm a_2).bind fun i=>
   if i=true then
    if (sEq append_0.rel a.rel)=true then
     if (((append_0.args.length:Nat):Int) != ((a.args.length:Nat):Int))=true then
      some ([],false)
     else
      (ZbA a_2).bind fun j=>
      Zv (σ:=(List Zg))
       (fun (d:Nat) (c:ByteArray) b=>
        (QI c).bind fun k=>
        if k=true then
         (atI a.args ((d:Nat):Int)).bind fun l=>
         if (sEq c l)=true then
          some (.inl b)
         else
          some (.inr ([],false))
        else
         (atI a.args ((d:Nat):Int)).bind fun m=>
         (ZgX b c m).bind fun e=>
         if e.2=true then
          some (.inl e.1)
         else
          some (.inr ([],false)))
       (fun b=>
        some (b,true))
       append_0.args 0 j
    else
     some ([],false)
   else
    some ([],false)
  else
   some ([],false)
 else
  some ([],false)
noncomputable def Y7 (p_0:Zj) (b_1:(List Zg)) (facts_2:(List Zk)):Option (List Zk):=
 Zv (σ:=(List Zk))
  (fun (i12:Nat) (b:Zk) a=>
   (Qt p_0 b b_1).bind fun c=>
   if c.2=true then
    (QA b).bind fun d=>
    chk (a.length+1<=1073741824) <|
    some (.inl (a++[d]))
   else
    some (.inl a))
  (fun a=>
   some a)
  facts_2 0 []
noncomputable def ZiL (x_0:Zf):Option Bool:=
 (Zd5 x_0).bind fun a=>
 if a=true then
  some (decide (3<=x_0.kind))
 else
  some false
noncomputable def ZcT (append_0:Zf) (String_1:(List Zg)):Option Bool:=
 (ZiL append_0).bind fun e=>
 if e=true then
  (Qm String_1).bind fun f=>
  if f=true then
   (Zcd String_1 append_0.left).bind fun a=>
   (Zcd String_1 append_0.right).bind fun b=>
   if a.2=true then
    if b.2=true then
     if (append_0.kind==3)=true then
      some (sEq a.1 b.1)
     else
      if (append_0.kind==4)=true then
       some (!(sEq a.1 b.1))
      else
       (Q5 a.1).bind fun c=>
       (Q5 b.1).bind fun d=>
       if c.2=true then
        if d.2=true then
         some (decide (c.1<d.1))
        else
         some false
       else
        some false
    else
     some false
   else
    some false
  else
   some false
 else
  some false
noncomputable def Zc8 (x_0:Zf) (a:(List Zg)) (b:(List Zk)):Option Bool:=
 (Zd5 x_0).bind fun c=>
 if c=true then
  (Qm a).bind fun d=>
  if d=true then
   if (x_0.kind==1)=true then
    (Y7 x_0.pattern a b).bind fun e=>
    some (decide (0<((e.length:Nat):Int)))
   else
    if (x_0.kind==2)=true then
     (Y7 x_0.pattern a b).bind fun f=>
     some (((f.length:Nat):Int)==0)
    else
     (ZcT x_0 a).bind fun g=>
     some g
  else
   some false
 else
  some false
noncomputable def Ziw (append_0:(List Zf)) (String_1:(List Zk)):Option (List Zs):=
 Zv (σ:=(List Zs))
  (fun (i246:Nat) (d:Zf) e=>
   Zv (σ:=(List Zs))
    (fun (i322:Nat) (c:Zs) a=>
     if (d.kind != 1)=true then
      (Zc8 d c.binding String_1).bind fun j=>
      if j=true then
       chk (a.length+1<=1073741824) <|
       some (.inl (a++[c]))
      else
       some (.inl a)
     else
      Zv (σ:=(List Zs))
       (fun (i335:Nat) (f:Zk) b=>
        (Qt d.pattern f c.binding).bind fun g=>
        if g.2=true then
         (Zaf c.facts).bind fun i=>
         (QA f).bind fun k=>
         chk (i.length+1<=1073741824) <|
         chk (b.length+1<=1073741824) <|
         some (.inl (b++[({ facts:=(i++[k]),binding:=g.1 }:Zs)]))
        else
         some (.inl b))
       (fun b=>
        some (.inl b))
       String_1 0 a)
    (fun a=>
     some (.inl a))
    e 0 [])
  (fun e=>
   some e)
  append_0 0 ([({ facts:=[],binding:=[] }:Zs)])
noncomputable def ZeQ (conds_0:List Zf) (facts_1:List Zk):Option (List Zs):=if conds_0.length<=4/\facts_1.length<=24/\(∀f∈facts_1,f.args.length<=3) then Ziw conds_0 facts_1 else none
noncomputable def Zgo (e:Ze) (node_1:Int):Option (List Zf):=
 if (decide (node_1<1))=true then
  some []
 else
  if (decide (((e.nodes.length:Nat):Int)<=node_1))=true then
   some []
  else
   ZaT (σ:=(List Int)×Int)
    (fun s=>
     match s with
     |(a,b)=>
     chk (a.length+1<=1073741824) <|
     (atI e.nodes b).bind fun f=>
     if (decide (f.parent<1))=true then
      ZaT (σ:=(List Zf)×Int)
       (fun s=>
        match s with
        |(g,c)=>
        if (decide (0<=c))=true then
         chk (0<=c/\c<((a.length+1:Nat):Int)) <|
         ((a++[b])[(AG c)]?).bind fun j=>
         (atI e.nodes j).bind fun k=>
         (YN k.cond).bind fun l=>
         chk (g.length+1<=1073741824) <|
         some (.inl ((g++[l]),(IntKind.i64.wrap (c - 1))))
        else
         some (.inr (.inr g)))
       ([],(IntKind.i64.wrap (((a.length+1:Nat):Int) - 1)))
     else
      if (decide (b<=f.parent))=true then
       ZaT (σ:=(List Zf)×Int)
        (fun s=>
         match s with
         |(i,d)=>
         if (decide (0<=d))=true then
          chk (0<=d/\d<((a.length+1:Nat):Int)) <|
          ((a++[b])[(AG d)]?).bind fun m=>
          (atI e.nodes m).bind fun o=>
          (YN o.cond).bind fun p=>
          chk (i.length+1<=1073741824) <|
          some (.inl ((i++[p]),(IntKind.i64.wrap (d - 1))))
         else
          some (.inr (.inr i)))
        ([],(IntKind.i64.wrap (((a.length+1:Nat):Int) - 1)))
      else
       some (.inl ((a++[b]),f.parent)))
    ([],node_1)
noncomputable def Zar (n_0:Ze) (facts_1:(List Zk)):Option Ze:=
 (Zaf facts_1).bind fun f=>
 ZaT (σ:=(List Z7)×Int)
  (fun s=>
   match s with
   |(c,b)=>
   if (decide (b<((n_0.alphas.length:Nat):Int)))=true then
    chk (0<=b/\b<((c.length:Nat):Int)) <|
    (c[(AG b)]?).bind fun g=>
    (Y7 g.shape [] facts_1).bind fun i=>
    some (.inl ((List.set c (AG b) ({ shape:=g.shape,facts:=i }:Z7)),(IntKind.i64.wrap (b+1))))
   else
    ZaT (σ:=(List ZL)×Int)
     (fun s=>
      match s with
      |(d,a)=>
      if (decide (a<((n_0.nodes.length:Nat):Int)))=true then
       (Zgo ({ rules:=n_0.rules,ends:=n_0.ends,alphas:=c,nodes:=d,facts:=f,tries:=n_0.tries }:Ze) a).bind fun j=>
       (ZeQ j facts_1).bind fun k=>
       chk (0<=a/\a<((d.length:Nat):Int)) <|
       (d[(AG a)]?).bind fun e=>
       some (.inl ((List.set d (AG a) ({ parent:=e.parent,cond:=e.cond,alpha:=e.alpha,tokens:=k }:ZL)),(IntKind.i64.wrap (a+1))))
      else
       some (.inr (.inr ({ rules:=n_0.rules,ends:=n_0.ends,alphas:=c,nodes:=d,facts:=f,tries:=n_0.tries }:Ze))))
     (n_0.nodes,0))
  (n_0.alphas,0)
noncomputable def Zjz (rules_0:(List Zl)) (facts_1:(List Zk)) (tries_2:Int):Option Ze:=
 (Zdg rules_0).bind fun b=>
 (Zar b facts_1).bind fun a=>
 some ({ rules:=a.rules,ends:=a.ends,alphas:=a.alphas,nodes:=a.nodes,facts:=a.facts,tries:=tries_2 }:Ze)
noncomputable def Zc5 (n_0:Ze):Option Bool:=
 (Zcs n_0.rules).bind fun a=>
 if a=true then
  (Zbi n_0.facts).bind fun b=>
  if b=true then
   if (decide (0<=n_0.tries))=true then
    (Zjz n_0.rules n_0.facts 0).bind fun c=>
    (Zay n_0 c).bind fun d=>
    some d
   else
    some false
  else
   some false
 else
  some false
noncomputable def Zfv (d_0:ZaQ):Option Bool:=
 (Zee d_0.engine).bind fun a=>
 if a=true then
  (Zc5 d_0.network).bind fun b=>
  if b=true then
   (Zbv d_0.engine.rules d_0.network.rules).bind fun c=>
   if c=true then
    (Zbq d_0.engine.memory).bind fun d=>
    (Qo d_0.network.facts d).bind fun e=>
    some e
   else
    some false
  else
   some false
 else
  some false
end
section
section
variable {α σ ρ:Type} {body:Nat->α->σ->Option (σ ⊕ ρ)} {fin:σ->Option ρ}
theorem Zmb (i:Nat) (s:σ):Zv body fin [] i s=fin s:=rfl
theorem ZK {x:α}{l:List α}{i:Nat}{s s':σ}(h:body i x s=some (.inl s')):Zv body fin (x::l) i s=Zv body fin l (i+1) s':=by simp only[Zv,h]
theorem Ya {x:α}{l:List α}{i:Nat}{s:σ}{r:ρ}(h:body i x s=some (.inr r)):Zv body fin (x::l) i s=some r:=by simp only[Zv,h]
theorem XO {p:α->Bool}{r:ρ}:∀{l:List α}{i:Nat}{s:σ},(∀i x,x∈l->body i x s=some (bif p x then .inl s else .inr r))->Zv body fin l i s=if l.all p=true then fin s else some r
 | [],_,_,_=>by simp [Zv]
 |x::l,i,s,h=>by
  have hx:=h i x yG
  by_cases hp:p x=true
  .rw [hp,cond_true]at hx
   rw [ZK hx,XO fun j y my=>h j y (by simp [my])]
   simp [hp]
  .rw [eq_false_of_ne_true hp,cond_false]at hx
   rw [Ya hx]
   simp [hp]
theorem Zgh {p:α->Bool}{r:ρ}:∀{l:List α}{i:Nat}{s:σ},(∀i x,x∈l->body i x s=some (bif p x then .inr r else .inl s))->Zv body fin l i s=if l.any p=true then some r else fin s
 | [],_,_,_=>by simp [Zv]
 |x::l,i,s,h=>by
  have hx:=h i x yG
  by_cases hp:p x=true
  .rw [hp,cond_true]at hx
   rw [Ya hx]
   simp [hp]
  .rw [eq_false_of_ne_true hp,cond_false]at hx
   rw [ZK hx,Zgh fun j y my=>h j y (by simp [my])]
   simp [hp]
theorem Zco {f:σ->α->σ}(I:Nat->σ->Prop):∀{l:List α}{i:Nat}{s:σ},I i s->(∀j x s,x∈l->i<=j->j<i+l.length->I j s->body j x s=some (.inl (f s x))/\I (j+1) (f s x))->Zv body fin l i s=fin (l.foldl f s)
 | [],_,_,_,_=>rfl
 |x::l,i,s,h0,h=>by
  obtain ⟨h1,h2⟩:=h i x s yG yE yG h0
  rw [ZK h1,Zco I h2 fun j y s my hj hl=>h j y s (by simp [my]) yE (by simp at hl ⊢;omega)]
  rfl
theorem ZsH {f:σ->α->σ}{l:List α}{i:Nat}{s:σ}(h:∀j x s,x∈l->body j x s=some (.inl (f s x))):Zv body fin l i s=fin (l.foldl f s):=
 Zco (fun _ _=>True) trivial fun j x s mx _ _ _=>⟨h j x s mx,trivial⟩
theorem Zff (g:List α->Nat->σ->Option ρ) (I:List α->Nat->σ->Prop) (h0:∀i s,I [] i s->fin s=g [] i s)
  (h1:∀x l i s,I (x::l) i s->(∃s',body i x s=some (.inl s')/\I l (i+1) s'/\g (x::l) i s=g l (i+1) s')\/(∃r,body i x s=some (.inr r)/\g (x::l) i s=some r)):∀(l:List α) (i:Nat) (s:σ),I l i s->Zv body fin l i s=g l i s
 | [],i,s,h=>h0 i s h
 |x::l,i,s,h=>by
  rcases h1 x l i s h with ⟨s',e1,e2,e3⟩|⟨r,e1,e2⟩
  .rw [ZK e1,Zff g I h0 h1 l (i+1) s' e2,e3]
  .rw [Ya e1,e2]
end
def Zdw {α:Type}(p:Nat->α->Bool):List α->Nat->Bool
 | [],_=>true
 |x::l,i=>p i x&&Zdw p l (i+1)
theorem ZtF {α:Type}{p:Nat->α->Bool}:∀{l:List α}{i:Nat},Zdw p l i=true->∀j x,l[j]?=some x->p (i+j) x=true
 | [],_,_,j,x,hx=>by simp at hx
 |y::l,i,h,0,x,hx=>by simp only[Zdw,AA]at h;simp at hx;subst hx;exact h.1
 |y::l,i,h,j+1,x,hx=>by
  simp only[Zdw,AA]at h
  have:=ZtF h.2 j x (by simpa using hx)
  rwa [show i+(j+1)=i+1+j by omega]
section
variable {α σ ρ:Type} {body:Nat->α->σ->Option (σ ⊕ ρ)} {fin:σ->Option ρ}
theorem ZaP {p:Nat->α->Bool}{r:ρ}:∀{l:List α}{i:Nat}{s:σ},(∀j x,l[j]?=some x->body (i+j) x s=some (bif p (i+j) x then .inl s else .inr r))->Zv body fin l i s=if Zdw p l i=true then fin s else some r
 | [],_,_,_=>by simp [Zv,Zdw]
 |x::l,i,s,h=>by
  have hx:=h 0 x yG
  simp only[Nat.add_zero]at hx
  by_cases hp:p i x=true
  .rw [hp,cond_true]at hx
   rw [ZK hx,ZaP fun j y hy=>by have:=h (j+1) y (by simpa using hy);rwa [show i+(j+1)=i+1+j by omega]at this]
   simp [Zdw,hp]
  .rw [eq_false_of_ne_true hp,cond_false]at hx
   rw [Ya hx]
   simp [Zdw,hp]
theorem QZ {β:Type}{g:α->Option β}{fin:List β->Option ρ}{body:Nat->α->List β->Option (List β ⊕ ρ)}:∀{l:List α}{i:Nat}{acc:List β},(∀j x s,x∈l->s.length+1<=acc.length+l.length->body j x s=some (.inl (s++(g x).toList)))->Zv body fin l i acc=fin (acc++l.filterMap g)
 | [],_,acc,_=>by simp [Zv]
 |x::l,i,acc,h=>by
  rw [ZK (h i x acc yG yG)]
  rw [QZ fun j y s my hs=>h j y s (by simp [my]) (by cases hg:g x<;>simp [hg]at hs ⊢<;>omega)]
  congr 1
  cases hg:g x<;>simp [hg]
theorem Xs {β:Type}{g:α->β}{fin:List β->Option ρ}{body:Nat->α->List β->Option (List β ⊕ ρ)}{l:List α}{i:Nat}{acc:List β}(h:∀j x s,x∈l->s.length+1<=acc.length+l.length->body j x s=some (.inl (s++[g x]))):Zv body fin l i acc=fin (acc++l.map g):=by
 rw [QZ (g:=fun x=>some (g x)) h,List.filterMap_eq_map']
theorem Zg6 {p:α->Bool}{fin:List α->Option ρ}{body:Nat->α->List α->Option (List α ⊕ ρ)}{l:List α}{i:Nat}{acc:List α}(h:∀j x s,x∈l->s.length+1<=acc.length+l.length->body j x s=some (.inl (if p x=true then s++[x] else s))):Zv body fin l i acc=fin (acc++l.filter p):=by
 rw [QZ (g:=fun x=>if p x=true then some x else none) fun j x s mx hs=>by rw [h j x s mx hs];split<;>simp]
 congr 2
 induction l with
 |nil=>rfl
 |cons x l ih=>
  have ih:=ih fun j y s my hs=>h j y s (by simp [my]) (by simp at hs ⊢;omega)
  by_cases hp:p x=true<;>simp [hp,ih]
end
/- texts -/
theorem Zz {x y:ByteArray}:sEq x y=true↔x=y:=by simp [sEq]
theorem Zxt (x:ByteArray):sEq x x=true:=Zz.2 rfl
theorem ZfV {x y:ByteArray}(h:toL x=toL y):x=y:=by rw [<-Zjc x,<-Zjc y,h]
theorem Zdv (x:ByteArray):(toL x).length=x.size:=by rw [toL,Ak,Array.length_toList]
theorem Zh7:∀(a b:List UInt8),Op.bytesLess a b=true↔a<b
 | [],[]=>by simp [Op.bytesLess]
 | [],_::_=>by simp [Op.bytesLess]
 |_::_,[]=>by simp [Op.bytesLess]
 |x::a,y::b=>by
  rw [List.cons_lt_cons_iff,<-Zh7 a b]
  simp only[Op.bytesLess]
  by_cases h:x<y
  .simp [h]
  .by_cases h2:x=y
   .subst h2;simp [h]
   .simp [h,h2]
theorem Zf7 {x y:ByteArray}:sLt x y=true↔toL x<toL y:=by
 unfold sLt toL
 rw [Zh7,AX,AX]
theorem Zin (x:ByteArray):sLt x x=false:=by
 cases h:sLt x x with
 |false=>rfl
 |true=>exact absurd (Zf7.1 h) (List.lt_irrefl _)
theorem Zhp {x y z:ByteArray}(h1:sLt x y=true) (h2:sLt y z=true):sLt x z=true:=Zf7.2 (List.lt_trans (Zf7.1 h1) (Zf7.1 h2))
theorem Zj4 {x y:ByteArray}(h1:sLt x y=true):sLt y x=false:=by
 cases h:sLt y x with
 |false=>rfl
 |true=>have:=Zhp h1 h;rw [Zin]at this;simp at this
theorem ZoZ {x y:ByteArray}(h:sLt x y=true):¬x=y:=fun e=>by rw [e,Zin]at h;simp at h
theorem Zfr {x y:ByteArray}(h1:sLt x y=false) (h2:¬x=y):sLt y x=true:=by
 rcases Std.lt_trichotomy (toL x) (toL y) with h|h|h
 .rw [Zf7.2 h]at h1;simp at h1
 .exact absurd (ZfV h) h2
 .exact Zf7.2 h
def Asc (l:List ByteArray):Prop:=l.Pairwise fun x y=>sLt x y=true
theorem Zpp:∀{a b:List ByteArray},Asc a->Asc b->(∀x,x∈a↔x∈b)->a=b
 | [],[],_,_,_=>rfl
 | [],y::b,_,_,h=>by have:=(h y).2 yG;simp at this
 |x::a,[],_,_,h=>by have:=(h x).1 yG;simp at this
 |x::a,y::b,ha,hb,h=>by
  unfold Asc at ha hb
  rw [AN]at ha hb
  have c:x=y:=by
   have h1:=(h x).1 yG
   have h2:=(h y).2 yG
   rcases AD.1 h1 with h1|h1
   .exact h1
   .rcases AD.1 h2 with h2|h2
    .exact h2.symm
    .have:=Zj4 (ha.1 y h2);rw [hb.1 x h1]at this;simp at this
  subst c
  congr 1
  refine Zpp ha.2 hb.2 fun z=>?_
  have hz:=h z
  simp only[AD]at hz
  constructor
  .intro m
   rcases hz.1 (.inr m) with e|m'
   .exact absurd e.symm (ZoZ (ha.1 z m))
   .exact m'
  .intro m
   rcases hz.2 (.inr m) with e|m'
   .exact absurd e.symm (ZoZ (hb.1 z m))
   .exact m'
def Q4:List ByteArray->ByteArray->List ByteArray
 | [],s=>[s]
 |x::r,s=>if sLt x s=true then x::Q4 r s else if sEq x s=true then x::r else s::x::r
theorem Zi2 {y s:ByteArray}:∀{l:List ByteArray},y∈Q4 l s↔y=s\/y∈l
 | []=>by simp [Q4]
 |x::r=>by
  simp only[Q4]
  split
  .simp only[AD,Zi2 (l:=r)]
   constructor<;>(intro h;rcases h with h|h|h<;>simp [h])
  .split
   .rename_i h
    have:=Zz.1 h
    subst this
    simp
   .simp
theorem Zhl {s:ByteArray}:∀{l:List ByteArray},Asc l->Asc (Q4 l s)
 | [],_=>by simp [Q4,Asc]
 |x::r,h=>by
  have h':=h
  unfold Asc at h'
  rw [AN]at h'
  simp only[Q4]
  split
  .rename_i hx
   refine AN.2 ⟨fun y my=>?_,Zhl h'.2⟩
   rcases Zi2.1 my with rfl|my
   .exact hx
   .exact h'.1 y my
  .split
   .exact h
   .rename_i hx b
    have a:sLt s x=true:=Zfr (by simpa using hx) (fun e=>b (Zz.2 e))
    refine AN.2 ⟨fun y my=>?_,h⟩
    rcases AD.1 my with rfl|my
    .exact a
    .exact Zhp a (h'.1 y my)
theorem Zhd (s:ByteArray):∀l:List ByteArray,(Q4 l s).length<=l.length+1
 | []=>by simp [Q4]
 |x::r=>by
  have:=Zhd s r
  simp only[Q4]
  split
  .simp;omega
  .split<;>simp
def Ys (l:List ByteArray):List ByteArray:=l.foldl Q4 []
theorem X9:∀(l acc:List ByteArray),Asc acc->Asc (l.foldl Q4 acc)/\(∀x,x∈l.foldl Q4 acc↔x∈l\/x∈acc)/\(l.foldl Q4 acc).length<=l.length+acc.length
 | [],acc,h=>⟨h,fun x=>by simp,yG⟩
 |y::l,acc,h=>by
  obtain ⟨h1,h2,h3⟩:=X9 l (Q4 acc y) (Zhl h)
  refine ⟨h1,fun x=>?_,?_⟩
  .rw [AJ,h2 x,Zi2]
   rw [AD]
   constructor
   .rintro (h|h|h)<;>simp [h]
   .rintro ((h|h)|h)<;>simp [h]
  .have:=Zhd y acc
   rw [AJ]
   simp only[AE]
   omega
theorem ZcQ (l:List ByteArray):Asc (Ys l):=(X9 l [] AH).1
theorem Xg {x:ByteArray}{l:List ByteArray}:x∈Ys l↔x∈l:=by have:=(X9 l [] AH).2.1 x;rw [Ys,this];simp
theorem ZeH (l:List ByteArray):(Ys l).length<=l.length:=(X9 l [] AH).2.2
theorem ZfF {a l:List ByteArray}(h:Asc a) (hm:∀x,x∈a↔x∈l):a=Ys l:=Zpp h (ZcQ l) fun x=>by rw [hm,Xg]
theorem Znu {a b:List ByteArray}(h:∀x,x∈a↔x∈b):Ys a=Ys b:=ZfF (ZcQ a) fun x=>by rw [Xg,h]
def QQ (l:List ByteArray) (s:ByteArray):Bool:=l.any fun x=>sEq x s
theorem Zl0 {l:List ByteArray}{s:ByteArray}:QQ l s=true↔s∈l:=by
 simp only[QQ,List.any_eq_true,Zz]
 constructor
 .rintro ⟨x,h,rfl⟩;exact h
 .exact fun h=>⟨s,h,rfl⟩
/- sorting -/
theorem ZuG {x:ByteArray}{l:List ByteArray}:x∈Zfo l↔x∈l:=by
 simp only[Zfo,Al,List.mem_mergeSort]
 constructor
 .rintro ⟨y,⟨z,hz,rfl⟩,rfl⟩;rw [Zjc];exact hz
 .exact fun h=>⟨toL x,⟨x,h,rfl⟩,Zjc x⟩
theorem Zvg (l:List ByteArray):(Zfo l).length=l.length:=by simp [Zfo]
theorem Zwb (l:List ByteArray):(Zfo l).Pairwise fun x y=>sLt y x=false:=by
 unfold Zfo
 rw [List.pairwise_map]
 have:=List.pairwise_mergeSort (le:=fun x y:List UInt8=>decide (x<=y)) (fun a b c h1 h2=>by simp at h1 h2 ⊢;exact List.le_trans h1 h2) (fun a b=>by simp;exact List.le_total a b) (l.map toL)
 refine this.imp fun {a b} h=>?_
 cases hh:sLt (ofL b) (ofL a) with
 |false=>rfl
 |true=>
  have h1:=Zf7.1 hh
  rw [ZcK,ZcK]at h1
  have h2:a<=b:=by simpa using h
  exact absurd h1 (List.not_lt.2 h2)
end
theorem Zeb (a b:ByteArray):toL (a++b)=toL a++toL b:=by simp [toL]
theorem ZsB (a b:List UInt8):ofL (a++b)=ofL a++ofL b:=ZfV (by rw [Zeb,ZcK,ZcK,ZcK])
theorem ZgK (a:List UInt8):(ofL a).size=a.length:=by rw [<-Zdv,ZcK]
theorem Zwx (a b c:ByteArray):(a++b)++c=a++(b++c):=ZfV (by simp only[Zeb,List.append_assoc])
theorem ZxW (a b:ByteArray):(a++b).size=a.size+b.size:=by rw [<-Zdv,<-Zdv,<-Zdv,Zeb,AR]
theorem ZeC {n:Int}(h0:-9223372036854775808<=n) (h1:n<=9223372036854775807):IntKind.i64.wrap n=n:=by rw [IntKind.wrap_i64];omega
theorem Zv2 (u:Nat) (hu:u<9223372036854775808):Xd [IntKind.u8.wrap (IntKind.i64.wrap (48+Int.tmod (u:Int) 10))]=ofL [AZ (48+u % 10)]:=by
 have h1:Int.tmod (u:Int) 10=((u % 10:Nat):Int):=by rw [Int.tmod_eq_emod_of_nonneg yE];omega
 rw [h1,ZeC yE yE,IntKind.wrap_u8,show (48+((u % 10:Nat):Int)) % 256=((48+u % 10:Nat):Int) by omega]
 apply ZfV
 rw [ZcK]
 simp only[Xd,List.map_cons,List.map_nil,toL,AL]
theorem ZyS (u:Nat) (hu:u<9223372036854775808):IntKind.i64.wrap (Int.tdiv (u:Int) 10)=((u / 10:Nat):Int):=by
 rw [Int.tdiv_eq_ediv_of_nonneg yE,ZeC yE yE]
 omega
theorem ZwX {body:Int×ByteArray->Option ((Int×ByteArray) ⊕ ByteArray)}(hb:∀n t,body (n,t)=chk ((Xd [IntKind.u8.wrap (IntKind.i64.wrap (48+Int.tmod n 10))]).size+t.size<=9223372036854775807)
   (if (IntKind.i64.wrap (Int.tdiv n 10)==0)=true then some (.inr (Xd [IntKind.u8.wrap (IntKind.i64.wrap (48+Int.tmod n 10))]++t)) else some (.inl (IntKind.i64.wrap (Int.tdiv n 10),Xd [IntKind.u8.wrap (IntKind.i64.wrap (48+Int.tmod n 10))]++t)))):
  ∀(u:Nat) (t:ByteArray),u<9223372036854775808->t.size+Lib.nDigits u<=1000->ZaT body ((u:Int),t)=some (ofL (Lib.decDigits u)++t):=by
 intro u
 induction u using Nat.strongRecOn with
 |ind u ih=>
  intro t hu ht
  rw [Zli,hb,Zv2 u hu,ZyS u hu]
  have hp:=Lib.nDigits_pos u
  rw [Zr _ (by rw [ZgK];simp;omega)]
  by_cases h:u<10
  .have h0:u / 10=0:=by omega
   rw [h0,Lib.decDigits_one h,show u % 10=u by omega]
   rfl
  .have h0:¬(((u / 10:Nat):Int)==0)=true:=by simp;omega
   rw [if_neg h0]
   have hd:=Lib.nDigits_big h
   show ZaT body (((u / 10:Nat):Int),ofL [AZ (48+u % 10)]++t)=_
   rw [ih (u / 10) yE _ yE (by rw [ZxW,ZgK];simp;omega),<-Zwx,<-ZsB]
   congr 2
   rw [show Lib.decDigits u=Lib.decDigits (u / 10)++[AZ (48+u % 10)] by rw [Lib.decDigits,dif_neg h]]
theorem Zzm (t:ByteArray):t++(⟨#[]⟩:ByteArray)=t:=ZfV (by rw [Zeb];simp [toL])
theorem Zox {body:Int×ByteArray->Option ((Int×ByteArray) ⊕ ByteArray)}(hb:∀n t,body (n,t)=chk ((Xd [IntKind.u8.wrap (IntKind.i64.wrap (48+Int.tmod n 10))]).size+t.size<=9223372036854775807)
   (if (IntKind.i64.wrap (Int.tdiv n 10)==0)=true then some (.inr (Xd [IntKind.u8.wrap (IntKind.i64.wrap (48+Int.tmod n 10))]++t)) else some (.inl (IntKind.i64.wrap (Int.tdiv n 10),Xd [IntKind.u8.wrap (IntKind.i64.wrap (48+Int.tmod n 10))]++t))))
  {n:Int} (h0:0<=n) (h1:n<=9223372036854775807):ZaT body (n,⟨#[]⟩)=some (ofL (Lib.itoa n)):=by
 obtain ⟨u,rfl⟩:∃u:Nat,n=(u:Int):=⟨n.toNat,yE⟩
 have:=Lib.nDigits_le20 u yE
 rw [ZwX hb u _ yE (by show 0+_<=_;omega),Zzm,Lib.itoa_nonneg]
theorem Zth:ofL (Lib.itoa (-9223372036854775808))=(⟨#[45,57,50,50,51,51,55,50,48,51,54,56,53,52,55,55,53,56,48,56]⟩:ByteArray):=by
 rw [show (-9223372036854775808:Int)=-((9223372036854775808:Nat):Int) by rfl,Lib.itoa_neg _ yE,Lib.decDigits_eq,Lib.nDigits_unique 18 _ yF yF]
 decide +kernel
theorem Zkf {n:Int}(h0:0<=n) (h1:n<=9223372036854775807):Za3 n=some (ofL (Lib.itoa n)):=by
 unfold Za3
 rw [if_neg (by simp;omega),if_neg (by simp;omega)]
 exact Zox (fun _ _=>rfl) h0 h1
theorem Zgq {n:Int}(h:Zbn n):Zap n=some (ofL (Lib.itoa n)):=by
 unfold Zap
 by_cases hm:n=-9223372036854775808
 .subst hm
  rw [if_pos yF,Zth]
 .rw [if_neg (by simpa using hm)]
  by_cases hn:n<0
  .have h2:Zbn n:=h
   unfold Zbn at h2
   rw [if_pos (by simpa using hn),ZeC yE yE,Zkf yE yE,A0]
   obtain ⟨u,rfl⟩:∃u:Nat,n=-(u:Int):=⟨n.natAbs,yE⟩
   rw [show (0 - -(u:Int))=(u:Int) by omega,Lib.itoa_nonneg,Lib.itoa_neg u yE]
   have:=Lib.nDigits_le20 u yE
   rw [Zr _ (by rw [ZgK,Lib.decDigits_length];show 1+_<=_;omega)]
   exact congrArg some (ZfV (by rw [Zeb,ZcK,ZcK];rfl))
  .rw [if_neg (by simpa using hn)]
   exact Zox (fun _ _=>rfl) yE h.2
theorem ZbN {n:Int}(h:Zbn n):Qn n=some (ofL (Lib.itoa n)):=by
 have h2:-9223372036854775808<=n/\n<=9223372036854775807:=h
 unfold Qn Zph
 rw [Zr _ h2]
 rfl
theorem ZvA {n:Int}(h:Zbn n):(ofL (Lib.itoa n)).size<=21:=by
 rw [ZgK]
 exact Lib.itoa_length_le n h.1 h.2
def Zb8 (b:UInt8):Bool:=(decide (97<=b.toNat)&&decide (b.toNat<=122))||(decide (48<=b.toNat)&&decide (b.toNat<=57))
def ZW (s:ByteArray):Bool:=decide (1<=s.size)&&decide (s.size<=8)&&(toL s).all Zb8
theorem QP (x a b:Int):XJ x a b=some (decide (a<=x)&&decide (x<=b)):=by
 unfold XJ
 by_cases h:a<=x<;>simp [h]
theorem Zop (b:UInt8):IntKind.i64.wrap ((b.toNat:Nat):Int)=((b.toNat:Nat):Int):=ZaL yE (by have:=b.toNat_lt;omega)
theorem ZaB {b:UInt8}:Zb8 b=true↔(97<=b.toNat/\b.toNat<=122)\/(48<=b.toNat/\b.toNat<=57):=by
 simp only[Zb8,Aa,AA,decide_eq_true_eq]
theorem Qq (s:ByteArray):QG s=some (ZW s):=by
 unfold QG ZW
 rw [show s.data.toList=toL s from rfl,XO (p:=Zb8) (r:=false)]
 .simp only[QP,A0]
  cases (toL s).all Zb8 with
  |true=>
   simp only[if_true,Am]
   congr 1
   rw [AC]
   simp only[AA,decide_eq_true_eq]
   omega
  |false=>simp
 .intro i x _
  simp only[QP,A0,Zop,AA,decide_eq_true_eq]
  cases hp:Zb8 x with
  |true=>
   have:=ZaB.1 hp
   repeat' split
   all_goals first|rfl|(exfalso;omega)|(exfalso;simp_all;done)
  |false=>
   have:=mt (ZaB (b:=x)).2 (by simp [hp])
   repeat' split
   all_goals first|rfl|(exfalso;omega)|(exfalso;simp_all;done)
theorem Qu (s:ByteArray):QI s=some (ZW s):=by
 unfold QI ZW
 simp only[decide_eq_true_eq]
 rw [show s.data.toList=toL s from rfl,XO (p:=Zb8) (r:=false)]
 .repeat' split
  .rw [decide_eq_false (show ¬1<=s.size by omega)];rfl
  .rw [decide_eq_false (show ¬s.size<=8 by omega)];simp
  .rename_i h;rw [h,decide_eq_true (show 1<=s.size by omega),decide_eq_true (show s.size<=8 by omega)];rfl
  .rename_i h;rw [eq_false_of_ne_true h];simp
 .intro i x _
  cases hp:Zb8 x with
  |true=>
   have:=ZaB.1 hp
   repeat' split
   all_goals first|rfl|(exfalso;omega)|(exfalso;simp_all;done)
  |false=>
   have:=mt (ZaB (b:=x)).2 (by simp [hp])
   repeat' split
   all_goals first|rfl|(exfalso;omega)|(exfalso;simp_all;done)
def ZhY (s:ByteArray):UInt8:=(toL s).headD 0
theorem Zjb {s:ByteArray}(h:1<=s.size):sAt s 0=some (ZhY s):=by
 unfold sAt ZhY
 have hl:0<(toL s).length:=by rw [Zdv];omega
 have:(toL s)[0]?=some ((toL s).headD 0):=by
  cases hh:toL s with
  |nil=>rw [hh]at hl;simp at hl
  |cons a r=>simp
 rw [if_pos yE]
 exact ZpP this
def QS (s:ByteArray):Bool:=ZW s&&decide (97<=(ZhY s).toNat)
theorem ZfD {s:ByteArray}(h:ZW s=true):1<=s.size/\s.size<=8:=by
 simp only[ZW,AA,decide_eq_true_eq]at h
 exact h.1
theorem Zi0 {s:ByteArray}(h:ZW s=true):Zb8 (ZhY s)=true:=by
 have hs:=ZfD h
 simp only[ZW,AA]at h
 have hl:0<(toL s).length:=by rw [Zdv];omega
 refine AT.1 h.2 _ ?_
 unfold ZhY
 cases hh:toL s with
 |nil=>rw [hh]at hl;simp at hl
 |cons a r=>simp
theorem Zew (s:ByteArray):Xx s=some (QS s):=by
 unfold Xx QS
 rw [Qq,A0]
 cases h:ZW s with
 |false=>simp
 |true=>
  simp only[if_true,Zjb (ZfD h).1,A0,QP,Zop,AB]
  have hb:=ZaB.1 (Zi0 h)
  congr 1
  rw [AC]
  simp only[AA,decide_eq_true_eq]
  omega
theorem Zdf (s:ByteArray):XB s=some (QS s):=by
 unfold XB QS
 rw [Qu,A0]
 cases h:ZW s with
 |false=>simp
 |true=>
  simp only[if_true,Zjb (ZfD h).1,A0,AB]
  congr 1
  rw [AC]
  simp only[decide_eq_true_eq]
  omega
def Zv4 (s:ByteArray):ByteArray:=s.extract 1 s.size
def Yp (s:ByteArray):Bool:=decide (1<s.size)&&decide ((ZhY s).toNat=63)&&ZW (Zv4 s)
theorem Qz (s:ByteArray):ZaC s=some (Yp s):=by
 unfold ZaC Yp Zv4
 by_cases h:1<s.size
 .have h':(1:Int)<((s.size:Nat):Int):=by omega
  simp only[h',h,decide_true,if_true,Zjb (show 1<=s.size by omega),A0,AB]
  rw [Zr _ ⟨yE,yE⟩,show AG 1=1 from rfl,Qq,A0]
  by_cases h2:(ZhY s).toNat=63
  .simp [h2]
  .have:¬((ZhY s).toNat:Int)=63:=by omega
   simp [h2,this]
 .have h':¬(1:Int)<((s.size:Nat):Int):=by omega
  simp [h',h]
theorem Zae (s:ByteArray):ZbR s=some (Yp s):=by
 unfold ZbR Yp Zv4
 by_cases h:1<s.size
 .have h':(1:Int)<((s.size:Nat):Int):=by omega
  simp only[h',h,decide_true,if_true,Zjb (show 1<=s.size by omega),A0,AB]
  rw [Zr _ ⟨yE,yE⟩,show AG 1=1 from rfl,Qu,A0]
  by_cases h2:(ZhY s).toNat=63
  .simp [h2]
  .have:¬((ZhY s).toNat:Int)=63:=by omega
   simp [h2,this]
 .have h':¬(1:Int)<((s.size:Nat):Int):=by omega
  simp [h',h]
def YK (s:ByteArray):Bool:=ZW s||Yp s
theorem Zkl (s:ByteArray):Q9 s=some (YK s):=by
 unfold Q9 YK
 rw [Qq,Qz]
 cases ZW s<;>simp
theorem ZkK (s:ByteArray):Q8 s=some (YK s):=by
 unfold Q8 YK
 rw [Qu,Zae]
 cases ZW s<;>simp
theorem ZbP (l:List ByteArray) (s:ByteArray):YU l s=some (QQ l s):=by
 unfold YU QQ
 rw [Zgh (p:=fun x=>sEq x s) (r:=true)]
 .cases l.any fun x=>sEq x s<;>simp
 .intro i x _
  cases sEq x s<;>simp
theorem Zdz (l:List ByteArray) (s:ByteArray):ZaJ l s=some (QQ l s):=by
 unfold ZaJ QQ
 rw [Zgh (p:=fun x=>sEq x s) (r:=true)]
 .cases l.any fun x=>sEq x s<;>simp
 .intro i x _
  cases sEq x s<;>simp
theorem ZdV (l:List ByteArray) (s:ByteArray) (h:l.length+1<=1073741824):Zbb l s=some (Q4 l s):=by
 unfold Zbb
 refine (Zff (fun l _ (st:List ByteArray×Bool)=>some (if st.2=true then st.1++l else st.1++Q4 l s)) (fun l _ (st:List ByteArray×Bool)=>st.1.length+l.length+(if st.2=true then 0 else 1)<=1073741824) ?_ ?_ l 0 ([],false) (by simpa using h)).trans yG
 .rintro i ⟨row,d⟩ hI
  cases d with
  |true=>simp
  |false=>simp only[AF,if_false,Q4];simp at hI;rw [Zr _ yE]
 .rintro x l i ⟨row,d⟩ hI
  left
  cases d with
  |true=>
   simp at hI
   exact ⟨(row++[x],true),by simp only[if_true];rw [Zr _ yE],by simp;omega,yG⟩
  |false=>
   simp at hI
   cases h1:sLt x s with
   |true=>exact ⟨(row++[x],false),by simp only[AF,if_false,if_true];rw [Zr _ yE],by simp;omega,by simp [Q4,h1]⟩
   |false=>
    cases h2:sEq x s with
    |true=>exact ⟨(row++[x],true),by simp only[AF,if_false,if_true];rw [Zr _ yE],by simp;omega,by simp [Q4,h1,h2]⟩
    |false=>exact ⟨(row++[s]++[x],true),by simp only[AF,if_false];rw [Zr _ yE,Zr _ yE],by simp;omega,by simp [Q4,h1,h2]⟩
def Xt:ByteArray->List ByteArray->List ByteArray
 |_,[]=>[]
 |y,x::r=>if sEq y x=true then Xt x r else x::Xt x r
def Zmn:List ByteArray->List ByteArray
 | []=>[]
 |x::r=>x::Xt x r
theorem Zf5 {z:ByteArray}:∀{l:List ByteArray}{y:ByteArray},z∈Xt y l->z∈l
 | [],_,h=>by simp [Xt]at h
 |x::r,y,h=>by
  simp only[Xt]at h
  split at h
  .exact Ac _ (Zf5 h)
  .rcases AD.1 h with rfl|h
   .simp
   .exact Ac _ (Zf5 h)
theorem ZiS {z:ByteArray}:∀{l:List ByteArray}{y:ByteArray},z∈l->z=y\/z∈Xt y l
 | [],_,h=>by simp at h
 |x::r,y,h=>by
  simp only[Xt]
  rcases AD.1 h with rfl|h
  .split
   .rename_i e;exact .inl (Zz.1 e).symm
   .simp
  .rcases ZiS (y:=x) h with rfl|h'
   .split
    .rename_i e;exact .inl (Zz.1 e).symm
    .simp
   .split
    .exact .inr h'
    .exact .inr (Ac _ h')
theorem ZjD:∀{l:List ByteArray}{y:ByteArray},(y::l).Pairwise (fun a b=>sLt b a=false)->Asc (y::Xt y l)
 | [],_,_=>by simp [Xt,Asc]
 |x::r,y,h=>by
  rw [AN]at h
  have ih:=ZjD h.2
  simp only[Xt]
  split
  .rename_i e
   have e':=Zz.1 e
   subst e'
   exact ih
  .rename_i e
   have c:sLt y x=true:=Zfr (h.1 x yG) (fun h=>e (Zz.2 h.symm))
   refine AN.2 ⟨fun z mz=>?_,ih⟩
   rcases AD.1 mz with rfl|mz
   .exact c
   .exact Zhp c ((AN.1 ih).1 z mz)
theorem Zo0 (l:List ByteArray):Zmn (Zfo l)=Ys l:=by
 have hs:=Zwb l
 refine ZfF ?_ fun x=>?_
 .cases h:Zfo l with
  |nil=>simp [Zmn,Asc]
  |cons y r=>rw [h]at hs;exact ZjD hs
 .rw [<-ZuG (l:=l)]
  cases h:Zfo l with
  |nil=>simp [Zmn]
  |cons y r=>
   simp only[Zmn,AD]
   constructor
   .rintro (rfl|h)
    .exact .inl rfl
    .exact .inr (Zf5 h)
   .rintro (rfl|h)
    .exact .inl rfl
    .exact ZiS h
theorem Zcm (l:List ByteArray) (h:l.length<=1073741824):X0 l=some (Ys l):=by
 unfold X0
 rw [Zr _ h,ZcI,Zr _ yE,A0]
 have hl:=Zvg l
 rw [<-Zo0]
 generalize Zfo l=v at hl
 refine (Zff (fun r i (row:List ByteArray)=>some (row++match i with|0=>Zmn r|i+1=>(match v[i]? with|some y=>Xt y r|none=>[]))) (fun r i row=>v.drop i=r/\row.length<=i/\i<=v.length) ?_ ?_ v 0 [] ⟨yG,yG,yG⟩).trans yG
 .rintro i row ⟨h1,h2,h3⟩
  cases i with
  |zero=>simp [Zmn]
  |succ i=>cases hv:v[i]?<;>simp [Xt,hv]
 .rintro x r i row ⟨h1,h2,h3⟩
  left
  have hi:v[i]?=some x:=by have:=congrArg (fun l=>l[0]?) h1;simpa using this
  have hlt:i<v.length:=(AI.1 hi).1
  have hr:v.drop (i+1)=r:=by have:=congrArg Ad h1;simpa using this
  cases i with
  |zero=>
   refine ⟨row++[x],?_,⟨hr,by simp at h2 ⊢;simp [h2],yE⟩,?_⟩
   .simp only[Int.natCast_zero,beq_self_eq_true,if_true]
    rw [Zr _ yE]
   .simp [Zmn,hi]
  |succ i=>
   have hw:IntKind.i64.wrap (((i+1:Nat):Int) - 1)=((i:Nat):Int):=by rw [ZaL yE yE];omega
   have a:((((i+1:Nat):Int))==0)=false:=by rw [beq_eq_false_iff_ne];omega
   obtain ⟨y,hy⟩:∃y,v[i]?=some y:=⟨v[i],yG⟩
   simp only[a,AF,if_false,hw,AL,hy,A0]
   cases he:sEq y x with
   |true=>
    refine ⟨row,?_,⟨hr,yE,yE⟩,?_⟩
    .rw [Zr _ ⟨yE,yE⟩];rfl
    .simp [Xt,he,hi]
   |false=>
    refine ⟨row++[x],?_,⟨hr,by simp;omega,yE⟩,?_⟩
    .rw [Zr _ ⟨yE,yE⟩]
     simp only[AF,if_false]
     rw [Zr _ yE]
    .simp [Xt,he,hi]
theorem ZbX (l:List ByteArray) (h:l.length<=1073741824):Q3 l=some l:=by
 unfold Q3
 rw [Zr _ h]
theorem Zjk (l:List ByteArray) (h:l.length<=1073741824):ZdC l=some l:=by
 unfold ZdC
 rw [Zr _ h]
theorem Zl5 {ρ:Type}{fin:List ByteArray->Option ρ}{body:Nat->ByteArray->List ByteArray->Option (List ByteArray ⊕ ρ)}(hb:∀j x s,body j x s=(Zbb s x).bind fun v=>some (.inl v)) {l acc:List ByteArray}(h:acc.length+l.length<=1073741824):Zv body fin l 0 acc=fin (l.foldl Q4 acc):=by
 refine Zco (f:=Q4) (fun j s=>s.length<=acc.length+j) yE fun j x s mx hj hl hI=>?_
 have hp:=Zhd x s
 exact ⟨by rw [hb,ZdV _ _ yE];rfl,yE⟩
theorem Zkg {α σ ρ:Type}{body:Nat->α->σ->Option (σ ⊕ ρ)}{fin:σ->Option ρ}(st:List α->σ) (l:List α) (h:∀p x q,l=p++x::q->body p.length x (st p)=some (.inl (st (p++[x])))):Zv body fin l 0 (st [])=fin (st l):=by
 have key:∀(q p:List α),l=p++q->Zv body fin q p.length (st p)=fin (st l):=by
  intro q
  induction q with
  |nil=>intro p e;rw [Zmb,e,An]
  |cons x q ih=>
   intro p e
   rw [ZK (h p x q e)]
   have:=ih (p++[x]) (by rw [e];simp)
   simpa using this
 exact key l [] rfl
def ZaF (f:Zk):Bool:=QS f.rel&&decide (f.args.length<=3)&&f.args.all ZW
theorem ZgS (f:Zk):XS f=some (ZaF f):=by
 unfold XS ZaF
 rw [XO (p:=ZW) (r:=false)]
 .rw [Zew,A0]
  cases QS f.rel<;>cases h:f.args.all ZW<;>simp<;>omega
 .intro i x _
  rw [Qq,A0]
  cases ZW x<;>rfl
theorem ZeE (f:Zk):XW f=some (ZaF f):=by
 unfold XW ZaF
 rw [Zdf,A0]
 cases QS f.rel with
 |false=>rfl
 |true=>
  rw [if_pos rfl]
  by_cases h:f.args.length<=3
  .rw [if_neg (by simp;omega),XO (p:=ZW) (r:=false)]
   .cases h2:f.args.all ZW<;>simp [h]
   .intro i x _
    rw [Qu,A0]
    cases ZW x<;>rfl
  .rw [if_pos (by simp;omega)]
   simp [h]
structure ZDK {α:Type}(c:α->α->Int):Prop where
 eq:∀a b,c a b=0↔a=b
 anti:∀a b,c b a=- c a b
 tr:∀a b d,c a b<0->c b d<0->c a d<0
def ZnC (a b:ByteArray):Int:=Lib.compareBytes (toL a) (toL b)
theorem Zh3:∀(x y:List UInt8),Lib.compareBytes x y=if Op.bytesLess x y=true then -1 else if x=y then 0 else 1
 | [],[]=>by simp [Lib.compareBytes,Op.bytesLess]
 | [],_::_=>by simp [Lib.compareBytes,Op.bytesLess]
 |_::_,[]=>by simp [Lib.compareBytes,Op.bytesLess]
 |a::x,b::y=>by
  have ih:=Zh3 x y
  unfold Lib.compareBytes Op.bytesLess
  by_cases h1:a<b
  .simp [h1]
  .rw [if_neg h1]
   by_cases h2:b<a
   .have h3:¬a=b:=fun e=>by rw [e]at h2;exact absurd h2 (UInt8.lt_irrefl _)
    rw [if_pos h2]
    simp [h1,h3]
   .have h3:a=b:=by
     apply UInt8.toNat_inj.1
     rw [UInt8.lt_iff_toNat_lt]at h1 h2
     omega
    subst h3
    rw [if_neg h2,ih]
    simp [h1]
theorem Zhr (a b:ByteArray):ZnC a b=if sLt a b=true then -1 else if a=b then 0 else 1:=by
 unfold ZnC
 rw [Zh3]
 have h1:Op.bytesLess (toL a) (toL b)=sLt a b:=by unfold sLt toL;rw [AX,AX]
 rw [h1]
 by_cases h:a=b
 .subst h;simp
 .rw [if_neg h,if_neg (fun e=>h (ZfV e))]
theorem Ztm:ZDK ZnC where
 eq:=fun a b=>by
  rw [Zhr]
  by_cases h:sLt a b=true
  .simp [h,ZoZ h]
  .rw [if_neg h]
   by_cases h2:a=b<;>simp [h2]
 anti:=fun a b=>by
  rw [Zhr,Zhr]
  by_cases h:sLt a b=true
  .have h2:=Zj4 h
   have h3:=ZoZ h
   rw [if_pos h,if_neg (by simp [h2]),if_neg (fun e=>h3 e.symm)];rfl
  .rw [if_neg h]
   by_cases h2:a=b
   .subst h2;rw [if_neg h];simp
   .rw [if_pos (Zfr (by simpa using h) h2),if_neg h2]
 tr:=fun a b d h1 h2=>by
  have key:∀x y,ZnC x y<0->sLt x y=true:=fun x y h=>by
   rw [Zhr]at h
   by_cases hx:sLt x y=true
   .exact hx
   .rw [if_neg hx]at h;split at h<;>omega
  rw [Zhr,if_pos (Zhp (key _ _ h1) (key _ _ h2))]
  omega
theorem Zl9 (a b:ByteArray):ZhA a b=some (ZnC a b):=by
 unfold ZhA
 rw [Zhr]
 by_cases h:sLt a b=true
 .rw [if_pos h,if_pos h]
 .rw [if_neg h,if_neg h]
  by_cases h2:a=b
  .subst h2;rw [if_pos (by rw [Zxt];simp),if_pos rfl]
  .rw [if_neg (by simp only[Aa,Zz];rintro (h3|h3);exact h h3;exact h2 h3),if_neg h2]
theorem Zi7 (a b:ByteArray):Zfl a b=some (ZnC a b):=rfl
/- numbers -/
theorem Zm6 {u:Nat}{b:UInt8}(h:b∈Lib.decDigits u):48<=b.toNat/\b.toNat<=57:=by
 rw [Lib.decDigits_eq,Al]at h
 obtain ⟨t,_,rfl⟩:=h
 unfold Lib.dg
 have:u / 10 ^ (Lib.nDigits u - 1 - t) % 10<10:=Nat.mod_lt _ yE
 rw [UInt8.toNat_ofNat']
 omega
def Zdi (s:ByteArray):Option Nat:=
 if 1<=s.size/\s.size<=4 then (match Lib.decNat (toL s) with|some n=>if ofL (Lib.decDigits n)=s then some n else none|none=>none) else none
def Zev (s:ByteArray):Int×Bool:=match Zdi s with|some n=>((n:Int),true)|none=>(0,false)
theorem Zvs {s:ByteArray}{n:Nat}(h:Zdi s=some n):s=ofL (Lib.decDigits n)/\n<=9999:=by
 unfold Zdi at h
 split at h
 .rename_i hs
  split at h
  .split at h
   .rename_i m _ he
    obtain rfl:=AO h
    refine ⟨he.symm,?_⟩
    have hl:Lib.nDigits m<=4:=by
     have:=congrArg Ak he
     rw [ZgK,Lib.decDigits_length]at this
     omega
    have:=Lib.lt_pow_nDigits m
    have h2:10 ^ Lib.nDigits m<=10 ^ 4:=Ae yE hl
    omega
   .simp at h
  .simp at h
 .simp at h
theorem Zqn {body:Nat->UInt8->Int->Option (Int ⊕ (Int×Bool))}{fin:Int->Option (Int×Bool)}
  (hb:∀i (x:UInt8) n,body i x n=if (decide (((x.toNat:Nat):Int)<48))=true then some (.inr (0,false)) else if (decide (57<((x.toNat:Nat):Int)))=true then some (.inr (0,false)) else some (.inl (IntKind.i64.wrap ((IntKind.i64.wrap (10*n))+IntKind.i64.wrap (IntKind.u8.wrap (((x.toNat:Nat):Int) - 48)))))):
  ∀(l:List UInt8) (i acc:Nat),(acc+1)*10 ^ l.length<=100000->Zv body fin l i (acc:Int)=match Lib.decFrom acc l with|some n=>fin (n:Int)|none=>some (0,false)
 | [],i,acc,_=>rfl
 |x::l,i,acc,h=>by
  unfold Lib.decFrom Lib.digitVal
  by_cases h1:48<=x.toNat/\x.toNat<=57
  .have e:body i x (acc:Int)=some (.inl ((acc*10+(x.toNat - 48):Nat):Int)):=by
    have hp:1<=10 ^ (x::l).length:=Nat.one_le_pow _ _ yE
    have h2:acc+1<=100000:=AS (Nat.le_mul_of_pos_right _ hp) h
    rw [hb,if_neg (by simp;omega),if_neg (by simp;omega),ZeC (n:=10*(acc:Int)) yE yE,IntKind.wrap_u8,ZeC (n:=(((x.toNat:Nat):Int) - 48) % 256) yE yE,ZeC yE yE]
    congr 2
    omega
   rw [ZK e,if_pos h1]
   refine Zqn hb l (i+1) _ ?_
   rw [AE,Nat.pow_succ]at h
   refine AS ?_ h
   rw [show (acc+1)*(10 ^ l.length*10)=((acc+1)*10)*10 ^ l.length by rw [Ao,Nat.mul_comm 10]]
   exact Nat.mul_le_mul_right _ yE
  .have e:body i x (acc:Int)=some (.inr (0,false)):=by
    rw [hb]
    by_cases h2:x.toNat<48
    .rw [if_pos (by simp;omega)]
    .rw [if_neg (by simp;omega),if_pos (by simp;omega)]
   rw [Ya e,if_neg h1]
theorem Zww (n a b:Int):XJ n a b=some (decide (a<=n)&&decide (n<=b)):=by
 unfold XJ
 by_cases h:a<=n<;>simp [h]
theorem ZcB (s:ByteArray):Zau s=some (Zev s):=by
 unfold Zau Zev Zdi
 rw [Zww,A0]
 by_cases hs:1<=s.size/\s.size<=4
 .rw [if_pos (by simp;omega),if_pos hs]
  have hl:s.data.toList.length=s.size:=Zdv s
  refine (Zqn (fun _ _ _=>rfl) s.data.toList 0 0 (by
   rw [hl,AK,Nat.one_mul]
   exact AS (Ae yE hs.2) yE)).trans ?_
  have hd:Lib.decNat (toL s)=Lib.decFrom 0 s.data.toList:=by
   unfold Lib.decNat
   rw [if_neg]
   .rfl
   .intro e
    have:=Zdv s
    rw [List.isEmpty_iff.1 e]at this
    simp at this;omega
  rw [hd]
  cases hv:Lib.decFrom 0 s.data.toList with
  |none=>rfl
  |some n=>
   have hb:n<1000000000000000000:=Lib.decFrom_lt18 hv yE
   show (Zap ((n:Nat):Int)).bind _=_
   rw [Zgq ⟨yE,yE⟩,A0,Lib.itoa_nonneg]
   by_cases he:ofL (Lib.decDigits n)=s
   .rw [if_pos (Zz.2 he)]
    simp only[he,if_true]
   .rw [if_neg (by rw [Zz];exact he)]
    simp only[he,if_false]
 .rw [if_neg (by simp;omega),if_neg hs]
theorem Zxn {b:UInt8}{r:List UInt8}(h:b=45\/b=43):Lib.decNat (b::r)=none:=by
 rcases h with rfl|rfl<;>simp [Lib.decNat,Lib.decFrom,Lib.digitVal]
theorem ZoE {s:ByteArray}(h:Lib.decNat (toL s)=none):Zdi s=none:=by
 unfold Zdi
 rw [h]
 split<;>rfl
theorem ZcL (s:ByteArray):Q5 s=some (Zev s):=by
 unfold Q5
 by_cases h1:s.size<1
 .rw [if_pos (by simp;omega)]
  unfold Zev Zdi
  rw [if_neg yE]
 by_cases h2:4<s.size
 .rw [if_neg (by simp;omega),if_pos (by simp;omega)]
  unfold Zev Zdi
  rw [if_neg yE]
 rw [if_neg (by simp;omega),if_neg (by simp;omega)]
 have hl:=Zdv s
 have hx:Zl2 s=some (match Lib.atoi (toL s) with|some n=>(n,true)|none=>(0,false)):=by
  unfold Zl2
  exact Zr _ yE
 rw [hx,A0]
 cases hL:toL s with
 |nil=>rw [hL]at hl;simp at hl;omega
 |cons b r=>
  have d:b=45\/b=43->Zev s=(0,false):=fun h=>by
   unfold Zev
   rw [ZoE (by rw [hL];exact Zxn h)]
  have f:∀m,(b=45\/b=43)->¬ofL (Lib.decDigits m)=s:=fun m h e=>by
   have hm:b∈Lib.decDigits m:=by
    have:toL s=Lib.decDigits m:=by rw [<-e,ZcK]
    rw [<-this,hL];simp
   have:=Zm6 hm
   rcases h with rfl|rfl<;>simp at this
  by_cases a:b=45
  .rw [d (.inl a)]
   cases hd:Lib.decNat r with
   |none=>simp [Lib.atoi,a,hd]
   |some m=>
    have e:Lib.atoi (b::r)=some (-(m:Int)):=by simp [Lib.atoi,a,hd]
    rw [e]
    simp only[if_true]
    by_cases hm:m=0
    .subst hm
     rw [if_neg yG,if_neg yG]
     show (Qn ((0:Nat):Int)).bind _=_
     rw [ZbN ⟨yE,yE⟩,A0,Lib.itoa_nonneg,if_neg (by rw [Zz];exact f 0 (.inl a))]
    .rw [if_pos (by simp;omega)]
  .by_cases c:b=43
   .rw [d (.inr c)]
    cases hd:Lib.decNat r with
    |none=>simp [Lib.atoi,c,hd]
    |some m=>
     have e:Lib.atoi (b::r)=some (m:Int):=by simp [Lib.atoi,c,hd]
     rw [e]
     simp only[if_true]
     rw [if_neg yG]
     by_cases hm:9999<m
     .rw [if_pos (by simp;omega)]
     .rw [if_neg (by simp;omega),ZbN ⟨yE,yE⟩,A0,Lib.itoa_nonneg,if_neg (by rw [Zz];exact f m (.inr c))]
   .have e:Lib.atoi (b::r)=(Lib.decNat (b::r)).map fun (m:Nat)=>(m:Int):=by simp [Lib.atoi,a,c]
    rw [e]
    cases hd:Lib.decNat (b::r) with
    |none=>
     unfold Zev
     rw [ZoE (by rw [hL];exact hd)]
     rfl
    |some m=>
     simp only[Aq,if_true]
     rw [if_neg yG]
     have hn:Zdi s=if ofL (Lib.decDigits m)=s then some m else none:=by
      unfold Zdi
      rw [if_pos yE,hL,hd]
     by_cases hm:9999<m
     .rw [if_pos (by simp;omega)]
      have:Zdi s=none:=by
       cases hq:Zdi s with
       |none=>rfl
       |some n=>
        have h3:=(Zvs hq).2
        rw [hn]at hq
        split at hq
        .obtain rfl:=AO hq;omega
        .simp at hq
      unfold Zev
      rw [this]
     .rw [if_neg (by simp;omega),ZbN ⟨yE,yE⟩,A0,Lib.itoa_nonneg]
      unfold Zev
      rw [hn]
      by_cases he:ofL (Lib.decDigits m)=s
      .rw [if_pos (Zz.2 he),if_pos he]
      .rw [if_neg (by rw [Zz];exact he),if_neg he]
def Zsa (x y:Nat):Int:=if x<y then -1 else if y<x then 1 else 0
def Zjq (a b:ByteArray):Int:=
 match Zdi a,Zdi b with
 |some x,some y=>Zsa x y
 |some _,none=>-1
 |none,some _=>1
 |none,none=>ZnC a b
theorem Zcr (x y:Nat):X2 (x:Int) (y:Int)=some (Zsa x y):=by
 unfold X2 Zsa
 by_cases h1:x<y
 .rw [if_pos (by simpa using h1),if_pos h1]
 .rw [if_neg (by simpa using h1),if_neg h1]
  by_cases h2:y<x
  .rw [if_pos (by simpa using h2),if_pos h2]
  .rw [if_neg (by simpa using h2),if_neg h2]
theorem Zey (a b:ByteArray):XC a b=some (Zjq a b):=by
 unfold XC Zjq
 rw [ZcB,A0,ZcB,A0]
 unfold Zev
 cases Zdi a with
 |none=>
  cases Zdi b with
  |none=>simp only[AF,if_false];rw [Zl9];rfl
  |some y=>rfl
 |some x=>
  cases Zdi b with
  |none=>rfl
  |some y=>
   simp only[if_true]
   unfold Zsa
   by_cases h1:x<y
   .rw [if_pos (by simpa using h1),if_pos h1]
   .rw [if_neg (by simpa using h1),if_neg h1]
    by_cases h2:y<x
    .rw [if_pos (by simpa using h2),if_pos h2]
    .rw [if_neg (by simpa using h2),if_neg h2]
theorem Zi3 (a b:ByteArray):Zah a b=some (Zjq a b):=by
 unfold Zah Zjq
 rw [ZcL,A0,ZcL,A0]
 unfold Zev
 cases Zdi a with
 |none=>
  cases Zdi b with
  |none=>simp only[AF,if_false];rw [Zi7];rfl
  |some y=>rfl
 |some x=>
  cases Zdi b with
  |none=>rfl
  |some y=>simp only[if_true];rw [Zcr];rfl
def Zyf {α:Type}(c:α->α->Int):List α->List α->Int
 | [],[]=>0
 | [],_::_=>-1
 |_::_,[]=>1
 |x::l,y::r=>if c x y=0 then Zyf c l r else c x y
def Zs5 (a b:Zk):Int:=if ZnC a.rel b.rel=0 then Zyf Zjq a.args b.args else ZnC a.rel b.rel
theorem Zv3 {a b:Zk}(h1:a.rel=b.rel) (h2:a.args=b.args):a=b:=by cases a;cases b;simp_all
theorem Yk {α:Type}(l:List α) (i:Nat):atI l (i:Int)=l[i]?:=by unfold atI;rw [if_pos yE,AL]
theorem ZjW {A B:List ByteArray}{body:Nat->ByteArray->Unit->Option (Unit ⊕ Int)}{fin:Unit->Option Int}
  (b:∀i x y,B[i]?=some y->body i x ()=if Zjq x y=0 then some (.inl ()) else some (.inr (Zjq x y))) (c:∀x,B.length<A.length->body B.length x ()=some (.inr 1)) (a:A.length<=B.length->fin ()=some (if A.length<B.length then -1 else 0)):
  ∀(l:List ByteArray) (i:Nat),i+l.length=A.length->i<=B.length->Zv body fin l i ()=some (Zyf Zjq l (B.drop i))
 | [],i,h,hi=>by
  simp at h
  rw [Zmb,a yE]
  by_cases hb:A.length<B.length
  .rw [if_pos hb]
   cases hd:B.drop i with
   |nil=>have:=congrArg List.length hd;simp at this;omega
   |cons y r=>rfl
  .rw [if_neg hb,Ag yE]
   rfl
 |x::l,i,h,hi=>by
  simp only[AE]at h
  by_cases hb:i<B.length
  .have hy:B[i]?=some B[i]:=AM hb
   rw [Ah hb]
   simp only[Zyf]
   by_cases hc:Zjq x B[i]=0
   .rw [ZK (by rw [b i x _ hy,if_pos hc]),if_pos hc]
    exact ZjW b c a l (i+1) yE yE
   .rw [Ya (by rw [b i x _ hy,if_neg hc]),if_neg hc]
  .obtain rfl:i=B.length:=by omega
   rw [Ya (c x yE),Ag (AP _)]
   rfl
theorem Zjw (a b:Zk):Zaw a b=some (Zs5 a b):=by
 unfold Zaw Zs5
 by_cases h:a.rel=b.rel
 .rw [if_pos (Zz.2 h),if_pos ((Ztm.eq _ _).2 h)]
  refine ZjW (A:=a.args) (B:=b.args) (fun i x y hy=>?_) (fun x hx=>?_) (fun hx=>?_) a.args 0 yG (Nat.zero_le _)
  .have hi:=(AI.1 hy).1
   rw [if_pos (by simpa using hi),Yk,hy,A0,Zey,A0]
   by_cases hc:Zjq x y=0
   .rw [hc];rfl
   .rw [if_pos (by simpa using hc),if_neg hc]
  .rw [if_neg yG,if_neg (by simp;omega),if_pos (by simpa using hx)]
  .by_cases h2:a.args.length<b.args.length
   .rw [if_pos (by simpa using h2),if_pos h2]
   .rw [if_neg (by simpa using h2),if_neg (by simp;omega),if_neg h2]
 .rw [if_neg (by rw [Zz];exact h),if_neg (fun e=>h ((Ztm.eq _ _).1 e)),Zl9]
  rfl
theorem Zi5 (a b:Zk):Zaa a b=some (Zs5 a b):=by
 unfold Zaa Zs5
 rw [Zi7,A0]
 by_cases h:ZnC a.rel b.rel=0
 .rw [if_neg (by simpa using h),if_pos h]
  refine ZjW (A:=a.args) (B:=b.args) (fun i x y hy=>?_) (fun x hx=>?_) (fun hx=>?_) a.args 0 yG (Nat.zero_le _)
  .have hi:=(AI.1 hy).1
   rw [if_pos (by simpa using hi),Yk,hy,A0,Zi3,A0]
   by_cases hc:Zjq x y=0
   .rw [hc];rfl
   .rw [if_pos (by simpa using hc),if_neg hc]
  .rw [if_neg yG,Zcr]
   unfold Zsa
   rw [if_neg yE,if_pos hx]
   rfl
  .rw [Zcr]
   unfold Zsa
   by_cases h2:a.args.length<b.args.length
   .rw [if_pos h2,if_pos h2];rfl
   .rw [if_neg h2,if_neg yE,if_neg h2];rfl
 .rw [if_pos (by simpa using h),if_neg h]
section
theorem ZeJ (f:Zk) (h:f.args.length<=1048576):Zdd f=some f:=by
 unfold Zdd
 rw [Zjk _ yE]
 rfl
theorem Za0 (f:Zk) (h:f.args.length<=1048576):QA f=some f:=by
 unfold QA
 rw [ZbX _ yE]
 rfl
theorem Zmk {B:List ByteArray}{body:Nat->ByteArray->Unit->Option (Unit ⊕ Bool)}(hb:∀i x y,B[i]?=some y->body i x ()=if x=y then some (.inl ()) else some (.inr false)):
  ∀(l:List ByteArray) (i:Nat),i+l.length=B.length->Zv body (fun _=>some true) l i ()=some (decide (l=B.drop i))
 | [],i,h=>by
  simp at h
  rw [Zmb,Ag yE]
  simp
 |x::l,i,h=>by
  simp only[AE]at h
  have hi:i<B.length:=by omega
  have hd:(x::l=B.drop i)↔(x=B[i]/\l=B.drop (i+1)):=by rw [Ah hi,List.cons.injEq]
  rw [AC.2 (show decide (x::l=B.drop i)=true↔decide (x=B[i]/\l=B.drop (i+1))=true by rw [decide_eq_true_iff,decide_eq_true_iff];exact hd)]
  by_cases hx:x=B[i]
  .rw [ZK (by rw [hb i x _ (AM hi),if_pos hx]),Zmk hb l (i+1) yE]
   simp [hx]
  .rw [Ya (by rw [hb i x _ (AM hi),if_neg hx])]
   simp [hx]
theorem Zg2 (a b:List ByteArray):Zbs a b=some (decide (a=b)):=by
 unfold Zbs
 by_cases h:a.length=b.length
 .rw [if_neg (by simp;omega)]
  have:=Zmk (B:=b) (body:=fun i6 x7 _=>(atI b ((i6:Nat):Int)).bind fun x8=>if (sEq x7 x8)=true then some (.inl ()) else some (.inr false)) (fun i x y hy=>by
   show (atI b ((i:Nat):Int)).bind _=_
   rw [Yk,hy,A0]
   by_cases hx:x=y
   .rw [if_pos (Zz.2 hx),if_pos hx]
   .rw [if_neg (by rw [Zz];exact hx),if_neg hx]) a 0 yE
  simpa using this
 .rw [if_pos (by simp;omega),decide_eq_false (fun e=>h (by rw [e]))]
open Classical
theorem Zm4 (a b:Zk):Zem a b=some (decide (a=b)):=by
 unfold Zem
 by_cases h:a.rel=b.rel
 .rw [if_pos (Zz.2 h),Zg2,A0]
  congr 1
  rw [AC,decide_eq_true_iff,decide_eq_true_iff]
  exact ⟨fun e=>Zv3 h e,fun e=>by rw [e]⟩
 .rw [if_neg (by rw [Zz];exact h),decide_eq_false (fun e=>h (by rw [e]))]
end
def YM (p:Zj):Bool:=QS p.rel&&decide (p.args.length<=3)&&p.args.all YK
theorem Zec (p:Zj):XR p=some (YM p):=by
 unfold XR YM
 rw [XO (p:=YK) (r:=false)]
 .simp only[Zew,A0]
  have:decide (((p.args.length:Nat):Int)<=3)=decide (p.args.length<=3):=by rw [AC];simp only[decide_eq_true_eq];omega
  rw [this]
  cases p.args.all YK<;>cases QS p.rel<;>simp
 .intro i x _
  rw [Zkl]
  cases YK x<;>simp
theorem Zef (p:Zj):XQ p=some (YM p):=by
 unfold XQ YM
 rw [Zdf,XO (p:=YK) (r:=false)]
 .by_cases h:p.args.length<=3
  .have h':¬(3:Int)<((p.args.length:Nat):Int):=by omega
   cases p.args.all YK<;>cases QS p.rel<;>simp [h,h']
  .have h':(3:Int)<((p.args.length:Nat):Int):=by omega
   cases QS p.rel<;>simp [h,h']
 .intro i x _
  rw [ZkK]
  cases YK x<;>simp
def Xc (p:Zj):Bool:=sEq p.rel ⟨#[]⟩&&decide (p.args.length=0)
theorem Zxj {α:Type}(l:List α):((((l.length:Nat):Int))==0)=decide (l.length=0):=by
 rw [AC,beq_iff_eq,decide_eq_true_eq];omega
theorem Ze9 (p:Zj):Xi p=some (Xc p):=by
 unfold Xi Xc
 rw [Zxj]
 cases sEq p.rel ⟨#[]⟩<;>simp
def YT (x:Zf):Bool:=
 if x.kind=1\/x.kind=2 then YM x.pattern&&sEq x.left ⟨#[]⟩&&sEq x.right ⟨#[]⟩
 else if x.kind=3\/x.kind=4\/x.kind=5 then Xc x.pattern&&YK x.left&&YK x.right
 else false
theorem ZeB (x:Zf):Zd7 x=some (YT x):=by
 unfold Zd7 YT
 simp only[Zec,Zkl,A0,Xc,Zxj,beq_iff_eq]
 by_cases h1:x.kind=1
 .simp only[h1,if_true,true_or];cases YM x.pattern<;>cases sEq x.left ⟨#[]⟩<;>simp
 by_cases h2:x.kind=2
 .simp only[h2,if_true,or_true];cases YM x.pattern<;>cases sEq x.left ⟨#[]⟩<;>simp
 simp only[h1,h2,if_false,or_self]
 by_cases h3:x.kind=3
 .simp only[h3,if_true,true_or];cases sEq x.pattern.rel ⟨#[]⟩<;>cases decide (x.pattern.args.length=0)<;>cases YK x.left<;>simp
 by_cases h4:x.kind=4
 .simp only[h4,if_true,true_or,or_true];cases sEq x.pattern.rel ⟨#[]⟩<;>cases decide (x.pattern.args.length=0)<;>cases YK x.left<;>simp
 by_cases h5:x.kind=5
 .simp only[h5,if_true,or_true];cases sEq x.pattern.rel ⟨#[]⟩<;>cases decide (x.pattern.args.length=0)<;>cases YK x.left<;>simp
 simp [h3,h4,h5]
theorem Zg1 (x:Zf):Zd5 x=some (YT x):=by
 unfold Zd5 YT
 simp only[Zef,ZkK,Ze9,A0,beq_iff_eq]
 by_cases h1:x.kind=1
 .simp only[h1,if_true,true_or];cases YM x.pattern<;>cases sEq x.left ⟨#[]⟩<;>simp
 by_cases h2:x.kind=2
 .simp only[h2,if_true,or_true];cases YM x.pattern<;>cases sEq x.left ⟨#[]⟩<;>simp
 simp only[h1,h2,if_false,or_self]
 by_cases h3:x.kind=3
 .simp only[h3,if_true,true_or];cases Xc x.pattern<;>cases YK x.left<;>cases YK x.right<;>simp
 by_cases h4:x.kind=4
 .simp only[h4,if_true,true_or,or_true];cases Xc x.pattern<;>cases YK x.left<;>cases YK x.right<;>simp
 by_cases h5:x.kind=5
 .simp only[h5,if_true,or_true];cases Xc x.pattern<;>cases YK x.left<;>cases YK x.right<;>simp
 simp [h3,h4,h5]
theorem ZoU {x:Zf}(h:YT x=true):x.kind=1\/x.kind=2\/x.kind=3\/x.kind=4\/x.kind=5:=by
 unfold YT at h
 split at h
 .rename_i h1;omega
 .split at h
  .rename_i h1;omega
  .simp at h
theorem Zq7 (x:Zf):Zb3 x=some (YT x&&decide (3<=x.kind)):=by
 unfold Zb3
 rw [ZeB]
 cases YT x<;>simp
def Qd (a:ZY):Bool:=
 if a.kind=1\/a.kind=2 then YM a.pattern else if a.kind=3 then Xc a.pattern else false
theorem ZnH (a:ZY):Zet a=some (Qd a):=by
 unfold Zet Qd
 simp only[Zec,A0,Xc,Zxj,beq_iff_eq]
 by_cases h1:a.kind=1
 .simp [h1]
 by_cases h2:a.kind=2
 .simp [h2]
 by_cases h3:a.kind=3
 .simp only[h3,if_true];cases sEq a.pattern.rel ⟨#[]⟩<;>simp
 simp [h1,h2,h3]
theorem Znf (a:ZY):Zei a=some (Qd a):=by
 unfold Zei Qd
 simp only[Zef,Ze9,A0,beq_iff_eq]
 by_cases h1:a.kind=1
 .simp [h1]
 by_cases h2:a.kind=2
 .simp [h2]
 by_cases h3:a.kind=3
 .simp [h3]
 simp [h1,h2,h3]
def Xb (l:List ByteArray):List ByteArray:=l.filter Yp
theorem ZdD (l:List ByteArray):(Xb l).length<=l.length:=List.length_filter_le _ _
theorem ZdJ {x:ByteArray}{l:List ByteArray}:x∈Xb l↔x∈l/\Yp x=true:=by simp [Xb]
theorem Zd6 (l:List ByteArray) (h:l.length<=1073741824):Zas l=some (Xb l):=by
 unfold Zas
 rw [Zg6 (p:=Yp)]
 .simp [Xb]
 .intro j x s _ hs
  rw [Zae,A0]
  split
  .rw [Zr _ (by simp at hs;omega)]
  .rfl
theorem Zko {p:ByteArray->Bool}:∀(l acc:List ByteArray),l.foldl (fun s x=>if p x=true then Q4 s x else s) acc=(l.filter p).foldl Q4 acc
 | [],_=>rfl
 |x::l,acc=>by
  rw [AJ,Zko l]
  by_cases h:p x=true<;>simp [h]
theorem Zc6 (p:Zj) (h:p.args.length<=1073741823):ZbY p=some (Ys (Xb p.args)):=by
 unfold ZbY
 rw [Zco (f:=fun s x=>if Yp x=true then Q4 s x else s) (fun j s=>s.length<=j) yG]
 .rw [Zko];rfl
 .intro j x s _ _ hl hI
  simp at hl
  have:=Zhd x s
  rw [Qz,A0]
  split
  .rw [ZdV _ _ yE]
   exact ⟨rfl,yE⟩
  .exact ⟨rfl,yE⟩
def QR (x:Zf):List ByteArray:=x.pattern.args++[x.left,x.right]
def Y0 (x:Zf):List ByteArray:=Ys (Xb (QR x))
theorem Ze2 (x:Zf) (h:x.pattern.args.length<=1073741822):Zax x=some (Y0 x):=by
 unfold Zax Zbz
 rw [ZbX _ yE,A0,Zr _ yE,A0,Zd6 _ (by simp;omega),A0]
 have:=ZdD (x.pattern.args++[x.left,x.right])
 simp at this
 rw [Zcm _ yE]
 rfl
theorem ZeY (x:Zf) (h:x.pattern.args.length<=1073741820):Qv x=some (Y0 x):=by
 unfold Qv
 have h1:=ZeH (Xb x.pattern.args)
 have h2:=ZdD x.pattern.args
 have h3:=Zhd x.left (Ys (Xb x.pattern.args))
 have key:∀l:List ByteArray,(∀y,y∈l↔y∈Xb (QR x))->Asc l->l=Y0 x:=fun l hm ha=>ZfF ha hm
 rw [Zc6 _ yE,A0,Qz,A0,Qz]
 simp only[A0]
 rw [ZdV _ _ yE,A0,ZdV (Q4 _ _) _ yE,A0,ZdV _ x.right yE,A0]
 cases hl:Yp x.left<;>cases hr:Yp x.right<;>simp only[if_true,AF,if_false]<;>congr 1<;>apply key<;>(try intro y)<;>(try simp only[Zi2,Xg,ZdJ,QR,AU,AD,Ar,or_false])
 all_goals first
  |exact ZcQ _
  |exact Zhl (ZcQ _)
  |exact Zhl (Zhl (ZcQ _))
  |skip
 .constructor
  .rintro ⟨a,b⟩;exact ⟨.inl a,b⟩
  .rintro ⟨a|rfl|rfl,b⟩
   .exact ⟨a,b⟩
   .rw [hl]at b;simp at b
   .rw [hr]at b;simp at b
 .constructor
  .rintro (rfl|⟨a,b⟩)
   .exact ⟨yG,hr⟩
   .exact ⟨.inl a,b⟩
  .rintro ⟨a|rfl|rfl,b⟩
   .exact .inr ⟨a,b⟩
   .rw [hl]at b;simp at b
   .exact .inl rfl
 .constructor
  .rintro (rfl|⟨a,b⟩)
   .exact ⟨yG,hl⟩
   .exact ⟨.inl a,b⟩
  .rintro ⟨a|rfl|rfl,b⟩
   .exact .inr ⟨a,b⟩
   .exact .inl rfl
   .rw [hr]at b;simp at b
 .constructor
  .rintro (rfl|rfl|⟨a,b⟩)
   .exact ⟨yG,hr⟩
   .exact ⟨yG,hl⟩
   .exact ⟨.inl a,b⟩
  .rintro ⟨a|rfl|rfl,b⟩
   .exact .inr (.inr ⟨a,b⟩)
   .exact .inr (.inl rfl)
   .exact .inl rfl
theorem Zhs (x:Zf):(Y0 x).length<=x.pattern.args.length+2:=by
 have h1:=ZeH (Xb (QR x))
 have h2:=ZdD (QR x)
 have h3:(QR x).length=x.pattern.args.length+2:=by simp [QR]
 unfold Y0
 omega
theorem Zvk {x:Zf}{v:ByteArray}(h:v∈Y0 x):Yp v=true:=(ZdJ.1 (Xg.1 h)).2
structure XI (r:Zl):Prop where
 cl:r.cond.length<=1048576
 tl:r.thn.length<=1048576
 ca:∀x∈r.cond,x.pattern.args.length<=1048576
 ta:∀a∈r.thn,a.pattern.args.length<=1048576
def XX (l:List Zf):List ByteArray:=l.flatMap fun x=>if x.kind=1 then Xb x.pattern.args else []
def XG (r:Zl) (n:Nat):List ByteArray:=Ys (XX (r.cond.take n))
theorem ZgV (r:Zl) (n:Int) (h:XI r) (h4:r.cond.length<=4):Zbx r n=some (XG r n.toNat):=by
 unfold Zbx XG
 refine (Zff (fun l i (row:List ByteArray)=>some (Ys (row++XX (l.take (n.toNat - i))))) (fun l i row=>r.cond.drop i=l/\row.length<=1048576*i/\i<=r.cond.length) ?_ ?_ r.cond 0 [] ⟨yG,yG,yG⟩).trans yG
 .rintro i row ⟨h1,h2,h3⟩
  rw [Zcm _ yE]
  simp [XX]
 .rintro x l i row ⟨h1,h2,h3⟩
  left
  have hi:r.cond[i]?=some x:=by have:=congrArg (fun l=>l[0]?) h1;simpa using this
  have hlt:i<r.cond.length:=(AI.1 hi).1
  have hr:r.cond.drop (i+1)=l:=by have:=congrArg Ad h1;simpa using this
  have hx:=h.ca x (AQ hi)
  have hv:=ZdD x.pattern.args
  by_cases hn:((i:Nat):Int)<n
  .have e:n.toNat - i=(n.toNat - (i+1))+1:=by omega
   by_cases hk:x.kind=1
   .refine ⟨row++Xb x.pattern.args,?_,⟨hr,by simp;omega,yE⟩,?_⟩
    .simp only[hn,hk,decide_true,beq_self_eq_true,if_true]
     rw [Zd6 _ yE,A0,Zr _ yE]
    .rw [e];simp [XX,hk]
   .refine ⟨row,?_,⟨hr,yE,yE⟩,?_⟩
    .simp [hn,hk]
    .rw [e];simp [XX,hk]
  .have e:n.toNat - i=0:=by omega
   have e':n.toNat - (i+1)=0:=by omega
   refine ⟨row,?_,⟨hr,yE,yE⟩,?_⟩
   .simp [hn]
   .rw [e,e'];simp
theorem ZgN (r:Zl) (n:Int) (h:XI r) (h4:r.cond.length<=4):Zao r n=some (XG r n.toNat):=by
 unfold Zao XG
 refine (Zff (fun l i (row:List ByteArray)=>some ((XX (l.take (n.toNat - i))).foldl Q4 row)) (fun l i row=>r.cond.drop i=l/\row.length<=1048576*i/\i<=r.cond.length/\Asc row) ?_ ?_ r.cond 0 [] ⟨yG,yG,yG,AH⟩).trans (by simp [Ys])
 .rintro i row ⟨h1,h2,h3,h5⟩
  simp [XX]
 .rintro x l i row ⟨h1,h2,h3,h5⟩
  have hi:r.cond[i]?=some x:=by have:=congrArg (fun l=>l[0]?) h1;simpa using this
  have hlt:i<r.cond.length:=(AI.1 hi).1
  have hr:r.cond.drop (i+1)=l:=by have:=congrArg Ad h1;simpa using this
  have hx:=h.ca x (AQ hi)
  have hv:=ZdD x.pattern.args
  have hs:=ZeH (Xb x.pattern.args)
  by_cases hn:((i:Nat):Int)<n
  .left
   have e:n.toNat - i=(n.toNat - (i+1))+1:=by omega
   by_cases hk:x.kind=1
   .obtain ⟨f1,f2,f3⟩:=X9 (Ys (Xb x.pattern.args)) row h5
    refine ⟨(Ys (Xb x.pattern.args)).foldl Q4 row,?_,⟨hr,yE,yE,f1⟩,?_⟩
    .simp only[hn,hk,decide_true,beq_self_eq_true,if_true]
     rw [Zc6 _ yE,A0,Zl5 (fun _ _ _=>rfl) yE]
    .rw [e]
     simp only[XX,List.take_succ_cons,AW,hk,if_true,Ai]
     congr 2
     obtain ⟨g1,g2,_⟩:=X9 (Xb x.pattern.args) row h5
     exact Zpp g1 f1 fun y=>by rw [g2,f2,Xg]
   .refine ⟨row,?_,⟨hr,yE,yE,h5⟩,?_⟩
    .simp [hn,hk]
    .rw [e];simp [XX,hk]
  .right
   have e:n.toNat - i=0:=by omega
   refine ⟨row,by simp [hn],by rw [e];simp [XX]⟩
def ZlL (r:Zl) (i:Int) (v:ByteArray):Bool:=!(Zdw (fun k x=>!(decide ((k:Int)≠i)&&QQ (Y0 x) v)) r.cond 0&&r.thn.all fun a=>!QQ a.pattern.args v)
theorem Zg7 {r:Zl}{i:Int}{v:ByteArray}{f:Zf->Option (List ByteArray)}{g:List ByteArray->ByteArray->Option Bool}(hf:∀x∈r.cond,f x=some (Y0 x)) (hg:∀l,g l v=some (QQ l v)) {fin:Unit->Option Bool}(c:fin ()=some (!(r.thn.all fun a=>!QQ a.pattern.args v))):
  Zv (σ:=Unit) (fun (k:Nat) (x:Zf) _=>if (((k:Nat):Int) != i)=true then (f x).bind fun l=>(g l v).bind fun b=>if b=true then some (.inr true) else some (.inl ()) else some (.inl ())) fin r.cond 0 ()=some (ZlL r i v):=by
 rw [ZaP (p:=fun k x=>!(decide ((k:Int)≠i)&&QQ (Y0 x) v)) (r:=true)]
 .unfold ZlL
  cases Zdw (fun k x=>!(decide ((k:Int)≠i)&&QQ (Y0 x) v)) r.cond 0 with
  |true=>simp only[if_true,c,AB]
  |false=>simp
 .intro j x hj
  rw [hf x (AQ hj),A0,hg,A0,AK]
  by_cases h:(j:Int)=i
  .simp [h]
  .have:((j:Int) != i)=true:=by simpa using h
   simp only[this,if_true]
   cases QQ (Y0 x) v<;>simp [h]
theorem Zg4 (r:Zl) (i:Int) (v:ByteArray) (h:XI r):XV r i v=some (ZlL r i v):=by
 unfold XV
 refine Zg7 (f:=Zax) (g:=ZaJ) (fun x mx=>Ze2 x (by have:=h.ca x mx;omega)) (fun l=>Zdz l v) ?_
 rw [Zgh (p:=fun a=>QQ a.pattern.args v) (r:=true)]
 .simp only[<-As,At]
  cases r.thn.any fun a=>QQ a.pattern.args v<;>rfl
 .intro j a _
  rw [Zdz]
  cases QQ a.pattern.args v<;>simp
theorem Zj1 (r:Zl) (i:Int) (v:ByteArray) (h:XI r) (hv:Yp v=true):X3 r i v=some (ZlL r i v):=by
 unfold X3
 refine Zg7 (f:=Qv) (g:=YU) (fun x mx=>ZeY x (by have:=h.ca x mx;omega)) (fun l=>ZbP l v) ?_
 rw [Zgh (p:=fun a=>QQ a.pattern.args v) (r:=true)]
 .simp only[<-As,At]
  cases r.thn.any fun a=>QQ a.pattern.args v<;>rfl
 .intro j a ma
  rw [Zc6 _ (by have:=h.ta a ma;omega),A0,ZbP,A0]
  have:QQ (Ys (Xb a.pattern.args)) v=QQ a.pattern.args v:=by
   rw [AC,Zl0,Zl0,Xg,ZdJ]
   simp [hv]
  rw [this]
  cases QQ a.pattern.args v<;>simp
def Zlo (r:Zl) (i:Nat) (x:Zf) (v:ByteArray):Bool:=decide (x.kind=1)||QQ (XG r i) v||(decide (x.kind=2)&&!ZlL r i v)
def ZgU (r:Zl) (i:Nat) (x:Zf):Bool:=(Y0 x).all (Zlo r i x)
theorem Znj (r:Zl) (i:Nat) (x:Zf) (h:XI r) (h4:r.cond.length<=4) (hx:r.cond[i]?=some x):Zcc r i=some (ZgU r i x):=by
 unfold Zcc ZgU
 have ha:atI r.cond (i:Int)=some x:=by unfold atI;rw [if_pos yE,AL];exact hx
 rw [ha,A0,ZgV r _ h h4,A0,Ze2 x (by have:=h.ca x (AQ hx);omega),A0,AL]
 rw [XO (p:=Zlo r i x) (r:=false)]
 .cases (Y0 x).all (Zlo r i x)<;>rfl
 .intro j v mv
  rw [Zdz,Zg4 r _ v h]
  simp only[A0,Zlo,beq_iff_eq,bne_iff_ne,ne_eq]
  by_cases h1:x.kind=1
  .simp [h1]
  .simp only[h1,if_false,decide_false,Au]
   cases QQ (XG r i) v with
   |true=>simp
   |false=>
    by_cases h2:x.kind=2
    .simp only[h2,not_true_eq_false,if_false,AF,decide_true,AB,Au]
     cases ZlL r i v<;>simp
    .simp [h2]
def Zba (r:Zl):Bool:=
 QS r.name&&decide (0<=r.priority)&&decide (r.priority<=9)&&decide (1<=r.cond.length)&&decide (r.cond.length<=4)&&decide (1<=r.thn.length)&&decide (r.thn.length<=2)
  && Zdw (fun i x=>YT x&&(decide (i≠0)||decide (x.kind=1))&&ZgU r i x) r.cond 0
  && r.thn.all (fun a=>Qd a&&(Xb a.pattern.args).all (QQ (XG r r.cond.length)))
  && decide ((Ys (r.cond.flatMap Y0)).length<=6)
theorem ZkW (l:List Zf) (h:∀x∈l,x.pattern.args.length<=1048576) (h4:l.length<=4):ZbC l=some (l.flatMap Y0):=by
 unfold ZbC
 rw [Zco (f:=fun s x=>s++Y0 x) (fun j s=>s.length<=1048578*j) yG]
 .congr 1
  have:∀(l:List Zf) (acc:List ByteArray),l.foldl (fun s x=>s++Y0 x) acc=acc++l.flatMap Y0:=by
   intro l
   induction l with
   |nil=>simp
   |cons x l ih=>intro acc;rw [AJ,ih];simp
  simpa using this l []
 .intro j x s mx _ hl hI
  have:=h x mx
  have:=Zhs x
  rw [Ze2 x yE,A0,Zr _ yE]
  exact ⟨rfl,by simp;omega⟩
theorem Zrx (r:Zl) (h:XI r):ZgB r=some (Zba r):=by
 unfold ZgB Zba
 rw [Zdf,A0]
 cases QS r.name with
 |false=>simp
 |true=>
 simp only[if_true,decide_eq_true_eq,AB]
 split
 .rw [decide_eq_false (show ¬0<=r.priority by omega)];simp
 split
 .rw [decide_eq_false (show ¬r.priority<=9 by omega)];simp
 split
 .rw [decide_eq_false (show ¬1<=r.cond.length by omega)];simp
 split
 .rw [decide_eq_false (show ¬r.cond.length<=4 by omega)];simp
 split
 .rw [decide_eq_false (show ¬1<=r.thn.length by omega)];simp
 split
 .rw [decide_eq_false (show ¬r.thn.length<=2 by omega)];simp
 rw [decide_eq_true (show 0<=r.priority by omega),decide_eq_true (show r.priority<=9 by omega),decide_eq_true (show 1<=r.cond.length by omega),decide_eq_true (show r.cond.length<=4 by omega),decide_eq_true (show 1<=r.thn.length by omega),decide_eq_true (show r.thn.length<=2 by omega)]
 simp only[AB]
 have h4:r.cond.length<=4:=by omega
 rw [ZaP (p:=fun i x=>YT x&&(decide (i≠0)||decide (x.kind=1))&&ZgU r i x) (r:=false)]
 .cases Zdw (fun i x=>YT x&&(decide (i≠0)||decide (x.kind=1))&&ZgU r i x) r.cond 0 with
  |false=>simp
  |true=>
   simp only[if_true,AB]
   rw [ZgV r _ h h4,A0,AL,XO (p:=fun a=>Qd a&&(Xb a.pattern.args).all (QQ (XG r r.cond.length))) (r:=false)]
   .cases r.thn.all fun a=>Qd a&&(Xb a.pattern.args).all (QQ (XG r r.cond.length)) with
    |false=>simp
    |true=>
     have hl:(r.cond.flatMap Y0).length<=1048578*r.cond.length:=by
      have:∀l:List Zf,(∀x∈l,x.pattern.args.length<=1048576)->(l.flatMap Y0).length<=1048578*l.length:=by
       intro l
       induction l with
       |nil=>simp
       |cons x l ih=>
        intro hl
        have h1:=ih fun y my=>hl y (by simp [my])
        have h2:=hl x yG
        have h3:=Zhs x
        simp only[AW,AR,AE]
        omega
      exact this r.cond h.ca
     simp only[if_true,AB]
     rw [ZkW _ h.ca h4,A0,Zcm _ yE,A0]
     congr 1
     rw [AC]
     simp only[decide_eq_true_eq]
     omega
   .intro j a ma
    rw [Znf,A0]
    cases Qd a with
    |false=>simp
    |true=>
     simp only[if_true,AB]
     rw [Zd6 _ (by have:=h.ta a ma;omega),A0,XO (p:=QQ (XG r r.cond.length)) (r:=.inr false)]
     .cases (Xb a.pattern.args).all (QQ (XG r r.cond.length))<;>rfl
     .intro k v _
      rw [Zdz,A0]
      cases QQ (XG r r.cond.length) v<;>simp
 .intro j x hj
  rw [AK,Zg1,A0,Znj r j x h h4 hj]
  simp only[A0]
  cases YT x with
  |false=>simp
  |true=>
   by_cases h0:j=0
   .subst h0
    by_cases hk:x.kind=1
    .simp only[hk];cases ZgU r 0 x<;>simp
    .simp [hk]
   .have:((j:Int)==0)=false:=by rw [beq_eq_false_iff_ne];omega
    simp only[this]
    cases ZgU r j x<;>simp [h0]
theorem ZfM {α:Type}(f:α->List ByteArray):∀(l:List α) (acc:List ByteArray),Asc acc->l.foldl (fun s x=>(f x).foldl Q4 s) acc=(l.flatMap f).foldl Q4 acc
 | [],_,_=>rfl
 |x::l,acc,h=>by rw [AJ,ZfM f l _ (X9 (f x) acc h).1,AW,Ai]
def Zma (r:Zl):List ByteArray:=Ys (r.cond.flatMap Y0++r.thn.flatMap fun a=>Xb a.pattern.args)
theorem Zm5 (r:Zl) (h:XI r) (h4:r.cond.length<=4) (h2:r.thn.length<=2):ZdU r=some (Zma r):=by
 unfold ZdU Zma
 rw [Zco (f:=fun s x=>(Y0 x).foldl Q4 s) (fun j s=>s.length<=1048578*j/\Asc s) ⟨yG,AH⟩]
 .have hA:=ZfM Y0 r.cond [] AH
  have hB:Asc (r.cond.foldl (fun s x=>(Y0 x).foldl Q4 s) []):=by rw [hA];exact (X9 _ [] AH).1
  have hl:(r.cond.foldl (fun s x=>(Y0 x).foldl Q4 s) []).length<=1048578*4:=by
   rw [hA]
   have:=(X9 (r.cond.flatMap Y0) [] AH).2.2
   have h3:(r.cond.flatMap Y0).length<=1048578*r.cond.length:=by
    have:∀l:List Zf,(∀x∈l,x.pattern.args.length<=1048576)->(l.flatMap Y0).length<=1048578*l.length:=by
     intro l
     induction l with
     |nil=>simp
     |cons x l ih=>
      intro hl
      have h1:=ih fun y my=>hl y (by simp [my])
      have h2:=hl x yG
      have h3:=Zhs x
      simp only[AW,AR,AE]
      omega
    exact this r.cond h.ca
   simp only[Aw,Nat.add_zero]at this
   omega
  rw [Zco (f:=fun s a=>(Ys (Xb a.pattern.args)).foldl Q4 s) (fun j s=>s.length<=1048578*4+1048576*j/\Asc s) ⟨yE,hB⟩]
  .congr 1
   rw [ZfM (fun a:ZY=>Ys (Xb a.pattern.args)) r.thn _ hB,hA]
   refine ZfF (X9 _ _ (X9 _ [] AH).1).1 fun y=>?_
   rw [(X9 _ _ (X9 _ [] AH).1).2.1 y,(X9 _ [] AH).2.1 y]
   simp only[AU,AY,Xg,Ar,or_false]
   exact Or.comm
  .intro j a s ma _ hj hI
   have h5:=h.ta a ma
   have h6:=ZdD a.pattern.args
   have h7:=ZeH (Xb a.pattern.args)
   obtain ⟨f1,f2,f3⟩:=X9 (Ys (Xb a.pattern.args)) s hI.2
   rw [Zc6 _ yE,A0,Zl5 (fun _ _ _=>rfl) yE]
   exact ⟨rfl,yE,f1⟩
 .intro j x s mx _ hj hI
  have h5:=h.ca x mx
  have h6:=Zhs x
  obtain ⟨f1,f2,f3⟩:=X9 (Y0 x) s hI.2
  rw [ZeY _ yE,A0,Zl5 (fun _ _ _=>rfl) yE]
  exact ⟨rfl,yE,f1⟩
theorem ZpU {l:List Zf}{y:ByteArray}(h:y∈XX l):y∈l.flatMap Y0:=by
 simp only[XX,AY]at h ⊢
 obtain ⟨x,hx,hy⟩:=h
 refine ⟨x,hx,?_⟩
 split at hy
 .rw [Y0,Xg,ZdJ]
  rw [ZdJ]at hy
  exact ⟨by simp [QR,hy.1],hy.2⟩
 .simp at hy
theorem ZrV (r:Zl) (h:XI r):ZgQ r=some (Zba r):=by
 unfold ZgQ Zba
 rw [Zew,A0]
 cases QS r.name with
 |false=>simp
 |true=>
 simp only[if_true,QP,A0,AB,AA,decide_eq_true_eq]
 split
 rotate_left
 .rename_i hh
  have:(decide (0<=r.priority)&&decide (r.priority<=9))=false:=by simp;omega
  rw [this];simp
 rename_i hp
 rw [decide_eq_true hp.1,decide_eq_true hp.2]
 split
 rotate_left
 .rename_i hh
  have:(decide (1<=r.cond.length)&&decide (r.cond.length<=4))=false:=by simp;omega
  simp only[AB,this,Aj]
 rename_i hc
 rw [decide_eq_true (show 1<=r.cond.length by omega),decide_eq_true (show r.cond.length<=4 by omega)]
 split
 rotate_left
 .rename_i hh
  have:(decide (1<=r.thn.length)&&decide (r.thn.length<=2))=false:=by simp;omega
  simp only[AB,this,Aj]
 rename_i ht
 rw [decide_eq_true (show 1<=r.thn.length by omega),decide_eq_true (show r.thn.length<=2 by omega)]
 simp only[AB]
 have h4:r.cond.length<=4:=by omega
 rw [ZgN r _ h h4,A0,AL]
 rw [ZaP (p:=fun i x=>YT x&&(decide (i≠0)||decide (x.kind=1))&&ZgU r i x) (r:=false)]
 .cases Zdw (fun i x=>YT x&&(decide (i≠0)||decide (x.kind=1))&&ZgU r i x) r.cond 0 with
  |false=>simp
  |true=>
   simp only[if_true,AB]
   rw [XO (p:=fun a=>Qd a&&(Xb a.pattern.args).all (QQ (XG r r.cond.length))) (r:=false)]
   .cases ha:r.thn.all fun a=>Qd a&&(Xb a.pattern.args).all (QQ (XG r r.cond.length)) with
    |false=>simp
    |true=>
     simp only[if_true,AB]
     rw [Zm5 r h h4 yE,A0]
     have e:Zma r=Ys (r.cond.flatMap Y0):=Znu fun y=>by
      simp only[AU]
      refine ⟨fun hy=>?_,.inl⟩
      rcases hy with hy|hy
      .exact hy
      .obtain ⟨a,ma,hy⟩:=AY.1 hy
       have:=AT.1 ha a ma
       simp only[AA]at this
       have:=AT.1 this.2 y hy
       rw [Zl0,XG,Xg,List.take_length]at this
       exact ZpU this
     rw [e]
     congr 1
     rw [AC]
     simp only[decide_eq_true_eq]
     omega
   .intro j a ma
    rw [ZnH,A0]
    cases Qd a with
    |false=>simp
    |true=>
     simp only[if_true,AB]
     rw [Zc6 _ (by have:=h.ta a ma;omega),A0,XO (p:=QQ (XG r r.cond.length)) (r:=.inr false)]
     .have:(Ys (Xb a.pattern.args)).all (QQ (XG r r.cond.length))=(Xb a.pattern.args).all (QQ (XG r r.cond.length)):=by
       rw [AC,AT,AT]
       simp only[Xg]
      rw [this]
      cases (Xb a.pattern.args).all (QQ (XG r r.cond.length))<;>rfl
     .intro k v _
      rw [ZbP,A0]
      cases QQ (XG r r.cond.length) v<;>simp
 .intro j x hj
  have hxa:=h.ca x (AQ hj)
  rw [AK,ZeB,A0,ZgN r _ h h4,ZeY x yE,AL]
  simp only[A0]
  cases hic:YT x with
  |false=>simp
  |true=>
   have c:∀{fin:Unit->Option (Unit ⊕ Bool)} (d:fin ()=some (.inl ())),Zv (σ:=Unit) (ρ:=Unit ⊕ Bool) (fun (_:Nat) (v:ByteArray) _=>(YU (XG r j) v).bind fun b=>(Zb3 x).bind fun t=>if t=true then (if b=true then (if (x.kind==2)=true then some (.inl ()) else some (.inl ())) else some (.inr (.inr false))) else (if (x.kind==2)=true then (if b=true then some (.inl ()) else (X3 r ((j:Nat):Int) v).bind fun e=>if e=true then some (.inr (.inr false)) else some (.inl ())) else some (.inl ()))) fin (Y0 x) 0 ()=some (bif ZgU r j x then .inl () else .inr false):=fun {fin} d=>by
    rw [XO (p:=Zlo r j x) (r:=.inr false)]
    .unfold ZgU
     cases (Y0 x).all (Zlo r j x)<;>simp [d]
    .intro k v mv
     rw [ZbP,Zq7,Zj1 r _ v h (Zvk mv),hic]
     simp only[A0,AB,decide_eq_true_eq,beq_iff_eq,Zlo]
     rcases ZoU hic with hk|hk|hk|hk|hk<;>rw [hk]<;>cases QQ (XG r j) v<;>cases ZlL r j v<;>simp
   by_cases h0:j=0
   .subst h0
    by_cases hk:x.kind=1
    .have f:(x.kind != 1)=false:=by simp [hk]
     simp only[if_true,f,show (((0:Nat):Int)==0)=true from rfl,AF,if_false]
     rw [c rfl]
     simp [hk]
    .have f:(x.kind != 1)=true:=by simpa using hk
     simp [f,hk]
   .have:((j:Int)==0)=false:=by rw [beq_eq_false_iff_ne];omega
    simp only[if_true,this,AF,if_false]
    rw [c rfl]
    simp [h0]
theorem ZjO {v:ByteArray}(h:Yp v=true):ZW v=false:=by
 cases ha:ZW v with
 |false=>rfl
 |true=>
  have h1:=Zi0 ha
  rw [ZaB]at h1
  unfold Yp at h
  simp only[AA,decide_eq_true_iff]at h
  omega
def Xy:List Zg->ByteArray->Option ByteArray
 | [],_=>none
 |x::b,v=>if x.var=v then some x.value else Xy b v
def Zct (b:List Zg) (t:ByteArray):Option ByteArray:=if ZW t=true then some t else if Yp t=true then Xy b t else none
theorem Zl7 {b:List Zg}{v:ByteArray}(h:Yp v=true):Zct b v=Xy b v:=by
 unfold Zct
 rw [if_neg (by rw [ZjO h];simp),if_pos h]
def Ziy (x:Zg):Bool:=Yp x.var&&ZW x.value
def Zie:Option ByteArray->ByteArray->Bool
 |none,_=>true
 |some p,v=>sLt p v
def Xa:Option ByteArray->List Zg->Bool
 |_,[]=>true
 |prev,x::r=>Ziy x&&Zie prev x.var&&Xa (some x.var) r
def Yj (b:List Zg):Bool:=decide (b.length<=6)&&Xa none b
theorem Zvy {b:List Zg}{v:ByteArray}(h:Xy b v=none):∀x∈b,¬x.var=v:=by
 induction b with
 |nil=>simp
 |cons y r ih=>
  simp only[Xy]at h
  split at h
  .simp at h
  .rename_i hy
   intro x mx
   rcases AD.1 mx with rfl|mx
   .exact hy
   .exact ih h x mx
def ZfL:List Zg->ByteArray->ByteArray->List Zg
 | [],v,w=>[⟨v,w⟩]
 |x::b,v,w=>if sLt v x.var=true then ⟨v,w⟩::x::b else x::ZfL b v w
theorem ZrB (v w:ByteArray):∀b:List Zg,(ZfL b v w).length=b.length+1
 | []=>rfl
 |x::b=>by
  simp only[ZfL]
  split
  .rfl
  .rw [AE,ZrB v w b];rfl
theorem Zkj {v w u:ByteArray}:∀{b:List Zg},Xy b v=none->Xy (ZfL b v w) u=if v=u then some w else Xy b u
 | [],_=>by simp [ZfL,Xy]
 |x::b,h=>by
  simp only[Xy]at h
  split at h
  .simp at h
  .rename_i hx
   simp only[ZfL]
   split
   .simp [Xy]
   .simp only[Xy]
    rw [Zkj h]
    by_cases hu:x.var=u
    .rw [if_pos hu,if_pos hu,if_neg (fun e=>hx (hu.trans e.symm))]
    .rw [if_neg hu,if_neg hu]
theorem Zoj {v w:ByteArray}(hv:Yp v=true) (hw:ZW w=true):∀{b:List Zg}{a:Option ByteArray},Xa a b=true->Xy b v=none->(∀p,a=some p->sLt p v=true)->Xa a (ZfL b v w)=true
 | [],a,_,_,hp=>by
  simp only[ZfL,Xa,Ziy,hv,hw,Bool.and_self,AB,Am]
  cases a with
  |none=>rfl
  |some p=>exact hp p rfl
 |x::b,a,h,hg,hp=>by
  have hx:=Zvy hg x yG
  simp only[Xy,hx,if_false]at hg
  simp only[Xa,AA]at h
  obtain ⟨⟨h1,h2⟩,h3⟩:=h
  simp only[ZfL]
  by_cases c:sLt v x.var=true
  .rw [if_pos c]
   have h4:Zie a v=true:=by
    cases a with
    |none=>rfl
    |some p=>exact hp p rfl
   simp only[Xa,AA]
   exact ⟨⟨by simp [Ziy,hv,hw],h4⟩,⟨⟨h1,c⟩,h3⟩⟩
  .rw [if_neg c]
   simp only[Xa,AA]
   refine ⟨⟨h1,h2⟩,Zoj hv hw h3 hg fun p d=>?_⟩
   obtain rfl:=AO d
   exact Zfr (by simpa using c) (fun e=>hx e.symm)
def Zg8 (b:List Zg) (v w:ByteArray):Option (List Zg):=
 if Yj b=true/\Yp v=true/\ZW w=true then
  (match Xy b v with
  |some old=>if old=w then some b else none
  |none=>if b.length=6 then none else some (ZfL b v w))
 else none
theorem Zt6 {b b':List Zg}{v w:ByteArray}(h:Zg8 b v w=some b'):Yj b'=true/\Xy b' v=some w/\∀u z,Xy b u=some z->Xy b' u=some z:=by
 unfold Zg8 at h
 split at h
 .rename_i hc
  obtain ⟨h1,h2,h3⟩:=hc
  cases hg:Xy b v with
  |some old=>
   rw [hg]at h
   simp only at h
   split at h
   .rename_i he
    obtain rfl:=AO h
    exact ⟨h1,by rw [hg,he],fun u z hu=>hu⟩
   .simp at h
  |none=>
   rw [hg]at h
   simp only at h
   split at h
   .simp at h
   .rename_i hl
    obtain rfl:=AO h
    unfold Yj at h1 ⊢
    rw [AA,decide_eq_true_iff]at h1
    refine ⟨?_,by rw [Zkj hg,if_pos rfl],fun u z hu=>?_⟩
    .rw [AA,decide_eq_true_iff,ZrB]
     exact ⟨yE,Zoj h2 h3 h1.2 hg yG⟩
    .rw [Zkj hg,if_neg (fun e=>by rw [<-e,hg]at hu;simp at hu)];exact hu
 .simp at h
def Ze5:List ByteArray->List ByteArray->List Zg->Option (List Zg)
 | [],_,b=>some b
 |_::_,[],_=>none
 |a::p,w::f,b=>if ZW a=true then (if a=w then Ze5 p f b else none) else (Zg8 b a w).bind (Ze5 p f)
theorem Zj8:∀{p f:List ByteArray}{b b':List Zg},Yj b=true->Ze5 p f b=some b'->Yj b'=true/\(∀a∈p,Yp a=true->∃z,Xy b' a=some z)/\∀u z,Xy b u=some z->Xy b' u=some z
 | [],_,b,b',hb,h=>by
  simp only[Ze5,Ax]at h
  subst h
  exact ⟨hb,yG,fun u z h=>h⟩
 |_::_,[],_,_,_,h=>by simp [Ze5]at h
 |a::p,w::f,b,b',hb,h=>by
  simp only[Ze5]at h
  by_cases ha:ZW a=true
  .rw [if_pos ha]at h
   split at h
   .obtain ⟨h1,h2,h3⟩:=Zj8 hb h
    refine ⟨h1,fun x mx hx=>?_,h3⟩
    rcases AD.1 mx with rfl|mx
    .rw [ZjO hx]at ha;simp at ha
    .exact h2 x mx hx
   .simp at h
  .rw [if_neg ha]at h
   obtain ⟨b1,e1,h⟩:=Option.bind_eq_some_iff.1 h
   obtain ⟨k1,k2,k3⟩:=Zt6 e1
   obtain ⟨h1,h2,h3⟩:=Zj8 k1 h
   refine ⟨h1,fun x mx hx=>?_,fun u z hu=>h3 u z (k3 u z hu)⟩
   rcases AD.1 mx with rfl|mx
   .exact ⟨w,h3 _ _ k2⟩
   .exact h2 x mx hx
def Zja (p:Zj) (f:Zk) (b:List Zg):Bool:=YM p&&ZaF f&&Yj b&&decide (p.rel=f.rel)&&decide (p.args.length=f.args.length)
def X1 (p:Zj) (f:Zk) (b:List Zg):Option (List Zg):=if Zja p f b=true then Ze5 p.args f.args b else none
theorem Zvl {p:Zj}{f:Zk}{b b':List Zg}(h:X1 p f b=some b'):Yj b'=true/\(∀a∈p.args,Yp a=true->∃z,Xy b' a=some z)/\∀u z,Xy b u=some z->Xy b' u=some z:=by
 unfold X1 at h
 split at h
 .rename_i hc
  unfold Zja at hc
  simp only[AA]at hc
  exact Zj8 hc.1.1.2 h
 .simp at h
def Qi (p:Zj) (b:List Zg) (F:List Zk):List Zk:=F.filter fun f=>(X1 p f b).isSome
def ZwH (l r:ByteArray):Bool:=match Zdi l,Zdi r with|some m,some n=>decide (m<n)|_,_=>false
def ZrK (k:Int) (l r:ByteArray):Bool:=if k=3 then decide (l=r) else if k=4 then !decide (l=r) else ZwH l r
def ZmM (x:Zf) (b:List Zg):Bool:=
 if YT x=true/\3<=x.kind/\Yj b=true then (match Zct b x.left,Zct b x.right with|some l,some r=>ZrK x.kind l r|_,_=>false) else false
def Zkb (x:Zf) (b:List Zg) (F:List Zk):Bool:=
 if YT x=true/\Yj b=true then
  (if x.kind=1 then decide (0<(Qi x.pattern b F).length) else if x.kind=2 then decide ((Qi x.pattern b F).length=0) else ZmM x b)
 else false
def QV (x:Zf) (F:List Zk) (t:Zs):List Zs:=
 if x.kind=1 then F.filterMap fun f=>(X1 x.pattern f t.binding).map fun b=>{ facts:=t.facts++[f],binding:=b }
 else if Zkb x t.binding F=true then [t] else []
def Zfa (x:Zf) (F:List Zk) (l:List Zs):List Zs:=l.flatMap (QV x F)
def ZjK:Zs:={ facts:=[],binding:=[] }
def Yn (l:List Zf) (F:List Zk):List Zs:=l.foldl (fun ts x=>Zfa x F ts) [ZjK]
theorem Zdx (p:List Zf) (x:Zf) (F:List Zk):Yn (p++[x]) F=Zfa x F (Yn p F):=by
 unfold Yn
 rw [Ai]
 rfl
structure ZmB (p:List Zf) (F:List Zk) (t:Zs):Prop where
 bind:Yj t.binding=true
 len:t.facts.length<=p.length
 sub:∀f∈t.facts,f∈F
 vars:∀v∈XX p,∃z,Xy t.binding v=some z
theorem Zyr {p:List Zf}{x:Zf}{F:List Zk}{t u:Zs}(h:ZmB p F t) (hu:u∈QV x F t):ZmB (p++[x]) F u:=by
 unfold QV at hu
 have hv:XX (p++[x])=XX p++(if x.kind=1 then Xb x.pattern.args else []):=by simp [XX]
 by_cases hk:x.kind=1
 .rw [if_pos hk]at hu
  obtain ⟨f,mf,e⟩:=List.mem_filterMap.1 hu
  obtain ⟨b,e2,rfl⟩:=Option.map_eq_some_iff.1 e
  obtain ⟨h1,h2,h3⟩:=Zvl e2
  refine ⟨h1,by have:=h.len;simp;omega,fun g mg=>?_,fun v mv=>?_⟩
  .rcases AU.1 mg with mg|mg
   .exact h.sub g mg
   .simp at mg;subst mg;exact mf
  .rw [hv,if_pos hk]at mv
   rcases AU.1 mv with mv|mv
   .obtain ⟨z,hz⟩:=h.vars v mv
    exact ⟨z,h3 v z hz⟩
   .obtain ⟨m1,m2⟩:=ZdJ.1 mv
    exact h2 v m1 m2
 .rw [if_neg hk]at hu
  split at hu
  .simp at hu
   subst hu
   refine ⟨h.bind,by have:=h.len;simp;omega,h.sub,fun v mv=>?_⟩
   rw [hv,if_neg hk,An]at mv
   exact h.vars v mv
  .simp at hu
theorem Zyi (F:List Zk):ZmB [] F ZjK:=⟨rfl,AP _,by simp [ZjK],by simp [XX]⟩
theorem Zkd (F:List Zk) (l:List Zf):∀t∈Yn l F,ZmB l F t:=by
 have:∀n (l:List Zf),l.length=n->∀t∈Yn l F,ZmB l F t:=by
  intro n
  induction n with
  |zero=>
   intro l h
   rw [List.eq_nil_of_length_eq_zero h]
   intro t mt
   simp [Yn]at mt
   subst mt
   exact Zyi F
  |succ n ih=>
   intro l h
   obtain ⟨p,x,rfl⟩:∃p x,l=p++[x]:=⟨l.dropLast,l.getLast (by intro e;simp [e]at h),(List.dropLast_concat_getLast _).symm⟩
   intro t mt
   rw [Zdx]at mt
   obtain ⟨s,ms,mt⟩:=AY.1 mt
   exact Zyr (ih p (by simpa using h) s ms) mt
 exact this _ l rfl
theorem Zju (x:Zf) (F:List Zk) (hF:F.length<=24):∀l:List Zs,(Zfa x F l).length<=24*l.length
 | []=>AP _
 |t::l=>by
  have ih:=Zju x F hF l
  have h1:(QV x F t).length<=24:=by
   unfold QV
   split
   .exact AS (List.length_filterMap_le _ _) hF
   .split<;>simp
  unfold Zfa at *
  rw [AW,AR,AE]
  omega
theorem Ziv (F:List Zk) (hF:F.length<=24) (l:List Zf) (hl:l.length<=4):(Yn l F).length<=331776:=by
 have key:∀(l:List Zf) (ts:List Zs),(l.foldl (fun ts x=>Zfa x F ts) ts).length<=24 ^ l.length*ts.length:=by
  intro l
  induction l with
  |nil=>intro ts;simp
  |cons x l ih=>
   intro ts
   rw [AJ,AE,Nat.pow_succ]
   have h1:=ih (Zfa x F ts)
   have h2:=Zju x F hF ts
   refine AS h1 (AS (Nat.mul_le_mul_left _ h2) ?_)
   rw [<-Ao]
   exact AP _
 have h1:=key l [ZjK]
 have h2:24 ^ l.length<=24 ^ 4:=Ae yE hl
 unfold Yn
 simp only[List.length_singleton,Nat.mul_one]at h1
 omega
def ZfH (b:List Zg) (i:Nat):Option ByteArray:=if i=0 then none else (b[i - 1]?).map (·.var)
theorem Zj6 {b:List Zg}{body:Nat->Zg->Unit->Option (Unit ⊕ Bool)}{fin:Unit->Option Bool}(hb:∀i x,b[i]?=some x->body i x ()=if (Ziy x&&Zie (ZfH b i) x.var)=true then some (.inl ()) else some (.inr false)):
  ∀(l:List Zg) (i:Nat),b.drop i=l->Zv body fin l i ()=if Xa (ZfH b i) l=true then fin () else some false
 | [],i,_=>by simp [Zv,Xa]
 |x::l,i,h=>by
  have hx:b[i]?=some x:=by rw [<-List.head?_drop,h];rfl
  have hd:b.drop (i+1)=l:=by rw [<-List.tail_drop,h];rfl
  have hp:ZfH b (i+1)=some x.var:=by unfold ZfH;rw [if_neg yE,Nat.add_sub_cancel,hx];rfl
  by_cases hc:(Ziy x&&Zie (ZfH b i) x.var)=true
  .rw [ZK (by rw [hb i x hx,if_pos hc]),Zj6 hb l (i+1) hd,hp]
   simp only[Xa,hc,AB]
  .rw [Ya (by rw [hb i x hx,if_neg hc])]
   simp only[Xa,eq_false_of_ne_true hc,Aj,AF,if_false]
theorem ZnX {b:List Zg}(hl:b.length<=1048576) {i:Nat}{x:Zg}(hx:b[i]?=some x):
  (if Yp x.var=true then (if ZW x.value=true then (if (decide (0<((i:Nat):Int)))=true then (atI b (IntKind.i64.wrap (((i:Nat):Int) - 1))).bind fun a=>if (sLt a.var x.var)=true then some (.inl ()) else some (.inr false) else some (.inl ())) else some (.inr false)) else some (.inr false):Option (Unit ⊕ Bool))
   = if (Ziy x&&Zie (ZfH b i) x.var)=true then some (.inl ()) else some (.inr false):=by
 have hi:=(AI.1 hx).1
 unfold Ziy
 cases Yp x.var with
 |false=>simp
 |true=>
  cases ZW x.value with
  |false=>simp
  |true=>
   rw [if_pos rfl,if_pos rfl]
   by_cases h0:i=0
   .subst h0
    rw [if_neg yG]
    simp [ZfH,Zie]
   .have hp:ZfH b i=some (b[i - 1]).var:=by unfold ZfH;rw [if_neg h0,AM yE];rfl
    rw [if_pos (by simp;omega),show ((i:Nat):Int) - 1=((i - 1:Nat):Int) by omega,ZeC yE yE,Yk,AM yE,A0,hp]
    simp [Zie]
theorem ZbK (b:List Zg):Qm b=some (Yj b):=by
 unfold Qm Yj
 by_cases h6:b.length<=6
 .rw [if_neg (by simp;omega),Zj6 (b:=b) (fun i x hx=>by
   rw [Zae,A0,Qu]
   exact ZnX yE hx) b 0 rfl,decide_eq_true h6]
  show (if Xa none b=true then some true else some false)=_
  cases Xa none b<;>rfl
 .rw [if_pos (by simp;omega),decide_eq_false h6]
  rfl
theorem ZbW (b:List Zg) (hl:b.length<=1048576):Ql b=some (Yj b):=by
 unfold Ql Yj
 rw [Zj6 (b:=b) (fun i x hx=>by
   rw [Qz,A0,Qq]
   exact ZnX hl hx) b 0 rfl]
 show (if Xa none b=true then some (decide (((b.length:Nat):Int)<=6)) else some false)=_
 have:decide (((b.length:Nat):Int)<=6)=decide (b.length<=6):=by rw [AC];simp;omega
 rw [this]
 cases Xa none b<;>simp
def Zyl (b:List Zg) (t:ByteArray):ByteArray×Bool:=match Zct b t with|some v=>(v,true)|none=>(⟨#[]⟩,false)
def ZxG:Option ByteArray->ByteArray×Bool
 |some v=>(v,true)
 |none=>(⟨#[]⟩,false)
theorem Zex (b:List Zg) (t:ByteArray):Zyl b t=ZxG (Zct b t):=by unfold Zyl ZxG;cases Zct b t<;>rfl
theorem Zlu {t:ByteArray}{body:Nat->Zg->Unit->Option (Unit ⊕ (ByteArray×Bool))}(hb:∀i x,body i x ()=if x.var=t then some (.inr (x.value,true)) else some (.inl ())):
  ∀(b:List Zg) (i:Nat),Zv body (fun _=>some ((⟨#[]⟩),false)) b i ()=some (ZxG (Xy b t))
 | [],_=>rfl
 |x::b,i=>by
  by_cases hx:x.var=t
  .rw [Ya (by rw [hb,if_pos hx])]
   simp [Xy,hx,ZxG]
  .rw [ZK (by rw [hb,if_neg hx]),Zlu hb b (i+1)]
   simp [Xy,hx]
theorem ZfI (b:List Zg) (t:ByteArray):Zcd b t=some (Zyl b t):=by
 unfold Zcd
 rw [Zex,Qu,A0]
 unfold Zct
 by_cases ha:ZW t=true
 .rw [if_pos ha,if_pos ha];rfl
 .rw [if_neg ha,if_neg ha,Zae,A0]
  by_cases hv:Yp t=true
  .rw [if_pos hv,if_pos hv,Zlu]
   intro i x
   by_cases hx:x.var=t
   .rw [if_pos (Zz.2 hx),if_pos hx]
   .rw [if_neg (by rw [Zz];exact hx),if_neg hx]
  .rw [if_neg hv,if_neg hv];rfl
theorem ZfY (b:List Zg) (t:ByteArray):Zcn b t=some (Zyl b t):=by
 unfold Zcn
 rw [Zex,Qq,A0]
 unfold Zct
 by_cases ha:ZW t=true
 .rw [if_pos ha,if_pos ha];rfl
 .rw [if_neg ha,if_neg ha]
  by_cases hv:Yp t=true
  .rw [if_pos hv,Zlu]
   intro i x
   by_cases hx:x.var=t
   .rw [if_pos (Zz.2 hx),if_pos hx,Qz,A0,if_pos hv]
   .rw [if_neg (by rw [Zz];exact hx),if_neg hx]
  .rw [if_neg hv,XO (p:=fun _=>true) (r:=((⟨#[]⟩:ByteArray),false))]
   .simp [ZxG]
   .intro i x _
    rw [Qz,A0,if_neg hv]
    split<;>rfl
theorem ZrN {a v:ByteArray}:((sLt a v||sEq a v)=true)↔¬sLt v a=true:=by
 rw [Aa,Zz]
 constructor
 .rintro (h|h)
  .rw [Zj4 h];simp
  .rw [h,Zin];simp
 .intro h
  by_cases e:a=v
  .exact .inr e
  .exact .inl (Zfr (by simpa using h) (fun e2=>e e2.symm))
theorem Zrf {ρ:Type}{v w:ByteArray}{K:List Zg->Option ρ}{body:Nat->Zg->(List Zg×Bool)->Option ((List Zg×Bool) ⊕ ρ)}{fin:(List Zg×Bool)->Option ρ}
  (h1:∀i x row,row.length<=1000->body i x (row,true)=some (.inl (row++[x],true)))
  (h2:∀i x row,row.length<=1000->body i x (row,false)=if (sLt x.var v||sEq x.var v)=true then some (.inl (row++[x],false)) else some (.inl ((row++[{ var:=v,value:=w }])++[x],true)))
  (h3:∀row,row.length<=1000->fin (row,true)=K row) (h4:∀row,row.length<=1000->fin (row,false)=K (row++[{ var:=v,value:=w }])) (b:List Zg) (hb:b.length<=100):Zv body fin b 0 ([],false)=K (ZfL b v w):=by
 rw [Zff (fun l _ s=>K (s.1++(if s.2=true then l else ZfL l v w))) (fun l _ s=>s.1.length+2*l.length<=900) ?_ ?_ b 0 ([],false) (by simp;omega)]
 .simp
 .rintro i ⟨row,a⟩ hI
  simp only[Aw]at hI
  cases a with
  |true=>rw [h3 row yE];simp
  |false=>rw [h4 row yE];simp [ZfL]
 .rintro x l i ⟨row,a⟩ hI
  simp only[AE]at hI
  left
  cases a with
  |true=>exact ⟨_,h1 i x row yE,by simp;omega,yG⟩
  |false=>
   rw [h2 i x row yE]
   by_cases hs:sLt v x.var=true
   .rw [if_neg (by rw [ZrN];simpa using hs)]
    exact ⟨_,rfl,by simp;omega,by simp [ZfL,hs]⟩
   .rw [if_pos (ZrN.2 hs)]
    exact ⟨_,rfl,by simp;omega,by simp [ZfL,hs]⟩
def Zks:Option (List Zg)->List Zg×Bool
 |some b=>(b,true)
 |none=>([],false)
theorem Zhz {b:List Zg}{v w:ByteArray}(h:¬(Yj b=true/\Yp v=true/\ZW w=true)):Zks (Zg8 b v w)=([],false):=by
 unfold Zg8
 rw [if_neg h]
 rfl
theorem ZiX {b:List Zg}{v w:ByteArray}(h1:Yj b=true) (h2:Yp v=true) (h3:ZW w=true):Zg8 b v w=match Xy b v with|some a=>if a=w then some b else none|none=>if b.length=6 then none else some (ZfL b v w):=by
 unfold Zg8
 exact if_pos ⟨h1,h2,h3⟩
theorem Zbp {b:List Zg}(h:Yj b=true):b.length<=6:=by
 unfold Yj at h
 rw [AA,decide_eq_true_iff]at h
 exact h.1
theorem Zr9 (b:List Zg) (v w:ByteArray):ZgX b v w=some (Zks (Zg8 b v w)):=by
 unfold ZgX
 rw [ZbK,A0]
 by_cases h1:Yj b=true
 .rw [if_pos h1,Zae,A0]
  by_cases h2:Yp v=true
  .rw [if_pos h2,Qu,A0]
   by_cases h3:ZW w=true
   .have h6:=Zbp h1
    rw [if_pos h3,ZfI,A0,Zex,Zl7 h2]
    cases hg:Xy b v with
    |some a=>
     have hx:Zg8 b v w=if a=w then some b else none:=by rw [ZiX h1 h2 h3,hg]
     rw [hx]
     show (if true=true then (if sEq a w=true then _ else _) else _)=_
     rw [if_pos rfl]
     by_cases he:a=w
     .rw [if_pos (Zz.2 he),if_pos he]
      unfold ZbA
      rw [Zr _ yE]
      rfl
     .rw [if_neg (by rw [Zz];exact he),if_neg he]
      rfl
    |none=>
     have hx:Zg8 b v w=if b.length=6 then none else some (ZfL b v w):=by rw [ZiX h1 h2 h3,hg]
     rw [hx]
     show (if false=true then _ else _)=_
     rw [if_neg yG]
     by_cases hl:b.length=6
     .rw [if_pos (by simp;omega),if_pos hl]
      rfl
     .rw [if_neg (by simp;omega),if_neg hl]
      refine Zrf (K:=fun r=>some (r,true)) (fun i x row hr=>?_) (fun i x row hr=>?_) (fun row hr=>?_) (fun row hr=>?_) b yE
      .show (if true=true then _ else _)=_
       rw [if_pos rfl,Zr _ yE]
      .show (if false=true then _ else _)=_
       rw [if_neg yG]
       split
       .rw [Zr _ yE]
       .rw [Zr _ yE,Zr _ yE]
      .show (if true=true then _ else _)=_
       rw [if_pos rfl]
      .show (if false=true then _ else _)=_
       rw [if_neg yG,Zr _ yE]
   .rw [if_neg h3,Zhz (fun h=>h3 h.2.2)]
  .rw [if_neg h2,Zhz (fun h=>h2 h.2.1)]
 .rw [if_neg h1,Zhz (fun h=>h1 h.1)]
theorem Zsv (b:List Zg) (v w:ByteArray) (hb:b.length<=100):ZiW b v w=some (ZfL b v w):=by
 unfold ZiW
 refine Zrf (K:=fun r=>some r) (fun i x row hr=>?_) (fun i x row hr=>?_) (fun row hr=>?_) (fun row hr=>?_) b hb
 .show (if true=true then _ else _)=_
  rw [if_pos rfl,Zr _ yE]
 .show (if false=true then _ else _)=_
  rw [if_neg yG]
  split
  .rw [Zr _ yE]
  .rw [Zr _ yE,Zr _ yE]
 .show (if true=true then _ else _)=_
  rw [if_pos rfl]
 .show (if false=true then _ else _)=_
  rw [if_neg yG,Zr _ yE]
theorem Zr1 (b:List Zg) (v w:ByteArray) (hb:b.length<=1048576):ZgJ b v w=some (Zks (Zg8 b v w)):=by
 unfold ZgJ
 rw [ZbW b hb,A0]
 by_cases h1:Yj b=true
 .rw [if_pos h1,Qz,A0]
  by_cases h2:Yp v=true
  .rw [if_pos h2,Qq,A0]
   by_cases h3:ZW w=true
   .have h6:=Zbp h1
    rw [if_pos h3,ZfY,A0,Zex,Zl7 h2]
    cases hg:Xy b v with
    |some a=>
     have hx:Zg8 b v w=if a=w then some b else none:=by rw [ZiX h1 h2 h3,hg]
     rw [hx]
     show (if true=true then (if sEq a w=true then _ else _) else _)=_
     rw [if_pos rfl]
     by_cases he:a=w
     .rw [if_pos (Zz.2 he),if_pos he]
      unfold ZcW
      rw [Zr _ yE]
      rfl
     .rw [if_neg (by rw [Zz];exact he),if_neg he]
      rfl
    |none=>
     have hx:Zg8 b v w=if b.length=6 then none else some (ZfL b v w):=by rw [ZiX h1 h2 h3,hg]
     rw [hx]
     show (if false=true then _ else _)=_
     rw [if_neg yG]
     by_cases hl:b.length=6
     .rw [if_pos (by simp;omega),if_pos hl]
      rfl
     .rw [if_neg (by simp;omega),if_neg hl,Zsv _ _ _ yE]
      rfl
   .rw [if_neg h3,Zhz (fun h=>h3 h.2.2)]
  .rw [if_neg h2,Zhz (fun h=>h2 h.2.1)]
 .rw [if_neg h1,Zhz (fun h=>h1 h.1)]
theorem ZfC {fa:List ByteArray}{body:Nat->ByteArray->List Zg->Option (List Zg ⊕ (List Zg×Bool))}
  (hb:∀i a w row,fa[i]?=some w->Yj row=true->body i a row=if ZW a=true then (if a=w then some (.inl row) else some (.inr ([],false))) else (match Zg8 row a w with|some r=>some (.inl r)|none=>some (.inr ([],false)))):
  ∀(l:List ByteArray) (i:Nat) (row:List Zg),i+l.length=fa.length->Yj row=true->Zv body (fun row=>some (row,true)) l i row=some (Zks (Ze5 l (fa.drop i) row))
 | [],i,row,_,_=>by simp [Zv,Ze5,Zks]
 |a::l,i,row,h,hr=>by
  simp only[AE]at h
  have hi:i<fa.length:=by omega
  have hw:fa[i]?=some fa[i]:=AM hi
  rw [Ah hi]
  simp only[Ze5]
  have e:=hb i a _ row hw hr
  by_cases ha:ZW a=true
  .rw [if_pos ha]at e ⊢
   by_cases hq:a=fa[i]
   .rw [if_pos hq]at e ⊢
    rw [ZK e]
    exact ZfC hb l (i+1) row yE hr
   .rw [if_neg hq]at e ⊢
    rw [Ya e]
    rfl
  .rw [if_neg ha]at e ⊢
   cases hx:Zg8 row a fa[i]with
   |none=>
    rw [hx]at e
    rw [Ya e]
    rfl
   |some r=>
    rw [hx]at e
    rw [ZK e,A0]
    exact ZfC hb l (i+1) r yE (Zt6 hx).1
theorem ZbL (p:Zj) (f:Zk) (b:List Zg):Qt p f b=some (Zks (X1 p f b)):=by
 unfold Qt X1 Zja
 rw [Zef,A0]
 cases h1:YM p with
 |false=>rfl
 |true=>
  rw [if_pos rfl,ZeE,A0]
  cases h2:ZaF f with
  |false=>rfl
  |true=>
   rw [if_pos rfl,ZbK,A0]
   cases h3:Yj b with
   |false=>rfl
   |true=>
    rw [if_pos rfl]
    by_cases h4:p.rel=f.rel
    .rw [if_pos (Zz.2 h4),decide_eq_true h4]
     by_cases h5:p.args.length=f.args.length
     .have h6:=Zbp h3
      rw [if_neg (by simp;omega),decide_eq_true h5]
      unfold ZbA
      rw [Zr _ yE,A0]
      rw [ZfC (fa:=f.args) (fun i a w row hw hr=>?_) p.args 0 b yE h3]
      .rfl
      .rw [Qu,A0,Yk,hw,A0,A0]
       split
       .by_cases hq:a=w
        .rw [if_pos (Zz.2 hq),if_pos hq]
        .rw [if_neg (by rw [Zz];exact hq),if_neg hq]
       .rw [Zr9,A0]
        cases Zg8 row a w<;>rfl
     .rw [if_pos (by simp;omega),decide_eq_false h5]
      rfl
    .rw [if_neg (by rw [Zz];exact h4),decide_eq_false h4]
     rfl
theorem ZgY (p:Zj) (f:Zk) (b:List Zg) (hb:b.length<=1048576):Zby p f b=some (Zks (X1 p f b)):=by
 unfold Zby X1 Zja
 rw [Zec,A0]
 cases h1:YM p with
 |false=>rfl
 |true=>
  rw [if_pos rfl,ZgS,A0]
  cases h2:ZaF f with
  |false=>rfl
  |true=>
   rw [if_pos rfl,ZbW b hb,A0]
   cases h3:Yj b with
   |false=>rfl
   |true=>
    rw [if_pos rfl]
    by_cases h4:p.rel=f.rel
    .rw [if_pos (Zz.2 h4),decide_eq_true h4]
     by_cases h5:p.args.length=f.args.length
     .have h6:=Zbp h3
      rw [if_neg (by simp;omega),decide_eq_true h5]
      unfold ZcW
      rw [Zr _ yE,A0]
      rw [ZfC (fa:=f.args) (fun i a w row hw hr=>?_) p.args 0 b yE h3]
      .rfl
      .have hr6:=Zbp hr
       rw [Qq,A0,Yk,hw,A0,A0]
       split
       .by_cases hq:a=w
        .rw [if_pos (Zz.2 hq),if_pos hq]
        .rw [if_neg (by rw [Zz];exact hq),if_neg hq]
       .rw [Zr1 _ _ _ yE,A0]
        cases Zg8 row a w<;>rfl
     .rw [if_pos (by simp;omega),decide_eq_false h5]
      rfl
    .rw [if_neg (by rw [Zz];exact h4),decide_eq_false h4]
     rfl
theorem ZfO (o:Option (List Zg)):(Zks o).2=o.isSome:=by cases o<;>rfl
theorem Zbe (p:Zj) (b:List Zg) (F:List Zk) (hF:F.length<=1048576) (ha:∀f∈F,f.args.length<=1048576):Y7 p b F=some (Qi p b F):=by
 unfold Y7 Qi
 rw [Zg6 (p:=fun f=>(X1 p f b).isSome)]
 .simp
 .intro j f s mf hs
  rw [ZbL,A0,ZfO]
  split
  .rw [Za0 f (ha f mf),A0,Zr _ (by simp at hs;omega)]
  .rfl
theorem Zbm (p:Zj) (b:List Zg) (F:List Zk) (hb:b.length<=1048576) (hF:F.length<=1048576) (ha:∀f∈F,f.args.length<=1048576):Y4 p b F=some (Qi p b F):=by
 unfold Y4 Qi
 rw [Zg6 (p:=fun f=>(X1 p f b).isSome)]
 .simp
 .intro j f s mf hs
  rw [ZgY _ _ _ hb,A0,ZfO]
  split
  .rw [ZeJ f (ha f mf),A0,Zr _ (by simp at hs;omega)]
  .rfl
theorem Zmo (x:Zf) (b:List Zg):ZcT x b=some (ZmM x b):=by
 unfold ZcT ZmM ZiL
 rw [Zg1,A0]
 cases h1:YT x with
 |false=>rfl
 |true=>
  rw [if_pos rfl,A0]
  by_cases h2:3<=x.kind
  .rw [if_pos (by simpa using h2),ZbK,A0]
   cases h3:Yj b with
   |false=>simp
   |true=>
    rw [if_pos rfl,if_pos ⟨rfl,h2,rfl⟩,ZfI,A0,ZfI,A0,Zex,Zex]
    cases Zct b x.left with
    |none=>rfl
    |some l=>
     cases Zct b x.right with
     |none=>rfl
     |some r=>
      show (if true=true then (if true=true then (if (x.kind==3)=true then some (sEq l r) else _) else _) else _)=some (ZrK x.kind l r)
      rw [if_pos rfl,if_pos rfl]
      unfold ZrK
      by_cases k3:x.kind=3
      .rw [if_pos (by simpa using k3),if_pos k3];rfl
      .rw [if_neg (by simpa using k3),if_neg k3]
       by_cases k4:x.kind=4
       .rw [if_pos (by simpa using k4),if_pos k4];rfl
       .rw [if_neg (by simpa using k4),if_neg k4,ZcL,A0,ZcL,A0]
        show (if (Zev l).2=true then (if (Zev r).2=true then some (decide ((Zev l).1<(Zev r).1)) else some false) else some false)=_
        unfold Zev ZwH
        cases Zdi l<;>cases Zdi r<;>simp
  .rw [if_neg (by simpa using h2),if_neg (fun h=>h2 h.2.1)]
theorem ZlR (x:Zf) (b:List Zg) (hb:b.length<=1048576):Zc7 x b=some (ZmM x b):=by
 unfold Zc7 ZmM Zb3
 rw [ZeB,A0]
 cases h1:YT x with
 |false=>rfl
 |true=>
  rw [if_pos rfl,A0]
  by_cases h2:3<=x.kind
  .rw [if_pos (by simpa using h2),ZbW b hb,A0]
   cases h3:Yj b with
   |false=>simp
   |true=>
    rw [if_pos rfl,if_pos ⟨rfl,h2,rfl⟩,ZfY,A0,ZfY,A0,Zex,Zex]
    cases Zct b x.left with
    |none=>rfl
    |some l=>
     cases Zct b x.right with
     |none=>rfl
     |some r=>
      show (if true=true then (if true=true then (if (x.kind==3)=true then some (sEq l r) else _) else _) else _)=some (ZrK x.kind l r)
      rw [if_pos rfl,if_pos rfl]
      unfold ZrK
      by_cases k3:x.kind=3
      .rw [if_pos (by simpa using k3),if_pos k3];rfl
      .rw [if_neg (by simpa using k3),if_neg k3]
       by_cases k4:x.kind=4
       .rw [if_pos (by simpa using k4),if_pos k4];rfl
       .rw [if_neg (by simpa using k4),if_neg k4]
        unfold Zeo
        rw [ZcB,A0,A0]
        show (if (Zev l).2=true then ((Zau r).bind fun v1=>some v1.2).bind (fun v6=>if v6=true then (XC l r).bind fun v7=>some (decide (v7<0)) else some false) else some false)=_
        unfold ZwH
        cases hl:Zdi l with
        |none=>simp [Zev,hl]
        |some m=>
         rw [if_pos (by simp [Zev,hl]),ZcB,A0,A0]
         cases hr:Zdi r with
         |none=>simp [Zev,hr]
         |some n=>
          have hd:decide (Zjq l r<0)=decide (m<n):=by
           have hc:Zjq l r=Zsa m n:=by unfold Zjq;rw [hl,hr]
           rw [hc,AC,decide_eq_true_iff,decide_eq_true_iff]
           unfold Zsa
           split
           .omega
           .split<;>omega
          rw [if_pos (by simp [Zev,hr]),Zey,A0,hd]
  .rw [if_neg (by simpa using h2),if_neg (fun h=>h2 h.2.1)]
theorem Zgl (x:Zf) (b:List Zg) (F:List Zk) (hF:F.length<=1048576) (ha:∀f∈F,f.args.length<=1048576):Zc8 x b F=some (Zkb x b F):=by
 unfold Zc8 Zkb
 rw [Zg1,A0]
 cases h1:YT x with
 |false=>rfl
 |true=>
  rw [if_pos rfl,ZbK,A0]
  cases h3:Yj b with
  |false=>rfl
  |true=>
   rw [if_pos rfl,if_pos (show true=true/\true=true from ⟨rfl,rfl⟩)]
   by_cases k1:x.kind=1
   .rw [if_pos (by simpa using k1),if_pos k1,Zbe _ _ _ hF ha,A0]
    congr 1
    rw [AC];simp
   .rw [if_neg (by simpa using k1),if_neg k1]
    by_cases k2:x.kind=2
    .rw [if_pos (by simpa using k2),if_pos k2,Zbe _ _ _ hF ha,A0,Zxj]
    .rw [if_neg (by simpa using k2),if_neg k2,Zmo]
     rfl
theorem Zml (x:Zf) (b:List Zg) (F:List Zk) (hb:b.length<=1048576) (hF:F.length<=1048576) (ha:∀f∈F,f.args.length<=1048576):Zc3 x b F=some (Zkb x b F):=by
 unfold Zc3 Zkb
 rw [ZeB,A0]
 cases h1:YT x with
 |false=>rfl
 |true=>
  rw [if_pos rfl,ZbW b hb,A0]
  cases h3:Yj b with
  |false=>rfl
  |true=>
   rw [if_pos rfl,if_pos (show true=true/\true=true from ⟨rfl,rfl⟩)]
   by_cases k1:x.kind=1
   .rw [if_pos (by simpa using k1),if_pos k1,Zbm _ _ _ hb hF ha,A0]
    congr 1
    rw [AC];simp
   .rw [if_neg (by simpa using k1),if_neg k1]
    by_cases k2:x.kind=2
    .rw [if_pos (by simpa using k2),if_pos k2,Zbm _ _ _ hb hF ha,A0,Zxj]
    .rw [if_neg (by simpa using k2),if_neg k2,ZlR _ _ hb]
     rfl
theorem ZrT {r:Zl}(h:Zba r=true):r.cond.length<=4/\r.thn.length<=2:=by
 simp only[Zba,AA,decide_eq_true_eq]at h
 omega
theorem ZkP (s:ByteArray):Q2 s []=some s:=rfl
theorem Zj5 (x:Zf) (h:x.pattern.args.length<=1048576):Xe x []=some x:=by
 unfold Xe
 simp only[ZkP,A0]
 rw [Xs (g:=fun y=>y)]
 .simp
 .intro j y s _ hs
  rw [Zr _ (by simp at hs;omega)]
theorem Zg3 (x:Zf) (h:x.pattern.args.length<=1048576):ZcV x=some x:=by
 unfold ZcV
 rw [Zj5 x h]
 rfl
theorem ZtS {l:List Nat}{x:Nat}(h:x∈l):x<=l.sum:=by
 induction l with
 |nil=>simp at h
 |cons a r ih=>
  rcases AD.1 h with h|h
  .subst h;simp
  .have:=ih h;simp;omega
theorem Zfs {α:Type}{f:α->Nat}{l:List α}{n:Nat}(h:l.length+(l.map f).sum<=n) {x:α}(hx:x∈l):f x<=n:=by
 have:=ZtS (List.mem_map_of_mem (f:=f) hx)
 omega
theorem Zru {l:List Zf}(h:Y1 l<=1048576):l.length<=1048576/\∀x∈l,x.pattern.args.length<=1048576:=by
 unfold Y1 at h
 refine ⟨yE,fun x mx=>?_⟩
 have:=Zfs (f:=Yo) h mx
 simp only[Yo,Z1,XU]at this
 omega
theorem ZlS {r:Zl}(h:Yl r<=1048576):XI r:=by
 simp only[Yl]at h
 have h1:Y1 r.cond<=1048576:=by omega
 have h2:Yv r.thn<=1048576:=by omega
 obtain ⟨a,b⟩:=Zru h1
 refine ⟨a,?_,b,fun x mx=>?_⟩
 .unfold Yv at h2;omega
 .unfold Yv at h2
  have:=Zfs (f:=YB) h2 mx
  simp only[YB,Z1,XU]at this
  omega
section
section
variable {α σ ρ:Type} {body:Nat->α->σ->Option (σ ⊕ ρ)}
theorem Zn1 (I:List α->σ->Prop) (Q:ρ->Prop):∀(l a:List α) (s:σ),I a s->(∀p x s,x∈l->p.length<a.length+l.length->I p s->(∃s',body p.length x s=some (.inl s')/\I (p++[x]) s')\/∃r,body p.length x s=some (.inr r)/\Q r)->
  (∃s',(∀fin:σ->Option ρ,Zv body fin l a.length s=fin s')/\I (a++l) s')\/∃r,(∀fin:σ->Option ρ,Zv body fin l a.length s=some r)/\Q r
 | [],a,s,h,_=>.inl ⟨s,fun _=>rfl,by simpa using h⟩
 |x::l,a,s,h,hs=>by
  rcases hs a x s yG yG h with ⟨s',e,h'⟩|⟨r,e,h'⟩
  .rcases Zn1 I Q l (a++[x]) s' h' fun p y s m hp hI=>hs p y s (by simp [m]) (by simp at hp ⊢;omega) hI with ⟨s2,e2,h2⟩|⟨r,e2,h2⟩
   .refine .inl ⟨s2,fun fin=>?_,by simpa using h2⟩
    rw [ZK e]
    simpa using e2 fin
   .refine .inr ⟨r,fun fin=>?_,h2⟩
    rw [ZK e]
    simpa using e2 fin
  .exact .inr ⟨r,fun fin=>Ya e,h'⟩
theorem Zu7 (I:List α->σ->Prop) (Q:ρ->Prop) (l:List α) (s:σ) (h:I [] s) (hs:∀p x s,x∈l->p.length<l.length->I p s->(∃s',body p.length x s=some (.inl s')/\I (p++[x]) s')\/∃r,body p.length x s=some (.inr r)/\Q r):
  (∃s',(∀fin:σ->Option ρ,Zv body fin l 0 s=fin s')/\I l s')\/∃r,(∀fin:σ->Option ρ,Zv body fin l 0 s=some r)/\Q r:=by
 have:=Zn1 I Q l [] s h fun p x s m hp hI=>hs p x s m (by simpa using hp) hI
 simpa using this
end
theorem Zwp {m:List (ByteArray×Bool)}{k y:ByteArray}:Za2 (Zft m k true) y false=if y=k then true else Za2 m y false:=by
 unfold Za2
 induction m with
 |nil=>
  by_cases h:y=k<;>simp [Zft,Zd4,h]
 |cons p r ih=>
  simp only[Zft]
  by_cases h:k=p.1
  .subst h
   rw [if_pos rfl]
   by_cases h2:y=p.1
   .simp [Zd4,h2]
   .simp [Zd4,h2]
  .rw [if_neg h]
   by_cases h2:y=p.1
   .subst h2
    have:¬p.1=k:=fun e=>h e.symm
    simp [Zd4,this]
   .simp only[Zd4,if_neg h2];exact ih
theorem ZdA {σ ρ:Type}{body:σ->Option (σ ⊕ ρ)}{s s':σ}(h:body s=some (.inl s')):ZaT body s=ZaT body s':=by rw [Zli,h]
theorem ZaN {σ ρ:Type}{body:σ->Option (σ ⊕ ρ)}{s:σ}{r:ρ}(h:body s=some (.inr r)):ZaT body s=some r:=by rw [Zli,h]
open Classical
end
section
theorem ZuC (l:List Zl) (n:ByteArray):∃z,QB l n=some z:=by
 unfold QB
 rcases Zu7 (ρ:=Int) (body:=fun (i4:Nat) (x5:Zl) (_:Unit)=>
   if (sEq x5.name n)=true then
    some (.inr ((i4:Nat):Int))
   else
    some (.inl ())) (fun _ _=>True) (fun _=>True) l () trivial (fun p x s mx hp _=>by
  cases h:sEq x.name n with
  |true=>exact .inr ⟨_,by rw [if_pos rfl],trivial⟩
  |false=>exact .inl ⟨(),by rw [if_neg yG],trivial⟩) with ⟨s,e,_⟩|⟨z,e,_⟩
 .exact ⟨-1,e _⟩
 .exact ⟨z,e _⟩
noncomputable def ZeT (l:List Zl) (n:ByteArray):Int:=(QB l n).getD 0
theorem ZcJ (l:List Zl) (n:ByteArray):QB l n=some (ZeT l n):=by
 obtain ⟨z,h⟩:=ZuC l n
 unfold ZeT
 rw [h];rfl
theorem ZhM (l:List Zl) (n:ByteArray):ZdX l n=some (ZeT l n):=ZcJ l n
noncomputable def ZgZ (R:List Zl) (j:Nat) (r:Zl):Bool:=Zba r&&(ZeT R r.name==((j:Nat):Int))
noncomputable def Yr (R:List Zl):Bool:=decide (R.length<=6)&&Zdw (ZgZ R) R 0
theorem ZhX {R:List Zl}(h:∀r∈R,XI r):Zcs R=some (Yr R):=by
 unfold Zcs Yr
 by_cases h6:R.length<=6
 .rw [if_neg (by simp;omega),decide_eq_true h6,AB,ZaP (p:=ZgZ R) (r:=false)]
  .cases Zdw (ZgZ R) R 0<;>rfl
  .intro j r hj
   rw [Zrx r (h r (AQ hj)),A0,ZcJ]
   unfold ZgZ
   simp only[A0,AK]
   cases Zba r with
   |false=>rfl
   |true=>
    by_cases hf:ZeT R r.name=((j:Nat):Int)
    .simp [hf]
    .have e:(ZeT R r.name==((j:Nat):Int))=false:=by simpa using hf
     simp [e,hf]
 .rw [if_pos (by simp;omega),decide_eq_false h6];rfl
theorem ZhR {R:List Zl}(h:∀r∈R,XI r):Zcj R=some (Yr R):=by
 unfold Zcj Yr
 rw [ZaP (p:=ZgZ R) (r:=false)]
 .have:decide (((R.length:Nat):Int)<=6)=decide (R.length<=6):=by rw [AC];simp;omega
  rw [this]
  cases Zdw (ZgZ R) R 0<;>simp
 .intro j r hj
  rw [ZrV r (h r (AQ hj)),A0,ZhM]
  unfold ZgZ
  simp only[A0,AK]
  cases Zba r with
  |false=>rfl
  |true=>
   by_cases hf:ZeT R r.name=((j:Nat):Int)
   .simp [hf]
   .have e:(ZeT R r.name==((j:Nat):Int))=false:=by simpa using hf
    simp [e,hf]
open Classical
end
section
open Classical
noncomputable def Zhj (F:List Zk) (i:Nat) (x:Zk):Bool:=ZaF x&&(if i=0 then true else match F[i - 1]? with|some y=>decide (Zs5 y x<0)|none=>true)
noncomputable def XM (F:List Zk):Bool:=decide (F.length<=24)&&Zdw (Zhj F) F 0
theorem Zmr {α:Type}{p:Nat->α->Bool}{q:α->Bool}(h:∀i x,p i x=true->q x=true):∀{l:List α}{i:Nat},Zdw p l i=true->∀x∈l,q x=true
 | [],_,_=>by simp
 |y::l,i,ha=>by
  simp only[Zdw,AA]at ha
  intro x mx
  rcases AD.1 mx with rfl|mx
  .exact h i _ ha.1
  .exact Zmr h ha.2 x mx
theorem ZpY {F:List Zk}(h:XM F=true):F.length<=24/\∀f∈F,ZaF f=true:=by
 unfold XM at h
 rw [AA,decide_eq_true_iff]at h
 refine ⟨h.1,Zmr (fun i x hx=>?_) h.2⟩
 unfold Zhj at hx
 rw [AA]at hx
 exact hx.1
theorem Zvi {f:Zk}(h:ZaF f=true):f.args.length<=3:=by
 unfold ZaF at h
 simp only[AA,decide_eq_true_iff]at h
 exact h.1.2
theorem Zog {F:List Zk}(hl:F.length<=1048576) {i:Nat}{x:Zk}(hx:F[i]?=some x):
  (if ZaF x=true then (if (decide (0<((i:Nat):Int)))=true then (atI F (IntKind.i64.wrap (((i:Nat):Int) - 1))).bind fun a=>(some (Zs5 a x)).bind fun b=>if (decide (0<=b))=true then some (.inr false) else some (.inl ()) else some (.inl ())) else some (.inr false):Option (Unit ⊕ Bool))
   = some (bif Zhj F i x then .inl () else .inr false):=by
 have hi:=(AI.1 hx).1
 unfold Zhj
 cases ZaF x with
 |false=>rfl
 |true=>
  rw [if_pos rfl]
  by_cases h0:i=0
  .subst h0
   rw [if_neg yG]
   simp
  .have hg:F[i - 1]?=some F[i - 1]:=AM yE
   rw [if_pos (by simp;omega),show ((i:Nat):Int) - 1=((i - 1:Nat):Int) by omega,ZeC yE yE,Yk,hg,A0,A0,if_neg h0]
   by_cases hc:Zs5 F[i - 1] x<0
   .rw [if_neg (by simpa using hc)]
    simp [hc]
   .rw [if_pos (by simpa using hc)]
    simp [hc]
theorem Zh1 (F:List Zk):Zbi F=some (XM F):=by
 unfold Zbi XM
 by_cases h:F.length<=24
 .rw [if_neg (by simp;omega),decide_eq_true h,ZaP (p:=Zhj F) (r:=false)]
  .cases Zdw (Zhj F) F 0<;>rfl
  .intro j x hx
   rw [AK,ZeE,A0]
   simp only[Zi5]
   exact Zog yE hx
 .rw [if_pos (by simp;omega),decide_eq_false h]
  rfl
theorem Zh9 (F:List Zk) (hl:F.length<=1048576):Zcw F=some (XM F):=by
 unfold Zcw XM
 rw [ZaP (p:=Zhj F) (r:=false)]
 .have:decide (((F.length:Nat):Int)<=24)=decide (F.length<=24):=by rw [AC];simp;omega
  rw [this]
  cases Zdw (Zhj F) F 0<;>simp
 .intro j x hx
  rw [AK,ZgS,A0]
  simp only[Zjw]
  exact Zog hl hx
theorem Zeq (l:List Zk) (hl:l.length<=1048576) (h:∀f∈l,f.args.length<=1048576):Zaf l=some l:=by
 unfold Zaf
 rw [Xs (g:=fun y=>y)]
 .simp
 .intro j y s my hs
  rw [Za0 y (h y my),A0,Zr _ (by simp at hs;omega)]
theorem ZhO (l:List Zk) (hl:l.length<=1048576) (h:∀f∈l,f.args.length<=1048576):Zcf l=some l:=by
 unfold Zcf
 rw [Xs (g:=fun y=>y)]
 .simp
 .intro j y s my hs
  rw [ZeJ y (h y my),A0,Zr _ (by simp at hs;omega)]
structure Zy0 (F:List Zk) (t:Zs):Prop where
 bind:t.binding.length<=6
 len:t.facts.length<=4
 args:∀f∈t.facts,f.args.length<=3
theorem ZmB.s {p:List Zf}{F:List Zk}{t:Zs}(h:ZmB p F t) (hp:p.length<=4) (hF:∀f∈F,f.args.length<=3):Zy0 F t:=
 ⟨Zbp h.bind,by have:=h.len;omega,fun f mf=>hF f (h.sub f mf)⟩
theorem Zom {ρ:Type}{x:Zf}{F:List Zk}{body:Nat->Zs->List Zs->Option (List Zs ⊕ ρ)}{fin:List Zs->Option ρ}(hF:F.length<=24) (ts:List Zs) (hts:ts.length<=331776)
  (hb:∀i t row,t∈ts->row.length<=10000000->body i t row=some (.inl (row++QV x F t))):Zv body fin ts 0 []=fin (Zfa x F ts):=by
 have a:Zfa x F []=[]:=rfl
 rw [<-a,Zkg (fun p=>Zfa x F p) ts]
 intro p t q e
 have hl:=Zju x F hF p
 have hp:p.length<=ts.length:=by rw [e];simp
 rw [hb _ _ _ (by rw [e];simp) yE]
 unfold Zfa
 rw [List.flatMap_append]
 simp
theorem ZhV (l:List Zf) (F:List Zk) (hl:l.length<=4) (hF:F.length<=24) (hA:∀f∈F,f.args.length<=3):Ziw l F=some (Yn l F):=by
 unfold Ziw
 have h0:Yn [] F=[({ facts:=[],binding:=[] }:Zs)]:=rfl
 rw [<-h0,Zkg (fun p=>Yn p F) l]
 intro p x q e
 have hpl:p.length+(q.length+1)=l.length:=by rw [e,AR,AE]
 rw [Zdx]
 refine Zom (fin:=fun r=>(some (Sum.inl r):Option (List Zs ⊕ List Zs))) hF (Yn p F) (Ziv F hF p yE) (fun i t row mt hr=>?_)
 have ht:=(Zkd F p t mt).s yE hA
 unfold QV
 by_cases hk:x.kind=1
 .rw [if_neg (by simpa using hk),if_pos hk,QZ (g:=fun f=>(X1 x.pattern f t.binding).map fun b=>({ facts:=t.facts++[f],binding:=b }:Zs))]
  intro j f s mf hs
  rw [ZbL,A0,ZfO]
  cases hm:X1 x.pattern f t.binding with
  |none=>simp
  |some b=>
   simp only[Ay,if_true]
   rw [Zeq _ (by have:=ht.len;omega) (fun g mg=>by have:=ht.args g mg;omega),A0,Za0 f (by have:=hA f mf;omega),A0,Zr _ (by have:=ht.len;omega),Zr _ yE]
   rfl
 .rw [if_pos (by simpa using hk),if_neg hk,Zgl _ _ _ yE (fun f mf=>by have:=hA f mf;omega),A0]
  split
  .rw [Zr _ yE]
  .simp
theorem Zr5 {F:List Zk}{t:Zs}(ht:Zy0 F t):ZgH t=some t:=by
 unfold ZgH ZcW
 rw [ZhO _ (by have:=ht.len;omega) (fun g mg=>by have:=ht.args g mg;omega),A0,Zr _ (by have:=ht.bind;omega)]
 rfl
theorem Zp4 (ts:List Zs) (x:Zf) (F:List Zk) (a:ts.length<=331776) (hF:F.length<=24) (hA:∀f∈F,f.args.length<=3) (ht:∀t∈ts,Zy0 F t):Zhh ts x F=some (Zfa x F ts):=by
 unfold Zhh
 refine Zom (fin:=fun r=>some r) hF ts a (fun i t row mt hr=>?_)
 have ht:=ht t mt
 have htb:=ht.bind
 unfold QV
 by_cases hk:x.kind=1
 .rw [if_neg (by simpa using hk),if_pos hk,QZ (g:=fun f=>(X1 x.pattern f t.binding).map fun b=>({ facts:=t.facts++[f],binding:=b }:Zs))]
  intro j f s mf hs
  rw [ZgY _ _ _ yE,A0,ZfO]
  cases hm:X1 x.pattern f t.binding with
  |none=>simp
  |some b=>
   simp only[Ay,if_true]
   rw [ZhO _ (by have:=ht.len;omega) (fun g mg=>by have:=ht.args g mg;omega),A0,ZeJ f (by have:=hA f mf;omega),A0,Zr _ (by have:=ht.len;omega),Zr _ yE]
   rfl
 .rw [if_pos (by simpa using hk),if_neg hk,Zml _ _ _ yE yE (fun f mf=>by have:=hA f mf;omega),A0]
  split
  .rw [Zr5 ht,A0,Zr _ yE]
  .simp
theorem Znd (l:List Zf) (F:List Zk) (hl:l.length<=4) (hF:F.length<=24) (hA:∀f∈F,f.args.length<=3):ZdT l F=some (Yn l F):=by
 unfold ZdT
 have h0:Yn [] F=[({ facts:=[],binding:=[] }:Zs)]:=rfl
 rw [<-h0,Zkg (fun p=>Yn p F) l]
 intro p x q e
 have hpl:p.length+(q.length+1)=l.length:=by rw [e,AR,AE]
 rw [Zdx,Zp4 _ _ _ (Ziv F hF p yE) hF hA (fun t mt=>(Zkd F p t mt).s yE hA)]
 rfl
theorem Zdt {R:List Zl}(h:Yr R=true):R.length<=6/\∀r∈R,Zba r=true:=by
 unfold Yr at h
 rw [AA,decide_eq_true_iff]at h
 refine ⟨h.1,Zmr (fun i x hx=>?_) h.2⟩
 unfold ZgZ at hx
 rw [AA]at hx
 exact hx.1
end
section
open Classical
theorem ZvR {α:Type}{p:Nat->α->Bool}{b:List α}(hp:∀i x,p i x=true↔b[i]?=some x):∀(a:List α),a.length=b.length->(Zdw p a 0=true↔a=b):=by
 intro a hl
 constructor
 .intro ha
  apply List.ext_getElem?
  intro i
  by_cases hi:i<a.length
  .have hx:=AM hi
   have:=ZtF ha i _ hx
   rw [AK,hp]at this
   rw [hx,this]
  .rw [Az yE,Az yE]
 .rintro rfl
  have:∀(l c:List α),a=c++l->Zdw p l c.length=true:=by
   intro l
   induction l with
   |nil=>intro c _;rfl
   |cons x l ih=>
    intro c e
    simp only[Zdw,AA]
    refine ⟨(hp _ _).2 (by rw [e];simp),?_⟩
    have:=ih (c++[x]) (by rw [e];simp)
    simpa using this
  exact this a [] rfl
theorem ZyA (a b:Zj):a=b↔a.rel=b.rel/\a.args=b.args:=⟨fun e=>by rw [e];exact ⟨rfl,rfl⟩,fun h=>by cases a;cases b;simp_all⟩
theorem Zrr (a b:Zf):a=b↔a.kind=b.kind/\a.pattern=b.pattern/\a.left=b.left/\a.right=b.right:=⟨fun e=>by rw [e];exact ⟨rfl,rfl,rfl,rfl⟩,fun h=>by cases a;cases b;simp_all⟩
theorem ZyV (a b:ZY):a=b↔a.kind=b.kind/\a.pattern=b.pattern:=⟨fun e=>by rw [e];exact ⟨rfl,rfl⟩,fun h=>by cases a;cases b;simp_all⟩
theorem Zrc (a b:Zl):a=b↔a.name=b.name/\a.priority=b.priority/\a.cond=b.cond/\a.thn=b.thn:=⟨fun e=>by rw [e];exact ⟨rfl,rfl,rfl,rfl⟩,fun h=>by cases a;cases b;simp_all⟩
theorem Zyd (a b:Zs):a=b↔a.facts=b.facts/\a.binding=b.binding:=⟨fun e=>by rw [e];exact ⟨rfl,rfl⟩,fun h=>by cases a;cases b;simp_all⟩
end
section
open Classical
def Za6 (acc:List Zg) (s:ByteArray):List Zg:=if Yp s=true/\Xy acc s=none then acc++[{ var:=s,value:=(⟨#[63]⟩:ByteArray)++ofL (Lib.itoa ((acc.length:Int)+1)) }] else acc
def Zmu (l:List ByteArray):List Zg:=l.foldl Za6 []
def ZnL (to:List Zg) (s:ByteArray):ByteArray:=(Xy to s).getD s
def Zsc (to:List Zg) (x:Zf):Zf:={ kind:=x.kind,pattern:={ rel:=x.pattern.rel,args:=x.pattern.args.map (ZnL to) },left:=ZnL to x.left,right:=ZnL to x.right }
def Zdo (p:Zj):Zj:={ rel:=p.rel,args:=p.args.map (ZnL (Zmu p.args)) }
def Zik (r:Zl):List Zg:=Zmu (r.cond.flatMap QR)
def Zcy (r:Zl):List Zf:=r.cond.map (Zsc (Zik r))
theorem Zhv (acc:List Zg) (s:ByteArray):(Za6 acc s).length<=acc.length+1:=by
 unfold Za6;split<;>simp
theorem Zi8:∀(l:List ByteArray) (acc:List Zg),(l.foldl Za6 acc).length<=acc.length+l.length
 | [],_=>by simp
 |s::l,acc=>by
  have h1:=Zi8 l (Za6 acc s)
  have h2:=Zhv acc s
  simp only[AJ,AE]
  omega
noncomputable def Zac (q:ZL->Prop):List ZL->Nat->Option Nat
 | [],_=>none
 |y::r,i=>if 0<i/\q y then some i else Zac q r (i+1)
noncomputable def Zoe (p:Zj):List Z7->Nat->Option Nat
 | [],_=>none
 |y::r,i=>if y.shape=p then some i else Zoe p r (i+1)
noncomputable def X4 (n:Ze) (p:Zj):Int×Ze:=
 match Zoe p n.alphas 0 with
 |some i=>(((i:Nat):Int),n)
 |none=>(((n.alphas.length:Nat):Int),{ n with alphas:=n.alphas++[{ shape:=p,facts:=[] }] })
noncomputable def ZV (n:Ze) (parent:Int) (x:Zf):Int×Ze:=
 match Zac (fun y=>y.parent=parent/\y.cond=x) n.nodes 0 with
 |some i=>(((i:Nat):Int),n)
 |none=>
  let a:Int×Ze:=if x.kind=1\/x.kind=2 then X4 n (Zdo x.pattern) else (-1,n)
  (((n.nodes.length:Nat):Int),{ a.2 with nodes:=n.nodes++[{ parent:=parent,cond:=x,alpha:=a.1,tokens:=[] }] })
noncomputable def YY (l:List Zf) (s:Int×Ze):Int×Ze:=l.foldl (fun s x=>ZV s.2 s.1 x) s
noncomputable def Xn (n:Ze) (r:Zl):Ze:={ (YY (Zcy r) (0,n)).2 with ends:=n.ends++[(YY (Zcy r) (0,n)).1] }
def ZvZ:Zf:={ kind:=0,pattern:={ rel:=⟨#[]⟩,args:=[] },left:=⟨#[]⟩,right:=⟨#[]⟩ }
def ZaS (R:List Zl) (t:List Zs):Ze:={ rules:=R,ends:=[],alphas:=[],nodes:=[{ parent:=-1,cond:=ZvZ,alpha:=-1,tokens:=t }],facts:=[],tries:=0 }
noncomputable def ZfX (R:List Zl) (t:List Zs):Ze:=R.foldl Xn (ZaS R t)
def ZeP (nodes:List ZL):Nat->Int->List Zf
 |0,_=>[]
 |f+1,i=>if 1<=i then (match nodes[i.toNat]? with|some y=>(if y.parent<i then ZeP nodes f y.parent else [])++[y.cond]|none=>[]) else []
def X5 (nodes:List ZL) (i:Int):List Zf:=ZeP nodes i.toNat i
theorem ZfB {a:List ZL}{f:Nat}{i:Int}(h:i<1):ZeP a f i=[]:=by
 cases f with
 |zero=>rfl
 |succ f=>unfold ZeP;rw [if_neg yE]
theorem Zm1 {a:List ZL}:∀(f g:Nat) (i:Int),i.toNat<=f->i.toNat<=g->ZeP a f i=ZeP a g i
 |0,g,i,h,_=>by rw [ZfB yE,ZfB yE]
 |f+1,0,i,_,h=>by rw [ZfB yE,ZfB yE]
 |f+1,g+1,i,h,h'=>by
  unfold ZeP
  split
  .cases a[i.toNat]? with
   |none=>rfl
   |some y=>
    simp only
    split
    .rw [Zm1 f g y.parent yE yE]
    .rfl
  .rfl
theorem ZiQ {a:List ZL}{i:Int}{y:ZL}(h1:1<=i) (hy:a[i.toNat]?=some y) (hp:y.parent<i):X5 a i=X5 a y.parent++[y.cond]:=by
 unfold X5
 obtain ⟨k,hk⟩:∃k,i.toNat=k+1:=⟨i.toNat - 1,yE⟩
 rw [hk]
 show (if 1<=i then (match a[i.toNat]? with|some y=>(if y.parent<i then ZeP a k y.parent else [])++[y.cond]|none=>[]) else [])=_
 rw [if_pos h1,hy]
 simp only[if_pos hp]
 rw [Zm1 k y.parent.toNat y.parent yE (AP _)]
theorem ZdB {a:List ZL}{i:Int}(h:i<1):X5 a i=[]:=ZfB h
def ZaW (y:ZL):Int×Zf:=(y.parent,y.cond)
theorem ZmE {a b:List ZL}(h:a.map ZaW=b.map ZaW):∀(f:Nat) (i:Int),ZeP a f i=ZeP b f i
 |0,_=>rfl
 |f+1,i=>by
  have hg:(a[i.toNat]?).map ZaW=(b[i.toNat]?).map ZaW:=by rw [<-B9,<-B9,h]
  unfold ZeP
  split
  .cases ha:a[i.toNat]? with
   |none=>rw [ha]at hg;cases hb:b[i.toNat]? with
    |none=>rfl
    |some y=>rw [hb]at hg;simp at hg
   |some x=>rw [ha]at hg;cases hb:b[i.toNat]? with
    |none=>rw [hb]at hg;simp at hg
    |some y=>
     rw [hb]at hg
     simp only[Aq,Ax,ZaW,Prod.mk.injEq]at hg
     obtain ⟨e1,e2⟩:=hg
     simp only[e1,e2,ZmE h f]
  .rfl
theorem Zf2 {a b:List ZL}(h:a.map ZaW=b.map ZaW) (i:Int):X5 a i=X5 b i:=ZmE h _ _
theorem Zoi {a:List ZL}(z:List ZL):∀(f:Nat) (i:Int),i<a.length->ZeP (a++z) f i=ZeP a f i
 |0,_,_=>rfl
 |f+1,i,h=>by
  unfold ZeP
  split
  .rw [BB yE]
   cases ha:a[i.toNat]? with
   |none=>rfl
   |some y=>
    simp only
    split
    .rw [Zoi z f y.parent yE]
    .rfl
  .rfl
theorem Zov {a:List ZL}(z:List ZL) (i:Int) (h:i<a.length):X5 (a++z) i=X5 a i:=Zoi z _ _ h
structure ZlU (n:Ze):Prop where
 one:1<=n.nodes.length
 par:∀i y,1<=i->n.nodes[i]?=some y->0<=y.parent/\y.parent<((i:Nat):Int)
 few:∀i:Nat,i<n.nodes.length->(X5 n.nodes ((i:Nat):Int)).length<=4
theorem ZkA {q:ZL->Prop}:∀{l:List ZL}{i k:Nat},Zac q l i=some k->∃y,i<=k/\l[k - i]?=some y/\0<k/\q y
 | [],_,_,h=>by simp [Zac]at h
 |y::r,i,k,h=>by
  unfold Zac at h
  split at h
  .rename_i hq
   obtain rfl:=AO h
   exact ⟨y,AP _,yG,hq.1,hq.2⟩
  .obtain ⟨z,h1,h2,h3⟩:=ZkA h
   refine ⟨z,yE,?_,h3⟩
   rw [show k - i=(k - (i+1))+1 by omega,List.getElem?_cons_succ]
   exact h2
theorem ZwB {n:Ze}{p:Int}{x:Zf}(h:ZlU n) (hp:0<=p/\p<n.nodes.length) (hl:(X5 n.nodes p).length<=3):
  ZlU (ZV n p x).2/\0<=(ZV n p x).1/\(ZV n p x).1<(ZV n p x).2.nodes.length/\(X5 (ZV n p x).2.nodes (ZV n p x).1).length=(X5 n.nodes p).length+1/\(ZV n p x).2.nodes.length<=n.nodes.length+1/\(ZV n p x).2.alphas.length<=n.alphas.length+1/\n.nodes.length<=(ZV n p x).2.nodes.length:=by
 unfold ZV
 split
 .rename_i i hi
  obtain ⟨y,h1,h2,h3,h4,h5⟩:=ZkA hi
  rw [Nat.sub_zero]at h2
  have b:=(AI.1 h2).1
  have d:=h.par i y h3 h2
  refine ⟨h,yE,by simp only;omega,?_,by simp only;omega,by simp only;omega,AP _⟩
  simp only
  rw [ZiQ (y:=y) yE (by simpa using h2) d.2,h4]
  simp
 .have ha:∀a:Int×Ze,a=(if x.kind=1\/x.kind=2 then X4 n (Zdo x.pattern) else (-1,n))->a.2.nodes=n.nodes/\a.2.alphas.length<=n.alphas.length+1:=by
   rintro a rfl
   split
   .unfold X4
    split
    .exact ⟨rfl,by simp only;omega⟩
    .exact ⟨rfl,yG⟩
   .exact ⟨rfl,by simp only;omega⟩
  generalize (if x.kind=1\/x.kind=2 then X4 n (Zdo x.pattern) else (-1,n))=a at *
  obtain ⟨a1,a2⟩:=ha a rfl
  simp only
  have hz:(n.nodes++[({ parent:=p,cond:=x,alpha:=a.1,tokens:=[] }:ZL)])[n.nodes.length]?=some { parent:=p,cond:=x,alpha:=a.1,tokens:=[] }:=by simp
  have c:X5 (n.nodes++[({ parent:=p,cond:=x,alpha:=a.1,tokens:=[] }:ZL)]) ((n.nodes.length:Nat):Int)=X5 n.nodes p++[x]:=by
   rw [ZiQ (y:={ parent:=p,cond:=x,alpha:=a.1,tokens:=[] }) (by have:=h.one;omega) yG hp.2,Zov _ _ hp.2]
  refine ⟨⟨yG,fun i y hi hy=>?_,fun i hi=>?_⟩,yE,by simp;omega,by rw [c];simp,yG,by simpa using a2,yG⟩
  .rcases Nat.lt_or_ge i n.nodes.length with b|f
   .rw [BB b]at hy
    exact h.par i y hi hy
   .have e:i=n.nodes.length:=by
     have:=(AI.1 hy).1
     simp at this;omega
    subst e
    rw [hz]at hy
    obtain rfl:=AO hy
    exact ⟨hp.1,hp.2⟩
  .rcases Nat.lt_or_ge i n.nodes.length with b|f
   .rw [Zov _ _ yE];exact h.few i b
   .have e:i=n.nodes.length:=by simp at hi;omega
    subst e
    rw [c];simp;omega
theorem Ztw:∀(l:List Zf) (p:Int) (n:Ze),ZlU n->0<=p/\p<n.nodes.length->(X5 n.nodes p).length+l.length<=4->
  ZlU (YY l (p,n)).2/\(YY l (p,n)).2.nodes.length<=n.nodes.length+l.length/\(YY l (p,n)).2.alphas.length<=n.alphas.length+l.length/\n.nodes.length<=(YY l (p,n)).2.nodes.length
 | [],p,n,h,_,_=>⟨h,by simp [YY],by simp [YY],by simp [YY]⟩
 |x::l,p,n,h,hp,hl=>by
  simp only[AE]at hl ⊢
  obtain ⟨c1,c2,c3,c4,c5,c6,c7⟩:=ZwB (x:=x) h hp yE
  have e:YY (x::l) (p,n)=YY l ((ZV n p x).1,(ZV n p x).2):=rfl
  rw [e]
  obtain ⟨w1,w2,w3,w4⟩:=Ztw l (ZV n p x).1 (ZV n p x).2 c1 ⟨c2,c3⟩ yE
  exact ⟨w1,yE,yE,yE⟩
theorem Ziq (r:Zl):(Zcy r).length=r.cond.length:=by simp [Zcy]
theorem Zpk {n:Ze}{r:Zl}(h:ZlU n) (hr:r.cond.length<=4):ZlU (Xn n r)/\(Xn n r).nodes.length<=n.nodes.length+4/\(Xn n r).alphas.length<=n.alphas.length+4/\(Xn n r).ends.length=n.ends.length+1:=by
 have h1:=h.one
 obtain ⟨w1,w2,w3,_⟩:=Ztw (Zcy r) 0 n h ⟨yE,yE⟩ (by rw [ZdB yE,Ziq];simpa using hr)
 rw [Ziq]at w2 w3
 exact ⟨⟨w1.one,w1.par,w1.few⟩,by show (YY (Zcy r) (0,n)).2.nodes.length<=_;omega,by show (YY (Zcy r) (0,n)).2.alphas.length<=_;omega,by simp [Xn]⟩
theorem Zll (R:List Zl) (t:List Zs):ZlU (ZaS R t):=⟨by simp [ZaS],fun i y hi hy=>by
 have:=(AI.1 hy).1
 simp [ZaS]at this;omega,fun i hi=>by
 simp [ZaS]at hi;subst hi
 rw [ZdB yE];simp⟩
theorem Ztv:∀(l:List Zl) (n:Ze),ZlU n->(∀r∈l,r.cond.length<=4)->ZlU (l.foldl Xn n)/\(l.foldl Xn n).nodes.length<=n.nodes.length+4*l.length/\(l.foldl Xn n).alphas.length<=n.alphas.length+4*l.length
 | [],n,h,_=>⟨h,yG,yG⟩
 |r::l,n,h,hl=>by
  obtain ⟨r1,r2,r3,_⟩:=Zpk h (hl r yG)
  obtain ⟨w1,w2,w3⟩:=Ztv l (Xn n r) r1 fun r mr=>hl r (by simp [mr])
  simp only[AJ,AE]
  exact ⟨w1,yE,yE⟩
def rt (t:List Zs) (n:Ze):Ze:={ n with nodes:=match n.nodes with | []=>[]|y::r=>{ y with tokens:=t }::r }
theorem ZyY {q:ZL->Prop}{t:List Zs}{n:Ze}:Zac q (rt t n).nodes 0=Zac q n.nodes 0:=by
 unfold rt
 simp only
 cases n.nodes with
 |nil=>rfl
 |cons y r=>simp [Zac]
theorem Zz3 {t:List Zs}{n:Ze}:(rt t n).nodes.length=n.nodes.length:=by
 unfold rt
 cases hn:n.nodes<;>simp
theorem ZwU {t:List Zs}{n:Ze}{p:Zj}:X4 (rt t n) p=((X4 n p).1,rt t (X4 n p).2):=by
 unfold X4
 rw [show (rt t n).alphas=n.alphas from rfl]
 split<;>rfl
theorem Zw5 {t:List Zs}{n:Ze}{p:Int}{x:Zf}(h:1<=n.nodes.length):ZV (rt t n) p x=((ZV n p x).1,rt t (ZV n p x).2):=by
 unfold ZV
 rw [ZyY]
 split
 .rfl
 .simp only[Zz3]
  have b:∀a:Int×Ze,a.2.nodes=n.nodes->(((n.nodes.length:Nat):Int),({ rt t a.2 with nodes:=(rt t n).nodes++[{ parent:=p,cond:=x,alpha:=a.1,tokens:=[] }] }:Ze))=(((n.nodes.length:Nat):Int),rt t { a.2 with nodes:=n.nodes++[{ parent:=p,cond:=x,alpha:=a.1,tokens:=[] }] }):=by
   intro a ha
   congr 1
   unfold rt
   cases hn:n.nodes with
   |nil=>rw [hn]at h;simp at h
   |cons y r=>simp
  split
  .rw [ZwU]
   refine b (X4 n (Zdo x.pattern)) ?_
   unfold X4
   split<;>rfl
  .exact b (-1,n) rfl
theorem ZtP {t:List Zs}:∀(l:List Zf) (p:Int) (n:Ze),1<=n.nodes.length->YY l (p,rt t n)=((YY l (p,n)).1,rt t (YY l (p,n)).2)
 | [],_,_,_=>rfl
 |x::l,p,n,h=>by
  have e:∀m,YY (x::l) (p,m)=YY l ((ZV m p x).1,(ZV m p x).2):=fun _=>rfl
  rw [e,e,Zw5 h]
  refine ZtP l _ _ ?_
  unfold ZV
  split
  .exact h
  .simp
theorem Zy1 {t:List Zs}{n:Ze}{r:Zl}(h:1<=n.nodes.length):Xn (rt t n) r=rt t (Xn n r):=by
 unfold Xn
 rw [ZtP _ _ _ h]
 rfl
theorem Zwj {t:List Zs}:∀(l:List Zl) (n:Ze),ZlU n->(∀r∈l,r.cond.length<=4)->l.foldl Xn (rt t n)=rt t (l.foldl Xn n)
 | [],_,_,_=>rfl
 |r::l,n,h,hl=>by
  simp only[AJ]
  rw [Zy1 h.one]
  exact Zwj l _ (Zpk h (hl r yG)).1 fun r mr=>hl r (by simp [mr])
theorem ZxC {R:List Zl}(hR:∀r∈R,r.cond.length<=4) (t:List Zs):ZfX R t=rt t (ZfX R []):=by
 unfold ZfX
 rw [<-Zwj R (ZaS R []) (Zll R []) hR]
 rfl
end
end Go.Proofs.YtcaokdmjlknmmaaGreatDoor
