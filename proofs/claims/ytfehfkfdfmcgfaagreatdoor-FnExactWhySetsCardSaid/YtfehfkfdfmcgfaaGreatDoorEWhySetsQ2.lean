/- Texts of this proof, joined: Df, PL, E1, P1, E2, E3, E15, P5, F3, F4, P14. What each holds is said at its theorems. -/
import Derived.Test.YtfehfkfdfmcgfaaGreatDoorEWhySetsQ1
import Derived.Lib.ItoaLen
import Derived.Laws.BitsLemmas
import Derived.Lib.Bytealg
set_option linter.unusedSimpArgs false
set_option linter.unusedVariables false
open Bool renaming true_and→A2,and_eq_true→A4,false_eq_true→A5,eq_iff_iff→A6,or_eq_true→AO,false_or→AR,false_and→Ac,and_true→Af,not_not→Al,not_true→Am
open ByteArray renaming size→Ad
open Go.ByteArray renaming toList_eq→AM
open Int renaming toNat→A1,toNat_natCast→AA
open List renaming mem_cons→A3,length_cons→A7,pairwise_cons→A8,mem_of_getElem?→AC,set→AD,foldl_cons→AE,getElem?_eq_some_iff→AF,getElem?_eq_getElem→AI,all_eq_true→AJ,mem_append→AK,flatMap_cons→AL,length_append→AN,length_nil→AQ,mem_flatMap→AS,drop→AT,replicate→AU,mem_cons_of_mem→AW,tail→AX,drop_eq_nil_of_le→AZ,drop_eq_getElem_cons→Aa,foldl_append→Ab,mem_map→Ae,append_nil→Ag,not_mem_nil→Aj,not_any_eq_all_not→Ak
open List.Pairwise renaming nil→A9
open Nat renaming le_trans→AG,zero_add→AH,le_refl→AP,pow_le_pow_right→AY,mul_assoc→Ah
open Option renaming bind_some→A0,map_some→Ai
open Option.some renaming inj→AB
open UInt8 renaming ofNat→An
namespace Go.Proofs.YtfehfkfdfmcgfaaGreatDoor
section
set_option linter.unusedVariables false
structure ZJ where
 b:(List Int)
 i:Int
 h:Int
structure ZaA where
 rule:ByteArray
 facts:(List Zb)
structure Xr where
 rule:ByteArray
 token:Zu
noncomputable def Zat (b:Int):Option ByteArray:=
 if (b==(-9223372036854775808))=true then
  some (⟨#[45,57,50,50,51,51,55,50,48,51,54,56,53,52,55,55,53,56,48,56]⟩)
 else
  if (decide (b<0))=true then
   none
  else
   Yp (σ:=Int × ByteArray)
    (fun s=>
     match s with
     | (a,c)=>
     chk ((Y5 [(IntKind.u8.wrap (IntKind.i64.wrap (48+(Int.tmod a 10))))]).size+c.size≤9223372036854775807) <|
     if ((IntKind.i64.wrap (Int.tdiv a 10))==0)=true then
      some (.inr ((Y5 [(IntKind.u8.wrap (IntKind.i64.wrap (48+(Int.tmod a 10))))])++c))
     else
      some (.inl ((IntKind.i64.wrap (Int.tdiv a 10)),((Y5 [(IntKind.u8.wrap (IntKind.i64.wrap (48+(Int.tmod a 10))))])++c))))
    (b,⟨#[]⟩)
noncomputable def X3 (b:Int):Option ByteArray:=
 if (b==(-9223372036854775808))=true then
  some (⟨#[45,57,50,50,51,51,55,50,48,51,54,56,53,52,55,55,53,56,48,56]⟩)
 else
  if (decide (b<0))=true then
   (Zat (IntKind.i64.wrap (0 - b))).bind fun d=>
   chk ((⟨#[45]⟩:ByteArray).size+d.size≤9223372036854775807) <|
   some ((⟨#[45]⟩:ByteArray)++d)
  else
   Yp (σ:=Int × ByteArray)
    (fun s=>
     match s with
     | (a,c)=>
     chk ((Y5 [(IntKind.u8.wrap (IntKind.i64.wrap (48+(Int.tmod a 10))))]).size+c.size≤9223372036854775807) <|
     if ((IntKind.i64.wrap (Int.tdiv a 10))==0)=true then
      some (.inr ((Y5 [(IntKind.u8.wrap (IntKind.i64.wrap (48+(Int.tmod a 10))))])++c))
     else
      some (.inl ((IntKind.i64.wrap (Int.tdiv a 10)),((Y5 [(IntKind.u8.wrap (IntKind.i64.wrap (48+(Int.tmod a 10))))])++c))))
    (b,⟨#[]⟩)
noncomputable def X7 (x_0:Int) (least_1:Int) (most_2:Int):Option Bool:=
 if (decide (least_1≤x_0))=true then
  some (decide (x_0≤most_2))
 else
  some false
noncomputable def Qe (s_0:ByteArray):Option (Int × Bool):=
 (X7 ((s_0.size:Nat):Int) 1 4).bind fun c=>
 if c=true then
  Zo (σ:=Int)
   (fun (i7:Nat) (b:UInt8) a=>
    if (decide (((b.toNat:Nat):Int)<48))=true then
     some (.inr (0,false))
    else
     if (decide (57<((b.toNat:Nat):Int)))=true then
      some (.inr (0,false))
     else
      some (.inl (IntKind.i64.wrap ((IntKind.i64.wrap (10 * a))+IntKind.i64.wrap (IntKind.u8.wrap (((b.toNat:Nat):Int) - 48))))))
   (fun a=>
    (X3 a).bind fun d=>
    if (sEq d s_0)=true then
     some (a,true)
    else
     some (0,false))
   s_0.data.toList 0 0
 else
  some (0,false)
noncomputable def Qk (s_0:ByteArray):Option Bool:=
 Zo (σ:=Unit)
  (fun (i9:Nat) (a:UInt8) _=>
   (X7 (IntKind.i64.wrap ((a.toNat:Nat):Int)) 97 122).bind fun b=>
   if b=true then
    some (.inl ())
   else
    (X7 (IntKind.i64.wrap ((a.toNat:Nat):Int)) 48 57).bind fun c=>
    if c=true then
     some (.inl ())
    else
     some (.inr false))
  (fun _=>
   (X7 ((s_0.size:Nat):Int) 1 8).bind fun d=>
   some d)
  s_0.data.toList 0 ()
noncomputable def ZdP (s_0:ByteArray):Option Bool:=
 (Qk s_0).bind fun a=>
 if a=true then
  (sAt s_0 0).bind fun b=>
  (X7 (IntKind.i64.wrap ((b.toNat:Nat):Int)) 97 122).bind fun c=>
  some c
 else
  some false
noncomputable def Zaz (a:ByteArray):Option Bool:=
 if (decide (1<((a.size:Nat):Int)))=true then
  (sAt a 0).bind fun b=>
  if (((b.toNat:Nat):Int)==63)=true then
   chk (0≤1∧1≤((a.size:Nat):Int)) <|
   (Qk (a.extract (A1 1) a.size)).bind fun c=>
   some c
  else
   some false
 else
  some false
noncomputable def XO (l_0:(List ByteArray)) (s_1:ByteArray):Option (List ByteArray):=
 Zo (σ:=(List ByteArray) × Bool)
  (fun (i8:Nat) (b:ByteArray) s=>
   match s with
   | (a,c)=>
   if c=true then
    chk (a.length+1≤1073741824) <|
    some (.inl ((a++[b]),true))
   else
    if (sLt b s_1)=true then
     chk (a.length+1≤1073741824) <|
     some (.inl ((a++[b]),false))
    else
     if (sEq b s_1)=true then
      chk (a.length+1≤1073741824) <|
      some (.inl ((a++[b]),true))
     else
      chk (a.length+1≤1073741824) <|
      chk (a.length+1+1≤1073741824) <|
      some (.inl (((a++[s_1])++[b]),true)))
  (fun s=>
   match s with
   | (a,c)=>
   if c=true then
    some a
   else
    chk (a.length+1≤1073741824) <|
    some (a++[s_1]))
  l_0 0 ([],false)
noncomputable def Zba (p_0:Zv):Option (List ByteArray):=
 Zo (σ:=(List ByteArray))
  (fun (i9:Nat) (b:ByteArray) a=>
   (Zaz b).bind fun c=>
   if c=true then
    (XO a b).bind fun d=>
    some (.inl d)
   else
    some (.inl a))
  (fun a=>
   some a)
  p_0.args 0 []
noncomputable def X5 (r_0:Zg) (n_1:Int):Option (List ByteArray):=
 Zo (σ:=(List ByteArray))
  (fun (i25:Nat) (c:Zt) a=>
   if (decide (((i25:Nat):Int)<n_1))=true then
    if (c.kind==1)=true then
     (Zba c.pattern).bind fun d=>
     Zo (σ:=(List ByteArray))
      (fun (i34:Nat) (e:ByteArray) b=>
       (XO b e).bind fun f=>
       some (.inl f))
      (fun b=>
       some (.inl b))
      d 0 a
    else
     some (.inl a)
   else
    some (.inr a))
  (fun a=>
   some a)
  r_0.cond 0 []
noncomputable def QS (s_0:ByteArray):Option Bool:=
 (Qk s_0).bind fun a=>
 if a=true then
  some true
 else
  (Zaz s_0).bind fun b=>
  some b
noncomputable def YS (p_0:Zv):Option Bool:=
 Zo (σ:=Unit)
  (fun (i7:Nat) (a:ByteArray) _=>
   (QS a).bind fun b=>
   if b=true then
    some (.inl ())
   else
    some (.inr false))
  (fun _=>
   (ZdP p_0.rel).bind fun c=>
   if c=true then
    some (decide (((p_0.args.length:Nat):Int)≤3))
   else
    some false)
  p_0.args 0 ()
noncomputable def Zcn (x_0:Zt):Option Bool:=
 if (x_0.kind==1)=true then
  (YS x_0.pattern).bind fun a=>
  if a=true then
   if (sEq x_0.left ⟨#[]⟩)=true then
    some (sEq x_0.right ⟨#[]⟩)
   else
    some false
  else
   some false
 else
  if (x_0.kind==2)=true then
   (YS x_0.pattern).bind fun b=>
   if b=true then
    if (sEq x_0.left ⟨#[]⟩)=true then
     some (sEq x_0.right ⟨#[]⟩)
    else
     some false
   else
    some false
  else
   if (x_0.kind==3)=true then
    if (sEq x_0.pattern.rel ⟨#[]⟩)=true then
     if (((x_0.pattern.args.length:Nat):Int)==0)=true then
      (QS x_0.left).bind fun c=>
      if c=true then
       (QS x_0.right).bind fun d=>
       some d
      else
       some false
     else
      some false
    else
     some false
   else
    if (x_0.kind==4)=true then
     if (sEq x_0.pattern.rel ⟨#[]⟩)=true then
      if (((x_0.pattern.args.length:Nat):Int)==0)=true then
       (QS x_0.left).bind fun e=>
       if e=true then
        (QS x_0.right).bind fun f=>
        some f
       else
        some false
      else
       some false
     else
      some false
    else
     if (x_0.kind==5)=true then
      if (sEq x_0.pattern.rel ⟨#[]⟩)=true then
       if (((x_0.pattern.args.length:Nat):Int)==0)=true then
        (QS x_0.left).bind fun g=>
        if g=true then
         (QS x_0.right).bind fun i=>
         some i
        else
         some false
       else
        some false
      else
       some false
     else
      some false
noncomputable def XH (x_0:Zt):Option (List ByteArray):=
 (Zba x_0.pattern).bind fun a=>
 (Zaz x_0.left).bind fun c=>
 if c=true then
  (XO a x_0.left).bind fun b=>
  (Zaz x_0.right).bind fun d=>
  if d=true then
   (XO b x_0.right).bind fun e=>
   some e
  else
   some b
 else
  (Zaz x_0.right).bind fun f=>
  if f=true then
   (XO a x_0.right).bind fun g=>
   some g
  else
   some a
noncomputable def ZV (l_0:(List ByteArray)) (s_1:ByteArray):Option Bool:=
 Zo (σ:=Unit)
  (fun (i4:Nat) (a:ByteArray) _=>
   if (sEq a s_1)=true then
    some (.inr true)
   else
    some (.inl ()))
  (fun _=>
   some false)
  l_0 0 ()
noncomputable def Zbf (x_0:Zt):Option Bool:=
 (Zcn x_0).bind fun a=>
 if a=true then
  some (decide (3≤x_0.kind))
 else
  some false
noncomputable def XK (r_0:Zg) (i_1:Int) (v_2:ByteArray):Option Bool:=
 Zo (σ:=Unit)
  (fun (i19:Nat) (a:Zt) _=>
   if (((i19:Nat):Int) != i_1)=true then
    (XH a).bind fun b=>
    (ZV b v_2).bind fun c=>
    if c=true then
     some (.inr true)
    else
     some (.inl ())
   else
    some (.inl ()))
  (fun _=>
   Zo (σ:=Unit)
    (fun (i30:Nat) (d:Zz) _=>
     (Zba d.pattern).bind fun e=>
     (ZV e v_2).bind fun f=>
     if f=true then
      some (.inr true)
     else
      some (.inl ()))
    (fun _=>
     some false)
    r_0.thn 0 ())
  r_0.cond 0 ()
noncomputable def Zdd (a_0:Zz):Option Bool:=
 if (a_0.kind==1)=true then
  (YS a_0.pattern).bind fun a=>
  some a
 else
  if (a_0.kind==2)=true then
   (YS a_0.pattern).bind fun b=>
   some b
  else
   if (a_0.kind==3)=true then
    if (sEq a_0.pattern.rel ⟨#[]⟩)=true then
     some (((a_0.pattern.args.length:Nat):Int)==0)
    else
     some false
   else
    some false
noncomputable def ZdB (r_0:Zg):Option (List ByteArray):=
 Zo (σ:=(List ByteArray))
  (fun (i61:Nat) (e:Zt) a=>
   (XH e).bind fun f=>
   Zo (σ:=(List ByteArray))
    (fun (i70:Nat) (g:ByteArray) b=>
     (XO b g).bind fun i=>
     some (.inl i))
    (fun b=>
     some (.inl b))
    f 0 a)
  (fun a=>
   Zo (σ:=(List ByteArray))
    (fun (i97:Nat) (j:Zz) c=>
     (Zba j.pattern).bind fun k=>
     Zo (σ:=(List ByteArray))
      (fun (i106:Nat) (l:ByteArray) d=>
       (XO d l).bind fun m=>
       some (.inl m))
      (fun d=>
       some (.inl d))
      k 0 c)
    (fun c=>
     some c)
    r_0.thn 0 a)
  r_0.cond 0 []
noncomputable def Zcu (append_0:Zg):Option Bool:=
 (ZdP append_0.name).bind fun g=>
 if g=true then
  (X7 append_0.priority 0 9).bind fun i=>
  if i=true then
   (X7 ((append_0.cond.length:Nat):Int) 1 4).bind fun j=>
   if j=true then
    (X7 ((append_0.thn.length:Nat):Int) 1 2).bind fun k=>
    if k=true then
     (X5 append_0 ((append_0.cond.length:Nat):Int)).bind fun l=>
     Zo (σ:=Unit)
      (fun (i96:Nat) (a:Zt) _=>
       (Zcn a).bind fun m=>
       if m=true then
        if (((i96:Nat):Int)==0)=true then
         if (a.kind != 1)=true then
          some (.inr false)
         else
          (X5 append_0 ((i96:Nat):Int)).bind fun o=>
          (XH a).bind fun p=>
          Zo (σ:=Unit)
           (fun (i110:Nat) (b:ByteArray) _=>
            (ZV o b).bind fun c=>
            (Zbf a).bind fun q=>
            if q=true then
             if c=true then
              if (a.kind==2)=true then
               some (.inl ())
              else
               some (.inl ())
             else
              some (.inr (.inr false))
            else
             if (a.kind==2)=true then
              if c=true then
               some (.inl ())
              else
               (XK append_0 ((i96:Nat):Int) b).bind fun t=>
               if t=true then
                some (.inr (.inr false))
               else
                some (.inl ())
             else
              some (.inl ()))
           (fun _=>
            some (.inl ()))
           p 0 ()
        else
         (X5 append_0 ((i96:Nat):Int)).bind fun u=>
         (XH a).bind fun v=>
         Zo (σ:=Unit)
          (fun (i126:Nat) (d:ByteArray) _=>
           (ZV u d).bind fun e=>
           (Zbf a).bind fun w=>
           if w=true then
            if e=true then
             if (a.kind==2)=true then
              some (.inl ())
             else
              some (.inl ())
            else
             some (.inr (.inr false))
           else
            if (a.kind==2)=true then
             if e=true then
              some (.inl ())
             else
              (XK append_0 ((i96:Nat):Int) d).bind fun x=>
              if x=true then
               some (.inr (.inr false))
              else
               some (.inl ())
            else
             some (.inl ()))
          (fun _=>
           some (.inl ()))
          v 0 ()
       else
        some (.inr false))
      (fun _=>
       Zo (σ:=Unit)
        (fun (i155:Nat) (f:Zz) _=>
         (Zdd f).bind fun y=>
         if y=true then
          (Zba f.pattern).bind fun z=>
          Zo (σ:=Unit)
           (fun (i164:Nat) (A:ByteArray) _=>
            (ZV l A).bind fun B=>
            if B=true then
             some (.inl ())
            else
             some (.inr (.inr false)))
           (fun _=>
            some (.inl ()))
           z 0 ()
         else
          some (.inr false))
        (fun _=>
         (ZdB append_0).bind fun C=>
         some (decide (((C.length:Nat):Int)≤6)))
        append_0.thn 0 ())
      append_0.cond 0 ()
    else
     some false
   else
    some false
  else
   some false
 else
  some false
noncomputable def Zhp (a:ByteArray) (b:ByteArray):Option Int:=
 if (sLt a b)=true then
  some (-1)
 else
  if (sLt a b||sEq a b)=true then
   some 0
  else
   some 1
noncomputable def Xd (a_0:ByteArray) (b_1:ByteArray):Option Int:=
 (Qe a_0).bind fun b=>
 (Qe b_1).bind fun a=>
 if b.2=true then
  if a.2=true then
   if (decide (b.1<a.1))=true then
    some (-1)
   else
    if (decide (a.1<b.1))=true then
     some 1
    else
     some 0
  else
   some (-1)
 else
  if a.2=true then
   some 1
  else
   (Zhp a_0 b_1).bind fun c=>
   some c
noncomputable def Yn (a_0:Zb) (a:Zb):Option Int:=
 if (sEq a_0.rel a.rel)=true then
  Zo (σ:=Unit)
   (fun (b:Nat) (d:ByteArray) _=>
    if (decide (((b:Nat):Int)<((a.args.length:Nat):Int)))=true then
     (atI a.args ((b:Nat):Int)).bind fun e=>
     (Xd d e).bind fun c=>
     if (c != 0)=true then
      some (.inr c)
     else
      some (.inl ())
    else
     if (decide (((a_0.args.length:Nat):Int)<((a.args.length:Nat):Int)))=true then
      some (.inr (-1))
     else
      if (decide (((a.args.length:Nat):Int)<((a_0.args.length:Nat):Int)))=true then
       some (.inr 1)
      else
       some (.inr 0))
   (fun _=>
    if (decide (((a_0.args.length:Nat):Int)<((a.args.length:Nat):Int)))=true then
     some (-1)
    else
     if (decide (((a.args.length:Nat):Int)<((a_0.args.length:Nat):Int)))=true then
      some 1
     else
      some 0)
   a_0.args 0 ()
 else
  (Zhp a_0.rel a.rel).bind fun f=>
  some f
noncomputable def Zfc (l_0:(List ByteArray)):Option (List ByteArray):=
 chk (l_0.length≤1073741824) <|
 some l_0
noncomputable def Xj (f_0:Zb):Option Zb:=
 (Zfc f_0.args).bind fun a=>
 some ({ rel:=f_0.rel,args:=a }:Zb)
noncomputable def YX (l_0:(List Zb)) (f_1:Zb):Option (List Zb):=
 Zo (σ:=(List Zb) × Bool)
  (fun (i21:Nat) (b:Zb) s=>
   match s with
   | (a,c)=>
   if c=true then
    (Xj b).bind fun d=>
    chk (a.length+1≤1073741824) <|
    some (.inl ((a++[d]),true))
   else
    (Yn b f_1).bind fun e=>
    if (decide (0≤e))=true then
     (Yn b f_1).bind fun f=>
     if (decide (0<f))=true then
      (Xj f_1).bind fun g=>
      chk (a.length+1≤1073741824) <|
      (Xj b).bind fun i=>
      chk (a.length+1+1≤1073741824) <|
      some (.inl (((a++[g])++[i]),true))
     else
      (Xj b).bind fun j=>
      chk (a.length+1≤1073741824) <|
      some (.inl ((a++[j]),true))
    else
     (Xj b).bind fun k=>
     chk (a.length+1≤1073741824) <|
     some (.inl ((a++[k]),false)))
  (fun s=>
   match s with
   | (a,c)=>
   if c=true then
    some a
   else
    (Xj f_1).bind fun l=>
    chk (a.length+1≤1073741824) <|
    some (a++[l]))
  l_0 0 ([],false)
noncomputable def Qm (s_0:ByteArray):Option Bool:=
 if (decide (((s_0.size:Nat):Int)<1))=true then
  some false
 else
  if (decide (8<((s_0.size:Nat):Int)))=true then
   some false
  else
   Zo (σ:=Unit)
    (fun (i4:Nat) (a:UInt8) _=>
     if (decide (((a.toNat:Nat):Int)<97))=true then
      if (decide (((a.toNat:Nat):Int)<48))=true then
       some (.inr false)
      else
       if (decide (57<((a.toNat:Nat):Int)))=true then
        some (.inr false)
       else
        some (.inl ())
     else
      if (decide (122<((a.toNat:Nat):Int)))=true then
       if (decide (((a.toNat:Nat):Int)<48))=true then
        some (.inr false)
       else
        if (decide (57<((a.toNat:Nat):Int)))=true then
         some (.inr false)
        else
         some (.inl ())
      else
       some (.inl ()))
    (fun _=>
     some true)
    s_0.data.toList 0 ()
noncomputable def Zd1 (s_0:ByteArray):Option Bool:=
 (Qm s_0).bind fun a=>
 if a=true then
  (sAt s_0 0).bind fun b=>
  some (decide (97≤((b.toNat:Nat):Int)))
 else
  some false
noncomputable def ZeG (f_0:Zb):Option Bool:=
 (Zd1 f_0.rel).bind fun a=>
 if a=true then
  if (decide (3<((f_0.args.length:Nat):Int)))=true then
   some false
  else
   Zo (σ:=Unit)
    (fun (i7:Nat) (b:ByteArray) _=>
     (Qm b).bind fun c=>
     if c=true then
      some (.inl ())
     else
      some (.inr false))
    (fun _=>
     some true)
    f_0.args 0 ()
 else
  some false
noncomputable def XG (a_0:Int) (b_1:Int):Option Int:=
 if (decide (a_0<b_1))=true then
  some (-1)
 else
  if (decide (b_1<a_0))=true then
   some 1
  else
   some 0
noncomputable def Za4 (n_0:Int):Option ByteArray:=
 (Zpj n_0).bind fun a=>
 some a
noncomputable def QE (s_0:ByteArray):Option (Int × Bool):=
 if (decide (((s_0.size:Nat):Int)<1))=true then
  some (0,false)
 else
  if (decide (4<((s_0.size:Nat):Int)))=true then
   some (0,false)
  else
   (Zl4 s_0).bind fun a=>
   if a.2=true then
    if (decide (a.1<0))=true then
     some (0,false)
    else
     if (decide (9999<a.1))=true then
      some (0,false)
     else
      (Za4 a.1).bind fun b=>
      if (sEq b s_0)=true then
       some (a.1,true)
      else
       some (0,false)
   else
    some (0,false)
noncomputable def QV (a_0:ByteArray) (b_1:ByteArray):Option Int:=
 (QE a_0).bind fun b=>
 (QE b_1).bind fun a=>
 if b.2=true then
  if a.2=true then
   (XG b.1 a.1).bind fun c=>
   some c
  else
   some (-1)
 else
  if a.2=true then
   some 1
  else
   (ZeP a_0 b_1).bind fun d=>
   some d
noncomputable def XV (a_0:Zb) (a:Zb):Option Int:=
 (ZeP a_0.rel a.rel).bind fun b=>
 if (b != 0)=true then
  some b
 else
  Zo (σ:=Unit)
   (fun (c:Nat) (e:ByteArray) _=>
    if (decide (((c:Nat):Int)<((a.args.length:Nat):Int)))=true then
     (atI a.args ((c:Nat):Int)).bind fun f=>
     (QV e f).bind fun d=>
     if (d != 0)=true then
      some (.inr d)
     else
      some (.inl ())
    else
     (XG ((a_0.args.length:Nat):Int) ((a.args.length:Nat):Int)).bind fun g=>
     some (.inr g))
   (fun _=>
    (XG ((a_0.args.length:Nat):Int) ((a.args.length:Nat):Int)).bind fun i=>
    some i)
   a_0.args 0 ()
noncomputable def ZaH (a:(List Zb)):Option Bool:=
 if (decide (24<((a.length:Nat):Int)))=true then
  some false
 else
  Zo (σ:=Unit)
   (fun (b:Nat) (c:Zb) _=>
    (ZeG c).bind fun d=>
    if d=true then
     if (decide (0<((b:Nat):Int)))=true then
      (atI a (IntKind.i64.wrap (((b:Nat):Int) - 1))).bind fun e=>
      (XV e c).bind fun f=>
      if (decide (0≤f))=true then
       some (.inr false)
      else
       some (.inl ())
     else
      some (.inl ())
    else
     some (.inr false))
   (fun _=>
    some true)
   a 0 ()
noncomputable def ZcP (a:ByteArray):Option Bool:=
 if (decide (1<((a.size:Nat):Int)))=true then
  (sAt a 0).bind fun b=>
  if (((b.toNat:Nat):Int)==63)=true then
   chk (0≤1∧1≤((a.size:Nat):Int)) <|
   (Qm (a.extract (A1 1) a.size)).bind fun c=>
   some c
  else
   some false
 else
  some false
noncomputable def QI (s_0:ByteArray):Option Bool:=
 (Qm s_0).bind fun a=>
 if a=true then
  some true
 else
  (ZcP s_0).bind fun b=>
  some b
noncomputable def Y9 (p_0:Zv):Option Bool:=
 (Zd1 p_0.rel).bind fun a=>
 if a=true then
  if (decide (3<((p_0.args.length:Nat):Int)))=true then
   some false
  else
   Zo (σ:=Unit)
    (fun (i7:Nat) (b:ByteArray) _=>
     (QI b).bind fun c=>
     if c=true then
      some (.inl ())
     else
      some (.inr false))
    (fun _=>
     some true)
    p_0.args 0 ()
 else
  some false
noncomputable def Xz (a:(List Zs)):Option Bool:=
 if (decide (6<((a.length:Nat):Int)))=true then
  some false
 else
  Zo (σ:=Unit)
   (fun (c:Nat) (b:Zs) _=>
    (ZcP b.var).bind fun d=>
    if d=true then
     (Qm b.value).bind fun e=>
     if e=true then
      if (decide (0<((c:Nat):Int)))=true then
       (atI a (IntKind.i64.wrap (((c:Nat):Int) - 1))).bind fun f=>
       if (sLt f.var b.var)=true then
        some (.inl ())
       else
        some (.inr false)
      else
       some (.inl ())
     else
      some (.inr false)
    else
     some (.inr false))
   (fun _=>
    some true)
   a 0 ()
noncomputable def ZaP (b_0:(List Zs)) (term_1:ByteArray):Option (ByteArray × Bool):=
 (Qm term_1).bind fun b=>
 if b=true then
  some (term_1,true)
 else
  (ZcP term_1).bind fun c=>
  if c=true then
   Zo (σ:=Unit)
    (fun (i6:Nat) (a:Zs) _=>
     if (sEq a.var term_1)=true then
      some (.inr (a.value,true))
     else
      some (.inl ()))
    (fun _=>
     some ((⟨#[]⟩),false))
    b_0 0 ()
  else
   some ((⟨#[]⟩),false)
noncomputable def XL (p_0:Zv) (b_1:(List Zs)):Option (Zb × Bool):=
 (Y9 p_0).bind fun c=>
 if c=true then
  (Xz b_1).bind fun d=>
  if d=true then
   Zo (σ:=(List ByteArray))
    (fun (i11:Nat) (e:ByteArray) a=>
     (ZaP b_1 e).bind fun b=>
     if b.2=true then
      chk (a.length+1≤1073741824) <|
      some (.inl (a++[b.1]))
     else
      some (.inr (({ rel:=(⟨#[]⟩),args:=[] }:Zb),false)))
    (fun a=>
     some (({ rel:=p_0.rel,args:=a }:Zb),true))
    p_0.args 0 []
  else
   some (({ rel:=(⟨#[]⟩),args:=[] }:Zb),false)
 else
  some (({ rel:=(⟨#[]⟩),args:=[] }:Zb),false)
noncomputable def Zct (a_0:(List ByteArray)) (a:(List ByteArray)):Option Bool:=
 if (((a_0.length:Nat):Int) != ((a.length:Nat):Int))=true then
  some false
 else
  Zo (σ:=Unit)
   (fun (b:Nat) (c:ByteArray) _=>
    (atI a ((b:Nat):Int)).bind fun d=>
    if (sEq c d)=true then
     some (.inl ())
    else
     some (.inr false))
   (fun _=>
    some true)
   a_0 0 ()
noncomputable def ZbR (a_0:Zb) (b_1:Zb):Option Bool:=
 if (sEq a_0.rel b_1.rel)=true then
  (Zct a_0.args b_1.args).bind fun a=>
  some a
 else
  some false
noncomputable def Yc (l_0:(List Zb)) (f_1:Zb):Option Int:=
 Zo (σ:=Unit)
  (fun (i6:Nat) (a:Zb) _=>
   (ZbR a f_1).bind fun b=>
   if b=true then
    some (.inr ((i6:Nat):Int))
   else
    some (.inl ()))
  (fun _=>
   some (-1))
  l_0 0 ()
noncomputable def Xc (l_0:(List ByteArray)) (s_1:ByteArray):Option Bool:=
 Zo (σ:=Unit)
  (fun (i4:Nat) (a:ByteArray) _=>
   if (sEq a s_1)=true then
    some (.inr true)
   else
    some (.inl ()))
  (fun _=>
   some false)
  l_0 0 ()
noncomputable def Ym (l_0:(List ByteArray)):Option (List ByteArray):=
 chk (l_0.length≤1073741824) <|
 (Zcb l_0).bind fun c=>
 Zo (σ:=(List ByteArray))
  (fun (b:Nat) (d:ByteArray) a=>
   if (((b:Nat):Int)==0)=true then
    chk (a.length+1≤1073741824) <|
    some (.inl (a++[d]))
   else
    chk (0≤(IntKind.i64.wrap (((b:Nat):Int) - 1))∧(IntKind.i64.wrap (((b:Nat):Int) - 1))<((c.length:Nat):Int)) <|
    (c[(A1 (IntKind.i64.wrap (((b:Nat):Int) - 1)))]?).bind fun e=>
    if (sEq e d)=true then
     some (.inl a)
    else
     chk (a.length+1≤1073741824) <|
     some (.inl (a++[d])))
  (fun a=>
   some a)
  c 0 []
noncomputable def Y8 (p_0:Zv):Option Bool:=
 if (sEq p_0.rel ⟨#[]⟩)=true then
  some (((p_0.args.length:Nat):Int)==0)
 else
  some false
noncomputable def ZdA (x_0:Zt):Option Bool:=
 if (x_0.kind==1)=true then
  (Y9 x_0.pattern).bind fun a=>
  if a=true then
   if (sEq x_0.left ⟨#[]⟩)=true then
    some (sEq x_0.right ⟨#[]⟩)
   else
    some false
  else
   some false
 else
  if (x_0.kind==2)=true then
   (Y9 x_0.pattern).bind fun b=>
   if b=true then
    if (sEq x_0.left ⟨#[]⟩)=true then
     some (sEq x_0.right ⟨#[]⟩)
    else
     some false
   else
    some false
  else
   if (x_0.kind==3)=true then
    (QI x_0.left).bind fun c=>
    if c=true then
     (QI x_0.right).bind fun d=>
     if d=true then
      (Y8 x_0.pattern).bind fun e=>
      some e
     else
      some false
    else
     some false
   else
    if (x_0.kind==4)=true then
     (QI x_0.left).bind fun f=>
     if f=true then
      (QI x_0.right).bind fun g=>
      if g=true then
       (Y8 x_0.pattern).bind fun i=>
       some i
      else
       some false
     else
      some false
    else
     if (x_0.kind==5)=true then
      (QI x_0.left).bind fun j=>
      if j=true then
       (QI x_0.right).bind fun k=>
       if k=true then
        (Y8 x_0.pattern).bind fun l=>
        some l
       else
        some false
      else
       some false
     else
      some false
noncomputable def QM (l_0:(List ByteArray)):Option (List ByteArray):=
 Zo (σ:=(List ByteArray))
  (fun (i9:Nat) (b:ByteArray) a=>
   (ZcP b).bind fun c=>
   if c=true then
    chk (a.length+1≤1073741824) <|
    some (.inl (a++[b]))
   else
    some (.inl a))
  (fun a=>
   some a)
  l_0 0 []
noncomputable def QN (r_0:Zg) (n_1:Int):Option (List ByteArray):=
 Zo (σ:=(List ByteArray))
  (fun (i10:Nat) (b:Zt) a=>
   if (decide (((i10:Nat):Int)<n_1))=true then
    if (b.kind==1)=true then
     (QM b.pattern.args).bind fun c=>
     chk (a.length+c.length≤1073741824) <|
     some (.inl (a++c))
    else
     some (.inl a)
   else
    some (.inl a))
  (fun a=>
   (Ym a).bind fun d=>
   some d)
  r_0.cond 0 []
noncomputable def Za6 (l_0:(List ByteArray)):Option (List ByteArray):=
 chk (l_0.length≤1073741824) <|
 some l_0
noncomputable def Zhu (x_0:Zt):Option (List ByteArray):=
 (Za6 x_0.pattern.args).bind fun a=>
 chk (a.length+2≤1073741824) <|
 some (a++[x_0.left,x_0.right])
noncomputable def Qa (x_0:Zt):Option (List ByteArray):=
 (Zhu x_0).bind fun a=>
 (QM a).bind fun b=>
 (Ym b).bind fun c=>
 some c
noncomputable def XC (r_0:Zg) (k_1:Int) (a:ByteArray):Option Bool:=
 Zo (σ:=Unit)
  (fun (i16:Nat) (b:Zt) _=>
   if (((i16:Nat):Int) != k_1)=true then
    (Qa b).bind fun c=>
    (Xc c a).bind fun d=>
    if d=true then
     some (.inr true)
    else
     some (.inl ())
   else
    some (.inl ()))
  (fun _=>
   Zo (σ:=Unit)
    (fun (i25:Nat) (e:Zz) _=>
     (Xc e.pattern.args a).bind fun f=>
     if f=true then
      some (.inr true)
     else
      some (.inl ()))
    (fun _=>
     some false)
    r_0.thn 0 ())
  r_0.cond 0 ()
noncomputable def ZbT (a:Zg) (b:Int):Option Bool:=
 (atI a.cond b).bind fun c=>
 (QN a b).bind fun e=>
 (Qa c).bind fun f=>
 Zo (σ:=Unit)
  (fun (i11:Nat) (d:ByteArray) _=>
   if (c.kind==1)=true then
    some (.inl ())
   else
    (Xc e d).bind fun g=>
    if g=true then
     some (.inl ())
    else
     if (c.kind != 2)=true then
      some (.inr false)
     else
      (XC a b d).bind fun i=>
      if i=true then
       some (.inr false)
      else
       some (.inl ()))
  (fun _=>
   some true)
  f 0 ()
noncomputable def Zdl (a_0:Zz):Option Bool:=
 if (a_0.kind==1)=true then
  (Y9 a_0.pattern).bind fun a=>
  some a
 else
  if (a_0.kind==2)=true then
   (Y9 a_0.pattern).bind fun b=>
   some b
  else
   if (a_0.kind==3)=true then
    (Y8 a_0.pattern).bind fun c=>
    some c
   else
    some false
noncomputable def Zbp (l_0:(List Zt)):Option (List ByteArray):=
 Zo (σ:=(List ByteArray))
  (fun (i9:Nat) (c:Zt) a=>
   (Qa c).bind fun b=>
   chk (a.length+b.length≤1073741824) <|
   some (.inl (a++b)))
  (fun a=>
   some a)
  l_0 0 []
noncomputable def Zfe (append_0:Zg):Option Bool:=
 (Zd1 append_0.name).bind fun c=>
 if c=true then
  if (decide (append_0.priority<0))=true then
   some false
  else
   if (decide (9<append_0.priority))=true then
    some false
   else
    if (decide (((append_0.cond.length:Nat):Int)<1))=true then
     some false
    else
     if (decide (4<((append_0.cond.length:Nat):Int)))=true then
      some false
     else
      if (decide (((append_0.thn.length:Nat):Int)<1))=true then
       some false
      else
       if (decide (2<((append_0.thn.length:Nat):Int)))=true then
        some false
       else
        Zo (σ:=Unit)
         (fun (i50:Nat) (a:Zt) _=>
          (ZdA a).bind fun d=>
          if d=true then
           if (((i50:Nat):Int)==0)=true then
            if (a.kind != 1)=true then
             some (.inr false)
            else
             (ZbT append_0 ((i50:Nat):Int)).bind fun e=>
             if e=true then
              some (.inl ())
             else
              some (.inr false)
           else
            (ZbT append_0 ((i50:Nat):Int)).bind fun f=>
            if f=true then
             some (.inl ())
            else
             some (.inr false)
          else
           some (.inr false))
         (fun _=>
          (QN append_0 ((append_0.cond.length:Nat):Int)).bind fun g=>
          Zo (σ:=Unit)
           (fun (i81:Nat) (b:Zz) _=>
            (Zdl b).bind fun i=>
            if i=true then
             (QM b.pattern.args).bind fun j=>
             Zo (σ:=Unit)
              (fun (i90:Nat) (k:ByteArray) _=>
               (Xc g k).bind fun l=>
               if l=true then
                some (.inl ())
               else
                some (.inr (.inr false)))
              (fun _=>
               some (.inl ()))
              j 0 ()
            else
             some (.inr false))
           (fun _=>
            (Zbp append_0.cond).bind fun m=>
            (Ym m).bind fun o=>
            some (decide (((o.length:Nat):Int)≤6)))
           append_0.thn 0 ())
         append_0.cond 0 ()
 else
  some false
noncomputable def QF (l_0:(List Zg)) (name_1:ByteArray):Option Int:=
 Zo (σ:=Unit)
  (fun (i4:Nat) (a:Zg) _=>
   if (sEq a.name name_1)=true then
    some (.inr ((i4:Nat):Int))
   else
    some (.inl ()))
  (fun _=>
   some (-1))
  l_0 0 ()
noncomputable def ZaL (l_0:(List Zg)):Option Bool:=
 if (decide (6<((l_0.length:Nat):Int)))=true then
  some false
 else
  Zo (σ:=Unit)
   (fun (i8:Nat) (a:Zg) _=>
    (Zfe a).bind fun b=>
    if b=true then
     (QF l_0 a.name).bind fun c=>
     if (c != ((i8:Nat):Int))=true then
      some (.inr false)
     else
      some (.inl ())
    else
     some (.inr false))
   (fun _=>
    some true)
   l_0 0 ()
noncomputable def Qf (r_0:Zg):Option (List ByteArray):=
 Zo (σ:=(List ByteArray))
  (fun (i7:Nat) (b:Zz) a=>
   if (b.kind==1)=true then
    chk (a.length+1≤1073741824) <|
    some (.inl (a++[b.pattern.rel]))
   else
    if (b.kind==2)=true then
     chk (a.length+1≤1073741824) <|
     some (.inl (a++[b.pattern.rel]))
    else
     some (.inl a))
  (fun a=>
   (Ym a).bind fun c=>
   some c)
  r_0.thn 0 []
noncomputable def ZbX (r_0:Zg):Option (List ByteArray):=
 Zo (σ:=(List ByteArray))
  (fun (i7:Nat) (b:Zt) a=>
   if (b.kind==1)=true then
    chk (a.length+1≤1073741824) <|
    some (.inl (a++[b.pattern.rel]))
   else
    if (b.kind==2)=true then
     chk (a.length+1≤1073741824) <|
     some (.inl (a++[b.pattern.rel]))
    else
     some (.inl a))
  (fun a=>
   (Ym a).bind fun c=>
   some c)
  r_0.cond 0 []
noncomputable def Zde (rules_0:(List Zg)) (a_1:ByteArray):Option (List (ByteArray × Bool)):=
 Yp (σ:=(List (ByteArray × Bool)) × (List ByteArray))
  (fun s=>
   match s with
   | (g,a)=>
   if (decide (0<((a.length:Nat):Int)))=true then
    chk (0≤0∧0<((a.length:Nat):Int)) <|
    (a[(A1 0)]?).bind fun j=>
    chk (0≤1∧1≤((a.length:Nat):Int)) <|
    Zo (σ:=(List (ByteArray × Bool)) × (List ByteArray))
     (fun (i72:Nat) (i:Zg) s=>
      match s with
      | (d,e)=>
      (Qf i).bind fun k=>
      (Xc k j).bind fun l=>
      if l=true then
       (ZbX i).bind fun m=>
       Zo (σ:=(List (ByteArray × Bool)) × (List ByteArray))
        (fun (i83:Nat) (f:ByteArray) s=>
         match s with
         | (b,c)=>
         if (Zah b f false)=true then
          some (.inl (b,c))
         else
          chk (c.length+1≤1073741824) <|
          some (.inl ((Zfn b f true),(c++[f]))))
        (fun s=>
         match s with
         | (b,c)=>
         some (.inl (b,c)))
        m 0 (d,e)
      else
       some (.inl (d,e)))
     (fun s=>
      match s with
      | (d,e)=>
      some (.inl (d,e)))
     rules_0 0 (g,(AT (A1 1) a))
   else
    some (.inr g))
  ([],[a_1])
noncomputable def ZdJ (r_0:Zg):Option Bool:=
 Zo (σ:=Unit)
  (fun (i4:Nat) (a:Zz) _=>
   if (a.kind != 1)=true then
    some (.inr false)
   else
    some (.inl ()))
  (fun _=>
   some true)
  r_0.thn 0 ()
noncomputable def Zci (r_0:Zg):Option Bool:=
 (Zfe r_0).bind fun b=>
 if b=true then
  (ZdJ r_0).bind fun c=>
  if c=true then
   Zo (σ:=Unit)
    (fun (i26:Nat) (a:Zt) _=>
     if (a.kind != 2)=true then
      some (.inl ())
     else
      (QN r_0 ((i26:Nat):Int)).bind fun d=>
      (Qa a).bind fun e=>
      Zo (σ:=Unit)
       (fun (i35:Nat) (f:ByteArray) _=>
        (Xc d f).bind fun g=>
        if g=true then
         some (.inl ())
        else
         some (.inr (.inr false)))
       (fun _=>
        some (.inl ()))
       e 0 ())
    (fun _=>
     some true)
    r_0.cond 0 ()
  else
   some false
 else
  some false
noncomputable def Zbt (rules_0:(List Zg)):Option Bool:=
 (ZaL rules_0).bind fun d=>
 if d=true then
  Zo (σ:=Unit)
   (fun (i59:Nat) (a:Zg) _=>
    (Zci a).bind fun e=>
    if e=true then
     Zo (σ:=Unit)
      (fun (i79:Nat) (b:Zt) _=>
       if (b.kind != 2)=true then
        some (.inl ())
       else
        (Zde rules_0 b.pattern.rel).bind fun f=>
        (Qf a).bind fun g=>
        Zo (σ:=Unit)
         (fun (i86:Nat) (c:ByteArray) _=>
          if (sEq c b.pattern.rel)=true then
           some (.inr (.inr (.inr false)))
          else
           if (Zah f c false)=true then
            some (.inr (.inr (.inr false)))
           else
            some (.inl ()))
         (fun _=>
          some (.inl ()))
         g 0 ())
      (fun _=>
       some (.inl ()))
      a.cond 0 ()
    else
     some (.inr false))
   (fun _=>
    some true)
   rules_0 0 ()
 else
  some false
noncomputable def YA (f_0:Zb):Option Zb:=
 (Za6 f_0.args).bind fun a=>
 some ({ rel:=f_0.rel,args:=a }:Zb)
noncomputable def Za7 (l_0:(List Zb)):Option (List Zb):=
 Zo (σ:=(List Zb))
  (fun (i9:Nat) (b:Zb) a=>
   (YA b).bind fun c=>
   chk (a.length+1≤1073741824) <|
   some (.inl (a++[c])))
  (fun a=>
   some a)
  l_0 0 []
noncomputable def ZaT (b_0:(List Zs)):Option (List Zs):=
 chk (b_0.length≤1073741824) <|
 some b_0
noncomputable def ZgK (append_0:(List Zs)) (b:ByteArray) (a_2:ByteArray):Option ((List Zs) × Bool):=
 (Xz append_0).bind fun f=>
 if f=true then
  (ZcP b).bind fun g=>
  if g=true then
   (Qm a_2).bind fun i=>
   if i=true then
    (ZaP append_0 b).bind fun e=>
    if e.2=true then
     if (sEq e.1 a_2)=true then
      (ZaT append_0).bind fun j=>
      some (j,true)
     else
      some ([],false)
    else
     if (decide (6≤((append_0.length:Nat):Int)))=true then
      some ([],false)
     else
      Zo (σ:=(List Zs) × Bool)
       (fun (i13:Nat) (c:Zs) s=>
        match s with
        | (a,d)=>
        if d=true then
         chk (a.length+1≤1073741824) <|
         some (.inl ((a++[c]),true))
        else
         if (sLt c.var b||sEq c.var b)=true then
          chk (a.length+1≤1073741824) <|
          some (.inl ((a++[c]),false))
         else
          chk (a.length+1≤1073741824) <|
          chk (a.length+1+1≤1073741824) <|
          some (.inl (((a++[({ var:=b,value:=a_2 }:Zs)])++[c]),true)))
       (fun s=>
        match s with
        | (a,d)=>
        if d=true then
         some (a,true)
        else
         chk (a.length+1≤1073741824) <|
         some ((a++[({ var:=b,value:=a_2 }:Zs)]),true))
       append_0 0 ([],false)
   else
    some ([],false)
  else
   some ([],false)
 else
  some ([],false)
noncomputable def Za0 (append_0:Zv) (a:Zb) (a_2:(List Zs)):Option ((List Zs) × Bool):=
 (Y9 append_0).bind fun f=>
 if f=true then
  (ZeG a).bind fun g=>
  if g=true then
   (Xz a_2).bind fun i=>
   if i=true then
    if (sEq append_0.rel a.rel)=true then
     if (((append_0.args.length:Nat):Int) != ((a.args.length:Nat):Int))=true then
      some ([],false)
     else
      (ZaT a_2).bind fun j=>
      Zo (σ:=(List Zs))
       (fun (d:Nat) (c:ByteArray) b=>
        (Qm c).bind fun k=>
        if k=true then
         (atI a.args ((d:Nat):Int)).bind fun l=>
         if (sEq c l)=true then
          some (.inl b)
         else
          some (.inr ([],false))
        else
         (atI a.args ((d:Nat):Int)).bind fun m=>
         (ZgK b c m).bind fun e=>
         if e.2=true then
          some (.inl e.1)
         else
          some (.inr ([],false)))
       (fun b=>
        some (b,true))
       append_0.args 0 j
    else
     some ([],false)
   else
    some ([],false)
  else
   some ([],false)
 else
  some ([],false)
noncomputable def Xt (p_0:Zv) (b_1:(List Zs)) (facts_2:(List Zb)):Option (List Zb):=
 Zo (σ:=(List Zb))
  (fun (i12:Nat) (b:Zb) a=>
   (Za0 p_0 b b_1).bind fun c=>
   if c.2=true then
    (YA b).bind fun d=>
    chk (a.length+1≤1073741824) <|
    some (.inl (a++[d]))
   else
    some (.inl a))
  (fun a=>
   some a)
  facts_2 0 []
noncomputable def Zi1 (x_0:Zt):Option Bool:=
 (ZdA x_0).bind fun a=>
 if a=true then
  some (decide (3≤x_0.kind))
 else
  some false
noncomputable def Zcs (append_0:Zt) (String_1:(List Zs)):Option Bool:=
 (Zi1 append_0).bind fun e=>
 if e=true then
  (Xz String_1).bind fun f=>
  if f=true then
   (ZaP String_1 append_0.left).bind fun a=>
   (ZaP String_1 append_0.right).bind fun b=>
   if a.2=true then
    if b.2=true then
     if (append_0.kind==3)=true then
      some (sEq a.1 b.1)
     else
      if (append_0.kind==4)=true then
       some (!(sEq a.1 b.1))
      else
       (QE a.1).bind fun c=>
       (QE b.1).bind fun d=>
       if c.2=true then
        if d.2=true then
         some (decide (c.1<d.1))
        else
         some false
       else
        some false
    else
     some false
   else
    some false
  else
   some false
 else
  some false
noncomputable def ZcD (x_0:Zt) (a:(List Zs)) (b:(List Zb)):Option Bool:=
 (ZdA x_0).bind fun c=>
 if c=true then
  (Xz a).bind fun d=>
  if d=true then
   if (x_0.kind==1)=true then
    (Xt x_0.pattern a b).bind fun e=>
    some (decide (0<((e.length:Nat):Int)))
   else
    if (x_0.kind==2)=true then
     (Xt x_0.pattern a b).bind fun f=>
     some (((f.length:Nat):Int)==0)
    else
     (Zcs x_0 a).bind fun g=>
     some g
  else
   some false
 else
  some false
noncomputable def QU (append_0:(List Zt)) (String_1:(List Zb)):Option (List Zu):=
 Zo (σ:=(List Zu))
  (fun (i246:Nat) (d:Zt) e=>
   Zo (σ:=(List Zu))
    (fun (i322:Nat) (c:Zu) a=>
     if (d.kind != 1)=true then
      (ZcD d c.binding String_1).bind fun j=>
      if j=true then
       chk (a.length+1≤1073741824) <|
       some (.inl (a++[c]))
      else
       some (.inl a)
     else
      Zo (σ:=(List Zu))
       (fun (i335:Nat) (f:Zb) b=>
        (Za0 d.pattern f c.binding).bind fun g=>
        if g.2=true then
         (Za7 c.facts).bind fun i=>
         (YA f).bind fun k=>
         chk (i.length+1≤1073741824) <|
         chk (b.length+1≤1073741824) <|
         some (.inl (b++[({ facts:=(i++[k]),binding:=g.1 }:Zu)]))
        else
         some (.inl b))
       (fun b=>
        some (.inl b))
       String_1 0 a)
    (fun a=>
     some (.inl a))
    e 0 [])
  (fun e=>
   some e)
  append_0 0 ([({ facts:=[],binding:=[] }:Zu)])
noncomputable def YP (r_0:Zg):Option (List Zt):=
 Zo (σ:=(List Zt))
  (fun (i7:Nat) (b:Zt) a=>
   if (b.kind != 2)=true then
    chk (a.length+1≤1073741824) <|
    some (.inl (a++[b]))
   else
    some (.inl a))
  (fun a=>
   some a)
  r_0.cond 0 []
noncomputable def XW (l_0:(List Zb)) (f_1:Zb):Option (List Zb):=
 Zo (σ:=(List Zb) × Bool)
  (fun (i21:Nat) (b:Zb) s=>
   match s with
   | (a,c)=>
   if c=true then
    (YA b).bind fun d=>
    chk (a.length+1≤1073741824) <|
    some (.inl ((a++[d]),true))
   else
    (XV b f_1).bind fun e=>
    if (decide (0<e))=true then
     (YA f_1).bind fun f=>
     chk (a.length+1≤1073741824) <|
     (YA b).bind fun g=>
     chk (a.length+1+1≤1073741824) <|
     some (.inl (((a++[f])++[g]),true))
    else
     (YA b).bind fun i=>
     chk (a.length+1≤1073741824) <|
     some (.inl ((a++[i]),false)))
  (fun s=>
   match s with
   | (a,c)=>
   if c=true then
    some a
   else
    (YA f_1).bind fun j=>
    chk (a.length+1≤1073741824) <|
    some (a++[j]))
  l_0 0 ([],false)
noncomputable def Yt (append_0:(List Zg)) (String_1:(List Zb)):Option ((List Zb) × Bool):=
 (Zbt append_0).bind fun k=>
 if k=true then
  (ZaH String_1).bind fun l=>
  if l=true then
   (Za7 String_1).bind fun m=>
   Yp (σ:=(List Zb) × Bool)
    (fun s=>
     match s with
     | (g,o)=>
     if o=true then
      Zo (σ:=(List Zb) × Bool)
       (fun (i423:Nat) (i:Zg) s=>
        match s with
        | (b,c)=>
        (YP i).bind fun p=>
        (QU p b).bind fun q=>
        Zo (σ:=(List Zb) × Bool)
         (fun (i480:Nat) (t:Zu) s=>
          match s with
          | (d,e)=>
          Zo (σ:=(List Zb) × Bool)
           (fun (i501:Nat) (u:Zz) s=>
            match s with
            | (a,f)=>
            (XL u.pattern t.binding).bind fun j=>
            (Yc a j.1).bind fun v=>
            if (decide (0≤v))=true then
             some (.inl (a,f))
            else
             if (decide (24≤((a.length:Nat):Int)))=true then
              some (.inr (.inr (.inr (.inr ([],false)))))
             else
              (XW a j.1).bind fun w=>
              some (.inl (w,true)))
           (fun s=>
            match s with
            | (a,f)=>
            some (.inl (a,f)))
           i.thn 0 (d,e))
         (fun s=>
          match s with
          | (d,e)=>
          some (.inl (d,e)))
         q 0 (b,c))
       (fun s=>
        match s with
        | (b,c)=>
        some (.inl (b,c)))
       append_0 0 (g,false)
     else
      some (.inr (g,true)))
    (m,true)
  else
   some ([],false)
 else
  some ([],false)
noncomputable def Zgz (l_0:(List Int)) (n_1:Int):Option Bool:=
 Zo (σ:=Unit)
  (fun (i4:Nat) (a:Int) _=>
   if (a==n_1)=true then
    some (.inr true)
   else
    some (.inl ()))
  (fun _=>
   some false)
  l_0 0 ()
noncomputable def Zc0 (facts_0:(List Zb)) (l_1:(List Zb)):Option (List Int):=
 Zo (σ:=(List Int))
  (fun (i16:Nat) (c:Zb) a=>
   (Yc facts_0 c).bind fun b=>
   if (decide (0≤b))=true then
    (Zgz a b).bind fun d=>
    if d=true then
     some (.inl a)
    else
     chk (a.length+1≤1073741824) <|
     some (.inl (a++[b]))
   else
    some (.inl a))
  (fun a=>
   (ZfG a).bind fun e=>
   some e)
  l_1 0 []
noncomputable def ZbL (a_0:(List Int)) (a:(List Int)):Option Bool:=
 if (((a_0.length:Nat):Int) != ((a.length:Nat):Int))=true then
  some false
 else
  Zo (σ:=Unit)
   (fun (b:Nat) (c:Int) _=>
    (atI a ((b:Nat):Int)).bind fun d=>
    if (c != d)=true then
     some (.inr false)
    else
     some (.inl ()))
   (fun _=>
    some true)
   a_0 0 ()
noncomputable def Zbw (a_0:Zf) (b_1:Zf):Option Bool:=
 if (a_0.for_==b_1.for_)=true then
  (ZbL a_0.inn b_1.inn).bind fun a=>
  if a=true then
   (ZbL a_0.outs b_1.outs).bind fun b=>
   some b
  else
   some false
 else
  some false
noncomputable def Za5 (l_0:(List Zf)) (r_1:Zf):Option Bool:=
 Zo (σ:=Unit)
  (fun (i6:Nat) (a:Zf) _=>
   (Zbw a r_1).bind fun b=>
   if b=true then
    some (.inr true)
   else
    some (.inl ()))
  (fun _=>
   some false)
  l_0 0 ()
noncomputable def Zbh (append_0:(List Zg)) (String_1:(List Zb)):Option ((List Zb) × Zr × (List ZaA) × Bool):=
 (Yt append_0 String_1).bind fun a=>
 if a.2=true then
  Zo (σ:=(List Zf) × (List ZaA))
   (fun (i941:Nat) (u:Zb) s=>
    match s with
    | (e,f)=>
    (Yc a.1 u).bind fun v=>
    chk (e.length+1≤1073741824) <|
    chk (f.length+1≤1073741824) <|
    some (.inl ((e++[({ for_:=v,inn:=[],outs:=[] }:Zf)]),(f++[({ rule:=(⟨#[]⟩),facts:=[] }:ZaA)]))))
   (fun s=>
    match s with
    | (e,f)=>
    Zo (σ:=(List Zf) × (List ZaA))
     (fun (i1660:Nat) (g:Zg) s=>
      match s with
      | (i,k)=>
      (YP g).bind fun w=>
      (QU w a.1).bind fun x=>
      Zo (σ:=(List Zf) × (List ZaA))
       (fun (i1803:Nat) (j:Zu) s=>
        match s with
        | (l,m)=>
        Zo (σ:=(List Zb))
         (fun (i1841:Nat) (o:Zt) c=>
          if (o.kind==2)=true then
           (XL o.pattern j.binding).bind fun y=>
           chk (c.length+1≤1073741824) <|
           some (.inl (c++[y.1]))
          else
           some (.inl c))
         (fun c=>
          Zo (σ:=(List Zf) × (List ZaA))
           (fun (i1865:Nat) (z:Zz) s=>
            match s with
            | (b,d)=>
            (XL z.pattern j.binding).bind fun A=>
            (Yc a.1 A.1).bind fun p=>
            (Zc0 a.1 j.facts).bind fun q=>
            (Zc0 a.1 c).bind fun t=>
            (Za5 b ({ for_:=p,inn:=q,outs:=t }:Zf)).bind fun B=>
            if B=true then
             some (.inl (b,d))
            else
             chk (b.length+1≤1073741824) <|
             chk (d.length+1≤1073741824) <|
             some (.inl ((b++[({ for_:=p,inn:=q,outs:=t }:Zf)]),(d++[({ rule:=g.name,facts:=j.facts }:ZaA)]))))
           (fun s=>
            match s with
            | (b,d)=>
            some (.inl (b,d)))
           g.thn 0 (l,m))
         g.cond 0 [])
       (fun s=>
        match s with
        | (l,m)=>
        some (.inl (l,m)))
       x 0 (i,k))
     (fun s=>
      match s with
      | (i,k)=>
      if (decide (60<((i.length:Nat):Int)))=true then
       some ([],({ nodes:=0,reasons:=[] }:Zr),[],false)
      else
       some (a.1,({ nodes:=((a.1.length:Nat):Int),reasons:=i }:Zr),k,true))
     append_0 0 (e,f))
   String_1 0 ([],[])
 else
  some ([],({ nodes:=0,reasons:=[] }:Zr),[],false)
noncomputable def Ql (rules_0:(List Zg)) (base_1:(List Zb)):Option ((List Zb) × Zr × Bool):=
 (Zbh rules_0 base_1).bind fun a=>
 some (a.1,a.2.1,a.2.2.2)
noncomputable def ZgJ (d:Zr):Option (List Int):=
 chk (0≤d.nodes∧d.nodes≤1073741824) <|
 Yp (σ:=(List Int) × Bool)
  (fun s=>
   match s with
   | (j,o)=>
   if o=true then
    Zo (σ:=(List Int) × Bool)
     (fun (i155:Nat) (b:Zf) s=>
      match s with
      | (a,f)=>
      chk (0≤b.for_∧b.for_<((a.length:Nat):Int)) <|
      (a[(A1 b.for_)]?).bind fun k=>
      Zo (σ:=Int)
       (fun (i173:Nat) (g:Int) e=>
        chk (0≤g∧g<((a.length:Nat):Int)) <|
        (a[(A1 g)]?).bind fun l=>
        some (.inl (if e<l then l else e)))
       (fun e=>
        Zo (σ:=Int)
         (fun (i182:Nat) (i:Int) c=>
          chk (0≤i∧i<((a.length:Nat):Int)) <|
          (a[(A1 i)]?).bind fun m=>
          some (.inl (if c<(IntKind.i64.wrap (m+1)) then (IntKind.i64.wrap (m+1)) else c)))
         (fun c=>
          if (decide (k<c))=true then
           some (.inl ((AD a (A1 b.for_) c),true))
          else
           some (.inl (a,f)))
         b.outs 0 e)
       b.inn 0 k)
     (fun s=>
      match s with
      | (a,f)=>
      some (.inl (a,f)))
     d.reasons 0 (j,false)
   else
    some (.inr j))
  ((AU (A1 d.nodes) 0),true)
noncomputable def ZaY (r_0:Zf) (a:(List Int)) (before_2:Int):Option Bool:=
 Zo (σ:=Unit)
  (fun (i14:Nat) (c:Int) _=>
   (atI a c).bind fun b=>
   if (decide (b<0))=true then
    some (.inr false)
   else
    if (decide (before_2≤b))=true then
     some (.inr false)
    else
     some (.inl ()))
  (fun _=>
   Zo (σ:=Unit)
    (fun (i22:Nat) (d:Int) _=>
     (atI a d).bind fun e=>
     if (decide (0≤e))=true then
      some (.inr false)
     else
      some (.inl ()))
    (fun _=>
     some true)
    r_0.outs 0 ())
  r_0.inn 0 ()
noncomputable def ZfZ (d:Zr):Option (List Int):=
 (ZgJ d).bind fun g=>
 chk (0≤d.nodes∧d.nodes≤1073741824) <|
 Yp (σ:=(List Int) × Int × Int)
  (fun s=>
   match s with
   | (i,a,m)=>
   if (decide (a<((A1 d.nodes:Nat):Int)))=true then
    chk (0≤a∧a<((i.length:Nat):Int)) <|
    (i[(A1 a)]?).bind fun u=>
    chk (a<((g.length:Nat):Int)) <|
    (g[(A1 a)]?).bind fun o=>
    some (.inl ((AD i (A1 a) (-1)),(IntKind.i64.wrap (a+1)),(if m<o then o else m)))
   else
    Yp (σ:=(List Int) × Int × Int)
     (fun s=>
      match s with
      | (e,j,k)=>
      if (decide (k≤m))=true then
       Zo (σ:=(List Int))
        (fun (i109:Nat) (c:Zf) b=>
         chk (0≤c.for_∧c.for_<((g.length:Nat):Int)) <|
         (g[(A1 c.for_)]?).bind fun p=>
         if (p==k)=true then
          chk (c.for_<((e.length:Nat):Int)) <|
          (e[(A1 c.for_)]?).bind fun q=>
          if (decide (q<0))=true then
           (ZaY c e j).bind fun t=>
           if t=true then
            chk (b.length+1≤1073741824) <|
            some (.inl (b++[c.for_]))
           else
            some (.inl b)
          else
           some (.inl b)
         else
          some (.inl b))
        (fun b=>
         if (((b.length:Nat):Int)==0)=true then
          some (.inl (e,j,(IntKind.i64.wrap (k+1))))
         else
          Zo (σ:=(List Int))
           (fun (i120:Nat) (l:Int) f=>
            chk (0≤l∧l<((f.length:Nat):Int)) <|
            (f[(A1 l)]?).bind fun v=>
            some (.inl (AD f (A1 l) j)))
           (fun f=>
            some (.inl (f,(IntKind.i64.wrap (j+1)),k)))
           b 0 e)
        d.reasons 0 []
      else
       some (.inr (.inr e)))
     (i,0,0))
  ((AU (A1 d.nodes) 0),0,0)
noncomputable def Zgt (b_0:Zr):Option (List Bool):=
 (ZfZ b_0).bind fun b=>
 Zo (σ:=(List Bool))
  (fun (i7:Nat) (c:Int) a=>
   chk (a.length+1≤1073741824) <|
   some (.inl (a++[(decide (0≤c))])))
  (fun a=>
   some a)
  b 0 []
noncomputable def Zev (a_0:(List ByteArray)) (a:(List ByteArray)):Option Bool:=
 if (((a_0.length:Nat):Int) != ((a.length:Nat):Int))=true then
  some false
 else
  Zo (σ:=Unit)
   (fun (b:Nat) (c:ByteArray) _=>
    (atI a ((b:Nat):Int)).bind fun d=>
    if (sEq c d)=true then
     some (.inl ())
    else
     some (.inr false))
   (fun _=>
    some true)
   a_0 0 ()
noncomputable def Zmh (a_0:Zb) (b_1:Zb):Option Bool:=
 if (sEq a_0.rel b_1.rel)=true then
  (Zev a_0.args b_1.args).bind fun a=>
  some a
 else
  some false
noncomputable def QT (l_0:(List Zb)) (f_1:Zb):Option Int:=
 Zo (σ:=Unit)
  (fun (i6:Nat) (a:Zb) _=>
   (Zmh a f_1).bind fun b=>
   if b=true then
    some (.inr ((i6:Nat):Int))
   else
    some (.inl ()))
  (fun _=>
   some (-1))
  l_0 0 ()
noncomputable def XE (a:(List Zs)):Option Bool:=
 Zo (σ:=Unit)
  (fun (c:Nat) (b:Zs) _=>
   (Zaz b.var).bind fun d=>
   if d=true then
    (Qk b.value).bind fun e=>
    if e=true then
     if (decide (0<((c:Nat):Int)))=true then
      (atI a (IntKind.i64.wrap (((c:Nat):Int) - 1))).bind fun f=>
      if (sLt f.var b.var)=true then
       some (.inl ())
      else
       some (.inr false)
     else
      some (.inl ())
    else
     some (.inr false)
   else
    some (.inr false))
  (fun _=>
   some (decide (((a.length:Nat):Int)≤6)))
  a 0 ()
noncomputable def ZaQ (b_0:(List Zs)) (term_1:ByteArray):Option (ByteArray × Bool):=
 (Qk term_1).bind fun b=>
 if b=true then
  some (term_1,true)
 else
  Zo (σ:=Unit)
   (fun (i7:Nat) (a:Zs) _=>
    if (sEq a.var term_1)=true then
     (Zaz term_1).bind fun c=>
     if c=true then
      some (.inr (a.value,true))
     else
      some (.inl ())
    else
     some (.inl ()))
   (fun _=>
    some ((⟨#[]⟩),false))
   b_0 0 ()
noncomputable def Yy (p_0:Zv) (b_1:(List Zs)):Option (Zb × Bool):=
 (YS p_0).bind fun c=>
 if c=true then
  (XE b_1).bind fun d=>
  if d=true then
   Zo (σ:=(List ByteArray))
    (fun (i11:Nat) (e:ByteArray) a=>
     (ZaQ b_1 e).bind fun b=>
     if b.2=true then
      chk (a.length+1≤1073741824) <|
      some (.inl (a++[b.1]))
     else
      some (.inr (({ rel:=(⟨#[]⟩),args:=[] }:Zb),false)))
    (fun a=>
     some (({ rel:=p_0.rel,args:=a }:Zb),true))
    p_0.args 0 []
  else
   some (({ rel:=(⟨#[]⟩),args:=[] }:Zb),false)
 else
  some (({ rel:=(⟨#[]⟩),args:=[] }:Zb),false)
noncomputable def Ze7 (f_0:Zb):Option Bool:=
 Zo (σ:=Unit)
  (fun (i7:Nat) (a:ByteArray) _=>
   (Qk a).bind fun b=>
   if b=true then
    some (.inl ())
   else
    some (.inr false))
  (fun _=>
   (ZdP f_0.rel).bind fun c=>
   if c=true then
    some (decide (((f_0.args.length:Nat):Int)≤3))
   else
    some false)
  f_0.args 0 ()
noncomputable def Zdv (a:(List Zb)):Option Bool:=
 Zo (σ:=Unit)
  (fun (b:Nat) (c:Zb) _=>
   (Ze7 c).bind fun d=>
   if d=true then
    if (decide (0<((b:Nat):Int)))=true then
     (atI a (IntKind.i64.wrap (((b:Nat):Int) - 1))).bind fun e=>
     (Yn e c).bind fun f=>
     if (decide (0≤f))=true then
      some (.inr false)
     else
      some (.inl ())
    else
     some (.inl ())
   else
    some (.inr false))
  (fun _=>
   some (decide (((a.length:Nat):Int)≤24)))
  a 0 ()
noncomputable def ZaJ (l_0:(List Zb)):Option (List Zb):=
 Zo (σ:=(List Zb))
  (fun (i7:Nat) (b:Zb) a=>
   (Xj b).bind fun c=>
   chk (a.length+1≤1073741824) <|
   some (.inl (a++[c])))
  (fun a=>
   some a)
  l_0 0 []
noncomputable def Zdm (a_0:(List ByteArray)) (b_1:(List ByteArray)):Option Bool:=
 Zo (σ:=Unit)
  (fun (i6:Nat) (a:ByteArray) _=>
   (ZV b_1 a).bind fun b=>
   if b=true then
    some (.inl ())
   else
    some (.inr false))
  (fun _=>
   some true)
  a_0 0 ()
noncomputable def Zcx (r_0:Zg):Option Bool:=
 (Zcu r_0).bind fun b=>
 if b=true then
  Zo (σ:=Unit)
   (fun (i16:Nat) (a:Zt) _=>
    if (a.kind==2)=true then
     (XH a).bind fun c=>
     (X5 r_0 ((i16:Nat):Int)).bind fun d=>
     (Zdm c d).bind fun e=>
     if e=true then
      some (.inl ())
     else
      some (.inr false)
    else
     some (.inl ()))
   (fun _=>
    Zo (σ:=Unit)
     (fun (i24:Nat) (f:Zz) _=>
      if (f.kind != 1)=true then
       some (.inr false)
      else
       some (.inl ()))
     (fun _=>
      some true)
     r_0.thn 0 ())
   r_0.cond 0 ()
 else
  some false
noncomputable def QR (r_0:Zg):Option (List ByteArray):=
 Zo (σ:=(List ByteArray))
  (fun (i9:Nat) (b:Zz) a=>
   if (b.kind==1)=true then
    (XO a b.pattern.rel).bind fun c=>
    some (.inl c)
   else
    if (b.kind==2)=true then
     (XO a b.pattern.rel).bind fun d=>
     some (.inl d)
    else
     some (.inl a))
  (fun a=>
   some a)
  r_0.thn 0 []
noncomputable def ZbY (r_0:Zg):Option (List ByteArray):=
 Zo (σ:=(List ByteArray))
  (fun (i9:Nat) (b:Zt) a=>
   if (b.kind==1)=true then
    (XO a b.pattern.rel).bind fun c=>
    some (.inl c)
   else
    if (b.kind==2)=true then
     (XO a b.pattern.rel).bind fun d=>
     some (.inl d)
    else
     some (.inl a))
  (fun a=>
   some a)
  r_0.cond 0 []
noncomputable def Zbg (append_0:(List Zg)) (String_1:ByteArray) (a_2:ByteArray):Option Bool:=
 Yp (σ:=(List ByteArray) × Int)
  (fun s=>
   match s with
   | (d,c)=>
   if (decide (c<((d.length:Nat):Int)))=true then
    Zo (σ:=(List ByteArray))
     (fun (i93:Nat) (e:Zg) a=>
      (QR e).bind fun i=>
      chk (0≤c∧c<((a.length:Nat):Int)) <|
      (a[(A1 c)]?).bind fun j=>
      (ZV i j).bind fun k=>
      if k=true then
       (ZbY e).bind fun f=>
       (ZV f a_2).bind fun l=>
       if l=true then
        some (.inr (.inr true))
       else
        Zo (σ:=(List ByteArray))
         (fun (i108:Nat) (g:ByteArray) b=>
          (ZV b g).bind fun m=>
          if m=true then
           some (.inl b)
          else
           chk (b.length+1≤1073741824) <|
           some (.inl (b++[g])))
         (fun b=>
          some (.inl b))
         f 0 a
      else
       some (.inl a))
     (fun a=>
      some (.inl (a,(IntKind.i64.wrap (c+1)))))
     append_0 0 d
   else
    some (.inr false))
  ([String_1],0)
noncomputable def ZdZ (l_0:(List Zg)) (name_1:ByteArray):Option Int:=
 Zo (σ:=Unit)
  (fun (i4:Nat) (a:Zg) _=>
   if (sEq a.name name_1)=true then
    some (.inr ((i4:Nat):Int))
   else
    some (.inl ()))
  (fun _=>
   some (-1))
  l_0 0 ()
noncomputable def ZdU (l_0:(List Zg)):Option Bool:=
 Zo (σ:=Unit)
  (fun (i8:Nat) (a:Zg) _=>
   (Zcu a).bind fun b=>
   if b=true then
    (ZdZ l_0 a.name).bind fun c=>
    if (c != ((i8:Nat):Int))=true then
     some (.inr false)
    else
     some (.inl ())
   else
    some (.inr false))
  (fun _=>
   some (decide (((l_0.length:Nat):Int)≤6)))
  l_0 0 ()
noncomputable def Zbs (append_0:(List Zg)):Option Bool:=
 Zo (σ:=Unit)
  (fun (i67:Nat) (a:Zg) _=>
   (Zcx a).bind fun d=>
   if d=true then
    (QR a).bind fun e=>
    Zo (σ:=Unit)
     (fun (i90:Nat) (b:Zt) _=>
      Zo (σ:=Unit)
       (fun (i97:Nat) (c:ByteArray) _=>
        if (b.kind==2)=true then
         if (sEq b.pattern.rel c)=true then
          some (.inr (.inr (.inr false)))
         else
          (Zbg append_0 b.pattern.rel c).bind fun f=>
          if f=true then
           some (.inr (.inr (.inr false)))
          else
           some (.inl ())
        else
         some (.inr (.inl ())))
       (fun _=>
        some (.inl ()))
       e 0 ())
     (fun _=>
      some (.inl ()))
     a.cond 0 ()
   else
    some (.inr false))
  (fun _=>
   (ZdU append_0).bind fun g=>
   some g)
  append_0 0 ()
noncomputable def ZcA (b_0:(List Zs)):Option (List Zs):=
 chk (b_0.length≤1073741824) <|
 some b_0
noncomputable def ZiO (b_0:(List Zs)) (c:ByteArray) (value_2:ByteArray):Option (List Zs):=
 Zo (σ:=(List Zs) × Bool)
  (fun (i8:Nat) (b:Zs) s=>
   match s with
   | (a,d)=>
   if d=true then
    chk (a.length+1≤1073741824) <|
    some (.inl ((a++[b]),true))
   else
    if (sLt b.var c||sEq b.var c)=true then
     chk (a.length+1≤1073741824) <|
     some (.inl ((a++[b]),false))
    else
     chk (a.length+1≤1073741824) <|
     chk (a.length+1+1≤1073741824) <|
     some (.inl (((a++[({ var:=c,value:=value_2 }:Zs)])++[b]),true)))
  (fun s=>
   match s with
   | (a,d)=>
   if d=true then
    some a
   else
    chk (a.length+1≤1073741824) <|
    some (a++[({ var:=c,value:=value_2 }:Zs)]))
  b_0 0 ([],false)
noncomputable def ZgN (b_0:(List Zs)) (v_1:ByteArray) (value_2:ByteArray):Option ((List Zs) × Bool):=
 (XE b_0).bind fun b=>
 if b=true then
  (Zaz v_1).bind fun c=>
  if c=true then
   (Qk value_2).bind fun d=>
   if d=true then
    (ZaQ b_0 v_1).bind fun a=>
    if a.2=true then
     if (sEq a.1 value_2)=true then
      (ZcA b_0).bind fun e=>
      some (e,true)
     else
      some ([],false)
    else
     if (((b_0.length:Nat):Int)==6)=true then
      some ([],false)
     else
      (ZiO b_0 v_1 value_2).bind fun f=>
      some (f,true)
   else
    some ([],false)
  else
   some ([],false)
 else
  some ([],false)
noncomputable def Za3 (append_0:Zv) (a:Zb) (a_2:(List Zs)):Option ((List Zs) × Bool):=
 (YS append_0).bind fun f=>
 if f=true then
  (Ze7 a).bind fun g=>
  if g=true then
   (XE a_2).bind fun i=>
   if i=true then
    if (sEq append_0.rel a.rel)=true then
     if (((append_0.args.length:Nat):Int) != ((a.args.length:Nat):Int))=true then
      some ([],false)
     else
      (ZcA a_2).bind fun j=>
      Zo (σ:=(List Zs))
       (fun (d:Nat) (c:ByteArray) b=>
        (Qk c).bind fun k=>
        if k=true then
         (atI a.args ((d:Nat):Int)).bind fun l=>
         if (sEq c l)=true then
          some (.inl b)
         else
          some (.inr ([],false))
        else
         (atI a.args ((d:Nat):Int)).bind fun m=>
         (ZgN b c m).bind fun e=>
         if e.2=true then
          some (.inl e.1)
         else
          some (.inr ([],false)))
       (fun b=>
        some (b,true))
       append_0.args 0 j
    else
     some ([],false)
   else
    some ([],false)
  else
   some ([],false)
 else
  some ([],false)
noncomputable def Xs (p_0:Zv) (b_1:(List Zs)) (facts_2:(List Zb)):Option (List Zb):=
 Zo (σ:=(List Zb))
  (fun (i9:Nat) (b:Zb) a=>
   (Za3 p_0 b b_1).bind fun c=>
   if c.2=true then
    (Xj b).bind fun d=>
    chk (a.length+1≤1073741824) <|
    some (.inl (a++[d]))
   else
    some (.inl a))
  (fun a=>
   some a)
  facts_2 0 []
noncomputable def ZdN (s_0:ByteArray):Option Bool:=
 (Qe s_0).bind fun a=>
 some a.2
noncomputable def Zcj (x_0:Zt) (b_1:(List Zs)):Option Bool:=
 (Zbf x_0).bind fun c=>
 if c=true then
  (XE b_1).bind fun d=>
  if d=true then
   (ZaQ b_1 x_0.left).bind fun a=>
   (ZaQ b_1 x_0.right).bind fun b=>
   if a.2=true then
    if b.2=true then
     if (x_0.kind==3)=true then
      some (sEq a.1 b.1)
     else
      if (x_0.kind==4)=true then
       some (!(sEq a.1 b.1))
      else
       (ZdN a.1).bind fun e=>
       if e=true then
        (ZdN b.1).bind fun f=>
        if f=true then
         (Xd a.1 b.1).bind fun g=>
         some (decide (g<0))
        else
         some false
       else
        some false
    else
     some false
   else
    some false
  else
   some false
 else
  some false
noncomputable def Zcl (x_0:Zt) (a:(List Zs)) (b:(List Zb)):Option Bool:=
 (Zcn x_0).bind fun c=>
 if c=true then
  (XE a).bind fun d=>
  if d=true then
   if (x_0.kind==1)=true then
    (Xs x_0.pattern a b).bind fun e=>
    some (decide (0<((e.length:Nat):Int)))
   else
    if (x_0.kind==2)=true then
     (Xs x_0.pattern a b).bind fun f=>
     some (((f.length:Nat):Int)==0)
    else
     (Zcj x_0 a).bind fun g=>
     some g
  else
   some false
 else
  some false
noncomputable def Zf4 (t_0:Zu):Option Zu:=
 (ZaJ t_0.facts).bind fun a=>
 (ZcA t_0.binding).bind fun b=>
 some ({ facts:=a,binding:=b }:Zu)
noncomputable def Zf9 (append_0:(List Zu)) (String_1:Zt) (a_2:(List Zb)):Option (List Zu):=
 Zo (σ:=(List Zu))
  (fun (i45:Nat) (c:Zu) a=>
   if (String_1.kind != 1)=true then
    (Zcl String_1 c.binding a_2).bind fun g=>
    if g=true then
     (Zf4 c).bind fun i=>
     chk (a.length+1≤1073741824) <|
     some (.inl (a++[i]))
    else
     some (.inl a)
   else
    Zo (σ:=(List Zu))
     (fun (i59:Nat) (d:Zb) b=>
      (Za3 String_1.pattern d c.binding).bind fun e=>
      if e.2=true then
       (ZaJ c.facts).bind fun f=>
       (Xj d).bind fun j=>
       chk (f.length+1≤1073741824) <|
       chk (b.length+1≤1073741824) <|
       some (.inl (b++[({ facts:=(f++[j]),binding:=e.1 }:Zu)]))
      else
       some (.inl b))
     (fun b=>
      some (.inl b))
     a_2 0 a)
  (fun a=>
   some a)
  append_0 0 []
noncomputable def ZaF (l_0:(List Zt)) (facts_1:(List Zb)):Option (List Zu):=
 Zo (σ:=(List Zu))
  (fun (i7:Nat) (b:Zt) a=>
   (Zf9 a b facts_1).bind fun c=>
   some (.inl c))
  (fun a=>
   some a)
  l_0 0 ([({ facts:=[],binding:=[] }:Zu)])
noncomputable def XJ (r_0:Zg):Option (List Zt):=
 Zo (σ:=(List Zt))
  (fun (i6:Nat) (b:Zt) a=>
   if (b.kind != 2)=true then
    chk (a.length+1≤1073741824) <|
    some (.inl (a++[b]))
   else
    some (.inl a))
  (fun a=>
   some a)
  r_0.cond 0 []
noncomputable def Yu (append_0:(List Zg)) (String_1:(List Zb)):Option ((List Zb) × Bool):=
 (Zbs append_0).bind fun f=>
 if f=true then
  (Zdv String_1).bind fun g=>
  if g=true then
   (ZaJ String_1).bind fun i=>
   Yp (σ:=(List Zb) × Bool)
    (fun s=>
     match s with
     | (a,j)=>
     if j=true then
      Zo (σ:=(List Zb))
       (fun (i311:Nat) (e:Zg) b=>
        (XJ e).bind fun k=>
        (ZaF k a).bind fun l=>
        Zo (σ:=(List Zb))
         (fun (i355:Nat) (m:Zu) c=>
          Zo (σ:=(List Zb))
           (fun (i368:Nat) (o:Zz) d=>
            (Yy o.pattern m.binding).bind fun p=>
            (YX d p.1).bind fun q=>
            some (.inl q))
           (fun d=>
            some (.inl d))
           e.thn 0 c)
         (fun c=>
          if (decide (24<((c.length:Nat):Int)))=true then
           some (.inr (.inr ([],false)))
          else
           some (.inl c))
         l 0 b)
       (fun b=>
        some (.inl (b,(decide (((a.length:Nat):Int)<((b.length:Nat):Int))))))
       append_0 0 a
     else
      some (.inr (a,true)))
    (i,true)
  else
   some ([],false)
 else
  some ([],false)
noncomputable def Zgk (l_0:(List Int)) (x_1:Int):Option (List Int):=
 Zo (σ:=(List Int) × Bool)
  (fun (i7:Nat) (b:Int) s=>
   match s with
   | (a,c)=>
   if c=true then
    chk (a.length+1≤1073741824) <|
    some (.inl ((a++[b]),true))
   else
    if (decide (x_1≤b))=true then
     if (b != x_1)=true then
      chk (a.length+1≤1073741824) <|
      chk (a.length+1+1≤1073741824) <|
      some (.inl (((a++[x_1])++[b]),true))
     else
      chk (a.length+1≤1073741824) <|
      some (.inl ((a++[b]),true))
    else
     chk (a.length+1≤1073741824) <|
     some (.inl ((a++[b]),false)))
  (fun s=>
   match s with
   | (a,c)=>
   if c=true then
    some a
   else
    chk (a.length+1≤1073741824) <|
    some (a++[x_1]))
  l_0 0 ([],false)
noncomputable def ZbP (l_0:(List Zb)) (facts_1:(List Zb)):Option (List Int):=
 Zo (σ:=(List Int))
  (fun (i9:Nat) (c:Zb) a=>
   (QT l_0 c).bind fun b=>
   if (decide (0≤b))=true then
    (Zgk a b).bind fun d=>
    some (.inl d)
   else
    some (.inl a))
  (fun a=>
   some a)
  facts_1 0 []
noncomputable def ZaS (c:Zg) (e:Int) (b:Zu) (a_3:(List Zb)):Option Zf:=
 (atI c.thn e).bind fun f=>
 (Yy f.pattern b.binding).bind fun g=>
 Zo (σ:=(List Zb))
  (fun (i12:Nat) (d:Zt) a=>
   if (d.kind==2)=true then
    (Yy d.pattern b.binding).bind fun i=>
    chk (a.length+1≤1073741824) <|
    some (.inl (a++[i.1]))
   else
    some (.inl a))
  (fun a=>
   (QT a_3 g.1).bind fun j=>
   (ZbP a_3 b.facts).bind fun k=>
   (ZbP a_3 a).bind fun l=>
   some ({ for_:=j,inn:=k,outs:=l }:Zf))
  c.cond 0 []
noncomputable def Zbi (a_0:(List Int)) (a:(List Int)):Option Bool:=
 if (((a_0.length:Nat):Int) != ((a.length:Nat):Int))=true then
  some false
 else
  Zo (σ:=Unit)
   (fun (b:Nat) (c:Int) _=>
    (atI a ((b:Nat):Int)).bind fun d=>
    if (c != d)=true then
     some (.inr false)
    else
     some (.inl ()))
   (fun _=>
    some true)
   a_0 0 ()
noncomputable def ZeD (l_0:(List Zf)) (r_1:Zf):Option Int:=
 Zo (σ:=Unit)
  (fun (i8:Nat) (a:Zf) _=>
   if (a.for_==r_1.for_)=true then
    (Zbi a.inn r_1.inn).bind fun b=>
    if b=true then
     (Zbi a.outs r_1.outs).bind fun c=>
     if c=true then
      some (.inr ((i8:Nat):Int))
     else
      some (.inl ())
    else
     some (.inl ())
   else
    some (.inl ()))
  (fun _=>
   some (-1))
  l_0 0 ()
noncomputable def Xy (append_0:(List Zg)) (String_1:(List Zb)):Option ((List Zb) × Zr × (List Xr) × Bool):=
 (Yu append_0 String_1).bind fun b=>
 if b.2=true then
  Zo (σ:=(List Zf) × (List Xr))
   (fun (i255:Nat) (o:Zb) s=>
    match s with
    | (d,e)=>
    (QT b.1 o).bind fun p=>
    chk (d.length+1≤1073741824) <|
    chk (e.length+1≤1073741824) <|
    some (.inl ((d++[({ for_:=p,inn:=[],outs:=[] }:Zf)]),(e++[({ rule:=(⟨#[]⟩),token:=({ facts:=[],binding:=[] }:Zu) }:Xr)]))))
   (fun s=>
    match s with
    | (d,e)=>
    Zo (σ:=(List Zf) × (List Xr))
     (fun (i446:Nat) (f:Zg) s=>
      match s with
      | (g,i)=>
      (XJ f).bind fun q=>
      (ZaF q b.1).bind fun t=>
      Zo (σ:=(List Zf) × (List Xr))
       (fun (i487:Nat) (l:Zu) s=>
        match s with
        | (j,k)=>
        Zo (σ:=(List Zf) × (List Xr))
         (fun (i498:Nat) (v:Zz) s=>
          match s with
          | (a,c)=>
          (ZaS f ((i498:Nat):Int) l b.1).bind fun m=>
          (ZeD a m).bind fun u=>
          if (decide (0≤u))=true then
           some (.inl (a,c))
          else
           if (decide (60≤((a.length:Nat):Int)))=true then
            some (.inr (.inr (.inr ([],({ nodes:=0,reasons:=[] }:Zr),[],false))))
           else
            chk (a.length+1≤1073741824) <|
            chk (c.length+1≤1073741824) <|
            some (.inl ((a++[m]),(c++[({ rule:=f.name,token:=l }:Xr)]))))
         (fun s=>
          match s with
          | (a,c)=>
          some (.inl (a,c)))
         f.thn 0 (j,k))
       (fun s=>
        match s with
        | (j,k)=>
        some (.inl (j,k)))
       t 0 (g,i))
     (fun s=>
      match s with
      | (g,i)=>
      some (b.1,({ nodes:=((b.1.length:Nat):Int),reasons:=g }:Zr),i,true))
     append_0 0 (d,e))
   String_1 0 ([],[])
 else
  some ([],({ nodes:=0,reasons:=[] }:Zr),[],false)
noncomputable def Qi (rules_0:(List Zg)) (base_1:(List Zb)):Option ((List Zb) × Zr × Bool):=
 (Xy rules_0 base_1).bind fun a=>
 if a.2.2.2=true then
  some (a.1,a.2.1,true)
 else
  some ([],({ nodes:=0,reasons:=[] }:Zr),false)
noncomputable def ZbS (a:(List Int)) (n_1:Int):Option Bool:=
 Zo (σ:=Unit)
  (fun (b:Nat) (c:Int) _=>
   (X7 c 0 (IntKind.i64.wrap (n_1 - 1))).bind fun d=>
   if d=true then
    if (decide (0<((b:Nat):Int)))=true then
     (atI a (IntKind.i64.wrap (((b:Nat):Int) - 1))).bind fun e=>
     if (decide (c≤e))=true then
      some (.inr false)
     else
      some (.inl ())
    else
     some (.inl ())
   else
    some (.inr false))
  (fun _=>
   some true)
  a 0 ()
noncomputable def Zcr (b_0:Zr):Option Bool:=
 Zo (σ:=Unit)
  (fun (i11:Nat) (a:Zf) _=>
   (X7 a.for_ 0 (IntKind.i64.wrap (b_0.nodes - 1))).bind fun b=>
   if b=true then
    (ZbS a.inn b_0.nodes).bind fun c=>
    if c=true then
     (ZbS a.outs b_0.nodes).bind fun d=>
     if d=true then
      some (.inl ())
     else
      some (.inr false)
    else
     some (.inr false)
   else
    some (.inr false))
  (fun _=>
   (X7 b_0.nodes 0 24).bind fun e=>
   if e=true then
    some (decide (((b_0.reasons.length:Nat):Int)≤60))
   else
    some false)
  b_0.reasons 0 ()
noncomputable def ZFU (l_0:(List Zb)) (rel_1:ByteArray):Option (List Zb):=
 Zo (σ:=(List Zb))
  (fun (i7:Nat) (b:Zb) a=>
   if (sEq b.rel rel_1)=true then
    (Xj b).bind fun c=>
    chk (a.length+1≤1073741824) <|
    some (.inl (a++[c]))
   else
    some (.inl a))
  (fun a=>
   some a)
  l_0 0 []
noncomputable def ZF5 (r_0:Zg):Option Bool:=
 Zo (σ:=Unit)
  (fun (i6:Nat) (a:Zt) _=>
   if (a.kind==2)=true then
    some (.inr false)
   else
    some (.inl ()))
  (fun _=>
   (Zfe r_0).bind fun b=>
   if b=true then
    (ZdJ r_0).bind fun c=>
    some c
   else
    some false)
  r_0.cond 0 ()
noncomputable def ZGx (append_0:(List Zg)) (String_1:(List Zb)) (a_2:ByteArray):Option ((List Zb) × QZ × Bool):=
 (Ql append_0 String_1).bind fun a=>
 if a.2.2=true then
  if (decide (6<((String_1.length:Nat):Int)))=true then
   some ([],({ beliefs:=({ nodes:=0,reasons:=[] }:Zr),assumed:=[],bad:=[] }:QZ),false)
  else
   Zo (σ:=Unit)
    (fun (i15:Nat) (c:Zg) _=>
     (ZF5 c).bind fun d=>
     if d=true then
      some (.inl ())
     else
      some (.inr ([],({ beliefs:=({ nodes:=0,reasons:=[] }:Zr),assumed:=[],bad:=[] }:QZ),false)))
    (fun _=>
     chk (0≤((String_1.length:Nat):Int)∧((String_1.length:Nat):Int)≤((a.2.1.reasons.length:Nat):Int)) <|
     (Zc0 a.1 String_1).bind fun e=>
     Zo (σ:=(List Int))
      (fun (i24:Nat) (f:Zb) b=>
       if (sEq f.rel a_2)=true then
        chk (b.length+1≤1073741824) <|
        some (.inl (b++[((i24:Nat):Int)]))
       else
        some (.inl b))
      (fun b=>
       some (a.1,({ beliefs:=({ nodes:=a.2.1.nodes,reasons:=(AT String_1.length a.2.1.reasons) }:Zr),assumed:=e,bad:=b }:QZ),true))
      a.1 0 [])
    append_0 0 ()
 else
  some ([],({ beliefs:=({ nodes:=0,reasons:=[] }:Zr),assumed:=[],bad:=[] }:QZ),false)
noncomputable def ZFP (b:(List Int)) (nodes_1:Int):Option Bool:=
 Zo (σ:=Unit)
  (fun (c:Nat) (a:Int) _=>
   if (decide (a<0))=true then
    some (.inr false)
   else
    if (decide (nodes_1≤a))=true then
     some (.inr false)
    else
     if (decide (0<((c:Nat):Int)))=true then
      (atI b (IntKind.i64.wrap (((c:Nat):Int) - 1))).bind fun d=>
      if (decide (a≤d))=true then
       some (.inr false)
      else
       some (.inl ())
     else
      some (.inl ()))
  (fun _=>
   some true)
  b 0 ()
noncomputable def ZF9 (b_0:Zr):Option Bool:=
 if (decide (b_0.nodes<0))=true then
  some false
 else
  if (decide (24<b_0.nodes))=true then
   some false
  else
   if (decide (60<((b_0.reasons.length:Nat):Int)))=true then
    some false
   else
    Zo (σ:=Unit)
     (fun (i8:Nat) (a:Zf) _=>
      if (decide (a.for_<0))=true then
       some (.inr false)
      else
       if (decide (b_0.nodes≤a.for_))=true then
        some (.inr false)
       else
        (ZFP a.inn b_0.nodes).bind fun b=>
        if b=true then
         (ZFP a.outs b_0.nodes).bind fun c=>
         if c=true then
          some (.inl ())
         else
          some (.inr false)
        else
         some (.inr false))
     (fun _=>
      some true)
     b_0.reasons 0 ()
noncomputable def ZGs (f_0:QZ):Option Bool:=
 (ZF9 f_0.beliefs).bind fun a=>
 if a=true then
  if (decide (6<((f_0.assumed.length:Nat):Int)))=true then
   some false
  else
   (ZFP f_0.assumed f_0.beliefs.nodes).bind fun b=>
   if b=true then
    (ZFP f_0.bad f_0.beliefs.nodes).bind fun c=>
    if c=true then
     Zo (σ:=Unit)
      (fun (i7:Nat) (d:Zf) _=>
       if (decide (0<((d.outs.length:Nat):Int)))=true then
        some (.inr false)
       else
        some (.inl ()))
      (fun _=>
       some true)
      f_0.beliefs.reasons 0 ()
    else
     some false
   else
    some false
 else
  some false
noncomputable def ZGC (a_0:Int) (b_1:Int):Option Bool:=
 if (decide (0≤a_0))=true then
  if (decide (0≤b_1))=true then
   some ((ZlF .i64 a_0 b_1)==a_0)
  else
   some false
 else
  some false
noncomputable def ZFQ (l_0:(List Int)):Option (List Int):=
 Zo (σ:=(List Int))
  (fun (i54:Nat) (b:Int) a=>
   if (decide (0≤b))=true then
    (Zgz a b).bind fun e=>
    Zo (σ:=Bool × Bool × Bool)
     (fun (i65:Nat) (g:Int) s=>
      match s with
      | (c,d,f)=>
      if f=true then
       if (g==b)=true then
        some (.inl (c,d,true))
       else
        (ZGC g b).bind fun i=>
        some (.inl (c,d,(!i)))
      else
       some (.inl (c,d,false)))
     (fun s=>
      match s with
      | (c,d,f)=>
      if f=true then
       chk (a.length+1≤1073741824) <|
       some (.inl (a++[b]))
      else
       some (.inl a))
     l_0 0 (e,(!e),(!e))
   else
    Zo (σ:=Unit)
     (fun (i71:Nat) (k:Int) _=>
      some (.inl ()))
     (fun _=>
      some (.inl a))
     l_0 0 ())
  (fun a=>
   (ZfG a).bind fun j=>
   some j)
  l_0 0 []
noncomputable def ZGf (f_0:QZ) (keep_1:(Int→Option Bool)):Option (List Int):=
 chk (¬((f_0.assumed.length:Nat):Int)<0) <|
 Yp (σ:=(List Int) × Int)
  (fun s=>
   match s with
   | (b,a)=>
   if (decide (a<(ZCy .i64 1 ((f_0.assumed.length:Nat):Int))))=true then
    (keep_1 a).bind fun c=>
    if c=true then
     chk (b.length+1≤1073741824) <|
     some (.inl ((b++[a]),(IntKind.i64.wrap (a+1))))
    else
     some (.inl (b,(IntKind.i64.wrap (a+1))))
   else
    some (.inr b))
  ([],0)
noncomputable def ZGn (l_0:(List Int)) (set_1:Int):Option (List Int):=
 Zo (σ:=(List Int))
  (fun (i6:Nat) (b:Int) a=>
   chk (¬((i6:Nat):Int)<0) <|
   if ((ZlF .i64 (Ztw .i64 set_1 ((i6:Nat):Int)) 1)==1)=true then
    chk (a.length+1≤1073741824) <|
    some (.inl (a++[b]))
   else
    some (.inl a))
  (fun a=>
   some a)
  l_0 0 []
noncomputable def ZF8 (l_0:(List Int)):Option (List Int):=
 chk (l_0.length≤1073741824) <|
 some l_0
noncomputable def ZGb (r_0:Zf):Option Zf:=
 (ZF8 r_0.inn).bind fun a=>
 (ZF8 r_0.outs).bind fun b=>
 some ({ for_:=r_0.for_,inn:=a,outs:=b }:Zf)
noncomputable def ZFX (b_0:Zr):Option Zr:=
 Zo (σ:=(List Zf))
  (fun (i9:Nat) (b:Zf) a=>
   (ZGb b).bind fun c=>
   chk (a.length+1≤1073741824) <|
   some (.inl (a++[c])))
  (fun a=>
   some ({ nodes:=b_0.nodes,reasons:=a }:Zr))
  b_0.reasons 0 []
noncomputable def ZGQ (f_0:QZ) (set_1:Int):Option (List Bool):=
 (ZFX f_0.beliefs).bind fun b=>
 (ZGn f_0.assumed set_1).bind fun c=>
 Zo (σ:=(List Zf))
  (fun (i8:Nat) (d:Int) a=>
   chk (a.length+1≤1073741824) <|
   some (.inl (a++[({ for_:=d,inn:=[],outs:=[] }:Zf)])))
  (fun a=>
   (Zgt ({ nodes:=b.nodes,reasons:=a }:Zr)).bind fun e=>
   some e)
  c 0 b.reasons
noncomputable def ZGw (l_0:(List Int)) (a:(List Bool)):Option Bool:=
 Zo (σ:=Unit)
  (fun (i6:Nat) (b:Int) _=>
   (atI a b).bind fun c=>
   if c=true then
    some (.inr false)
   else
    some (.inl ()))
  (fun _=>
   some true)
  l_0 0 ()
noncomputable def ZF2 (set_0:Int) (cap_1:QZ) (a:Int):Option Bool:=
 (ZGQ cap_1 set_0).bind fun b=>
 chk (0≤a∧a<((b.length:Nat):Int)) <|
 (b[(A1 a)]?).bind fun c=>
 if c=true then
  (ZGw cap_1.bad b).bind fun d=>
  some d
 else
  some false
noncomputable def ZFZ (f_0:QZ) (x_1:Int):Option (List Int):=
 (ZGs f_0).bind fun a=>
 if a=true then
  if (decide (x_1<0))=true then
   some []
  else
   if (decide (f_0.beliefs.nodes≤x_1))=true then
    some []
   else
    (ZGf f_0 (fun a0_=>ZF2 a0_ f_0 x_1)).bind fun b=>
    (ZFQ b).bind fun c=>
    some c
 else
  some []
noncomputable def ZGt (rules_0:(List Zg)) (base_1:(List Zb)) (bad_2:ByteArray) (f_3:Zb):Option ((List (List Zb)) × Bool):=
 (ZGx rules_0 base_1 bad_2).bind fun a=>
 if a.2.2=true then
  (Yc a.1 f_3).bind fun e=>
  (ZFZ a.2.1 e).bind fun f=>
  Zo (σ:=(List (List Zb)))
   (fun (i57:Nat) (g:Int) b=>
    (ZGn a.2.1.assumed g).bind fun i=>
    Zo (σ:=(List Zb))
     (fun (i71:Nat) (d:Int) c=>
      chk (0≤d∧d<((a.1.length:Nat):Int)) <|
      (a.1[(A1 d)]?).bind fun j=>
      (YA j).bind fun k=>
      chk (c.length+1≤1073741824) <|
      some (.inl (c++[k])))
     (fun c=>
      chk (b.length+1≤1073741824) <|
      some (.inl (b++[c])))
     i 0 [])
   (fun b=>
    some (b,true))
   f 0 []
 else
  some ([],false)
noncomputable def ZFV (r_0:Zg):Option Bool:=
 Zo (σ:=Unit)
  (fun (i11:Nat) (a:Zt) _=>
   if (a.kind==2)=true then
    some (.inr false)
   else
    some (.inl ()))
  (fun _=>
   Zo (σ:=Unit)
    (fun (i17:Nat) (b:Zz) _=>
     if (b.kind != 1)=true then
      some (.inr false)
     else
      some (.inl ()))
    (fun _=>
     (Zcu r_0).bind fun c=>
     some c)
    r_0.thn 0 ())
  r_0.cond 0 ()
noncomputable def ZGr (rules_0:(List Zg)) (base_1:(List Zb)) (bad_2:ByteArray):Option ((List Zb) × QZ × Bool):=
 (Qi rules_0 base_1).bind fun a=>
 Zo (σ:=Bool)
  (fun (i11:Nat) (c:Zg) b=>
   if b=true then
    (ZFV c).bind fun d=>
    some (.inl d)
   else
    some (.inl false))
  (fun b=>
   if b=true then
    if (decide (6<((base_1.length:Nat):Int)))=true then
     some ([],({ beliefs:=({ nodes:=0,reasons:=[] }:Zr),assumed:=[],bad:=[] }:QZ),false)
    else
     chk (0≤((base_1.length:Nat):Int)∧((base_1.length:Nat):Int)≤((a.2.1.reasons.length:Nat):Int)) <|
     (ZbP a.1 base_1).bind fun e=>
     (ZFU a.1 bad_2).bind fun f=>
     (ZbP a.1 f).bind fun g=>
     some (a.1,({ beliefs:=({ nodes:=a.2.1.nodes,reasons:=(AT base_1.length a.2.1.reasons) }:Zr),assumed:=e,bad:=g }:QZ),true)
   else
    some ([],({ beliefs:=({ nodes:=0,reasons:=[] }:Zr),assumed:=[],bad:=[] }:QZ),false))
  rules_0 0 a.2.2
noncomputable def ZGp (f_0:QZ):Option Bool:=
 Zo (σ:=Unit)
  (fun (i7:Nat) (a:Zf) _=>
   if (decide (0<((a.outs.length:Nat):Int)))=true then
    some (.inr false)
   else
    some (.inl ()))
  (fun _=>
   (Zcr f_0.beliefs).bind fun b=>
   if b=true then
    (ZbS f_0.assumed f_0.beliefs.nodes).bind fun c=>
    if c=true then
     if (decide (((f_0.assumed.length:Nat):Int)≤6))=true then
      (ZbS f_0.bad f_0.beliefs.nodes).bind fun d=>
      some d
     else
      some false
    else
     some false
   else
    some false)
  f_0.beliefs.reasons 0 ()
noncomputable def ZF6 (f_0:QZ) (set_1:Int):Option Bool:=
 (ZGp f_0).bind fun a=>
 if a=true then
  chk (¬((f_0.assumed.length:Nat):Int)<0) <|
  (X7 set_1 0 (IntKind.i64.wrap ((ZCy .i64 1 ((f_0.assumed.length:Nat):Int)) - 1))).bind fun b=>
  some b
 else
  some false
noncomputable def ZFY (b:QZ) (String_1:Int):Option (List Bool):=
 chk (0≤b.beliefs.nodes∧b.beliefs.nodes≤1073741824) <|
 Zo (σ:=(List Bool))
  (fun (i87:Nat) (e:Int) c=>
   chk (¬((i87:Nat):Int)<0) <|
   if ((ZlF .i64 (Ztw .i64 String_1 ((i87:Nat):Int)) 1)==1)=true then
    chk (0≤e∧e<((c.length:Nat):Int)) <|
    (c[(A1 e)]?).bind fun m=>
    some (.inl (AD c (A1 e) true))
   else
    some (.inl c))
  (fun c=>
   Yp (σ:=(List Bool) × Int)
    (fun s=>
     match s with
     | (i,j)=>
     if (decide (j≤b.beliefs.nodes))=true then
      Zo (σ:=(List Bool))
       (fun (i157:Nat) (d:Zf) a=>
        Zo (σ:=Bool)
         (fun (i166:Nat) (f:Int) g=>
          if g=true then
           chk (0≤f∧f<((a.length:Nat):Int)) <|
           (a[(A1 f)]?).bind fun k=>
           some (.inl k)
          else
           some (.inl false))
         (fun g=>
          chk (0≤d.for_∧d.for_<((a.length:Nat):Int)) <|
          (a[(A1 d.for_)]?).bind fun l=>
          if l=true then
           some (.inl (AD a (A1 d.for_) true))
          else
           some (.inl (AD a (A1 d.for_) g)))
         d.inn 0 true)
       (fun a=>
        some (.inl (a,(IntKind.i64.wrap (j+1)))))
       b.beliefs.reasons 0 i
     else
      some (.inr i))
    (c,0))
  b.assumed 0 (AU (A1 b.beliefs.nodes) false)
noncomputable def ZFT (f_0:QZ) (set_1:Int):Option Bool:=
 (ZF6 f_0 set_1).bind fun c=>
 if c=true then
  (ZFY f_0 set_1).bind fun b=>
  Zo (σ:=Unit)
   (fun (i8:Nat) (a:Int) _=>
    chk (0≤a∧a<((b.length:Nat):Int)) <|
    (b[(A1 a)]?).bind fun d=>
    if d=true then
     some (.inr false)
    else
     some (.inl ()))
   (fun _=>
    some true)
   f_0.bad 0 ()
 else
  some false
noncomputable def ZHv (l_0:(List Int)) (x_1:Int):Option Bool:=
 Zo (σ:=Unit)
  (fun (i4:Nat) (a:Int) _=>
   if (a==x_1)=true then
    some (.inr true)
   else
    some (.inl ()))
  (fun _=>
   some false)
  l_0 0 ()
noncomputable def ZF4 (f_0:QZ) (set_1:Int):Option (List Int):=
 (ZF6 f_0 set_1).bind fun b=>
 if b=true then
  (ZFY f_0 set_1).bind fun c=>
  Zo (σ:=(List Int))
   (fun (i7:Nat) (d:Bool) a=>
    if d=true then
     chk (a.length+1≤1073741824) <|
     some (.inl (a++[((i7:Nat):Int)]))
    else
     some (.inl a))
   (fun a=>
    some a)
   c 0 []
 else
  some []
noncomputable def ZF3 (f_0:QZ) (x_1:Int) (set_2:Int):Option Bool:=
 (ZFT f_0 set_2).bind fun a=>
 if a=true then
  (ZF4 f_0 set_2).bind fun b=>
  (ZHv b x_1).bind fun c=>
  some c
 else
  some false
noncomputable def ZGK (a_0:Int) (b_1:Int):Option Bool:=
 if (decide (0≤a_0))=true then
  if (decide (0≤b_1))=true then
   some ((ZlF .i64 a_0 b_1)==a_0)
  else
   some false
 else
  some false
noncomputable def ZFS (l_0:(List Int)):Option (List Int):=
 Zo (σ:=(List Int))
  (fun (i26:Nat) (a:Int) b=>
   Zo (σ:=Bool)
    (fun (i35:Nat) (d:Int) c=>
     if c=true then
      (ZGK d a).bind fun e=>
      if e=true then
       some (.inl (d==a))
      else
       some (.inl true)
     else
      some (.inl false))
    (fun c=>
     if c=true then
      (Zgk b a).bind fun f=>
      some (.inl f)
     else
      some (.inl b))
    l_0 0 (decide (0≤a)))
  (fun b=>
   some b)
  l_0 0 []
noncomputable def ZF7 (f_0:QZ) (x_1:Int):Option (List Int):=
 Yp (σ:=(List Int) × Int)
  (fun s=>
   match s with
   | (b,a)=>
   (ZF6 f_0 a).bind fun c=>
   if c=true then
    (ZF3 f_0 x_1 a).bind fun d=>
    if d=true then
     chk (b.length+1≤1073741824) <|
     some (.inl ((b++[a]),(IntKind.i64.wrap (a+1))))
    else
     some (.inl (b,(IntKind.i64.wrap (a+1))))
   else
    (ZFS b).bind fun e=>
    some (.inr e))
  ([],0)
noncomputable def ZGd (b:(List Zb)) (f_1:QZ) (set_2:Int):Option (List Zb):=
 Zo (σ:=(List Zb))
  (fun (i9:Nat) (c:Int) a=>
   chk (¬((i9:Nat):Int)<0) <|
   if ((ZlF .i64 (Ztw .i64 set_2 ((i9:Nat):Int)) 1)==1)=true then
    (atI b c).bind fun d=>
    (Xj d).bind fun e=>
    chk (a.length+1≤1073741824) <|
    some (.inl (a++[e]))
   else
    some (.inl a))
  (fun a=>
   some a)
  f_1.assumed 0 []
noncomputable def ZGy (rules_0:(List Zg)) (base_1:(List Zb)) (bad_2:ByteArray) (f_3:Zb):Option ((List (List Zb)) × Bool):=
 (ZGr rules_0 base_1 bad_2).bind fun a=>
 if a.2.2=true then
  (QT a.1 f_3).bind fun c=>
  (ZF7 a.2.1 c).bind fun d=>
  Zo (σ:=(List (List Zb)))
   (fun (i10:Nat) (e:Int) b=>
    (ZGd a.1 a.2.1 e).bind fun f=>
    chk (b.length+1≤1073741824) <|
    some (.inl (b++[f])))
   (fun b=>
    some (b,true))
   d 0 []
 else
  some ([],false)
end
section
section
variable {α σ ρ:Type} {body:Nat→α→σ→Option (σ ⊕ ρ)} {fin:σ→Option ρ}
theorem ZlZ (i:Nat) (s:σ):Zo body fin [] i s=fin s:=rfl
theorem ZX {x:α} {l:List α} {i:Nat} {s s':σ} (h:body i x s=some (.inl s')):Zo body fin (x::l) i s=Zo body fin l (i+1) s':=by simp only[Zo,h]
theorem Yi {x:α} {l:List α} {i:Nat} {s:σ} {r:ρ} (h:body i x s=some (.inr r)):Zo body fin (x::l) i s=some r:=by simp only[Zo,h]
theorem ZU {p:α→Bool} {r:ρ}:∀{l:List α} {i:Nat} {s:σ},(∀i x,x∈l→body i x s=some (bif p x then .inl s else .inr r))→Zo body fin l i s=if l.all p=true then fin s else some r
 | [],_,_,_=>by simp [Zo]
 | x::l,i,s,h=>by
  have hx:=h i x (by simp)
  by_cases hp:p x=true
  ·rw [hp,cond_true] at hx
   rw [ZX hx,ZU fun j y my=>h j y (by simp [my])]
   simp [hp]
  ·rw [eq_false_of_ne_true hp,cond_false] at hx
   rw [Yi hx]
   simp [hp]
theorem Zco {p:α→Bool} {r:ρ}:∀{l:List α} {i:Nat} {s:σ},(∀i x,x∈l→body i x s=some (bif p x then .inr r else .inl s))→Zo body fin l i s=if l.any p=true then some r else fin s
 | [],_,_,_=>by simp [Zo]
 | x::l,i,s,h=>by
  have hx:=h i x (by simp)
  by_cases hp:p x=true
  ·rw [hp,cond_true] at hx
   rw [Yi hx]
   simp [hp]
  ·rw [eq_false_of_ne_true hp,cond_false] at hx
   rw [ZX hx,Zco fun j y my=>h j y (by simp [my])]
   simp [hp]
theorem YM {f:σ→α→σ} (I:Nat→σ→Prop):∀{l:List α} {i:Nat} {s:σ},I i s→(∀j x s,x∈l→i≤j→j<i+l.length→I j s→body j x s=some (.inl (f s x))∧I (j+1) (f s x))→Zo body fin l i s=fin (l.foldl f s)
 | [],_,_,_,_=>rfl
 | x::l,i,s,h0,h=>by
  obtain ⟨h1,h2⟩:=h i x s (by simp) (by omega) (by simp) h0
  rw [ZX h1,YM I h2 fun j y s my hj hl=>h j y s (by simp [my]) (by omega) (by simp at hl ⊢;omega)]
  rfl
theorem Zif {f:σ→α→σ} {l:List α} {i:Nat} {s:σ} (h:∀j x s,x∈l→body j x s=some (.inl (f s x))):Zo body fin l i s=fin (l.foldl f s):=
 YM (fun _ _=>True) trivial fun j x s mx _ _ _=>⟨h j x s mx,trivial⟩
theorem Zal (g:List α→Nat→σ→Option ρ) (I:List α→Nat→σ→Prop) (h0:∀i s,I [] i s→fin s=g [] i s)
  (h1:∀x l i s,I (x::l) i s→(∃s',body i x s=some (.inl s')∧I l (i+1) s'∧g (x::l) i s=g l (i+1) s')∨(∃r,body i x s=some (.inr r)∧g (x::l) i s=some r)):∀(l:List α) (i:Nat) (s:σ),I l i s→Zo body fin l i s=g l i s
 | [],i,s,h=>h0 i s h
 | x::l,i,s,h=>by
  rcases h1 x l i s h with ⟨s',e1,e2,e3⟩ | ⟨r,e1,e2⟩
  ·rw [ZX e1,Zal g I h0 h1 l (i+1) s' e2,e3]
  ·rw [Yi e1,e2]
end
def allI {α:Type} (p:Nat→α→Bool):List α→Nat→Bool
 | [],_=>true
 | x::l,i=>p i x&&allI p l (i+1)
theorem Zfo {α:Type} {p:Nat→α→Bool}:∀{l:List α} {i:Nat},allI p l i=true→∀j x,l[j]?=some x→p (i+j) x=true
 | [],_,_,j,x,hx=>by simp at hx
 | y::l,i,h,0,x,hx=>by simp only[allI,A4] at h;simp at hx;subst hx;exact h.1
 | y::l,i,h,j+1,x,hx=>by
  simp only[allI,A4] at h
  have:=Zfo h.2 j x (by simpa using hx)
  rwa [show i+(j+1)=i+1+j by omega]
section
variable {α σ ρ:Type} {body:Nat→α→σ→Option (σ ⊕ ρ)} {fin:σ→Option ρ}
theorem Xu {p:Nat→α→Bool} {r:ρ}:∀{l:List α} {i:Nat} {s:σ},(∀j x,l[j]?=some x→body (i+j) x s=some (bif p (i+j) x then .inl s else .inr r))→Zo body fin l i s=if allI p l i=true then fin s else some r
 | [],_,_,_=>by simp [Zo,allI]
 | x::l,i,s,h=>by
  have hx:=h 0 x (by simp)
  simp only[Nat.add_zero] at hx
  by_cases hp:p i x=true
  ·rw [hp,cond_true] at hx
   rw [ZX hx,Xu fun j y hy=>by have:=h (j+1) y (by simpa using hy);rwa [show i+(j+1)=i+1+j by omega] at this]
   simp [allI,hp]
  ·rw [eq_false_of_ne_true hp,cond_false] at hx
   rw [Yi hx]
   simp [allI,hp]
theorem YC {β:Type} {g:α→Option β} {fin:List β→Option ρ} {body:Nat→α→List β→Option (List β ⊕ ρ)}:∀{l:List α} {i:Nat} {acc:List β},(∀j x s,x∈l→s.length+1≤acc.length+l.length→body j x s=some (.inl (s++(g x).toList)))→Zo body fin l i acc=fin (acc++l.filterMap g)
 | [],_,acc,_=>by simp [Zo]
 | x::l,i,acc,h=>by
  rw [ZX (h i x acc (by simp) (by simp))]
  rw [YC fun j y s my hs=>h j y s (by simp [my]) (by cases hg:g x<;>simp [hg] at hs ⊢<;>omega)]
  congr 1
  cases hg:g x<;>simp [hg]
theorem Zjo {β:Type} {g:α→β} {fin:List β→Option ρ} {body:Nat→α→List β→Option (List β ⊕ ρ)} {l:List α} {i:Nat} {acc:List β} (h:∀j x s,x∈l→s.length+1≤acc.length+l.length→body j x s=some (.inl (s++[g x]))):Zo body fin l i acc=fin (acc++l.map g):=by
 rw [YC (g:=fun x=>some (g x)) h,List.filterMap_eq_map']
theorem Zcm {p:α→Bool} {fin:List α→Option ρ} {body:Nat→α→List α→Option (List α ⊕ ρ)} {l:List α} {i:Nat} {acc:List α} (h:∀j x s,x∈l→s.length+1≤acc.length+l.length→body j x s=some (.inl (if p x=true then s++[x] else s))):Zo body fin l i acc=fin (acc++l.filter p):=by
 rw [YC (g:=fun x=>if p x=true then some x else none) fun j x s mx hs=>by rw [h j x s mx hs];split<;>simp]
 congr 2
 induction l with
 | nil=>rfl
 | cons x l ih=>
  have ih:=ih fun j y s my hs=>h j y s (by simp [my]) (by simp at hs ⊢;omega)
  by_cases hp:p x=true<;>simp [hp,ih]
end
/- texts -/
theorem ZO {x y:ByteArray}:sEq x y=true↔x=y:=by simp [sEq]
theorem ZuE {x y:ByteArray}:sEq x y=false↔¬x=y:=by simp [sEq]
theorem ZuQ (x:ByteArray):sEq x x=true:=ZO.2 rfl
theorem Zfy {x y:ByteArray} (h:toL x=toL y):x=y:=by rw [←ZiP x,←ZiP y,h]
theorem ZcW (x:ByteArray):(toL x).length=x.size:=by rw [toL,Ad,Array.length_toList]
theorem ZhL:∀(a b:List UInt8),Op.bytesLess a b=true↔a<b
 | [],[]=>by simp [Op.bytesLess]
 | [],_::_=>by simp [Op.bytesLess]
 | _::_,[]=>by simp [Op.bytesLess]
 | x::a,y::b=>by
  rw [List.cons_lt_cons_iff,←ZhL a b]
  simp only[Op.bytesLess]
  by_cases h:x<y
  ·simp [h]
  ·by_cases h2:x=y
   ·subst h2;simp [h]
   ·simp [h,h2]
theorem Zfk {x y:ByteArray}:sLt x y=true↔toL x<toL y:=by
 unfold sLt toL
 rw [ZhL,AM,AM]
theorem Zii (x:ByteArray):sLt x x=false:=by
 cases h:sLt x x with
 | false=>rfl
 | true=>exact absurd (Zfk.1 h) (List.lt_irrefl _)
theorem Zfa {x y z:ByteArray} (h1:sLt x y=true) (h2:sLt y z=true):sLt x z=true:=Zfk.2 (List.lt_trans (Zfk.1 h1) (Zfk.1 h2))
theorem ZjA {x y:ByteArray} (h1:sLt x y=true):sLt y x=false:=by
 cases h:sLt y x with
 | false=>rfl
 | true=>have:=Zfa h1 h;rw [Zii] at this;simp at this
theorem Zpt {x y:ByteArray} (h:sLt x y=true):¬x=y:=fun e=>by rw [e,Zii] at h;simp at h
theorem ZeS {x y:ByteArray} (h1:sLt x y=false) (h2:¬x=y):sLt y x=true:=by
 rcases Std.lt_trichotomy (toL x) (toL y) with h | h | h
 ·rw [Zfk.2 h] at h1;simp at h1
 ·exact absurd (Zfy h) h2
 ·exact Zfk.2 h
def Asc (l:List ByteArray):Prop:=l.Pairwise fun x y=>sLt x y=true
theorem ZoX:∀{a b:List ByteArray},Asc a→Asc b→(∀x,x∈a↔x∈b)→a=b
 | [],[],_,_,_=>rfl
 | [],y::b,_,_,h=>by have:=(h y).2 (by simp);simp at this
 | x::a,[],_,_,h=>by have:=(h x).1 (by simp);simp at this
 | x::a,y::b,ha,hb,h=>by
  unfold Asc at ha hb
  rw [A8] at ha hb
  have hxy:x=y:=by
   have h1:=(h x).1 (by simp)
   have h2:=(h y).2 (by simp)
   rcases A3.1 h1 with h1 | h1
   ·exact h1
   ·rcases A3.1 h2 with h2 | h2
    ·exact h2.symm
    ·have:=ZjA (ha.1 y h2);rw [hb.1 x h1] at this;simp at this
  subst hxy
  congr 1
  refine ZoX ha.2 hb.2 fun z=>?_
  have hz:=h z
  simp only[A3] at hz
  constructor
  ·intro m
   rcases hz.1 (.inr m) with e | m'
   ·exact absurd e.symm (Zpt (ha.1 z m))
   ·exact m'
  ·intro m
   rcases hz.2 (.inr m) with e | m'
   ·exact absurd e.symm (Zpt (hb.1 z m))
   ·exact m'
def Qh:List ByteArray→ByteArray→List ByteArray
 | [],s=>[s]
 | x::r,s=>if sLt x s=true then x::Qh r s else if sEq x s=true then x::r else s::x::r
theorem Zjb {y s:ByteArray}:∀{l:List ByteArray},y∈Qh l s↔y=s∨y∈l
 | []=>by simp [Qh]
 | x::r=>by
  simp only[Qh]
  split
  ·simp only[A3,Zjb (l:=r)]
   constructor<;>(intro h;rcases h with h | h | h<;>simp [h])
  ·split
   ·rename_i h
    have:=ZO.1 h
    subst this
    simp
   ·simp
theorem Zf3 {s:ByteArray}:∀{l:List ByteArray},Asc l→Asc (Qh l s)
 | [],_=>by simp [Qh,Asc]
 | x::r,h=>by
  have h':=h
  unfold Asc at h'
  rw [A8] at h'
  simp only[Qh]
  split
  ·rename_i hx
   refine A8.2 ⟨fun y my=>?_,Zf3 h'.2⟩
   rcases Zjb.1 my with rfl | my
   ·exact hx
   ·exact h'.1 y my
  ·split
   ·exact h
   ·rename_i hx hne
    have hsx:sLt s x=true:=ZeS (by simpa using hx) (fun e=>hne (ZO.2 e))
    refine A8.2 ⟨fun y my=>?_,h⟩
    rcases A3.1 my with rfl | my
    ·exact hsx
    ·exact Zfa hsx (h'.1 y my)
theorem Zdx (s:ByteArray):∀l:List ByteArray,(Qh l s).length≤l.length+1
 | []=>by simp [Qh]
 | x::r=>by
  have:=Zdx s r
  simp only[Qh]
  split
  ·simp;omega
  ·split<;>simp
def ZT (l:List ByteArray):List ByteArray:=l.foldl Qh []
theorem XP:∀(l acc:List ByteArray),Asc acc→Asc (l.foldl Qh acc)∧(∀x,x∈l.foldl Qh acc↔x∈l∨x∈acc)∧(l.foldl Qh acc).length≤l.length+acc.length
 | [],acc,h=>⟨h,fun x=>by simp,by simp⟩
 | y::l,acc,h=>by
  obtain ⟨h1,h2,h3⟩:=XP l (Qh acc y) (Zf3 h)
  refine ⟨h1,fun x=>?_,?_⟩
  ·rw [AE,h2 x,Zjb]
   rw [A3]
   constructor
   ·rintro (h | h | h)<;>simp [h]
   ·rintro ((h | h) | h)<;>simp [h]
  ·have:=Zdx y acc
   rw [AE]
   simp only[A7]
   omega
theorem ZcG (l:List ByteArray):Asc (ZT l):=(XP l [] A9).1
theorem ZP {x:ByteArray} {l:List ByteArray}:x∈ZT l↔x∈l:=by have:=(XP l [] A9).2.1 x;rw [ZT,this];simp
theorem Zei (l:List ByteArray):(ZT l).length≤l.length:=(XP l [] A9).2.2
theorem Zfi {a l:List ByteArray} (h:Asc a) (hm:∀x,x∈a↔x∈l):a=ZT l:=ZoX h (ZcG l) fun x=>by rw [hm,ZP]
theorem ZmV {a b:List ByteArray} (h:∀x,x∈a↔x∈b):ZT a=ZT b:=Zfi (ZcG a) fun x=>by rw [ZP,h]
def Yx (l:List ByteArray) (s:ByteArray):Bool:=l.any fun x=>sEq x s
theorem Xw {l:List ByteArray} {s:ByteArray}:Yx l s=true↔s∈l:=by
 simp only[Yx,List.any_eq_true,ZO]
 constructor
 ·rintro ⟨x,h,rfl⟩;exact h
 ·exact fun h=>⟨s,h,rfl⟩
/- sorting -/
theorem ZtE {x:ByteArray} {l:List ByteArray}:x∈Ze2 l↔x∈l:=by
 simp only[Ze2,Ae,List.mem_mergeSort]
 constructor
 ·rintro ⟨y,⟨z,hz,rfl⟩,rfl⟩;rw [ZiP];exact hz
 ·exact fun h=>⟨toL x,⟨x,h,rfl⟩,ZiP x⟩
theorem ZuF (l:List ByteArray):(Ze2 l).length=l.length:=by simp [Ze2]
theorem Zu8 (l:List ByteArray):(Ze2 l).Pairwise fun x y=>sLt y x=false:=by
 unfold Ze2
 rw [List.pairwise_map]
 have:=List.pairwise_mergeSort (le:=fun x y:List UInt8=>decide (x≤y)) (fun a b c h1 h2=>by simp at h1 h2 ⊢;exact List.le_trans h1 h2) (fun a b=>by simp;exact List.le_total a b) (l.map toL)
 refine this.imp fun {a b} h=>?_
 cases hh:sLt (ofL b) (ofL a) with
 | false=>rfl
 | true=>
  have h1:=Zfk.1 hh
  rw [Zb2,Zb2] at h1
  have h2:a≤b:=by simpa using h
  exact absurd h1 (List.not_lt.2 h2)
end
theorem Zdp (a b:ByteArray):toL (a++b)=toL a++toL b:=by simp [toL]
theorem Zsm (a b:List UInt8):ofL (a++b)=ofL a++ofL b:=Zfy (by rw [Zdp,Zb2,Zb2,Zb2])
theorem ZgD (a:List UInt8):(ofL a).size=a.length:=by rw [←ZcW,Zb2]
theorem ZvX (a b c:ByteArray):(a++b)++c=a++(b++c):=Zfy (by simp only[Zdp,List.append_assoc])
theorem Zxa (a b:ByteArray):(a++b).size=a.size+b.size:=by rw [←ZcW,←ZcW,←ZcW,Zdp,AN]
theorem Zd9 {n:Int} (h0:-9223372036854775808≤n) (h1:n≤9223372036854775807):IntKind.i64.wrap n=n:=by rw [IntKind.wrap_i64];omega
theorem Zvh (u:Nat) (hu:u<9223372036854775808):Y5 [IntKind.u8.wrap (IntKind.i64.wrap (48+Int.tmod (u:Int) 10))]=ofL [An (48+u % 10)]:=by
 have h1:Int.tmod (u:Int) 10=((u % 10:Nat):Int):=by rw [Int.tmod_eq_emod_of_nonneg (by omega)];omega
 rw [h1,Zd9 (by omega) (by omega),IntKind.wrap_u8,show (48+((u % 10:Nat):Int)) % 256=((48+u % 10:Nat):Int) by omega]
 apply Zfy
 rw [Zb2]
 simp only[Y5,List.map_cons,List.map_nil,toL,AA]
theorem ZxA (u:Nat) (hu:u<9223372036854775808):IntKind.i64.wrap (Int.tdiv (u:Int) 10)=((u / 10:Nat):Int):=by
 rw [Int.tdiv_eq_ediv_of_nonneg (by omega),Zd9 (by omega) (by omega)]
 omega
theorem ZvG {body:Int × ByteArray→Option ((Int × ByteArray) ⊕ ByteArray)} (hb:∀n t,body (n,t)=chk ((Y5 [IntKind.u8.wrap (IntKind.i64.wrap (48+Int.tmod n 10))]).size+t.size≤9223372036854775807)
   (if (IntKind.i64.wrap (Int.tdiv n 10)==0)=true then some (.inr (Y5 [IntKind.u8.wrap (IntKind.i64.wrap (48+Int.tmod n 10))]++t)) else some (.inl (IntKind.i64.wrap (Int.tdiv n 10),Y5 [IntKind.u8.wrap (IntKind.i64.wrap (48+Int.tmod n 10))]++t)))):
  ∀(u:Nat) (t:ByteArray),u<9223372036854775808→t.size+Lib.nDigits u≤1000→Yp body ((u:Int),t)=some (ofL (Lib.decDigits u)++t):=by
 intro u
 induction u using Nat.strongRecOn with
 | ind u ih=>
  intro t hu ht
  rw [Zfq,hb,Zvh u hu,ZxA u hu]
  have hp:=Lib.nDigits_pos u
  rw [Zh _ (by rw [ZgD];simp;omega)]
  by_cases h:u<10
  ·have h0:u / 10=0:=by omega
   rw [h0,Lib.decDigits_one h,show u % 10=u by omega]
   rfl
  ·have h0:¬(((u / 10:Nat):Int)==0)=true:=by simp;omega
   rw [if_neg h0]
   have hd:=Lib.nDigits_big h
   show Yp body (((u / 10:Nat):Int),ofL [An (48+u % 10)]++t)=_
   rw [ih (u / 10) (by omega) _ (by omega) (by rw [Zxa,ZgD];simp;omega),←ZvX,←Zsm]
   congr 2
   rw [show Lib.decDigits u=Lib.decDigits (u / 10)++[An (48+u % 10)] by rw [Lib.decDigits,dif_neg h]]
theorem ZyK (t:ByteArray):t++(⟨#[]⟩:ByteArray)=t:=Zfy (by rw [Zdp];simp [toL])
theorem Znx {body:Int × ByteArray→Option ((Int × ByteArray) ⊕ ByteArray)} (hb:∀n t,body (n,t)=chk ((Y5 [IntKind.u8.wrap (IntKind.i64.wrap (48+Int.tmod n 10))]).size+t.size≤9223372036854775807)
   (if (IntKind.i64.wrap (Int.tdiv n 10)==0)=true then some (.inr (Y5 [IntKind.u8.wrap (IntKind.i64.wrap (48+Int.tmod n 10))]++t)) else some (.inl (IntKind.i64.wrap (Int.tdiv n 10),Y5 [IntKind.u8.wrap (IntKind.i64.wrap (48+Int.tmod n 10))]++t))))
  {n:Int} (h0:0≤n) (h1:n≤9223372036854775807):Yp body (n,⟨#[]⟩)=some (ofL (Lib.itoa n)):=by
 obtain ⟨u,rfl⟩:∃u:Nat,n=(u:Int):=⟨n.toNat,by omega⟩
 have:=Lib.nDigits_le20 u (by omega)
 rw [ZvG hb u _ (by omega) (by show 0+_≤_;omega),ZyK,Lib.itoa_nonneg]
theorem ZrY:ofL (Lib.itoa (-9223372036854775808))=(⟨#[45,57,50,50,51,51,55,50,48,51,54,56,53,52,55,55,53,56,48,56]⟩:ByteArray):=by
 rw [show (-9223372036854775808:Int)=-((9223372036854775808:Nat):Int) by rfl,Lib.itoa_neg _ (by omega),Lib.decDigits_eq,Lib.nDigits_unique 18 _ (by decide) (by decide)]
 decide +kernel
theorem ZjJ {n:Int} (h0:0≤n) (h1:n≤9223372036854775807):Zat n=some (ofL (Lib.itoa n)):=by
 unfold Zat
 rw [if_neg (by simp;omega),if_neg (by simp;omega)]
 exact Znx (fun _ _=>rfl) h0 h1
theorem Zf5 {n:Int} (h:ZqV n):X3 n=some (ofL (Lib.itoa n)):=by
 unfold X3
 by_cases hm:n=-9223372036854775808
 ·subst hm
  rw [if_pos (by decide),ZrY]
 ·rw [if_neg (by simpa using hm)]
  by_cases hn:n<0
  ·have h2:ZqV n:=h
   unfold ZqV at h2
   rw [if_pos (by simpa using hn),Zd9 (by omega) (by omega),ZjJ (by omega) (by omega),A0]
   obtain ⟨u,rfl⟩:∃u:Nat,n=-(u:Int):=⟨n.natAbs,by omega⟩
   rw [show (0 - -(u:Int))=(u:Int) by omega,Lib.itoa_nonneg,Lib.itoa_neg u (by omega)]
   have:=Lib.nDigits_le20 u (by omega)
   rw [Zh _ (by rw [ZgD,Lib.decDigits_length];show 1+_≤_;omega)]
   exact congrArg some (Zfy (by rw [Zdp,Zb2,Zb2];rfl))
  ·rw [if_neg (by simpa using hn)]
   exact Znx (fun _ _=>rfl) (by omega) h.2
theorem ZdI {n:Int} (h:ZqV n):Za4 n=some (ofL (Lib.itoa n)):=by
 have h2:-9223372036854775808≤n∧n≤9223372036854775807:=h
 unfold Za4 Zpj
 rw [Zh _ h2]
 rfl
def Zbn (b:UInt8):Bool:=(decide (97≤b.toNat)&&decide (b.toNat≤122))||(decide (48≤b.toNat)&&decide (b.toNat≤57))
def ZQ (s:ByteArray):Bool:=decide (1≤s.size)&&decide (s.size≤8)&&(toL s).all Zbn
theorem Zhs (x a b:Int):X7 x a b=some (decide (a≤x)&&decide (x≤b)):=by
 unfold X7
 by_cases h:a≤x<;>simp [h]
theorem Zoi (b:UInt8):IntKind.i64.wrap ((b.toNat:Nat):Int)=((b.toNat:Nat):Int):=YW (by omega) (by have:=b.toNat_lt;omega)
theorem Q9 {b:UInt8}:Zbn b=true↔(97≤b.toNat∧b.toNat≤122)∨(48≤b.toNat∧b.toNat≤57):=by
 simp only[Zbn,AO,A4,decide_eq_true_eq]
theorem X6 (s:ByteArray):Qk s=some (ZQ s):=by
 unfold Qk ZQ
 rw [show s.data.toList=toL s from rfl,ZU (p:=Zbn) (r:=false)]
 ·simp only[Zhs,A0]
  cases (toL s).all Zbn with
  | true=>
   simp only[if_true,Af]
   congr 1
   rw [A6]
   simp only[A4,decide_eq_true_eq]
   omega
  | false=>simp
 ·intro i x _
  simp only[Zhs,A0,Zoi,A4,decide_eq_true_eq]
  cases hp:Zbn x with
  | true=>
   have:=Q9.1 hp
   repeat' split
   all_goals first | rfl | (exfalso;omega) | (exfalso;simp_all;done)
  | false=>
   have:=mt (Q9 (b:=x)).2 (by simp [hp])
   repeat' split
   all_goals first | rfl | (exfalso;omega) | (exfalso;simp_all;done)
theorem X1 (s:ByteArray):Qm s=some (ZQ s):=by
 unfold Qm ZQ
 simp only[decide_eq_true_eq]
 rw [show s.data.toList=toL s from rfl,ZU (p:=Zbn) (r:=false)]
 ·repeat' split
  ·rw [decide_eq_false (show ¬1≤s.size by omega)];rfl
  ·rw [decide_eq_false (show ¬s.size≤8 by omega)];simp
  ·rename_i h;rw [h,decide_eq_true (show 1≤s.size by omega),decide_eq_true (show s.size≤8 by omega)];rfl
  ·rename_i h;rw [eq_false_of_ne_true h];simp
 ·intro i x _
  cases hp:Zbn x with
  | true=>
   have:=Q9.1 hp
   repeat' split
   all_goals first | rfl | (exfalso;omega) | (exfalso;simp_all;done)
  | false=>
   have:=mt (Q9 (b:=x)).2 (by simp [hp])
   repeat' split
   all_goals first | rfl | (exfalso;omega) | (exfalso;simp_all;done)
def ZhX (s:ByteArray):UInt8:=(toL s).headD 0
theorem ZiF {s:ByteArray} (h:1≤s.size):sAt s 0=some (ZhX s):=by
 unfold sAt ZhX
 have hl:0<(toL s).length:=by rw [ZcW];omega
 have:(toL s)[0]?=some ((toL s).headD 0):=by
  cases hh:toL s with
  | nil=>rw [hh] at hl;simp at hl
  | cons a r=>simp
 rw [if_pos (by omega)]
 exact Zpp this
def X9 (s:ByteArray):Bool:=ZQ s&&decide (97≤(ZhX s).toNat)
theorem Zbr {s:ByteArray} (h:ZQ s=true):1≤s.size∧s.size≤8:=by
 simp only[ZQ,A4,decide_eq_true_eq] at h
 exact h.1
theorem ZiN {s:ByteArray} (h:ZQ s=true):Zbn (ZhX s)=true:=by
 have hs:=Zbr h
 simp only[ZQ,A4] at h
 have hl:0<(toL s).length:=by rw [ZcW];omega
 refine AJ.1 h.2 _ ?_
 unfold ZhX
 cases hh:toL s with
 | nil=>rw [hh] at hl;simp at hl
 | cons a r=>simp
theorem Zgv (s:ByteArray):ZdP s=some (X9 s):=by
 unfold ZdP X9
 rw [X6,A0]
 cases h:ZQ s with
 | false=>simp
 | true=>
  simp only[if_true,ZiF (Zbr h).1,A0,Zhs,Zoi,A2]
  have hb:=Q9.1 (ZiN h)
  congr 1
  rw [A6]
  simp only[A4,decide_eq_true_eq]
  omega
theorem Zga (s:ByteArray):Zd1 s=some (X9 s):=by
 unfold Zd1 X9
 rw [X1,A0]
 cases h:ZQ s with
 | false=>simp
 | true=>
  simp only[if_true,ZiF (Zbr h).1,A0,A2]
  congr 1
  rw [A6]
  simp only[decide_eq_true_eq]
  omega
def ZvM (s:ByteArray):ByteArray:=s.extract 1 s.size
def Ye (s:ByteArray):Bool:=decide (1<s.size)&&decide ((ZhX s).toNat=63)&&ZQ (ZvM s)
theorem QW (s:ByteArray):Zaz s=some (Ye s):=by
 unfold Zaz Ye ZvM
 by_cases h:1<s.size
 ·have h':(1:Int)<((s.size:Nat):Int):=by omega
  simp only[h',h,decide_true,if_true,ZiF (show 1≤s.size by omega),A0,A2]
  rw [Zh _ ⟨by omega,by omega⟩,show A1 1=1 from rfl,X6,A0]
  by_cases h2:(ZhX s).toNat=63
  ·simp [h2]
  ·have:¬((ZhX s).toNat:Int)=63:=by omega
   simp [h2,this]
 ·have h':¬(1:Int)<((s.size:Nat):Int):=by omega
  simp [h',h]
theorem ZdQ (s:ByteArray):ZcP s=some (Ye s):=by
 unfold ZcP Ye ZvM
 by_cases h:1<s.size
 ·have h':(1:Int)<((s.size:Nat):Int):=by omega
  simp only[h',h,decide_true,if_true,ZiF (show 1≤s.size by omega),A0,A2]
  rw [Zh _ ⟨by omega,by omega⟩,show A1 1=1 from rfl,X1,A0]
  by_cases h2:(ZhX s).toNat=63
  ·simp [h2]
  ·have:¬((ZhX s).toNat:Int)=63:=by omega
   simp [h2,this]
 ·have h':¬(1:Int)<((s.size:Nat):Int):=by omega
  simp [h',h]
def Yj (s:ByteArray):Bool:=ZQ s||Ye s
theorem Zj3 (s:ByteArray):QS s=some (Yj s):=by
 unfold QS Yj
 rw [X6,QW]
 cases ZQ s<;>simp
theorem Zkd (s:ByteArray):QI s=some (Yj s):=by
 unfold QI Yj
 rw [X1,ZdQ]
 cases ZQ s<;>simp
theorem YV (l:List ByteArray) (s:ByteArray):ZV l s=some (Yx l s):=by
 unfold ZV Yx
 rw [Zco (p:=fun x=>sEq x s) (r:=true)]
 ·cases l.any fun x=>sEq x s<;>simp
 ·intro i x _
  cases sEq x s<;>simp
theorem Q5 (l:List ByteArray) (s:ByteArray):Xc l s=some (Yx l s):=by
 unfold Xc Yx
 rw [Zco (p:=fun x=>sEq x s) (r:=true)]
 ·cases l.any fun x=>sEq x s<;>simp
 ·intro i x _
  cases sEq x s<;>simp
theorem Qb (l:List ByteArray) (s:ByteArray) (h:l.length+1≤1073741824):XO l s=some (Qh l s):=by
 unfold XO
 refine (Zal (fun l _ (st:List ByteArray × Bool)=>some (if st.2=true then st.1++l else st.1++Qh l s)) (fun l _ (st:List ByteArray × Bool)=>st.1.length+l.length+(if st.2=true then 0 else 1)≤1073741824) ?_ ?_ l 0 ([],false) (by simpa using h)).trans (by simp)
 ·rintro i ⟨row,d⟩ hI
  cases d with
  | true=>simp
  | false=>simp only[A5,if_false,Qh];simp at hI;rw [Zh _ (by omega)]
 ·rintro x l i ⟨row,d⟩ hI
  left
  cases d with
  | true=>
   simp at hI
   exact ⟨(row++[x],true),by simp only[if_true];rw [Zh _ (by omega)],by simp;omega,by simp⟩
  | false=>
   simp at hI
   cases h1:sLt x s with
   | true=>exact ⟨(row++[x],false),by simp only[A5,if_false,if_true];rw [Zh _ (by omega)],by simp;omega,by simp [Qh,h1]⟩
   | false=>
    cases h2:sEq x s with
    | true=>exact ⟨(row++[x],true),by simp only[A5,if_false,if_true];rw [Zh _ (by omega)],by simp;omega,by simp [Qh,h1,h2]⟩
    | false=>exact ⟨(row++[s]++[x],true),by simp only[A5,if_false];rw [Zh _ (by omega),Zh _ (by omega)],by simp;omega,by simp [Qh,h1,h2]⟩
def Xf:ByteArray→List ByteArray→List ByteArray
 | _,[]=>[]
 | y,x::r=>if sEq y x=true then Xf x r else x::Xf x r
def ZlV:List ByteArray→List ByteArray
 | []=>[]
 | x::r=>x::Xf x r
theorem Zfv {z:ByteArray}:∀{l:List ByteArray} {y:ByteArray},z∈Xf y l→z∈l
 | [],_,h=>by simp [Xf] at h
 | x::r,y,h=>by
  simp only[Xf] at h
  split at h
  ·exact AW _ (Zfv h)
  ·rcases A3.1 h with rfl | h
   ·simp
   ·exact AW _ (Zfv h)
theorem Zjk {z:ByteArray}:∀{l:List ByteArray} {y:ByteArray},z∈l→z=y∨z∈Xf y l
 | [],_,h=>by simp at h
 | x::r,y,h=>by
  simp only[Xf]
  rcases A3.1 h with rfl | h
  ·split
   ·rename_i e;exact .inl (ZO.1 e).symm
   ·simp
  ·rcases Zjk (y:=x) h with rfl | h'
   ·split
    ·rename_i e;exact .inl (ZO.1 e).symm
    ·simp
   ·split
    ·exact .inr h'
    ·exact .inr (AW _ h')
theorem Zi9:∀{l:List ByteArray} {y:ByteArray},(y::l).Pairwise (fun a b=>sLt b a=false)→Asc (y::Xf y l)
 | [],_,_=>by simp [Xf,Asc]
 | x::r,y,h=>by
  rw [A8] at h
  have ih:=Zi9 h.2
  simp only[Xf]
  split
  ·rename_i e
   have e':=ZO.1 e
   subst e'
   exact ih
  ·rename_i e
   have hyx:sLt y x=true:=ZeS (h.1 x (by simp)) (fun h=>e (ZO.2 h.symm))
   refine A8.2 ⟨fun z mz=>?_,ih⟩
   rcases A3.1 mz with rfl | mz
   ·exact hyx
   ·exact Zfa hyx ((A8.1 ih).1 z mz)
theorem ZoI (l:List ByteArray):ZlV (Ze2 l)=ZT l:=by
 have hs:=Zu8 l
 refine Zfi ?_ fun x=>?_
 ·cases h:Ze2 l with
  | nil=>simp [ZlV,Asc]
  | cons y r=>rw [h] at hs;exact Zi9 hs
 ·rw [←ZtE (l:=l)]
  cases h:Ze2 l with
  | nil=>simp [ZlV]
  | cons y r=>
   simp only[ZlV,A3]
   constructor
   ·rintro (rfl | h)
    ·exact .inl rfl
    ·exact .inr (Zfv h)
   ·rintro (rfl | h)
    ·exact .inl rfl
    ·exact Zjk h
theorem XZ (l:List ByteArray) (h:l.length≤1073741824):Ym l=some (ZT l):=by
 unfold Ym
 rw [Zh _ h,Zcb,Zh _ (by omega),A0]
 have hl:=ZuF l
 rw [←ZoI]
 generalize Ze2 l=v at hl
 refine (Zal (fun r i (row:List ByteArray)=>some (row++match i with | 0=>ZlV r | i+1=>(match v[i]? with | some y=>Xf y r | none=>[]))) (fun r i row=>v.drop i=r∧row.length≤i∧i≤v.length) ?_ ?_ v 0 [] ⟨by simp,by simp,by simp⟩).trans (by simp)
 ·rintro i row ⟨h1,h2,h3⟩
  cases i with
  | zero=>simp [ZlV]
  | succ i=>cases hv:v[i]?<;>simp [Xf,hv]
 ·rintro x r i row ⟨h1,h2,h3⟩
  left
  have hi:v[i]?=some x:=by have:=congrArg (fun l=>l[0]?) h1;simpa using this
  have hlt:i<v.length:=(AF.1 hi).1
  have hr:v.drop (i+1)=r:=by have:=congrArg AX h1;simpa using this
  cases i with
  | zero=>
   refine ⟨row++[x],?_,⟨hr,by simp at h2 ⊢;simp [h2],by omega⟩,?_⟩
   ·simp only[Int.natCast_zero,beq_self_eq_true,if_true]
    rw [Zh _ (by omega)]
   ·simp [ZlV,hi]
  | succ i=>
   have hw:IntKind.i64.wrap (((i+1:Nat):Int) - 1)=((i:Nat):Int):=by rw [YW (by omega) (by omega)];omega
   have hne:((((i+1:Nat):Int))==0)=false:=by rw [beq_eq_false_iff_ne];omega
   obtain ⟨y,hy⟩:∃y,v[i]?=some y:=⟨v[i],by simp⟩
   simp only[hne,A5,if_false,hw,AA,hy,A0]
   cases he:sEq y x with
   | true=>
    refine ⟨row,?_,⟨hr,by omega,by omega⟩,?_⟩
    ·rw [Zh _ ⟨by omega,by omega⟩];rfl
    ·simp [Xf,he,hi]
   | false=>
    refine ⟨row++[x],?_,⟨hr,by simp;omega,by omega⟩,?_⟩
    ·rw [Zh _ ⟨by omega,by omega⟩]
     simp only[A5,if_false]
     rw [Zh _ (by omega)]
    ·simp [Xf,he,hi]
theorem Zf6 (l:List ByteArray) (h:l.length≤1073741824):Za6 l=some l:=by
 unfold Za6
 rw [Zh _ h]
theorem ZoP (l:List ByteArray) (h:l.length≤1073741824):Zfc l=some l:=by
 unfold Zfc
 rw [Zh _ h]
theorem Zmv {ρ:Type} {fin:List ByteArray→Option ρ} {body:Nat→ByteArray→List ByteArray→Option (List ByteArray ⊕ ρ)} (hb:∀j x s,body j x s=(XO s x).bind fun v=>some (.inl v)) {l acc:List ByteArray} (h:acc.length+l.length≤1073741824):Zo body fin l 0 acc=fin (l.foldl Qh acc):=by
 refine YM (f:=Qh) (fun j s=>s.length≤acc.length+j) (by omega) fun j x s mx hj hl hI=>?_
 have hp:=Zdx x s
 exact ⟨by rw [hb,Qb _ _ (by omega)];rfl,by omega⟩
theorem Zae {α σ ρ:Type} {body:Nat→α→σ→Option (σ ⊕ ρ)} {fin:σ→Option ρ} (st:List α→σ) (l:List α) (h:∀p x q,l=p++x::q→body p.length x (st p)=some (.inl (st (p++[x])))):Zo body fin l 0 (st [])=fin (st l):=by
 have key:∀(q p:List α),l=p++q→Zo body fin q p.length (st p)=fin (st l):=by
  intro q
  induction q with
  | nil=>intro p e;rw [ZlZ,e,Ag]
  | cons x q ih=>
   intro p e
   rw [ZX (h p x q e)]
   have:=ih (p++[x]) (by rw [e];simp)
   simpa using this
 exact key l [] rfl
def Yb (f:Zb):Bool:=X9 f.rel&&decide (f.args.length≤3)&&f.args.all ZQ
theorem Zko (f:Zb):Ze7 f=some (Yb f):=by
 unfold Ze7 Yb
 rw [ZU (p:=ZQ) (r:=false)]
 ·rw [Zgv,A0]
  cases X9 f.rel<;>cases h:f.args.all ZQ<;>simp<;>omega
 ·intro i x _
  rw [X6,A0]
  cases ZQ x<;>rfl
theorem Zj8 (f:Zb):ZeG f=some (Yb f):=by
 unfold ZeG Yb
 rw [Zga,A0]
 cases X9 f.rel with
 | false=>rfl
 | true=>
  rw [if_pos rfl]
  by_cases h:f.args.length≤3
  ·rw [if_neg (by simp;omega),ZU (p:=ZQ) (r:=false)]
   ·cases h2:f.args.all ZQ<;>simp [h]
   ·intro i x _
    rw [X1,A0]
    cases ZQ x<;>rfl
  ·rw [if_pos (by simp;omega)]
   simp [h]
structure Znv {α:Type} (c:α→α→Int):Prop where
 eq:∀a b,c a b=0↔a=b
 anti:∀a b,c b a=- c a b
 tr:∀a b d,c a b<0→c b d<0→c a d<0
def Zh0 (a b:ByteArray):Int:=Lib.compareBytes (toL a) (toL b)
theorem ZhO:∀(x y:List UInt8),Lib.compareBytes x y=if Op.bytesLess x y=true then -1 else if x=y then 0 else 1
 | [],[]=>by simp [Lib.compareBytes,Op.bytesLess]
 | [],_::_=>by simp [Lib.compareBytes,Op.bytesLess]
 | _::_,[]=>by simp [Lib.compareBytes,Op.bytesLess]
 | a::x,b::y=>by
  have ih:=ZhO x y
  unfold Lib.compareBytes Op.bytesLess
  by_cases h1:a<b
  ·simp [h1]
  ·rw [if_neg h1]
   by_cases h2:b<a
   ·have h3:¬a=b:=fun e=>by rw [e] at h2;exact absurd h2 (UInt8.lt_irrefl _)
    rw [if_pos h2]
    simp [h1,h3]
   ·have h3:a=b:=by
     apply UInt8.toNat_inj.1
     rw [UInt8.lt_iff_toNat_lt] at h1 h2
     omega
    subst h3
    rw [if_neg h2,ih]
    simp [h1]
theorem Zho (a b:ByteArray):Zh0 a b=if sLt a b=true then -1 else if a=b then 0 else 1:=by
 unfold Zh0
 rw [ZhO]
 have h1:Op.bytesLess (toL a) (toL b)=sLt a b:=by unfold sLt toL;rw [AM,AM]
 rw [h1]
 by_cases h:a=b
 ·subst h;simp
 ·rw [if_neg h,if_neg (fun e=>h (Zfy e))]
theorem Zbl:Znv Zh0 where
 eq:=fun a b=>by
  rw [Zho]
  by_cases h:sLt a b=true
  ·simp [h,Zpt h]
  ·rw [if_neg h]
   by_cases h2:a=b<;>simp [h2]
 anti:=fun a b=>by
  rw [Zho,Zho]
  by_cases h:sLt a b=true
  ·have h2:=ZjA h
   have h3:=Zpt h
   rw [if_pos h,if_neg (by simp [h2]),if_neg (fun e=>h3 e.symm)];rfl
  ·rw [if_neg h]
   by_cases h2:a=b
   ·subst h2;rw [if_neg h];simp
   ·rw [if_pos (ZeS (by simpa using h) h2),if_neg h2]
 tr:=fun a b d h1 h2=>by
  have key:∀x y,Zh0 x y<0→sLt x y=true:=fun x y h=>by
   rw [Zho] at h
   by_cases hx:sLt x y=true
   ·exact hx
   ·rw [if_neg hx] at h;split at h<;>omega
  rw [Zho,if_pos (Zfa (key _ _ h1) (key _ _ h2))]
  omega
theorem Zl0 (a b:ByteArray):Zhp a b=some (Zh0 a b):=by
 unfold Zhp
 rw [Zho]
 by_cases h:sLt a b=true
 ·rw [if_pos h,if_pos h]
 ·rw [if_neg h,if_neg h]
  by_cases h2:a=b
  ·subst h2;rw [if_pos (by rw [ZuQ];simp),if_pos rfl]
  ·rw [if_neg (by simp only[AO,ZO];rintro (h3 | h3);exact h h3;exact h2 h3),if_neg h2]
theorem Ziy (a b:ByteArray):ZeP a b=some (Zh0 a b):=rfl
/- numbers -/
theorem Znn {u:Nat} {b:UInt8} (h:b∈Lib.decDigits u):48≤b.toNat∧b.toNat≤57:=by
 rw [Lib.decDigits_eq,Ae] at h
 obtain ⟨t,_,rfl⟩:=h
 unfold Lib.dg
 have:u / 10 ^ (Lib.nDigits u - 1 - t) % 10<10:=Nat.mod_lt _ (by omega)
 rw [UInt8.toNat_ofNat']
 omega
def Qy (s:ByteArray):Option Nat:=
 if 1≤s.size∧s.size≤4 then (match Lib.decNat (toL s) with | some n=>if ofL (Lib.decDigits n)=s then some n else none | none=>none) else none
def ZdG (s:ByteArray):Int × Bool:=match Qy s with | some n=>((n:Int),true) | none=>(0,false)
theorem ZjB {s:ByteArray} {n:Nat} (h:Qy s=some n):s=ofL (Lib.decDigits n)∧n≤9999:=by
 unfold Qy at h
 split at h
 ·rename_i hs
  split at h
  ·split at h
   ·rename_i m _ he
    obtain rfl:=AB h
    refine ⟨he.symm,?_⟩
    have hl:Lib.nDigits m≤4:=by
     have:=congrArg Ad he
     rw [ZgD,Lib.decDigits_length] at this
     omega
    have:=Lib.lt_pow_nDigits m
    have h2:10 ^ Lib.nDigits m≤10 ^ 4:=AY (by omega) hl
    omega
   ·simp at h
  ·simp at h
 ·simp at h
theorem Zv7 {a b:ByteArray} {n:Nat} (h1:Qy a=some n) (h2:Qy b=some n):a=b:=(ZjB h1).1.trans (ZjB h2).1.symm
theorem ZrE {body:Nat→UInt8→Int→Option (Int ⊕ (Int × Bool))} {fin:Int→Option (Int × Bool)}
  (hb:∀i (x:UInt8) n,body i x n=if (decide (((x.toNat:Nat):Int)<48))=true then some (.inr (0,false)) else if (decide (57<((x.toNat:Nat):Int)))=true then some (.inr (0,false)) else some (.inl (IntKind.i64.wrap ((IntKind.i64.wrap (10 * n))+IntKind.i64.wrap (IntKind.u8.wrap (((x.toNat:Nat):Int) - 48)))))):
  ∀(l:List UInt8) (i acc:Nat),(acc+1) * 10 ^ l.length≤100000→Zo body fin l i (acc:Int)=match Lib.decFrom acc l with | some n=>fin (n:Int) | none=>some (0,false)
 | [],i,acc,_=>rfl
 | x::l,i,acc,h=>by
  unfold Lib.decFrom Lib.digitVal
  by_cases h1:48≤x.toNat∧x.toNat≤57
  ·have e:body i x (acc:Int)=some (.inl ((acc * 10+(x.toNat - 48):Nat):Int)):=by
    have hp:1≤10 ^ (x::l).length:=Nat.one_le_pow _ _ (by omega)
    have h2:acc+1≤100000:=AG (Nat.le_mul_of_pos_right _ hp) h
    rw [hb,if_neg (by simp;omega),if_neg (by simp;omega),Zd9 (n:=10 * (acc:Int)) (by omega) (by omega),IntKind.wrap_u8,Zd9 (n:=(((x.toNat:Nat):Int) - 48) % 256) (by omega) (by omega),Zd9 (by omega) (by omega)]
    congr 2
    omega
   rw [ZX e,if_pos h1]
   refine ZrE hb l (i+1) _ ?_
   rw [A7,Nat.pow_succ] at h
   refine AG ?_ h
   rw [show (acc+1) * (10 ^ l.length * 10)=((acc+1) * 10) * 10 ^ l.length by rw [Ah,Nat.mul_comm 10]]
   exact Nat.mul_le_mul_right _ (by omega)
  ·have e:body i x (acc:Int)=some (.inr (0,false)):=by
    rw [hb]
    by_cases h2:x.toNat<48
    ·rw [if_pos (by simp;omega)]
    ·rw [if_neg (by simp;omega),if_pos (by simp;omega)]
   rw [Yi e,if_neg h1]
theorem ZuV (n a b:Int):X7 n a b=some (decide (a≤n)&&decide (n≤b)):=by
 unfold X7
 by_cases h:a≤n<;>simp [h]
theorem Zap (s:ByteArray):Qe s=some (ZdG s):=by
 unfold Qe ZdG Qy
 rw [ZuV,A0]
 by_cases hs:1≤s.size∧s.size≤4
 ·rw [if_pos (by simp;omega),if_pos hs]
  have hl:s.data.toList.length=s.size:=ZcW s
  refine (ZrE (fun _ _ _=>rfl) s.data.toList 0 0 (by
   rw [hl,AH,Nat.one_mul]
   exact AG (AY (by omega) hs.2) (by omega))).trans ?_
  have hd:Lib.decNat (toL s)=Lib.decFrom 0 s.data.toList:=by
   unfold Lib.decNat
   rw [if_neg]
   ·rfl
   ·intro e
    have:=ZcW s
    rw [List.isEmpty_iff.1 e] at this
    simp at this;omega
  rw [hd]
  cases hv:Lib.decFrom 0 s.data.toList with
  | none=>rfl
  | some n=>
   have hb:n<1000000000000000000:=Lib.decFrom_lt18 hv (by omega)
   show (X3 ((n:Nat):Int)).bind _=_
   rw [Zf5 ⟨by omega,by omega⟩,A0,Lib.itoa_nonneg]
   by_cases he:ofL (Lib.decDigits n)=s
   ·rw [if_pos (ZO.2 he)]
    simp only[he,if_true]
   ·rw [if_neg (by rw [ZO];exact he)]
    simp only[he,if_false]
 ·rw [if_neg (by simp;omega),if_neg hs]
theorem Zvc {b:UInt8} {r:List UInt8} (h:b=45∨b=43):Lib.decNat (b::r)=none:=by
 rcases h with rfl | rfl<;>simp [Lib.decNat,Lib.decFrom,Lib.digitVal]
theorem ZnU {s:ByteArray} (h:Lib.decNat (toL s)=none):Qy s=none:=by
 unfold Qy
 rw [h]
 split<;>rfl
theorem Zb7 (s:ByteArray):QE s=some (ZdG s):=by
 unfold QE
 by_cases h1:s.size<1
 ·rw [if_pos (by simp;omega)]
  unfold ZdG Qy
  rw [if_neg (by omega)]
 by_cases h2:4<s.size
 ·rw [if_neg (by simp;omega),if_pos (by simp;omega)]
  unfold ZdG Qy
  rw [if_neg (by omega)]
 rw [if_neg (by simp;omega),if_neg (by simp;omega)]
 have hl:=ZcW s
 have hx:Zl4 s=some (match Lib.atoi (toL s) with | some n=>(n,true) | none=>(0,false)):=by
  unfold Zl4
  exact Zh _ (by omega)
 rw [hx,A0]
 cases hL:toL s with
 | nil=>rw [hL] at hl;simp at hl;omega
 | cons b r=>
  have sgn:b=45∨b=43→ZdG s=(0,false):=fun h=>by
   unfold ZdG
   rw [ZnU (by rw [hL];exact Zvc h)]
  have bad:∀m,(b=45∨b=43)→¬ofL (Lib.decDigits m)=s:=fun m h e=>by
   have hm:b∈Lib.decDigits m:=by
    have:toL s=Lib.decDigits m:=by rw [←e,Zb2]
    rw [←this,hL];simp
   have:=Znn hm
   rcases h with rfl | rfl<;>simp at this
  by_cases hb1:b=45
  ·rw [sgn (.inl hb1)]
   cases hd:Lib.decNat r with
   | none=>simp [Lib.atoi,hb1,hd]
   | some m=>
    have e:Lib.atoi (b::r)=some (-(m:Int)):=by simp [Lib.atoi,hb1,hd]
    rw [e]
    simp only[if_true]
    by_cases hm:m=0
    ·subst hm
     rw [if_neg (by simp),if_neg (by simp)]
     show (Za4 ((0:Nat):Int)).bind _=_
     rw [ZdI ⟨by omega,by omega⟩,A0,Lib.itoa_nonneg,if_neg (by rw [ZO];exact bad 0 (.inl hb1))]
    ·rw [if_pos (by simp;omega)]
  ·by_cases hb2:b=43
   ·rw [sgn (.inr hb2)]
    cases hd:Lib.decNat r with
    | none=>simp [Lib.atoi,hb2,hd]
    | some m=>
     have e:Lib.atoi (b::r)=some (m:Int):=by simp [Lib.atoi,hb2,hd]
     rw [e]
     simp only[if_true]
     rw [if_neg (by simp)]
     by_cases hm:9999<m
     ·rw [if_pos (by simp;omega)]
     ·rw [if_neg (by simp;omega),ZdI ⟨by omega,by omega⟩,A0,Lib.itoa_nonneg,if_neg (by rw [ZO];exact bad m (.inr hb2))]
   ·have e:Lib.atoi (b::r)=(Lib.decNat (b::r)).map fun (m:Nat)=>(m:Int):=by simp [Lib.atoi,hb1,hb2]
    rw [e]
    cases hd:Lib.decNat (b::r) with
    | none=>
     unfold ZdG
     rw [ZnU (by rw [hL];exact hd)]
     rfl
    | some m=>
     simp only[Ai,if_true]
     rw [if_neg (by simp)]
     have hn:Qy s=if ofL (Lib.decDigits m)=s then some m else none:=by
      unfold Qy
      rw [if_pos (by omega),hL,hd]
     by_cases hm:9999<m
     ·rw [if_pos (by simp;omega)]
      have:Qy s=none:=by
       cases hq:Qy s with
       | none=>rfl
       | some n=>
        have h3:=(ZjB hq).2
        rw [hn] at hq
        split at hq
        ·obtain rfl:=AB hq;omega
        ·simp at hq
      unfold ZdG
      rw [this]
     ·rw [if_neg (by simp;omega),ZdI ⟨by omega,by omega⟩,A0,Lib.itoa_nonneg]
      unfold ZdG
      rw [hn]
      by_cases he:ofL (Lib.decDigits m)=s
      ·rw [if_pos (ZO.2 he),if_pos he]
      ·rw [if_neg (by rw [ZO];exact he),if_neg he]
def ZkE (x y:Nat):Int:=if x<y then -1 else if y<x then 1 else 0
theorem Zpy:Znv ZkE where
 eq:=fun a b=>by unfold ZkE;split<;>(try split)<;>omega
 anti:=fun a b=>by unfold ZkE;split<;>(try split)<;>(try split)<;>omega
 tr:=fun a b d h1 h2=>by
  unfold ZkE at *
  split at h1
  ·split at h2
   ·rw [if_pos (by omega)];omega
   ·split at h2<;>omega
  ·split at h1<;>omega
def ZfX (a b:ByteArray):Int:=
 match Qy a,Qy b with
 | some x,some y=>ZkE x y
 | some _,none=>-1
 | none,some _=>1
 | none,none=>Zh0 a b
theorem ZoM:Znv ZfX where
 eq:=fun a b=>by
  unfold ZfX
  cases ha:Qy a with
  | none=>
   cases hb:Qy b with
   | none=>exact Zbl.eq a b
   | some y=>simp only;exact ⟨fun h=>by omega,fun h=>by rw [h,hb] at ha;simp at ha⟩
  | some x=>
   cases hb:Qy b with
   | none=>simp only;exact ⟨fun h=>by omega,fun h=>by rw [h,hb] at ha;simp at ha⟩
   | some y=>
    simp only
    rw [Zpy.eq]
    exact ⟨fun h=>Zv7 ha (h ▸ hb),fun h=>by rw [h,hb] at ha;exact (AB ha).symm⟩
 anti:=fun a b=>by
  unfold ZfX
  cases Qy a<;>cases Qy b<;>simp only
  ·exact Zbl.anti a b
  ·rfl
  ·exact Zpy.anti _ _
 tr:=fun a b d h1 h2=>by
  unfold ZfX at *
  cases ha:Qy a<;>cases hb:Qy b<;>cases hd:Qy d<;>simp only[ha,hb,hd] at h1 h2 ⊢<;>first | omega | exact Zbl.tr a b d h1 h2 | exact Zpy.tr _ _ _ h1 h2
theorem ZbF (x y:Nat):XG (x:Int) (y:Int)=some (ZkE x y):=by
 unfold XG ZkE
 by_cases h1:x<y
 ·rw [if_pos (by simpa using h1),if_pos h1]
 ·rw [if_neg (by simpa using h1),if_neg h1]
  by_cases h2:y<x
  ·rw [if_pos (by simpa using h2),if_pos h2]
  ·rw [if_neg (by simpa using h2),if_neg h2]
theorem Zec (a b:ByteArray):Xd a b=some (ZfX a b):=by
 unfold Xd ZfX
 rw [Zap,A0,Zap,A0]
 unfold ZdG
 cases Qy a with
 | none=>
  cases Qy b with
  | none=>simp only[A5,if_false];rw [Zl0];rfl
  | some y=>rfl
 | some x=>
  cases Qy b with
  | none=>rfl
  | some y=>
   simp only[if_true]
   unfold ZkE
   by_cases h1:x<y
   ·rw [if_pos (by simpa using h1),if_pos h1]
   ·rw [if_neg (by simpa using h1),if_neg h1]
    by_cases h2:y<x
    ·rw [if_pos (by simpa using h2),if_pos h2]
    ·rw [if_neg (by simpa using h2),if_neg h2]
theorem ZiW (a b:ByteArray):QV a b=some (ZfX a b):=by
 unfold QV ZfX
 rw [Zb7,A0,Zb7,A0]
 unfold ZdG
 cases Qy a with
 | none=>
  cases Qy b with
  | none=>simp only[A5,if_false];rw [Ziy];rfl
  | some y=>rfl
 | some x=>
  cases Qy b with
  | none=>rfl
  | some y=>simp only[if_true];rw [ZbF];rfl
def Zg2 {α:Type} (c:α→α→Int):List α→List α→Int
 | [],[]=>0
 | [],_::_=>-1
 | _::_,[]=>1
 | x::l,y::r=>if c x y=0 then Zg2 c l r else c x y
theorem Zpn {α:Type} {c:α→α→Int} (h:Znv c):Znv (Zg2 c) where
 eq:=fun a=>by
  induction a with
  | nil=>intro b;cases b<;>simp [Zg2]
  | cons x l ih=>
   intro b
   cases b with
   | nil=>simp [Zg2]
   | cons y r=>
    simp only[Zg2]
    by_cases hx:c x y=0
    ·rw [if_pos hx,ih,(h.eq x y).1 hx];simp
    ·rw [if_neg hx]
     exact ⟨fun e=>absurd e hx,fun e=>absurd ((h.eq x y).2 (by simp at e;exact e.1)) hx⟩
 anti:=fun a=>by
  induction a with
  | nil=>intro b;cases b<;>simp [Zg2]
  | cons x l ih=>
   intro b
   cases b with
   | nil=>simp [Zg2]
   | cons y r=>
    simp only[Zg2]
    have hy:=h.anti x y
    by_cases hx:c x y=0
    ·rw [if_pos hx,if_pos (by omega),ih]
    ·rw [if_neg hx,if_neg (by omega),hy]
 tr:=fun a=>by
  induction a with
  | nil=>
   intro b d h1 h2
   cases b with
   | nil=>simp [Zg2] at h1
   | cons y r=>cases d with
    | nil=>simp [Zg2] at h2
    | cons z q=>simp [Zg2]
  | cons x l ih=>
   intro b d h1 h2
   cases b with
   | nil=>simp [Zg2] at h1
   | cons y r=>cases d with
    | nil=>simp [Zg2] at h2
    | cons z q=>
     simp only[Zg2] at h1 h2 ⊢
     by_cases hx:c x y=0
     ·rw [if_pos hx] at h1
      obtain rfl:=(h.eq x y).1 hx
      by_cases hz:c x z=0
      ·rw [if_pos hz] at h2 ⊢;exact ih r q h1 h2
      ·rw [if_neg hz] at h2 ⊢;exact h2
     ·rw [if_neg hx] at h1
      by_cases hz:c y z=0
      ·obtain rfl:=(h.eq y z).1 hz
       rw [if_neg hx];exact h1
      ·rw [if_neg hz] at h2
       have:=h.tr x y z h1 h2
       rw [if_neg (by omega)];exact this
def ZbB (a b:Zb):Int:=if Zh0 a.rel b.rel=0 then Zg2 ZfX a.args b.args else Zh0 a.rel b.rel
theorem Zrp {a b:Zb} (h1:a.rel=b.rel) (h2:a.args=b.args):a=b:=by cases a;cases b;simp_all
theorem ZcQ:Znv ZbB where
 eq:=fun a b=>by
  unfold ZbB
  by_cases h:Zh0 a.rel b.rel=0
  ·rw [if_pos h,(Zpn ZoM).eq]
   exact ⟨fun e=>Zrp ((Zbl.eq _ _).1 h) e,fun e=>by rw [e]⟩
  ·rw [if_neg h]
   exact ⟨fun e=>absurd e h,fun e=>absurd ((Zbl.eq _ _).2 (by rw [e])) h⟩
 anti:=fun a b=>by
  unfold ZbB
  have hy:=Zbl.anti a.rel b.rel
  by_cases h:Zh0 a.rel b.rel=0
  ·rw [if_pos h,if_pos (by omega),(Zpn ZoM).anti]
  ·rw [if_neg h,if_neg (by omega),hy]
 tr:=fun a b d h1 h2=>by
  unfold ZbB at *
  by_cases hx:Zh0 a.rel b.rel=0
  ·rw [if_pos hx] at h1
   have e:=(Zbl.eq _ _).1 hx
   rw [e]
   by_cases hz:Zh0 b.rel d.rel=0
   ·rw [if_pos hz] at h2 ⊢;exact (Zpn ZoM).tr _ _ _ h1 h2
   ·rw [if_neg hz] at h2 ⊢;exact h2
  ·rw [if_neg hx] at h1
   by_cases hz:Zh0 b.rel d.rel=0
   ·rw [←(Zbl.eq _ _).1 hz,if_neg hx];exact h1
   ·rw [if_neg hz] at h2
    have:=Zbl.tr _ _ _ h1 h2
    rw [if_neg (by omega)];exact this
theorem Zav {α:Type} (l:List α) (i:Nat):atI l (i:Int)=l[i]?:=by unfold atI;rw [if_pos (by omega),AA]
theorem ZjN {A B:List ByteArray} {body:Nat→ByteArray→Unit→Option (Unit ⊕ Int)} {fin:Unit→Option Int}
  (hlt:∀i x y,B[i]?=some y→body i x ()=if ZfX x y=0 then some (.inl ()) else some (.inr (ZfX x y))) (hge:∀x,B.length<A.length→body B.length x ()=some (.inr 1)) (hfin:A.length≤B.length→fin ()=some (if A.length<B.length then -1 else 0)):
  ∀(l:List ByteArray) (i:Nat),i+l.length=A.length→i≤B.length→Zo body fin l i ()=some (Zg2 ZfX l (B.drop i))
 | [],i,h,hi=>by
  simp at h
  rw [ZlZ,hfin (by omega)]
  by_cases hb:A.length<B.length
  ·rw [if_pos hb]
   cases hd:B.drop i with
   | nil=>have:=congrArg List.length hd;simp at this;omega
   | cons y r=>rfl
  ·rw [if_neg hb,AZ (by omega)]
   rfl
 | x::l,i,h,hi=>by
  simp only[A7] at h
  by_cases hb:i<B.length
  ·have hy:B[i]?=some B[i]:=AI hb
   rw [Aa hb]
   simp only[Zg2]
   by_cases hc:ZfX x B[i]=0
   ·rw [ZX (by rw [hlt i x _ hy,if_pos hc]),if_pos hc]
    exact ZjN hlt hge hfin l (i+1) (by omega) (by omega)
   ·rw [Yi (by rw [hlt i x _ hy,if_neg hc]),if_neg hc]
  ·obtain rfl:i=B.length:=by omega
   rw [Yi (hge x (by omega)),AZ (AP _)]
   rfl
theorem Zbo (a b:Zb):Yn a b=some (ZbB a b):=by
 unfold Yn ZbB
 by_cases h:a.rel=b.rel
 ·rw [if_pos (ZO.2 h),if_pos ((Zbl.eq _ _).2 h)]
  refine ZjN (A:=a.args) (B:=b.args) (fun i x y hy=>?_) (fun x hx=>?_) (fun hx=>?_) a.args 0 (by simp) (Nat.zero_le _)
  ·have hi:=(AF.1 hy).1
   rw [if_pos (by simpa using hi),Zav,hy,A0,Zec,A0]
   by_cases hc:ZfX x y=0
   ·rw [hc];rfl
   ·rw [if_pos (by simpa using hc),if_neg hc]
  ·rw [if_neg (by simp),if_neg (by simp;omega),if_pos (by simpa using hx)]
  ·by_cases h2:a.args.length<b.args.length
   ·rw [if_pos (by simpa using h2),if_pos h2]
   ·rw [if_neg (by simpa using h2),if_neg (by simp;omega),if_neg h2]
 ·rw [if_neg (by rw [ZO];exact h),if_neg (fun e=>h ((Zbl.eq _ _).1 e)),Zl0]
  rfl
theorem Zeb (a b:Zb):XV a b=some (ZbB a b):=by
 unfold XV ZbB
 rw [Ziy,A0]
 by_cases h:Zh0 a.rel b.rel=0
 ·rw [if_neg (by simpa using h),if_pos h]
  refine ZjN (A:=a.args) (B:=b.args) (fun i x y hy=>?_) (fun x hx=>?_) (fun hx=>?_) a.args 0 (by simp) (Nat.zero_le _)
  ·have hi:=(AF.1 hy).1
   rw [if_pos (by simpa using hi),Zav,hy,A0,ZiW,A0]
   by_cases hc:ZfX x y=0
   ·rw [hc];rfl
   ·rw [if_pos (by simpa using hc),if_neg hc]
  ·rw [if_neg (by simp),ZbF]
   unfold ZkE
   rw [if_neg (by omega),if_pos hx]
   rfl
  ·rw [ZbF]
   unfold ZkE
   by_cases h2:a.args.length<b.args.length
   ·rw [if_pos h2,if_pos h2];rfl
   ·rw [if_neg h2,if_neg (by omega),if_neg h2];rfl
 ·rw [if_pos (by simpa using h),if_neg h]
section
theorem Xb (f:Zb) (h:f.args.length≤1048576):Xj f=some f:=by
 unfold Xj
 rw [ZoP _ (by omega)]
 rfl
theorem YN (f:Zb) (h:f.args.length≤1048576):YA f=some f:=by
 unfold YA
 rw [Zf6 _ (by omega)]
 rfl
theorem Zlm {B:List ByteArray} {body:Nat→ByteArray→Unit→Option (Unit ⊕ Bool)} (hb:∀i x y,B[i]?=some y→body i x ()=if x=y then some (.inl ()) else some (.inr false)):
  ∀(l:List ByteArray) (i:Nat),i+l.length=B.length→Zo body (fun _=>some true) l i ()=some (decide (l=B.drop i))
 | [],i,h=>by
  simp at h
  rw [ZlZ,AZ (by omega)]
  simp
 | x::l,i,h=>by
  simp only[A7] at h
  have hi:i<B.length:=by omega
  have hd:(x::l=B.drop i)↔(x=B[i]∧l=B.drop (i+1)):=by rw [Aa hi,List.cons.injEq]
  rw [A6.2 (show decide (x::l=B.drop i)=true↔decide (x=B[i]∧l=B.drop (i+1))=true by rw [decide_eq_true_iff,decide_eq_true_iff];exact hd)]
  by_cases hx:x=B[i]
  ·rw [ZX (by rw [hb i x _ (AI hi),if_pos hx]),Zlm hb l (i+1) (by omega)]
   simp [hx]
  ·rw [Yi (by rw [hb i x _ (AI hi),if_neg hx])]
   simp [hx]
theorem ZlQ (a b:List ByteArray):Zct a b=some (decide (a=b)):=by
 unfold Zct
 by_cases h:a.length=b.length
 ·rw [if_neg (by simp;omega)]
  have:=Zlm (B:=b) (body:=fun i6 x7 _=>(atI b ((i6:Nat):Int)).bind fun x8=>if (sEq x7 x8)=true then some (.inl ()) else some (.inr false)) (fun i x y hy=>by
   show (atI b ((i:Nat):Int)).bind _=_
   rw [Zav,hy,A0]
   by_cases hx:x=y
   ·rw [if_pos (ZO.2 hx),if_pos hx]
   ·rw [if_neg (by rw [ZO];exact hx),if_neg hx]) a 0 (by omega)
  simpa using this
 ·rw [if_pos (by simp;omega),decide_eq_false (fun e=>h (by rw [e]))]
open Classical
theorem Zb4 (a b:Zb):ZbR a b=some (decide (a=b)):=by
 unfold ZbR
 by_cases h:a.rel=b.rel
 ·rw [if_pos (ZO.2 h),ZlQ,A0]
  congr 1
  rw [A6,decide_eq_true_iff,decide_eq_true_iff]
  exact ⟨fun e=>Zrp h e,fun e=>by rw [e]⟩
 ·rw [if_neg (by rw [ZO];exact h),decide_eq_false (fun e=>h (by rw [e]))]
theorem ZhG (l:List Zb) (f:Zb):∃z,Yc l f=some z∧(z<0↔f∉l):=by
 unfold Yc
 have key:∀(l:List Zb) (i:Nat),∃z,Zo (σ:=Unit) (fun (i6:Nat) (x7:Zb) _=>(ZbR x7 f).bind fun v8=>if v8=true then some (.inr ((i6:Nat):Int)) else some (.inl ())) (fun _=>some (-1)) l i ()=some z∧(z<0↔f∉l):=by
  intro l
  induction l with
  | nil=>intro i;exact ⟨-1,rfl,by simp⟩
  | cons x l ih=>
   intro i
   by_cases hx:x=f
   ·refine ⟨(i:Int),Yi (by rw [Zb4,A0,if_pos (decide_eq_true hx)]),by simp [hx]⟩
   ·obtain ⟨z,e,hz⟩:=ih (i+1)
    refine ⟨z,(ZX (by rw [Zb4,A0,if_neg (by simpa using hx)])).trans e,?_⟩
    rw [hz,A3]
    exact ⟨fun h=>by rintro (h1 | h1);exact hx h1.symm;exact h h1,fun h h1=>h (.inr h1)⟩
 exact key l 0
def Zd6:List Zb→Zb→List Zb
 | [],f=>[f]
 | x::l,f=>if ZbB x f<0 then x::Zd6 l f else if ZbB x f=0 then x::l else f::x::l
def Zg3 (l:List Zb):Prop:=l.Pairwise fun x y=>ZbB x y<0
theorem QP {y f:Zb}:∀{l:List Zb},y∈Zd6 l f↔y=f∨y∈l
 | []=>by simp [Zd6]
 | x::l=>by
  simp only[Zd6]
  split
  ·rw [A3,QP,A3]
   exact ⟨fun h=>by rcases h with h | h | h<;>simp [h],fun h=>by rcases h with h | h | h<;>simp [h]⟩
  ·split
   ·rename_i h
    have e:=(ZcQ.eq _ _).1 h
    rw [A3,e]
    exact ⟨fun h=>by rcases h with h | h<;>simp [h],fun h=>by rcases h with h | h | h<;>simp [h]⟩
   ·rw [A3]
theorem Zmb (f:Zb):∀l:List Zb,(Zd6 l f).length≤l.length+1
 | []=>by simp [Zd6]
 | x::l=>by
  have:=Zmb f l
  simp only[Zd6]
  split
  ·simp;omega
  ·split<;>simp
theorem ZpV {f:Zb}:∀{l:List Zb},Zg3 l→Zg3 (Zd6 l f)
 | [],_=>by simp [Zd6,Zg3]
 | x::l,h=>by
  unfold Zg3 at *
  rw [A8] at h
  simp only[Zd6]
  split
  ·rename_i hx
   rw [A8]
   refine ⟨fun y my=>?_,ZpV h.2⟩
   rcases QP.1 my with rfl | my
   ·exact hx
   ·exact h.1 y my
  ·rename_i hx
   split
   ·rw [A8];exact h
   ·rename_i h0
    have hfx:ZbB f x<0:=by rw [ZcQ.anti x f];omega
    rw [A8,A8]
    refine ⟨fun y my=>?_,h⟩
    rcases A3.1 my with rfl | my
    ·exact hfx
    ·exact ZcQ.tr _ _ _ hfx (h.1 y my)
theorem ZlP (l:List Zb) (f:Zb) (hl:l.length≤1048576) (ha:∀x∈l,x.args.length≤1048576) (hf:f.args.length≤1048576):YX l f=some (Zd6 l f):=by
 unfold YX
 rw [Zal (fun l _ s=>some (s.1++(if s.2=true then l else Zd6 l f))) (fun l _ s=>s.1.length+2 * l.length+1≤4000000∧∀x∈l,x.args.length≤1048576) ?_ ?_ l 0 ([],false) ⟨by simp;omega,ha⟩]
 ·simp
 ·rintro i ⟨row,done⟩ ⟨h1,_⟩
  cases done with
  | true=>simp
  | false=>
   simp only[A5,if_false]
   simp only[AQ] at h1
   rw [Xb f hf,A0,Zh _ (by omega)]
   rfl
 ·rintro x l i ⟨row,done⟩ ⟨h1,h2⟩
  simp only[A7] at h1
  have hx:=h2 x (by simp)
  left
  cases done with
  | true=>
   simp only[if_true]
   rw [Xb x hx,A0,Zh _ (by omega)]
   exact ⟨_,rfl,⟨by simp;omega,fun y my=>h2 y (by simp [my])⟩,by simp⟩
  | false=>
   simp only[A5,if_false]
   rw [Zbo,A0]
   by_cases hlt:ZbB x f<0
   ·rw [if_neg (by simp;omega),Xb x hx,A0,Zh _ (by omega)]
    exact ⟨_,rfl,⟨by simp;omega,fun y my=>h2 y (by simp [my])⟩,by simp [Zd6,hlt]⟩
   ·rw [if_pos (by simp;omega),A0]
    by_cases h0:ZbB x f=0
    ·rw [if_neg (by simp;omega),Xb x hx,A0,Zh _ (by omega)]
     exact ⟨_,rfl,⟨by simp;omega,fun y my=>h2 y (by simp [my])⟩,by simp [Zd6,h0]⟩
    ·rw [if_pos (by simp;omega),Xb f hf,A0,Zh _ (by omega),Xb x hx,A0,Zh _ (by omega)]
     exact ⟨_,rfl,⟨by simp;omega,fun y my=>h2 y (by simp [my])⟩,by simp [Zd6,h0,hlt]⟩
theorem Zpe (l:List Zb) (f:Zb) (hn:f∉l) (hl:l.length≤1048576) (ha:∀x∈l,x.args.length≤1048576) (hf:f.args.length≤1048576):XW l f=some (Zd6 l f):=by
 unfold XW
 rw [Zal (fun l _ s=>some (s.1++(if s.2=true then l else Zd6 l f))) (fun l _ s=>s.1.length+2 * l.length+1≤4000000∧f∉l∧∀x∈l,x.args.length≤1048576) ?_ ?_ l 0 ([],false) ⟨by simp;omega,hn,ha⟩]
 ·simp
 ·rintro i ⟨row,done⟩ ⟨h1,_⟩
  cases done with
  | true=>simp
  | false=>
   simp only[A5,if_false]
   simp only[AQ] at h1
   rw [YN f hf,A0,Zh _ (by omega)]
   rfl
 ·rintro x l i ⟨row,done⟩ ⟨h1,h3,h2⟩
  simp only[A7] at h1
  have hx:=h2 x (by simp)
  have h3':f∉l:=fun m=>h3 (by simp [m])
  left
  cases done with
  | true=>
   simp only[if_true]
   rw [YN x hx,A0,Zh _ (by omega)]
   exact ⟨_,rfl,⟨by simp;omega,h3',fun y my=>h2 y (by simp [my])⟩,by simp⟩
  | false=>
   simp only[A5,if_false]
   rw [Zeb,A0]
   have h0:¬ZbB x f=0:=fun e=>h3 (by rw [(ZcQ.eq _ _).1 e];simp)
   by_cases hlt:ZbB x f<0
   ·rw [if_neg (by simp;omega),YN x hx,A0,Zh _ (by omega)]
    exact ⟨_,rfl,⟨by simp;omega,h3',fun y my=>h2 y (by simp [my])⟩,by simp [Zd6,hlt]⟩
   ·rw [if_pos (by simp;omega),YN f hf,A0,Zh _ (by omega),YN x hx,A0,Zh _ (by omega)]
    exact ⟨_,rfl,⟨by simp;omega,h3',fun y my=>h2 y (by simp [my])⟩,by simp [Zd6,h0,hlt]⟩
end
def ZR (p:Zv):Bool:=X9 p.rel&&decide (p.args.length≤3)&&p.args.all Yj
theorem QK (p:Zv):YS p=some (ZR p):=by
 unfold YS ZR
 rw [ZU (p:=Yj) (r:=false)]
 ·simp only[Zgv,A0]
  have:decide (((p.args.length:Nat):Int)≤3)=decide (p.args.length≤3):=by rw [A6];simp only[decide_eq_true_eq];omega
  rw [this]
  cases p.args.all Yj<;>cases X9 p.rel<;>simp
 ·intro i x _
  rw [Zj3]
  cases Yj x<;>simp
theorem Zbe (p:Zv):Y9 p=some (ZR p):=by
 unfold Y9 ZR
 rw [Zga,ZU (p:=Yj) (r:=false)]
 ·by_cases h:p.args.length≤3
  ·have h':¬(3:Int)<((p.args.length:Nat):Int):=by omega
   cases p.args.all Yj<;>cases X9 p.rel<;>simp [h,h']
  ·have h':(3:Int)<((p.args.length:Nat):Int):=by omega
   cases X9 p.rel<;>simp [h,h']
 ·intro i x _
  rw [Zkd]
  cases Yj x<;>simp
def Y3 (p:Zv):Bool:=sEq p.rel ⟨#[]⟩&&decide (p.args.length=0)
theorem Zud {α:Type} (l:List α):((((l.length:Nat):Int))==0)=decide (l.length=0):=by
 rw [A6,beq_iff_eq,decide_eq_true_eq];omega
theorem ZeC (p:Zv):Y8 p=some (Y3 p):=by
 unfold Y8 Y3
 rw [Zud]
 cases sEq p.rel ⟨#[]⟩<;>simp
def Yk (x:Zt):Bool:=
 if x.kind=1∨x.kind=2 then ZR x.pattern&&sEq x.left ⟨#[]⟩&&sEq x.right ⟨#[]⟩
 else if x.kind=3∨x.kind=4∨x.kind=5 then Y3 x.pattern&&Yj x.left&&Yj x.right
 else false
theorem Zcv (x:Zt):Zcn x=some (Yk x):=by
 unfold Zcn Yk
 simp only[QK,Zj3,A0,Y3,Zud,beq_iff_eq]
 by_cases h1:x.kind=1
 ·simp only[h1,if_true,true_or];cases ZR x.pattern<;>cases sEq x.left ⟨#[]⟩<;>simp
 by_cases h2:x.kind=2
 ·simp only[h2,if_true,or_true];cases ZR x.pattern<;>cases sEq x.left ⟨#[]⟩<;>simp
 simp only[h1,h2,if_false,or_self]
 by_cases h3:x.kind=3
 ·simp only[h3,if_true,true_or];cases sEq x.pattern.rel ⟨#[]⟩<;>cases decide (x.pattern.args.length=0)<;>cases Yj x.left<;>simp
 by_cases h4:x.kind=4
 ·simp only[h4,if_true,true_or,or_true];cases sEq x.pattern.rel ⟨#[]⟩<;>cases decide (x.pattern.args.length=0)<;>cases Yj x.left<;>simp
 by_cases h5:x.kind=5
 ·simp only[h5,if_true,or_true];cases sEq x.pattern.rel ⟨#[]⟩<;>cases decide (x.pattern.args.length=0)<;>cases Yj x.left<;>simp
 simp [h3,h4,h5]
theorem Zg4 (x:Zt):ZdA x=some (Yk x):=by
 unfold ZdA Yk
 simp only[Zbe,Zkd,ZeC,A0,beq_iff_eq]
 by_cases h1:x.kind=1
 ·simp only[h1,if_true,true_or];cases ZR x.pattern<;>cases sEq x.left ⟨#[]⟩<;>simp
 by_cases h2:x.kind=2
 ·simp only[h2,if_true,or_true];cases ZR x.pattern<;>cases sEq x.left ⟨#[]⟩<;>simp
 simp only[h1,h2,if_false,or_self]
 by_cases h3:x.kind=3
 ·simp only[h3,if_true,true_or];cases Y3 x.pattern<;>cases Yj x.left<;>cases Yj x.right<;>simp
 by_cases h4:x.kind=4
 ·simp only[h4,if_true,true_or,or_true];cases Y3 x.pattern<;>cases Yj x.left<;>cases Yj x.right<;>simp
 by_cases h5:x.kind=5
 ·simp only[h5,if_true,or_true];cases Y3 x.pattern<;>cases Yj x.left<;>cases Yj x.right<;>simp
 simp [h3,h4,h5]
theorem Zo4 {x:Zt} (h:Yk x=true):x.kind=1∨x.kind=2∨x.kind=3∨x.kind=4∨x.kind=5:=by
 unfold Yk at h
 split at h
 ·rename_i h1;omega
 ·split at h
  ·rename_i h1;omega
  ·simp at h
theorem Zqc (x:Zt):Zbf x=some (Yk x&&decide (3≤x.kind)):=by
 unfold Zbf
 rw [Zcv]
 cases Yk x<;>simp
def Xq (a:Zz):Bool:=
 if a.kind=1∨a.kind=2 then ZR a.pattern else if a.kind=3 then Y3 a.pattern else false
theorem Zm9 (a:Zz):Zdd a=some (Xq a):=by
 unfold Zdd Xq
 simp only[QK,A0,Y3,Zud,beq_iff_eq]
 by_cases h1:a.kind=1
 ·simp [h1]
 by_cases h2:a.kind=2
 ·simp [h2]
 by_cases h3:a.kind=3
 ·simp only[h3,if_true];cases sEq a.pattern.rel ⟨#[]⟩<;>simp
 simp [h1,h2,h3]
theorem Znc (a:Zz):Zdl a=some (Xq a):=by
 unfold Zdl Xq
 simp only[Zbe,ZeC,A0,beq_iff_eq]
 by_cases h1:a.kind=1
 ·simp [h1]
 by_cases h2:a.kind=2
 ·simp [h2]
 by_cases h3:a.kind=3
 ·simp [h3]
 simp [h1,h2,h3]
def Y2 (l:List ByteArray):List ByteArray:=l.filter Ye
theorem ZcZ (l:List ByteArray):(Y2 l).length≤l.length:=List.length_filter_le _ _
theorem ZbJ {x:ByteArray} {l:List ByteArray}:x∈Y2 l↔x∈l∧Ye x=true:=by simp [Y2]
theorem Zdz (l:List ByteArray) (h:l.length≤1073741824):QM l=some (Y2 l):=by
 unfold QM
 rw [Zcm (p:=Ye)]
 ·simp [Y2]
 ·intro j x s _ hs
  rw [ZdQ,A0]
  split
  ·rw [Zh _ (by simp at hs;omega)]
  ·rfl
theorem Zke {p:ByteArray→Bool}:∀(l acc:List ByteArray),l.foldl (fun s x=>if p x=true then Qh s x else s) acc=(l.filter p).foldl Qh acc
 | [],_=>rfl
 | x::l,acc=>by
  rw [AE,Zke l]
  by_cases h:p x=true<;>simp [h]
theorem Zch (p:Zv) (h:p.args.length≤1073741823):Zba p=some (ZT (Y2 p.args)):=by
 unfold Zba
 rw [YM (f:=fun s x=>if Ye x=true then Qh s x else s) (fun j s=>s.length≤j) (by simp)]
 ·rw [Zke];rfl
 ·intro j x s _ _ hl hI
  simp at hl
  have:=Zdx x s
  rw [QW,A0]
  split
  ·rw [Qb _ _ (by omega)]
   exact ⟨rfl,by omega⟩
  ·exact ⟨rfl,by omega⟩
def Zfz (x:Zt):List ByteArray:=x.pattern.args++[x.left,x.right]
def YB (x:Zt):List ByteArray:=ZT (Y2 (Zfz x))
theorem Zb6 (x:Zt) (h:x.pattern.args.length≤1073741822):Qa x=some (YB x):=by
 unfold Qa Zhu
 rw [Zf6 _ (by omega),A0,Zh _ (by omega),A0,Zdz _ (by simp;omega),A0]
 have:=ZcZ (x.pattern.args++[x.left,x.right])
 simp at this
 rw [XZ _ (by omega)]
 rfl
theorem Zcc (x:Zt) (h:x.pattern.args.length≤1073741820):XH x=some (YB x):=by
 unfold XH
 have h1:=Zei (Y2 x.pattern.args)
 have h2:=ZcZ x.pattern.args
 have h3:=Zdx x.left (ZT (Y2 x.pattern.args))
 have key:∀l:List ByteArray,(∀y,y∈l↔y∈Y2 (Zfz x))→Asc l→l=YB x:=fun l hm ha=>Zfi ha hm
 rw [Zch _ (by omega),A0,QW,A0,QW]
 simp only[A0]
 rw [Qb _ _ (by omega),A0,Qb (Qh _ _) _ (by omega),A0,Qb _ x.right (by omega),A0]
 cases hl:Ye x.left<;>cases hr:Ye x.right<;>simp only[if_true,A5,if_false]<;>congr 1<;>apply key<;>(try intro y)<;>(try simp only[Zjb,ZP,ZbJ,Zfz,AK,A3,Aj,or_false])
 all_goals first
  | exact ZcG _
  | exact Zf3 (ZcG _)
  | exact Zf3 (Zf3 (ZcG _))
  | skip
 ·constructor
  ·rintro ⟨a,b⟩;exact ⟨.inl a,b⟩
  ·rintro ⟨a | rfl | rfl,b⟩
   ·exact ⟨a,b⟩
   ·rw [hl] at b;simp at b
   ·rw [hr] at b;simp at b
 ·constructor
  ·rintro (rfl | ⟨a,b⟩)
   ·exact ⟨by simp,hr⟩
   ·exact ⟨.inl a,b⟩
  ·rintro ⟨a | rfl | rfl,b⟩
   ·exact .inr ⟨a,b⟩
   ·rw [hl] at b;simp at b
   ·exact .inl rfl
 ·constructor
  ·rintro (rfl | ⟨a,b⟩)
   ·exact ⟨by simp,hl⟩
   ·exact ⟨.inl a,b⟩
  ·rintro ⟨a | rfl | rfl,b⟩
   ·exact .inr ⟨a,b⟩
   ·exact .inl rfl
   ·rw [hr] at b;simp at b
 ·constructor
  ·rintro (rfl | rfl | ⟨a,b⟩)
   ·exact ⟨by simp,hr⟩
   ·exact ⟨by simp,hl⟩
   ·exact ⟨.inl a,b⟩
  ·rintro ⟨a | rfl | rfl,b⟩
   ·exact .inr (.inr ⟨a,b⟩)
   ·exact .inr (.inl rfl)
   ·exact .inl rfl
theorem Zhk (x:Zt):(YB x).length≤x.pattern.args.length+2:=by
 have h1:=Zei (Y2 (Zfz x))
 have h2:=ZcZ (Zfz x)
 have h3:(Zfz x).length=x.pattern.args.length+2:=by simp [Zfz]
 unfold YB
 omega
theorem ZuC {x:Zt} {v:ByteArray} (h:v∈YB x):Ye v=true:=(ZbJ.1 (ZP.1 h)).2
structure QC (r:Zg):Prop where
 cl:r.cond.length≤1048576
 tl:r.thn.length≤1048576
 ca:∀x∈r.cond,x.pattern.args.length≤1048576
 ta:∀a∈r.thn,a.pattern.args.length≤1048576
def Yr (l:List Zt):List ByteArray:=l.flatMap fun x=>if x.kind=1 then Y2 x.pattern.args else []
def YD (r:Zg) (n:Nat):List ByteArray:=ZT (Yr (r.cond.take n))
theorem Zdy (r:Zg) (n:Int) (h:QC r) (h4:r.cond.length≤4):QN r n=some (YD r n.toNat):=by
 unfold QN YD
 refine (Zal (fun l i (row:List ByteArray)=>some (ZT (row++Yr (l.take (n.toNat - i))))) (fun l i row=>r.cond.drop i=l∧row.length≤1048576 * i∧i≤r.cond.length) ?_ ?_ r.cond 0 [] ⟨by simp,by simp,by simp⟩).trans (by simp)
 ·rintro i row ⟨h1,h2,h3⟩
  rw [XZ _ (by omega)]
  simp [Yr]
 ·rintro x l i row ⟨h1,h2,h3⟩
  left
  have hi:r.cond[i]?=some x:=by have:=congrArg (fun l=>l[0]?) h1;simpa using this
  have hlt:i<r.cond.length:=(AF.1 hi).1
  have hr:r.cond.drop (i+1)=l:=by have:=congrArg AX h1;simpa using this
  have hx:=h.ca x (AC hi)
  have hv:=ZcZ x.pattern.args
  by_cases hn:((i:Nat):Int)<n
  ·have e:n.toNat - i=(n.toNat - (i+1))+1:=by omega
   by_cases hk:x.kind=1
   ·refine ⟨row++Y2 x.pattern.args,?_,⟨hr,by simp;omega,by omega⟩,?_⟩
    ·simp only[hn,hk,decide_true,beq_self_eq_true,if_true]
     rw [Zdz _ (by omega),A0,Zh _ (by omega)]
    ·rw [e];simp [Yr,hk]
   ·refine ⟨row,?_,⟨hr,by omega,by omega⟩,?_⟩
    ·simp [hn,hk]
    ·rw [e];simp [Yr,hk]
  ·have e:n.toNat - i=0:=by omega
   have e':n.toNat - (i+1)=0:=by omega
   refine ⟨row,?_,⟨hr,by omega,by omega⟩,?_⟩
   ·simp [hn]
   ·rw [e,e'];simp
theorem ZdY (r:Zg) (n:Int) (h:QC r) (h4:r.cond.length≤4):X5 r n=some (YD r n.toNat):=by
 unfold X5 YD
 refine (Zal (fun l i (row:List ByteArray)=>some ((Yr (l.take (n.toNat - i))).foldl Qh row)) (fun l i row=>r.cond.drop i=l∧row.length≤1048576 * i∧i≤r.cond.length∧Asc row) ?_ ?_ r.cond 0 [] ⟨by simp,by simp,by simp,A9⟩).trans (by simp [ZT])
 ·rintro i row ⟨h1,h2,h3,h5⟩
  simp [Yr]
 ·rintro x l i row ⟨h1,h2,h3,h5⟩
  have hi:r.cond[i]?=some x:=by have:=congrArg (fun l=>l[0]?) h1;simpa using this
  have hlt:i<r.cond.length:=(AF.1 hi).1
  have hr:r.cond.drop (i+1)=l:=by have:=congrArg AX h1;simpa using this
  have hx:=h.ca x (AC hi)
  have hv:=ZcZ x.pattern.args
  have hs:=Zei (Y2 x.pattern.args)
  by_cases hn:((i:Nat):Int)<n
  ·left
   have e:n.toNat - i=(n.toNat - (i+1))+1:=by omega
   by_cases hk:x.kind=1
   ·obtain ⟨f1,f2,f3⟩:=XP (ZT (Y2 x.pattern.args)) row h5
    refine ⟨(ZT (Y2 x.pattern.args)).foldl Qh row,?_,⟨hr,by omega,by omega,f1⟩,?_⟩
    ·simp only[hn,hk,decide_true,beq_self_eq_true,if_true]
     rw [Zch _ (by omega),A0,Zmv (fun _ _ _=>rfl) (by omega)]
    ·rw [e]
     simp only[Yr,List.take_succ_cons,AL,hk,if_true,Ab]
     congr 2
     obtain ⟨g1,g2,_⟩:=XP (Y2 x.pattern.args) row h5
     exact ZoX g1 f1 fun y=>by rw [g2,f2,ZP]
   ·refine ⟨row,?_,⟨hr,by omega,by omega,h5⟩,?_⟩
    ·simp [hn,hk]
    ·rw [e];simp [Yr,hk]
  ·right
   have e:n.toNat - i=0:=by omega
   refine ⟨row,by simp [hn],by rw [e];simp [Yr]⟩
def Zmm (r:Zg) (i:Int) (v:ByteArray):Bool:=!(allI (fun k x=>!(decide ((k:Int)≠i)&&Yx (YB x) v)) r.cond 0&&r.thn.all fun a=>!Yx a.pattern.args v)
theorem Zgj {r:Zg} {i:Int} {v:ByteArray} {f:Zt→Option (List ByteArray)} {g:List ByteArray→ByteArray→Option Bool} (hf:∀x∈r.cond,f x=some (YB x)) (hg:∀l,g l v=some (Yx l v)) {fin:Unit→Option Bool} (hfin:fin ()=some (!(r.thn.all fun a=>!Yx a.pattern.args v))):
  Zo (σ:=Unit) (fun (k:Nat) (x:Zt) _=>if (((k:Nat):Int) != i)=true then (f x).bind fun l=>(g l v).bind fun b=>if b=true then some (.inr true) else some (.inl ()) else some (.inl ())) fin r.cond 0 ()=some (Zmm r i v):=by
 rw [Xu (p:=fun k x=>!(decide ((k:Int)≠i)&&Yx (YB x) v)) (r:=true)]
 ·unfold Zmm
  cases allI (fun k x=>!(decide ((k:Int)≠i)&&Yx (YB x) v)) r.cond 0 with
  | true=>simp only[if_true,hfin,A2]
  | false=>simp
 ·intro j x hj
  rw [hf x (AC hj),A0,hg,A0,AH]
  by_cases h:(j:Int)=i
  ·simp [h]
  ·have:((j:Int) != i)=true:=by simpa using h
   simp only[this,if_true]
   cases Yx (YB x) v<;>simp [h]
theorem ZgA (r:Zg) (i:Int) (v:ByteArray) (h:QC r):XC r i v=some (Zmm r i v):=by
 unfold XC
 refine Zgj (f:=Qa) (g:=Xc) (fun x mx=>Zb6 x (by have:=h.ca x mx;omega)) (fun l=>Q5 l v) ?_
 rw [Zco (p:=fun a=>Yx a.pattern.args v) (r:=true)]
 ·simp only[←Ak,Al]
  cases r.thn.any fun a=>Yx a.pattern.args v<;>rfl
 ·intro j a _
  rw [Q5]
  cases Yx a.pattern.args v<;>simp
theorem ZjV (r:Zg) (i:Int) (v:ByteArray) (h:QC r) (hv:Ye v=true):XK r i v=some (Zmm r i v):=by
 unfold XK
 refine Zgj (f:=XH) (g:=ZV) (fun x mx=>Zcc x (by have:=h.ca x mx;omega)) (fun l=>YV l v) ?_
 rw [Zco (p:=fun a=>Yx a.pattern.args v) (r:=true)]
 ·simp only[←Ak,Al]
  cases r.thn.any fun a=>Yx a.pattern.args v<;>rfl
 ·intro j a ma
  rw [Zch _ (by have:=h.ta a ma;omega),A0,YV,A0]
  have:Yx (ZT (Y2 a.pattern.args)) v=Yx a.pattern.args v:=by
   rw [A6,Xw,Xw,ZP,ZbJ]
   simp [hv]
  rw [this]
  cases Yx a.pattern.args v<;>simp
def ZmC (r:Zg) (i:Nat) (x:Zt) (v:ByteArray):Bool:=decide (x.kind=1)||Yx (YD r i) v||(decide (x.kind=2)&&!Zmm r i v)
def Zgd (r:Zg) (i:Nat) (x:Zt):Bool:=(YB x).all (ZmC r i x)
theorem Zne (r:Zg) (i:Nat) (x:Zt) (h:QC r) (h4:r.cond.length≤4) (hx:r.cond[i]?=some x):ZbT r i=some (Zgd r i x):=by
 unfold ZbT Zgd
 have ha:atI r.cond (i:Int)=some x:=by unfold atI;rw [if_pos (by omega),AA];exact hx
 rw [ha,A0,Zdy r _ h h4,A0,Zb6 x (by have:=h.ca x (AC hx);omega),A0,AA]
 rw [ZU (p:=ZmC r i x) (r:=false)]
 ·cases (YB x).all (ZmC r i x)<;>rfl
 ·intro j v mv
  rw [Q5,ZgA r _ v h]
  simp only[A0,ZmC,beq_iff_eq,bne_iff_ne,ne_eq]
  by_cases h1:x.kind=1
  ·simp [h1]
  ·simp only[h1,if_false,decide_false,AR]
   cases Yx (YD r i) v with
   | true=>simp
   | false=>
    by_cases h2:x.kind=2
    ·simp only[h2,not_true_eq_false,if_false,A5,decide_true,A2,AR]
     cases Zmm r i v<;>simp
    ·simp [h2]
def YQ (r:Zg):Bool:=
 X9 r.name&&decide (0≤r.priority)&&decide (r.priority≤9)&&decide (1≤r.cond.length)&&decide (r.cond.length≤4)&&decide (1≤r.thn.length)&&decide (r.thn.length≤2)
  && allI (fun i x=>Yk x&&(decide (i≠0)||decide (x.kind=1))&&Zgd r i x) r.cond 0
  && r.thn.all (fun a=>Xq a&&(Y2 a.pattern.args).all (Yx (YD r r.cond.length)))
  && decide ((ZT (r.cond.flatMap YB)).length≤6)
theorem ZkP (l:List Zt) (h:∀x∈l,x.pattern.args.length≤1048576) (h4:l.length≤4):Zbp l=some (l.flatMap YB):=by
 unfold Zbp
 rw [YM (f:=fun s x=>s++YB x) (fun j s=>s.length≤1048578 * j) (by simp)]
 ·congr 1
  have:∀(l:List Zt) (acc:List ByteArray),l.foldl (fun s x=>s++YB x) acc=acc++l.flatMap YB:=by
   intro l
   induction l with
   | nil=>simp
   | cons x l ih=>intro acc;rw [AE,ih];simp
  simpa using this l []
 ·intro j x s mx _ hl hI
  have:=h x mx
  have:=Zhk x
  rw [Zb6 x (by omega),A0,Zh _ (by omega)]
  exact ⟨rfl,by simp;omega⟩
theorem Zj7 (r:Zg) (h:QC r):Zfe r=some (YQ r):=by
 unfold Zfe YQ
 rw [Zga,A0]
 cases X9 r.name with
 | false=>simp
 | true=>
 simp only[if_true,decide_eq_true_eq,A2]
 split
 ·rw [decide_eq_false (show ¬0≤r.priority by omega)];simp
 split
 ·rw [decide_eq_false (show ¬r.priority≤9 by omega)];simp
 split
 ·rw [decide_eq_false (show ¬1≤r.cond.length by omega)];simp
 split
 ·rw [decide_eq_false (show ¬r.cond.length≤4 by omega)];simp
 split
 ·rw [decide_eq_false (show ¬1≤r.thn.length by omega)];simp
 split
 ·rw [decide_eq_false (show ¬r.thn.length≤2 by omega)];simp
 rw [decide_eq_true (show 0≤r.priority by omega),decide_eq_true (show r.priority≤9 by omega),decide_eq_true (show 1≤r.cond.length by omega),decide_eq_true (show r.cond.length≤4 by omega),decide_eq_true (show 1≤r.thn.length by omega),decide_eq_true (show r.thn.length≤2 by omega)]
 simp only[A2]
 have h4:r.cond.length≤4:=by omega
 rw [Xu (p:=fun i x=>Yk x&&(decide (i≠0)||decide (x.kind=1))&&Zgd r i x) (r:=false)]
 ·cases allI (fun i x=>Yk x&&(decide (i≠0)||decide (x.kind=1))&&Zgd r i x) r.cond 0 with
  | false=>simp
  | true=>
   simp only[if_true,A2]
   rw [Zdy r _ h h4,A0,AA,ZU (p:=fun a=>Xq a&&(Y2 a.pattern.args).all (Yx (YD r r.cond.length))) (r:=false)]
   ·cases r.thn.all fun a=>Xq a&&(Y2 a.pattern.args).all (Yx (YD r r.cond.length)) with
    | false=>simp
    | true=>
     have hl:(r.cond.flatMap YB).length≤1048578 * r.cond.length:=by
      have:∀l:List Zt,(∀x∈l,x.pattern.args.length≤1048576)→(l.flatMap YB).length≤1048578 * l.length:=by
       intro l
       induction l with
       | nil=>simp
       | cons x l ih=>
        intro hl
        have h1:=ih fun y my=>hl y (by simp [my])
        have h2:=hl x (by simp)
        have h3:=Zhk x
        simp only[AL,AN,A7]
        omega
      exact this r.cond h.ca
     simp only[if_true,A2]
     rw [ZkP _ h.ca h4,A0,XZ _ (by omega),A0]
     congr 1
     rw [A6]
     simp only[decide_eq_true_eq]
     omega
   ·intro j a ma
    rw [Znc,A0]
    cases Xq a with
    | false=>simp
    | true=>
     simp only[if_true,A2]
     rw [Zdz _ (by have:=h.ta a ma;omega),A0,ZU (p:=Yx (YD r r.cond.length)) (r:=.inr false)]
     ·cases (Y2 a.pattern.args).all (Yx (YD r r.cond.length))<;>rfl
     ·intro k v _
      rw [Q5,A0]
      cases Yx (YD r r.cond.length) v<;>simp
 ·intro j x hj
  rw [AH,Zg4,A0,Zne r j x h h4 hj]
  simp only[A0]
  cases Yk x with
  | false=>simp
  | true=>
   by_cases h0:j=0
   ·subst h0
    by_cases hk:x.kind=1
    ·simp only[hk];cases Zgd r 0 x<;>simp
    ·simp [hk]
   ·have:((j:Int)==0)=false:=by rw [beq_eq_false_iff_ne];omega
    simp only[this]
    cases Zgd r j x<;>simp [h0]
theorem ZfB {α:Type} (f:α→List ByteArray):∀(l:List α) (acc:List ByteArray),Asc acc→l.foldl (fun s x=>(f x).foldl Qh s) acc=(l.flatMap f).foldl Qh acc
 | [],_,_=>rfl
 | x::l,acc,h=>by rw [AE,ZfB f l _ (XP (f x) acc h).1,AL,Ab]
def Zmw (r:Zg):List ByteArray:=ZT (r.cond.flatMap YB++r.thn.flatMap fun a=>Y2 a.pattern.args)
theorem Znj (r:Zg) (h:QC r) (h4:r.cond.length≤4) (h2:r.thn.length≤2):ZdB r=some (Zmw r):=by
 unfold ZdB Zmw
 rw [YM (f:=fun s x=>(YB x).foldl Qh s) (fun j s=>s.length≤1048578 * j∧Asc s) ⟨by simp,A9⟩]
 ·have hA:=ZfB YB r.cond [] A9
  have hB:Asc (r.cond.foldl (fun s x=>(YB x).foldl Qh s) []):=by rw [hA];exact (XP _ [] A9).1
  have hl:(r.cond.foldl (fun s x=>(YB x).foldl Qh s) []).length≤1048578 * 4:=by
   rw [hA]
   have:=(XP (r.cond.flatMap YB) [] A9).2.2
   have h3:(r.cond.flatMap YB).length≤1048578 * r.cond.length:=by
    have:∀l:List Zt,(∀x∈l,x.pattern.args.length≤1048576)→(l.flatMap YB).length≤1048578 * l.length:=by
     intro l
     induction l with
     | nil=>simp
     | cons x l ih=>
      intro hl
      have h1:=ih fun y my=>hl y (by simp [my])
      have h2:=hl x (by simp)
      have h3:=Zhk x
      simp only[AL,AN,A7]
      omega
    exact this r.cond h.ca
   simp only[AQ,Nat.add_zero] at this
   omega
  rw [YM (f:=fun s a=>(ZT (Y2 a.pattern.args)).foldl Qh s) (fun j s=>s.length≤1048578 * 4+1048576 * j∧Asc s) ⟨by omega,hB⟩]
  ·congr 1
   rw [ZfB (fun a:Zz=>ZT (Y2 a.pattern.args)) r.thn _ hB,hA]
   refine Zfi (XP _ _ (XP _ [] A9).1).1 fun y=>?_
   rw [(XP _ _ (XP _ [] A9).1).2.1 y,(XP _ [] A9).2.1 y]
   simp only[AK,AS,ZP,Aj,or_false]
   exact Or.comm
  ·intro j a s ma _ hj hI
   have h5:=h.ta a ma
   have h6:=ZcZ a.pattern.args
   have h7:=Zei (Y2 a.pattern.args)
   obtain ⟨f1,f2,f3⟩:=XP (ZT (Y2 a.pattern.args)) s hI.2
   rw [Zch _ (by omega),A0,Zmv (fun _ _ _=>rfl) (by omega)]
   exact ⟨rfl,by omega,f1⟩
 ·intro j x s mx _ hj hI
  have h5:=h.ca x mx
  have h6:=Zhk x
  obtain ⟨f1,f2,f3⟩:=XP (YB x) s hI.2
  rw [Zcc _ (by omega),A0,Zmv (fun _ _ _=>rfl) (by omega)]
  exact ⟨rfl,by omega,f1⟩
theorem Zrm {l:List Zt} {y:ByteArray} (h:y∈Yr l):y∈l.flatMap YB:=by
 simp only[Yr,AS] at h ⊢
 obtain ⟨x,hx,hy⟩:=h
 refine ⟨x,hx,?_⟩
 split at hy
 ·rw [YB,ZP,ZbJ]
  rw [ZbJ] at hy
  exact ⟨by simp [Zfz,hy.1],hy.2⟩
 ·simp at hy
theorem Zgg (r:Zg) (h:QC r):Zcu r=some (YQ r):=by
 unfold Zcu YQ
 rw [Zgv,A0]
 cases X9 r.name with
 | false=>simp
 | true=>
 simp only[if_true,Zhs,A0,A2,A4,decide_eq_true_eq]
 split
 rotate_left
 ·rename_i hh
  have:(decide (0≤r.priority)&&decide (r.priority≤9))=false:=by simp;omega
  rw [this];simp
 rename_i hp
 rw [decide_eq_true hp.1,decide_eq_true hp.2]
 split
 rotate_left
 ·rename_i hh
  have:(decide (1≤r.cond.length)&&decide (r.cond.length≤4))=false:=by simp;omega
  simp only[A2,this,Ac]
 rename_i hc
 rw [decide_eq_true (show 1≤r.cond.length by omega),decide_eq_true (show r.cond.length≤4 by omega)]
 split
 rotate_left
 ·rename_i hh
  have:(decide (1≤r.thn.length)&&decide (r.thn.length≤2))=false:=by simp;omega
  simp only[A2,this,Ac]
 rename_i ht
 rw [decide_eq_true (show 1≤r.thn.length by omega),decide_eq_true (show r.thn.length≤2 by omega)]
 simp only[A2]
 have h4:r.cond.length≤4:=by omega
 rw [ZdY r _ h h4,A0,AA]
 rw [Xu (p:=fun i x=>Yk x&&(decide (i≠0)||decide (x.kind=1))&&Zgd r i x) (r:=false)]
 ·cases allI (fun i x=>Yk x&&(decide (i≠0)||decide (x.kind=1))&&Zgd r i x) r.cond 0 with
  | false=>simp
  | true=>
   simp only[if_true,A2]
   rw [ZU (p:=fun a=>Xq a&&(Y2 a.pattern.args).all (Yx (YD r r.cond.length))) (r:=false)]
   ·cases ha:r.thn.all fun a=>Xq a&&(Y2 a.pattern.args).all (Yx (YD r r.cond.length)) with
    | false=>simp
    | true=>
     simp only[if_true,A2]
     rw [Znj r h h4 (by omega),A0]
     have e:Zmw r=ZT (r.cond.flatMap YB):=ZmV fun y=>by
      simp only[AK]
      refine ⟨fun hy=>?_,.inl⟩
      rcases hy with hy | hy
      ·exact hy
      ·obtain ⟨a,ma,hy⟩:=AS.1 hy
       have:=AJ.1 ha a ma
       simp only[A4] at this
       have:=AJ.1 this.2 y hy
       rw [Xw,YD,ZP,List.take_length] at this
       exact Zrm this
     rw [e]
     congr 1
     rw [A6]
     simp only[decide_eq_true_eq]
     omega
   ·intro j a ma
    rw [Zm9,A0]
    cases Xq a with
    | false=>simp
    | true=>
     simp only[if_true,A2]
     rw [Zch _ (by have:=h.ta a ma;omega),A0,ZU (p:=Yx (YD r r.cond.length)) (r:=.inr false)]
     ·have:(ZT (Y2 a.pattern.args)).all (Yx (YD r r.cond.length))=(Y2 a.pattern.args).all (Yx (YD r r.cond.length)):=by
       rw [A6,AJ,AJ]
       simp only[ZP]
      rw [this]
      cases (Y2 a.pattern.args).all (Yx (YD r r.cond.length))<;>rfl
     ·intro k v _
      rw [YV,A0]
      cases Yx (YD r r.cond.length) v<;>simp
 ·intro j x hj
  have hxa:=h.ca x (AC hj)
  rw [AH,Zcv,A0,ZdY r _ h h4,Zcc x (by omega),AA]
  simp only[A0]
  cases hic:Yk x with
  | false=>simp
  | true=>
   have loop:∀{fin:Unit→Option (Unit ⊕ Bool)} (hfin:fin ()=some (.inl ())),Zo (σ:=Unit) (ρ:=Unit ⊕ Bool) (fun (_:Nat) (v:ByteArray) _=>(ZV (YD r j) v).bind fun b=>(Zbf x).bind fun t=>if t=true then (if b=true then (if (x.kind==2)=true then some (.inl ()) else some (.inl ())) else some (.inr (.inr false))) else (if (x.kind==2)=true then (if b=true then some (.inl ()) else (XK r ((j:Nat):Int) v).bind fun e=>if e=true then some (.inr (.inr false)) else some (.inl ())) else some (.inl ()))) fin (YB x) 0 ()=some (bif Zgd r j x then .inl () else .inr false):=fun {fin} hfin=>by
    rw [ZU (p:=ZmC r j x) (r:=.inr false)]
    ·unfold Zgd
     cases (YB x).all (ZmC r j x)<;>simp [hfin]
    ·intro k v mv
     rw [YV,Zqc,ZjV r _ v h (ZuC mv),hic]
     simp only[A0,A2,decide_eq_true_eq,beq_iff_eq,ZmC]
     rcases Zo4 hic with hk | hk | hk | hk | hk<;>rw [hk]<;>cases Yx (YD r j) v<;>cases Zmm r j v<;>simp
   by_cases h0:j=0
   ·subst h0
    by_cases hk:x.kind=1
    ·have hk':(x.kind != 1)=false:=by simp [hk]
     simp only[if_true,hk',show (((0:Nat):Int)==0)=true from rfl,A5,if_false]
     rw [loop rfl]
     simp [hk]
    ·have hk':(x.kind != 1)=true:=by simpa using hk
     simp [hk',hk]
   ·have:((j:Int)==0)=false:=by rw [beq_eq_false_iff_ne];omega
    simp only[if_true,this,A5,if_false]
    rw [loop rfl]
    simp [h0]
theorem Zjm {v:ByteArray} (h:Ye v=true):ZQ v=false:=by
 cases ha:ZQ v with
 | false=>rfl
 | true=>
  have h1:=ZiN ha
  rw [Q9] at h1
  unfold Ye at h
  simp only[A4,decide_eq_true_iff] at h
  omega
def Xm:List Zs→ByteArray→Option ByteArray
 | [],_=>none
 | x::b,v=>if x.var=v then some x.value else Xm b v
def YU (b:List Zs) (t:ByteArray):Option ByteArray:=if ZQ t=true then some t else if Ye t=true then Xm b t else none
theorem ZfA {b:List Zs} {v:ByteArray} (h:Ye v=true):YU b v=Xm b v:=by
 unfold YU
 rw [if_neg (by rw [Zjm h];simp),if_pos h]
def ZfK (x:Zs):Bool:=Ye x.var&&ZQ x.value
def Ziq:Option ByteArray→ByteArray→Bool
 | none,_=>true
 | some p,v=>sLt p v
def YI:Option ByteArray→List Zs→Bool
 | _,[]=>true
 | prev,x::r=>ZfK x&&Ziq prev x.var&&YI (some x.var) r
def ZW (b:List Zs):Bool:=decide (b.length≤6)&&YI none b
theorem Zuw {prev:Option ByteArray} {b:List Zs} (h:YI prev b=true):∀x∈b,ZfK x=true∧∀p,prev=some p→sLt p x.var=true:=by
 induction b generalizing prev with
 | nil=>simp
 | cons y r ih=>
  simp only[YI,A4] at h
  obtain ⟨⟨h1,h2⟩,h3⟩:=h
  intro x mx
  rcases A3.1 mx with rfl | mx
  ·exact ⟨h1,fun p hp=>by subst hp;exact h2⟩
  ·obtain ⟨k1,k2⟩:=ih h3 x mx
   exact ⟨k1,fun p hp=>by subst hp;exact Zfa h2 (k2 _ rfl)⟩
theorem ZtS {b:List Zs} {v:ByteArray} (h:Xm b v=none):∀x∈b,¬x.var=v:=by
 induction b with
 | nil=>simp
 | cons y r ih=>
  simp only[Xm] at h
  split at h
  ·simp at h
  ·rename_i hy
   intro x mx
   rcases A3.1 mx with rfl | mx
   ·exact hy
   ·exact ih h x mx
theorem ZtQ {b:List Zs} {v w:ByteArray} (h:Xm b v=some w):∃x∈b,x.var=v∧x.value=w:=by
 induction b with
 | nil=>simp [Xm] at h
 | cons y r ih=>
  simp only[Xm] at h
  split at h
  ·rename_i hy
   exact ⟨y,by simp,hy,AB h⟩
  ·obtain ⟨x,mx,h1⟩:=ih h
   exact ⟨x,by simp [mx],h1⟩
def Zfx:List Zs→ByteArray→ByteArray→List Zs
 | [],v,w=>[⟨v,w⟩]
 | x::b,v,w=>if sLt v x.var=true then ⟨v,w⟩::x::b else x::Zfx b v w
theorem ZpK (v w:ByteArray):∀b:List Zs,(Zfx b v w).length=b.length+1
 | []=>rfl
 | x::b=>by
  simp only[Zfx]
  split
  ·rfl
  ·rw [A7,ZpK v w b];rfl
theorem Zjx {v w u:ByteArray}:∀{b:List Zs},Xm b v=none→Xm (Zfx b v w) u=if v=u then some w else Xm b u
 | [],_=>by simp [Zfx,Xm]
 | x::b,h=>by
  simp only[Xm] at h
  split at h
  ·simp at h
  ·rename_i hx
   simp only[Zfx]
   split
   ·simp [Xm]
   ·simp only[Xm]
    rw [Zjx h]
    by_cases hu:x.var=u
    ·rw [if_pos hu,if_pos hu,if_neg (fun e=>hx (hu.trans e.symm))]
    ·rw [if_neg hu,if_neg hu]
theorem Zoq {v w:ByteArray} (hv:Ye v=true) (hw:ZQ w=true):∀{b:List Zs} {prev:Option ByteArray},YI prev b=true→Xm b v=none→(∀p,prev=some p→sLt p v=true)→YI prev (Zfx b v w)=true
 | [],prev,_,_,hp=>by
  simp only[Zfx,YI,ZfK,hv,hw,Bool.and_self,A2,Af]
  cases prev with
  | none=>rfl
  | some p=>exact hp p rfl
 | x::b,prev,h,hg,hp=>by
  have hx:=ZtS hg x (by simp)
  simp only[Xm,hx,if_false] at hg
  simp only[YI,A4] at h
  obtain ⟨⟨h1,h2⟩,h3⟩:=h
  simp only[Zfx]
  by_cases hlt:sLt v x.var=true
  ·rw [if_pos hlt]
   have h4:Ziq prev v=true:=by
    cases prev with
    | none=>rfl
    | some p=>exact hp p rfl
   simp only[YI,A4]
   exact ⟨⟨by simp [ZfK,hv,hw],h4⟩,⟨⟨h1,hlt⟩,h3⟩⟩
  ·rw [if_neg hlt]
   simp only[YI,A4]
   refine ⟨⟨h1,h2⟩,Zoq hv hw h3 hg fun p hp2=>?_⟩
   obtain rfl:=AB hp2
   exact ZeS (by simpa using hlt) (fun e=>hx e.symm)
def ZfH (b:List Zs) (v w:ByteArray):Option (List Zs):=
 if ZW b=true∧Ye v=true∧ZQ w=true then
  (match Xm b v with
  | some old=>if old=w then some b else none
  | none=>if b.length=6 then none else some (Zfx b v w))
 else none
theorem Zte {b b':List Zs} {v w:ByteArray} (h:ZfH b v w=some b'):ZW b'=true∧Xm b' v=some w∧∀u z,Xm b u=some z→Xm b' u=some z:=by
 unfold ZfH at h
 split at h
 ·rename_i hc
  obtain ⟨h1,h2,h3⟩:=hc
  cases hg:Xm b v with
  | some old=>
   rw [hg] at h
   simp only at h
   split at h
   ·rename_i he
    obtain rfl:=AB h
    exact ⟨h1,by rw [hg,he],fun u z hu=>hu⟩
   ·simp at h
  | none=>
   rw [hg] at h
   simp only at h
   split at h
   ·simp at h
   ·rename_i hl
    obtain rfl:=AB h
    unfold ZW at h1 ⊢
    rw [A4,decide_eq_true_iff] at h1
    refine ⟨?_,by rw [Zjx hg,if_pos rfl],fun u z hu=>?_⟩
    ·rw [A4,decide_eq_true_iff,ZpK]
     exact ⟨by omega,Zoq h2 h3 h1.2 hg (by simp)⟩
    ·rw [Zjx hg,if_neg (fun e=>by rw [←e,hg] at hu;simp at hu)];exact hu
 ·simp at h
def Zbb:List ByteArray→List ByteArray→List Zs→Option (List Zs)
 | [],_,b=>some b
 | _::_,[],_=>none
 | a::p,w::f,b=>if ZQ a=true then (if a=w then Zbb p f b else none) else (ZfH b a w).bind (Zbb p f)
theorem ZjS:∀{p f:List ByteArray} {b b':List Zs},ZW b=true→Zbb p f b=some b'→ZW b'=true∧(∀a∈p,Ye a=true→∃z,Xm b' a=some z)∧∀u z,Xm b u=some z→Xm b' u=some z
 | [],_,b,b',hb,h=>by
  simp only[Zbb,Option.some.injEq] at h
  subst h
  exact ⟨hb,by simp,fun u z h=>h⟩
 | _::_,[],_,_,_,h=>by simp [Zbb] at h
 | a::p,w::f,b,b',hb,h=>by
  simp only[Zbb] at h
  by_cases ha:ZQ a=true
  ·rw [if_pos ha] at h
   split at h
   ·obtain ⟨h1,h2,h3⟩:=ZjS hb h
    refine ⟨h1,fun x mx hx=>?_,h3⟩
    rcases A3.1 mx with rfl | mx
    ·rw [Zjm hx] at ha;simp at ha
    ·exact h2 x mx hx
   ·simp at h
  ·rw [if_neg ha] at h
   obtain ⟨b1,e1,h⟩:=Option.bind_eq_some_iff.1 h
   obtain ⟨k1,k2,k3⟩:=Zte e1
   obtain ⟨h1,h2,h3⟩:=ZjS k1 h
   refine ⟨h1,fun x mx hx=>?_,fun u z hu=>h3 u z (k3 u z hu)⟩
   rcases A3.1 mx with rfl | mx
   ·exact ⟨w,h3 _ _ k2⟩
   ·exact h2 x mx hx
def Zcp (p:Zv) (f:Zb) (b:List Zs):Bool:=ZR p&&Yb f&&ZW b&&decide (p.rel=f.rel)&&decide (p.args.length=f.args.length)
def QG (p:Zv) (f:Zb) (b:List Zs):Option (List Zs):=if Zcp p f b=true then Zbb p.args f.args b else none
theorem Zjt {p:Zv} {f:Zb} {b b':List Zs} (h:QG p f b=some b'):ZW b'=true∧(∀a∈p.args,Ye a=true→∃z,Xm b' a=some z)∧∀u z,Xm b u=some z→Xm b' u=some z:=by
 unfold QG at h
 split at h
 ·rename_i hc
  unfold Zcp at hc
  simp only[A4] at hc
  exact ZjS hc.1.1.2 h
 ·simp at h
def ZaX:List ByteArray→List Zs→Option (List ByteArray)
 | [],_=>some []
 | a::p,b=>(YU b a).bind fun v=>(ZaX p b).map fun l=>v::l
theorem Zd4 {b:List Zs}:∀{p:List ByteArray},p.all Yj=true→(∀a∈p,Ye a=true→∃z,Xm b a=some z)→∃l,ZaX p b=some l∧l.length=p.length
 | [],_,_=>⟨[],rfl,rfl⟩
 | a::p,h,hv=>by
  simp only[List.all_cons,A4] at h
  obtain ⟨l,e,hl⟩:=Zd4 h.2 fun x mx=>hv x (by simp [mx])
  have:∃v,YU b a=some v:=by
   have ht:=h.1
   unfold Yj at ht
   rw [AO] at ht
   rcases ht with ht | ht
   ·exact ⟨a,by unfold YU;rw [if_pos ht]⟩
   ·obtain ⟨z,hz⟩:=hv a (by simp) ht
    exact ⟨z,by rw [ZfA ht];exact hz⟩
  obtain ⟨v,hv⟩:=this
  exact ⟨v::l,by simp only[ZaX,hv,e,A0,Ai],by simp [hl]⟩
def Yf (p:Zv) (b:List Zs):Option Zb:=if ZR p=true∧ZW b=true then (ZaX p.args b).map fun l=>{ rel:=p.rel,args:=l } else none
def ZbI (p:Zv) (b:List Zs) (F:List Zb):List Zb:=F.filter fun f=>(QG p f b).isSome
def Zv6 (l r:ByteArray):Bool:=match Qy l,Qy r with | some m,some n=>decide (m<n) | _,_=>false
def Zq1 (k:Int) (l r:ByteArray):Bool:=if k=3 then decide (l=r) else if k=4 then !decide (l=r) else Zv6 l r
def ZmJ (x:Zt) (b:List Zs):Bool:=
 if Yk x=true∧3≤x.kind∧ZW b=true then (match YU b x.left,YU b x.right with | some l,some r=>Zq1 x.kind l r | _,_=>false) else false
def Zak (x:Zt) (b:List Zs) (F:List Zb):Bool:=
 if Yk x=true∧ZW b=true then
  (if x.kind=1 then decide (0<(ZbI x.pattern b F).length) else if x.kind=2 then decide ((ZbI x.pattern b F).length=0) else ZmJ x b)
 else false
def ZaR (x:Zt) (F:List Zb) (t:Zu):List Zu:=
 if x.kind=1 then F.filterMap fun f=>(QG x.pattern f t.binding).map fun b=>{ facts:=t.facts++[f],binding:=b }
 else if Zak x t.binding F=true then [t] else []
def Zf0 (x:Zt) (F:List Zb) (l:List Zu):List Zu:=l.flatMap (ZaR x F)
def Zu3:Zu:={ facts:=[],binding:=[] }
def Zw (l:List Zt) (F:List Zb):List Zu:=l.foldl (fun ts x=>Zf0 x F ts) [Zu3]
theorem Y6 (p:List Zt) (x:Zt) (F:List Zb):Zw (p++[x]) F=Zf0 x F (Zw p F):=by
 unfold Zw
 rw [Ab]
 rfl
structure ZlH (p:List Zt) (F:List Zb) (t:Zu):Prop where
 bind:ZW t.binding=true
 len:t.facts.length≤p.length
 sub:∀f∈t.facts,f∈F
 vars:∀v∈Yr p,∃z,Xm t.binding v=some z
theorem ZxL {p:List Zt} {x:Zt} {F:List Zb} {t u:Zu} (h:ZlH p F t) (hu:u∈ZaR x F t):ZlH (p++[x]) F u:=by
 unfold ZaR at hu
 have hv:Yr (p++[x])=Yr p++(if x.kind=1 then Y2 x.pattern.args else []):=by simp [Yr]
 by_cases hk:x.kind=1
 ·rw [if_pos hk] at hu
  obtain ⟨f,mf,e⟩:=List.mem_filterMap.1 hu
  obtain ⟨b,e2,rfl⟩:=Option.map_eq_some_iff.1 e
  obtain ⟨h1,h2,h3⟩:=Zjt e2
  refine ⟨h1,by have:=h.len;simp;omega,fun g mg=>?_,fun v mv=>?_⟩
  ·rcases AK.1 mg with mg | mg
   ·exact h.sub g mg
   ·simp at mg;subst mg;exact mf
  ·rw [hv,if_pos hk] at mv
   rcases AK.1 mv with mv | mv
   ·obtain ⟨z,hz⟩:=h.vars v mv
    exact ⟨z,h3 v z hz⟩
   ·obtain ⟨m1,m2⟩:=ZbJ.1 mv
    exact h2 v m1 m2
 ·rw [if_neg hk] at hu
  split at hu
  ·simp at hu
   subst hu
   refine ⟨h.bind,by have:=h.len;simp;omega,h.sub,fun v mv=>?_⟩
   rw [hv,if_neg hk,Ag] at mv
   exact h.vars v mv
  ·simp at hu
theorem ZxC (F:List Zb):ZlH [] F Zu3:=⟨rfl,AP _,by simp [Zu3],by simp [Yr]⟩
theorem Qp (F:List Zb) (l:List Zt):∀t∈Zw l F,ZlH l F t:=by
 have:∀n (l:List Zt),l.length=n→∀t∈Zw l F,ZlH l F t:=by
  intro n
  induction n with
  | zero=>
   intro l h
   rw [List.eq_nil_of_length_eq_zero h]
   intro t mt
   simp [Zw] at mt
   subst mt
   exact ZxC F
  | succ n ih=>
   intro l h
   obtain ⟨p,x,rfl⟩:∃p x,l=p++[x]:=⟨l.dropLast,l.getLast (by intro e;simp [e] at h),(List.dropLast_concat_getLast _).symm⟩
   intro t mt
   rw [Y6] at mt
   obtain ⟨s,ms,mt⟩:=AS.1 mt
   exact ZxL (ih p (by simpa using h) s ms) mt
 exact this _ l rfl
theorem Zlp (x:Zt) (F:List Zb) (hF:F.length≤24):∀l:List Zu,(Zf0 x F l).length≤24 * l.length
 | []=>AP _
 | t::l=>by
  have ih:=Zlp x F hF l
  have h1:(ZaR x F t).length≤24:=by
   unfold ZaR
   split
   ·exact AG (List.length_filterMap_le _ _) hF
   ·split<;>simp
  unfold Zf0 at *
  rw [AL,AN,A7]
  omega
theorem ZaO (F:List Zb) (hF:F.length≤24) (l:List Zt) (hl:l.length≤4):(Zw l F).length≤331776:=by
 have key:∀(l:List Zt) (ts:List Zu),(l.foldl (fun ts x=>Zf0 x F ts) ts).length≤24 ^ l.length * ts.length:=by
  intro l
  induction l with
  | nil=>intro ts;simp
  | cons x l ih=>
   intro ts
   rw [AE,A7,Nat.pow_succ]
   have h1:=ih (Zf0 x F ts)
   have h2:=Zlp x F hF ts
   refine AG h1 (AG (Nat.mul_le_mul_left _ h2) ?_)
   rw [←Ah]
   exact AP _
 have h1:=key l [Zu3]
 have h2:24 ^ l.length≤24 ^ 4:=AY (by omega) hl
 unfold Zw
 simp only[List.length_singleton,Nat.mul_one] at h1
 omega
def ZfD (b:List Zs) (i:Nat):Option ByteArray:=if i=0 then none else (b[i - 1]?).map (·.var)
theorem ZjI {b:List Zs} {body:Nat→Zs→Unit→Option (Unit ⊕ Bool)} {fin:Unit→Option Bool} (hb:∀i x,b[i]?=some x→body i x ()=if (ZfK x&&Ziq (ZfD b i) x.var)=true then some (.inl ()) else some (.inr false)):
  ∀(l:List Zs) (i:Nat),b.drop i=l→Zo body fin l i ()=if YI (ZfD b i) l=true then fin () else some false
 | [],i,_=>by simp [Zo,YI]
 | x::l,i,h=>by
  have hx:b[i]?=some x:=by rw [←List.head?_drop,h];rfl
  have hd:b.drop (i+1)=l:=by rw [←List.tail_drop,h];rfl
  have hp:ZfD b (i+1)=some x.var:=by unfold ZfD;rw [if_neg (by omega),Nat.add_sub_cancel,hx];rfl
  by_cases hc:(ZfK x&&Ziq (ZfD b i) x.var)=true
  ·rw [ZX (by rw [hb i x hx,if_pos hc]),ZjI hb l (i+1) hd,hp]
   simp only[YI,hc,A2]
  ·rw [Yi (by rw [hb i x hx,if_neg hc])]
   simp only[YI,eq_false_of_ne_true hc,Ac,A5,if_false]
theorem ZnM {b:List Zs} (hl:b.length≤1048576) {i:Nat} {x:Zs} (hx:b[i]?=some x):
  (if Ye x.var=true then (if ZQ x.value=true then (if (decide (0<((i:Nat):Int)))=true then (atI b (IntKind.i64.wrap (((i:Nat):Int) - 1))).bind fun x13=>if (sLt x13.var x.var)=true then some (.inl ()) else some (.inr false) else some (.inl ())) else some (.inr false)) else some (.inr false):Option (Unit ⊕ Bool))
   = if (ZfK x&&Ziq (ZfD b i) x.var)=true then some (.inl ()) else some (.inr false):=by
 have hi:=(AF.1 hx).1
 unfold ZfK
 cases Ye x.var with
 | false=>simp
 | true=>
  cases ZQ x.value with
  | false=>simp
  | true=>
   rw [if_pos rfl,if_pos rfl]
   by_cases h0:i=0
   ·subst h0
    rw [if_neg (by simp)]
    simp [ZfD,Ziq]
   ·have hp:ZfD b i=some (b[i - 1]).var:=by unfold ZfD;rw [if_neg h0,AI (by omega)];rfl
    rw [if_pos (by simp;omega),show ((i:Nat):Int) - 1=((i - 1:Nat):Int) by omega,Zd9 (by omega) (by omega),Zav,AI (by omega),A0,hp]
    simp [Ziq]
theorem i_IsBinding_eq (b:List Zs):Xz b=some (ZW b):=by
 unfold Xz ZW
 by_cases h6:b.length≤6
 ·rw [if_neg (by simp;omega),ZjI (b:=b) (fun i x hx=>by
   rw [ZdQ,A0,X1]
   exact ZnM (by omega) hx) b 0 rfl,decide_eq_true h6]
  show (if YI none b=true then some true else some false)=_
  cases YI none b<;>rfl
 ·rw [if_pos (by simp;omega),decide_eq_false h6]
  rfl
theorem QB (b:List Zs) (hl:b.length≤1048576):XE b=some (ZW b):=by
 unfold XE ZW
 rw [ZjI (b:=b) (fun i x hx=>by
   rw [QW,A0,X6]
   exact ZnM hl hx) b 0 rfl]
 show (if YI none b=true then some (decide (((b.length:Nat):Int)≤6)) else some false)=_
 have:decide (((b.length:Nat):Int)≤6)=decide (b.length≤6):=by rw [A6];simp;omega
 rw [this]
 cases YI none b<;>simp
def ZwQ (b:List Zs) (t:ByteArray):ByteArray × Bool:=match YU b t with | some v=>(v,true) | none=>(⟨#[]⟩,false)
def Zv0:Option ByteArray→ByteArray × Bool
 | some v=>(v,true)
 | none=>(⟨#[]⟩,false)
theorem Zb3 (b:List Zs) (t:ByteArray):ZwQ b t=Zv0 (YU b t):=by unfold ZwQ Zv0;cases YU b t<;>rfl
theorem Zlc {t:ByteArray} {body:Nat→Zs→Unit→Option (Unit ⊕ (ByteArray × Bool))} (hb:∀i x,body i x ()=if x.var=t then some (.inr (x.value,true)) else some (.inl ())):
  ∀(b:List Zs) (i:Nat),Zo body (fun _=>some ((⟨#[]⟩),false)) b i ()=some (Zv0 (Xm b t))
 | [],_=>rfl
 | x::b,i=>by
  by_cases hx:x.var=t
  ·rw [Yi (by rw [hb,if_pos hx])]
   simp [Xm,hx,Zv0]
  ·rw [ZX (by rw [hb,if_neg hx]),Zlc hb b (i+1)]
   simp [Xm,hx]
theorem ZcY (b:List Zs) (t:ByteArray):ZaP b t=some (ZwQ b t):=by
 unfold ZaP
 rw [Zb3,X1,A0]
 unfold YU
 by_cases ha:ZQ t=true
 ·rw [if_pos ha,if_pos ha];rfl
 ·rw [if_neg ha,if_neg ha,ZdQ,A0]
  by_cases hv:Ye t=true
  ·rw [if_pos hv,if_pos hv,Zlc]
   intro i x
   by_cases hx:x.var=t
   ·rw [if_pos (ZO.2 hx),if_pos hx]
   ·rw [if_neg (by rw [ZO];exact hx),if_neg hx]
  ·rw [if_neg hv,if_neg hv];rfl
theorem ZcU (b:List Zs) (t:ByteArray):ZaQ b t=some (ZwQ b t):=by
 unfold ZaQ
 rw [Zb3,X6,A0]
 unfold YU
 by_cases ha:ZQ t=true
 ·rw [if_pos ha,if_pos ha];rfl
 ·rw [if_neg ha,if_neg ha]
  by_cases hv:Ye t=true
  ·rw [if_pos hv,Zlc]
   intro i x
   by_cases hx:x.var=t
   ·rw [if_pos (ZO.2 hx),if_pos hx,QW,A0,if_pos hv]
   ·rw [if_neg (by rw [ZO];exact hx),if_neg hx]
  ·rw [if_neg hv,ZU (p:=fun _=>true) (r:=((⟨#[]⟩:ByteArray),false))]
   ·simp [Zv0]
   ·intro i x _
    rw [QW,A0,if_neg hv]
    split<;>rfl
theorem Zp2 {a v:ByteArray}:((sLt a v||sEq a v)=true)↔¬sLt v a=true:=by
 rw [AO,ZO]
 constructor
 ·rintro (h | h)
  ·rw [ZjA h];simp
  ·rw [h,Zii];simp
 ·intro h
  by_cases e:a=v
  ·exact .inr e
  ·exact .inl (ZeS (by simpa using h) (fun e2=>e e2.symm))
theorem Zre {ρ:Type} {v w:ByteArray} {K:List Zs→Option ρ} {body:Nat→Zs→(List Zs × Bool)→Option ((List Zs × Bool) ⊕ ρ)} {fin:(List Zs × Bool)→Option ρ}
  (h1:∀i x row,row.length≤1000→body i x (row,true)=some (.inl (row++[x],true)))
  (h2:∀i x row,row.length≤1000→body i x (row,false)=if (sLt x.var v||sEq x.var v)=true then some (.inl (row++[x],false)) else some (.inl ((row++[{ var:=v,value:=w }])++[x],true)))
  (h3:∀row,row.length≤1000→fin (row,true)=K row) (h4:∀row,row.length≤1000→fin (row,false)=K (row++[{ var:=v,value:=w }])) (b:List Zs) (hb:b.length≤100):Zo body fin b 0 ([],false)=K (Zfx b v w):=by
 rw [Zal (fun l _ s=>K (s.1++(if s.2=true then l else Zfx l v w))) (fun l _ s=>s.1.length+2 * l.length≤900) ?_ ?_ b 0 ([],false) (by simp;omega)]
 ·simp
 ·rintro i ⟨row,done⟩ hI
  simp only[AQ] at hI
  cases done with
  | true=>rw [h3 row (by omega)];simp
  | false=>rw [h4 row (by omega)];simp [Zfx]
 ·rintro x l i ⟨row,done⟩ hI
  simp only[A7] at hI
  left
  cases done with
  | true=>exact ⟨_,h1 i x row (by omega),by simp;omega,by simp⟩
  | false=>
   rw [h2 i x row (by omega)]
   by_cases hs:sLt v x.var=true
   ·rw [if_neg (by rw [Zp2];simpa using hs)]
    exact ⟨_,rfl,by simp;omega,by simp [Zfx,hs]⟩
   ·rw [if_pos (Zp2.2 hs)]
    exact ⟨_,rfl,by simp;omega,by simp [Zfx,hs]⟩
def Zkg:Option (List Zs)→List Zs × Bool
 | some b=>(b,true)
 | none=>([],false)
theorem Zhl {b:List Zs} {v w:ByteArray} (h:¬(ZW b=true∧Ye v=true∧ZQ w=true)):Zkg (ZfH b v w)=([],false):=by
 unfold ZfH
 rw [if_neg h]
 rfl
theorem Zjj {b:List Zs} {v w:ByteArray} (h1:ZW b=true) (h2:Ye v=true) (h3:ZQ w=true):ZfH b v w=match Xm b v with | some old=>if old=w then some b else none | none=>if b.length=6 then none else some (Zfx b v w):=by
 unfold ZfH
 exact if_pos ⟨h1,h2,h3⟩
theorem X2 {b:List Zs} (h:ZW b=true):b.length≤6:=by
 unfold ZW at h
 rw [A4,decide_eq_true_iff] at h
 exact h.1
theorem Zqa (b:List Zs) (v w:ByteArray):ZgK b v w=some (Zkg (ZfH b v w)):=by
 unfold ZgK
 rw [i_IsBinding_eq,A0]
 by_cases h1:ZW b=true
 ·rw [if_pos h1,ZdQ,A0]
  by_cases h2:Ye v=true
  ·rw [if_pos h2,X1,A0]
   by_cases h3:ZQ w=true
   ·have h6:=X2 h1
    rw [if_pos h3,ZcY,A0,Zb3,ZfA h2]
    cases hg:Xm b v with
    | some old=>
     have hx:ZfH b v w=if old=w then some b else none:=by rw [Zjj h1 h2 h3,hg]
     rw [hx]
     show (if true=true then (if sEq old w=true then _ else _) else _)=_
     rw [if_pos rfl]
     by_cases he:old=w
     ·rw [if_pos (ZO.2 he),if_pos he]
      unfold ZaT
      rw [Zh _ (by omega)]
      rfl
     ·rw [if_neg (by rw [ZO];exact he),if_neg he]
      rfl
    | none=>
     have hx:ZfH b v w=if b.length=6 then none else some (Zfx b v w):=by rw [Zjj h1 h2 h3,hg]
     rw [hx]
     show (if false=true then _ else _)=_
     rw [if_neg (by simp)]
     by_cases hl:b.length=6
     ·rw [if_pos (by simp;omega),if_pos hl]
      rfl
     ·rw [if_neg (by simp;omega),if_neg hl]
      refine Zre (K:=fun r=>some (r,true)) (fun i x row hr=>?_) (fun i x row hr=>?_) (fun row hr=>?_) (fun row hr=>?_) b (by omega)
      ·show (if true=true then _ else _)=_
       rw [if_pos rfl,Zh _ (by omega)]
      ·show (if false=true then _ else _)=_
       rw [if_neg (by simp)]
       split
       ·rw [Zh _ (by omega)]
       ·rw [Zh _ (by omega),Zh _ (by omega)]
      ·show (if true=true then _ else _)=_
       rw [if_pos rfl]
      ·show (if false=true then _ else _)=_
       rw [if_neg (by simp),Zh _ (by omega)]
   ·rw [if_neg h3,Zhl (fun h=>h3 h.2.2)]
  ·rw [if_neg h2,Zhl (fun h=>h2 h.2.1)]
 ·rw [if_neg h1,Zhl (fun h=>h1 h.1)]
theorem ZsF (b:List Zs) (v w:ByteArray) (hb:b.length≤100):ZiO b v w=some (Zfx b v w):=by
 unfold ZiO
 refine Zre (K:=fun r=>some r) (fun i x row hr=>?_) (fun i x row hr=>?_) (fun row hr=>?_) (fun row hr=>?_) b hb
 ·show (if true=true then _ else _)=_
  rw [if_pos rfl,Zh _ (by omega)]
 ·show (if false=true then _ else _)=_
  rw [if_neg (by simp)]
  split
  ·rw [Zh _ (by omega)]
  ·rw [Zh _ (by omega),Zh _ (by omega)]
 ·show (if true=true then _ else _)=_
  rw [if_pos rfl]
 ·show (if false=true then _ else _)=_
  rw [if_neg (by simp),Zh _ (by omega)]
theorem Zq2 (b:List Zs) (v w:ByteArray) (hb:b.length≤1048576):ZgN b v w=some (Zkg (ZfH b v w)):=by
 unfold ZgN
 rw [QB b hb,A0]
 by_cases h1:ZW b=true
 ·rw [if_pos h1,QW,A0]
  by_cases h2:Ye v=true
  ·rw [if_pos h2,X6,A0]
   by_cases h3:ZQ w=true
   ·have h6:=X2 h1
    rw [if_pos h3,ZcU,A0,Zb3,ZfA h2]
    cases hg:Xm b v with
    | some old=>
     have hx:ZfH b v w=if old=w then some b else none:=by rw [Zjj h1 h2 h3,hg]
     rw [hx]
     show (if true=true then (if sEq old w=true then _ else _) else _)=_
     rw [if_pos rfl]
     by_cases he:old=w
     ·rw [if_pos (ZO.2 he),if_pos he]
      unfold ZcA
      rw [Zh _ (by omega)]
      rfl
     ·rw [if_neg (by rw [ZO];exact he),if_neg he]
      rfl
    | none=>
     have hx:ZfH b v w=if b.length=6 then none else some (Zfx b v w):=by rw [Zjj h1 h2 h3,hg]
     rw [hx]
     show (if false=true then _ else _)=_
     rw [if_neg (by simp)]
     by_cases hl:b.length=6
     ·rw [if_pos (by simp;omega),if_pos hl]
      rfl
     ·rw [if_neg (by simp;omega),if_neg hl,ZsF _ _ _ (by omega)]
      rfl
   ·rw [if_neg h3,Zhl (fun h=>h3 h.2.2)]
  ·rw [if_neg h2,Zhl (fun h=>h2 h.2.1)]
 ·rw [if_neg h1,Zhl (fun h=>h1 h.1)]
theorem Zfh {fa:List ByteArray} {body:Nat→ByteArray→List Zs→Option (List Zs ⊕ (List Zs × Bool))}
  (hb:∀i a w row,fa[i]?=some w→ZW row=true→body i a row=if ZQ a=true then (if a=w then some (.inl row) else some (.inr ([],false))) else (match ZfH row a w with | some r=>some (.inl r) | none=>some (.inr ([],false)))):
  ∀(l:List ByteArray) (i:Nat) (row:List Zs),i+l.length=fa.length→ZW row=true→Zo body (fun row=>some (row,true)) l i row=some (Zkg (Zbb l (fa.drop i) row))
 | [],i,row,_,_=>by simp [Zo,Zbb,Zkg]
 | a::l,i,row,h,hr=>by
  simp only[A7] at h
  have hi:i<fa.length:=by omega
  have hw:fa[i]?=some fa[i]:=AI hi
  rw [Aa hi]
  simp only[Zbb]
  have e:=hb i a _ row hw hr
  by_cases ha:ZQ a=true
  ·rw [if_pos ha] at e ⊢
   by_cases hq:a=fa[i]
   ·rw [if_pos hq] at e ⊢
    rw [ZX e]
    exact Zfh hb l (i+1) row (by omega) hr
   ·rw [if_neg hq] at e ⊢
    rw [Yi e]
    rfl
  ·rw [if_neg ha] at e ⊢
   cases hx:ZfH row a fa[i] with
   | none=>
    rw [hx] at e
    rw [Yi e]
    rfl
   | some r=>
    rw [hx] at e
    rw [ZX e,A0]
    exact Zfh hb l (i+1) r (by omega) (Zte hx).1
theorem Zgr (p:Zv) (f:Zb) (b:List Zs):Za0 p f b=some (Zkg (QG p f b)):=by
 unfold Za0 QG Zcp
 rw [Zbe,A0]
 cases h1:ZR p with
 | false=>rfl
 | true=>
  rw [if_pos rfl,Zj8,A0]
  cases h2:Yb f with
  | false=>rfl
  | true=>
   rw [if_pos rfl,i_IsBinding_eq,A0]
   cases h3:ZW b with
   | false=>rfl
   | true=>
    rw [if_pos rfl]
    by_cases h4:p.rel=f.rel
    ·rw [if_pos (ZO.2 h4),decide_eq_true h4]
     by_cases h5:p.args.length=f.args.length
     ·have h6:=X2 h3
      rw [if_neg (by simp;omega),decide_eq_true h5]
      unfold ZaT
      rw [Zh _ (by omega),A0]
      rw [Zfh (fa:=f.args) (fun i a w row hw hr=>?_) p.args 0 b (by omega) h3]
      ·rfl
      ·rw [X1,A0,Zav,hw,A0,A0]
       split
       ·by_cases hq:a=w
        ·rw [if_pos (ZO.2 hq),if_pos hq]
        ·rw [if_neg (by rw [ZO];exact hq),if_neg hq]
       ·rw [Zqa,A0]
        cases ZfH row a w<;>rfl
     ·rw [if_pos (by simp;omega),decide_eq_false h5]
      rfl
    ·rw [if_neg (by rw [ZO];exact h4),decide_eq_false h4]
     rfl
theorem Zgn (p:Zv) (f:Zb) (b:List Zs) (hb:b.length≤1048576):Za3 p f b=some (Zkg (QG p f b)):=by
 unfold Za3 QG Zcp
 rw [QK,A0]
 cases h1:ZR p with
 | false=>rfl
 | true=>
  rw [if_pos rfl,Zko,A0]
  cases h2:Yb f with
  | false=>rfl
  | true=>
   rw [if_pos rfl,QB b hb,A0]
   cases h3:ZW b with
   | false=>rfl
   | true=>
    rw [if_pos rfl]
    by_cases h4:p.rel=f.rel
    ·rw [if_pos (ZO.2 h4),decide_eq_true h4]
     by_cases h5:p.args.length=f.args.length
     ·have h6:=X2 h3
      rw [if_neg (by simp;omega),decide_eq_true h5]
      unfold ZcA
      rw [Zh _ (by omega),A0]
      rw [Zfh (fa:=f.args) (fun i a w row hw hr=>?_) p.args 0 b (by omega) h3]
      ·rfl
      ·have hr6:=X2 hr
       rw [X6,A0,Zav,hw,A0,A0]
       split
       ·by_cases hq:a=w
        ·rw [if_pos (ZO.2 hq),if_pos hq]
        ·rw [if_neg (by rw [ZO];exact hq),if_neg hq]
       ·rw [Zq2 _ _ _ (by omega),A0]
        cases ZfH row a w<;>rfl
     ·rw [if_pos (by simp;omega),decide_eq_false h5]
      rfl
    ·rw [if_neg (by rw [ZO];exact h4),decide_eq_false h4]
     rfl
def YE:Option Zb→Zb × Bool
 | some f=>(f,true)
 | none=>({ rel:=⟨#[]⟩,args:=[] },false)
theorem Znz {b:List Zs} {rel:ByteArray} {body:Nat→ByteArray→List ByteArray→Option (List ByteArray ⊕ (Zb × Bool))} (hb:∀i a row,row.length≤1048576→body i a row=match YU b a with | some v=>some (.inl (row++[v])) | none=>some (.inr ({ rel:=⟨#[]⟩,args:=[] },false))) (l:List ByteArray) (hl:l.length≤1000000):
  Zo body (fun row=>some ({ rel:=rel,args:=row },true)) l 0 []=some (YE ((ZaX l b).map fun l=>{ rel:=rel,args:=l })):=by
 rw [Zal (fun l _ row=>some (YE ((ZaX l b).map fun l=>{ rel:=rel,args:=row++l }))) (fun l _ row=>row.length+l.length≤1048576) ?_ ?_ l 0 [] (by simp;omega)]
 ·simp
 ·intro i row _
  simp [ZaX,YE]
 ·intro a l i row hI
  simp only[A7] at hI
  have e:=hb i a row (by omega)
  cases hv:YU b a with
  | none=>
   rw [hv] at e
   exact .inr ⟨_,e,by simp [ZaX,hv,YE]⟩
  | some v=>
   rw [hv] at e
   refine .inl ⟨_,e,by simp;omega,?_⟩
   simp only[ZaX,hv,A0,Option.map_map]
   cases ZaX l b<;>simp
theorem Zcd (p:Zv) (b:List Zs):XL p b=some (YE (Yf p b)):=by
 unfold XL Yf
 rw [Zbe,A0]
 cases h1:ZR p with
 | false=>rfl
 | true=>
  rw [if_pos rfl,i_IsBinding_eq,A0]
  cases h3:ZW b with
  | false=>rfl
  | true=>
   have hl:p.args.length≤3:=by unfold ZR at h1;simp at h1;exact h1.1.2
   rw [if_pos rfl,if_pos ⟨rfl,rfl⟩,Znz (b:=b) (fun i a row hr=>?_) p.args (by omega)]
   rw [ZcY,A0,Zb3]
   cases YU b a with
   | none=>rfl
   | some v=>
    show (if true=true then _ else _)=_
    rw [if_pos rfl,Zh _ (by omega)]
    rfl
theorem Zez (p:Zv) (b:List Zs) (hb:b.length≤1048576):Yy p b=some (YE (Yf p b)):=by
 unfold Yy Yf
 rw [QK,A0]
 cases h1:ZR p with
 | false=>rfl
 | true=>
  rw [if_pos rfl,QB b hb,A0]
  cases h3:ZW b with
  | false=>rfl
  | true=>
   have hl:p.args.length≤3:=by unfold ZR at h1;simp at h1;exact h1.1.2
   rw [if_pos rfl,if_pos ⟨rfl,rfl⟩,Znz (b:=b) (fun i a row hr=>?_) p.args (by omega)]
   rw [ZcU,A0,Zb3]
   cases YU b a with
   | none=>rfl
   | some v=>
    show (if true=true then _ else _)=_
    rw [if_pos rfl,Zh _ (by omega)]
    rfl
theorem Zfu (o:Option (List Zs)):(Zkg o).2=o.isSome:=by cases o<;>rfl
theorem Zdi (p:Zv) (b:List Zs) (F:List Zb) (hF:F.length≤1048576) (ha:∀f∈F,f.args.length≤1048576):Xt p b F=some (ZbI p b F):=by
 unfold Xt ZbI
 rw [Zcm (p:=fun f=>(QG p f b).isSome)]
 ·simp
 ·intro j f s mf hs
  rw [Zgr,A0,Zfu]
  split
  ·rw [YN f (ha f mf),A0,Zh _ (by simp at hs;omega)]
  ·rfl
theorem Zdu (p:Zv) (b:List Zs) (F:List Zb) (hb:b.length≤1048576) (hF:F.length≤1048576) (ha:∀f∈F,f.args.length≤1048576):Xs p b F=some (ZbI p b F):=by
 unfold Xs ZbI
 rw [Zcm (p:=fun f=>(QG p f b).isSome)]
 ·simp
 ·intro j f s mf hs
  rw [Zgn _ _ _ hb,A0,Zfu]
  split
  ·rw [Xb f (ha f mf),A0,Zh _ (by simp at hs;omega)]
  ·rfl
theorem Zk2 (x:Zt) (b:List Zs):Zcs x b=some (ZmJ x b):=by
 unfold Zcs ZmJ Zi1
 rw [Zg4,A0]
 cases h1:Yk x with
 | false=>rfl
 | true=>
  rw [if_pos rfl,A0]
  by_cases h2:3≤x.kind
  ·rw [if_pos (by simpa using h2),i_IsBinding_eq,A0]
   cases h3:ZW b with
   | false=>simp
   | true=>
    rw [if_pos rfl,if_pos ⟨rfl,h2,rfl⟩,ZcY,A0,ZcY,A0,Zb3,Zb3]
    cases YU b x.left with
    | none=>rfl
    | some l=>
     cases YU b x.right with
     | none=>rfl
     | some r=>
      show (if true=true then (if true=true then (if (x.kind==3)=true then some (sEq l r) else _) else _) else _)=some (Zq1 x.kind l r)
      rw [if_pos rfl,if_pos rfl]
      unfold Zq1
      by_cases k3:x.kind=3
      ·rw [if_pos (by simpa using k3),if_pos k3];rfl
      ·rw [if_neg (by simpa using k3),if_neg k3]
       by_cases k4:x.kind=4
       ·rw [if_pos (by simpa using k4),if_pos k4];rfl
       ·rw [if_neg (by simpa using k4),if_neg k4,Zb7,A0,Zb7,A0]
        show (if (ZdG l).2=true then (if (ZdG r).2=true then some (decide ((ZdG l).1<(ZdG r).1)) else some false) else some false)=_
        unfold ZdG Zv6
        cases Qy l<;>cases Qy r<;>simp
  ·rw [if_neg (by simpa using h2),if_neg (fun h=>h2 h.2.1)]
theorem ZlC (x:Zt) (b:List Zs) (hb:b.length≤1048576):Zcj x b=some (ZmJ x b):=by
 unfold Zcj ZmJ Zbf
 rw [Zcv,A0]
 cases h1:Yk x with
 | false=>rfl
 | true=>
  rw [if_pos rfl,A0]
  by_cases h2:3≤x.kind
  ·rw [if_pos (by simpa using h2),QB b hb,A0]
   cases h3:ZW b with
   | false=>simp
   | true=>
    rw [if_pos rfl,if_pos ⟨rfl,h2,rfl⟩,ZcU,A0,ZcU,A0,Zb3,Zb3]
    cases YU b x.left with
    | none=>rfl
    | some l=>
     cases YU b x.right with
     | none=>rfl
     | some r=>
      show (if true=true then (if true=true then (if (x.kind==3)=true then some (sEq l r) else _) else _) else _)=some (Zq1 x.kind l r)
      rw [if_pos rfl,if_pos rfl]
      unfold Zq1
      by_cases k3:x.kind=3
      ·rw [if_pos (by simpa using k3),if_pos k3];rfl
      ·rw [if_neg (by simpa using k3),if_neg k3]
       by_cases k4:x.kind=4
       ·rw [if_pos (by simpa using k4),if_pos k4];rfl
       ·rw [if_neg (by simpa using k4),if_neg k4]
        unfold ZdN
        rw [Zap,A0,A0]
        show (if (ZdG l).2=true then ((Qe r).bind fun v1=>some v1.2).bind (fun v6=>if v6=true then (Xd l r).bind fun v7=>some (decide (v7<0)) else some false) else some false)=_
        unfold Zv6
        cases hl:Qy l with
        | none=>simp [ZdG,hl]
        | some m=>
         rw [if_pos (by simp [ZdG,hl]),Zap,A0,A0]
         cases hr:Qy r with
         | none=>simp [ZdG,hr]
         | some n=>
          have hd:decide (ZfX l r<0)=decide (m<n):=by
           have hc:ZfX l r=ZkE m n:=by unfold ZfX;rw [hl,hr]
           rw [hc,A6,decide_eq_true_iff,decide_eq_true_iff]
           unfold ZkE
           split
           ·omega
           ·split<;>omega
          rw [if_pos (by simp [ZdG,hr]),Zec,A0,hd]
  ·rw [if_neg (by simpa using h2),if_neg (fun h=>h2 h.2.1)]
theorem ZlS (x:Zt) (b:List Zs) (F:List Zb) (hF:F.length≤1048576) (ha:∀f∈F,f.args.length≤1048576):ZcD x b F=some (Zak x b F):=by
 unfold ZcD Zak
 rw [Zg4,A0]
 cases h1:Yk x with
 | false=>rfl
 | true=>
  rw [if_pos rfl,i_IsBinding_eq,A0]
  cases h3:ZW b with
  | false=>rfl
  | true=>
   rw [if_pos rfl,if_pos (show true=true∧true=true from ⟨rfl,rfl⟩)]
   by_cases k1:x.kind=1
   ·rw [if_pos (by simpa using k1),if_pos k1,Zdi _ _ _ hF ha,A0]
    congr 1
    rw [A6];simp
   ·rw [if_neg (by simpa using k1),if_neg k1]
    by_cases k2:x.kind=2
    ·rw [if_pos (by simpa using k2),if_pos k2,Zdi _ _ _ hF ha,A0,Zud]
    ·rw [if_neg (by simpa using k2),if_neg k2,Zk2]
     rfl
theorem ZlR (x:Zt) (b:List Zs) (F:List Zb) (hb:b.length≤1048576) (hF:F.length≤1048576) (ha:∀f∈F,f.args.length≤1048576):Zcl x b F=some (Zak x b F):=by
 unfold Zcl Zak
 rw [Zcv,A0]
 cases h1:Yk x with
 | false=>rfl
 | true=>
  rw [if_pos rfl,QB b hb,A0]
  cases h3:ZW b with
  | false=>rfl
  | true=>
   rw [if_pos rfl,if_pos (show true=true∧true=true from ⟨rfl,rfl⟩)]
   by_cases k1:x.kind=1
   ·rw [if_pos (by simpa using k1),if_pos k1,Zdu _ _ _ hb hF ha,A0]
    congr 1
    rw [A6];simp
   ·rw [if_neg (by simpa using k1),if_neg k1]
    by_cases k2:x.kind=2
    ·rw [if_pos (by simpa using k2),if_pos k2,Zdu _ _ _ hb hF ha,A0,Zud]
    ·rw [if_neg (by simpa using k2),if_neg k2,ZlC _ _ hb]
     rfl
theorem XB {r:Zg} (h:YQ r=true):r.cond.length≤4∧r.thn.length≤2:=by
 simp only[YQ,A4,decide_eq_true_eq] at h
 omega
def Zot (r:Zg):Bool:=r.thn.all fun a=>decide (a.kind=1)
def Zgu (r:Zg) (i:Nat) (x:Zt):Bool:=!decide (x.kind=2)||(YB x).all (Yx (YD r i))
def ZM (r:Zg):Bool:=YQ r&&allI (Zgu r) r.cond 0&&Zot r
theorem Zm7 (a b:List ByteArray):Zdm a b=some (a.all (Yx b)):=by
 unfold Zdm
 rw [ZU (p:=Yx b) (r:=false)]
 ·cases a.all (Yx b)<;>rfl
 ·intro i x _
  rw [YV,A0]
  cases Yx b x<;>simp
theorem ZnC {fin:Unit→Option Bool} {l:List Zz}:Zo (σ:=Unit) (fun (_:Nat) (x:Zz) _=>if (x.kind != 1)=true then some (.inr false) else some (.inl ())) fin l 0 ()=if (l.all fun a=>decide (a.kind=1))=true then fin () else some false:=by
 refine ZU fun i x _=>?_
 by_cases h:x.kind=1
 ·simp [h]
 ·have:(x.kind != 1)=true:=by simpa using h
  simp [this,h]
theorem ZmX (r:Zg):ZdJ r=some (Zot r):=by
 unfold ZdJ Zot
 rw [ZnC]
 cases r.thn.all fun a=>decide (a.kind=1)<;>rfl
theorem ZlX (r:Zg) (h:QC r):Zcx r=some (ZM r):=by
 unfold Zcx ZM
 rw [Zgg r h,A0]
 cases hr:YQ r with
 | false=>simp
 | true=>
  have h4:=(XB hr).1
  simp only[if_true,A2]
  rw [Xu (p:=Zgu r) (r:=false),ZnC]
  ·unfold Zot
   cases allI (Zgu r) r.cond 0<;>cases r.thn.all fun a=>decide (a.kind=1)<;>simp
  ·intro j x hj
   rw [AH,Zcc x (by have:=h.ca x (AC hj);omega),ZdY r _ h h4,AA]
   simp only[A0,Zm7,Zgu]
   by_cases hk:x.kind=2
   ·simp only[hk,beq_self_eq_true,if_true,decide_true,Am,AR]
    cases (YB x).all (Yx (YD r j))<;>simp
   ·simp [hk]
theorem ZlO (r:Zg) (h:QC r):Zci r=some (ZM r):=by
 unfold Zci ZM
 rw [Zj7 r h,A0,ZmX]
 cases hr:YQ r with
 | false=>simp
 | true=>
  have h4:=(XB hr).1
  simp only[if_true,A2,A0]
  rw [Xu (p:=Zgu r) (r:=false)]
  ·cases allI (Zgu r) r.cond 0<;>cases Zot r<;>simp
  ·intro j x hj
   rw [AH,Zb6 x (by have:=h.ca x (AC hj);omega),Zdy r _ h h4,AA]
   simp only[A0,Zgu]
   by_cases hk:x.kind=2
   ·simp only[hk,bne_self_eq_false,A5,if_false,decide_true,Am,AR]
    rw [ZU (p:=Yx (YD r j)) (r:=.inr false)]
    ·cases (YB x).all (Yx (YD r j))<;>simp
    ·intro k v _
     rw [Q5,A0]
     cases Yx (YD r j) v<;>simp
   ·have:(x.kind != 2)=true:=by simpa using hk
    simp [hk,this]
theorem ZME {l:List Nat} {x:Nat} (h:x∈l):x≤l.sum:=by
 induction l with
 | nil=>simp at h
 | cons a r ih=>
  rcases A3.1 h with h | h
  ·subst h;simp
  ·have:=ih h;simp;omega
theorem ZLw {α:Type} {f:α→Nat} {l:List α} {n:Nat} (h:l.length+(l.map f).sum≤n) {x:α} (hx:x∈l):f x≤n:=by
 have:=ZME (List.mem_map_of_mem (f:=f) hx)
 omega
theorem ZL4 {l:List Zt} (h:ZJR l≤1048576):l.length≤1048576∧∀x∈l,x.pattern.args.length≤1048576:=by
 unfold ZJR at h
 refine ⟨by omega,fun x mx=>?_⟩
 have:=ZLw (f:=ZJY) h mx
 simp only[ZJY,ZJH,ZrM] at this
 omega
theorem ZMt {r:Zg} (h:ZJO r≤1048576):QC r:=by
 simp only[ZJO] at h
 have h1:ZJR r.cond≤1048576:=by omega
 have h2:ZJJ r.thn≤1048576:=by omega
 obtain ⟨a,b⟩:=ZL4 h1
 refine ⟨a,?_,b,fun x mx=>?_⟩
 ·unfold ZJJ at h2;omega
 ·unfold ZJJ at h2
  have:=ZLw (f:=ZJN) h2 mx
  simp only[ZJN,ZJH,ZrM] at this
  omega
end Go.Proofs.YtfehfkfdfmcgfaaGreatDoor
