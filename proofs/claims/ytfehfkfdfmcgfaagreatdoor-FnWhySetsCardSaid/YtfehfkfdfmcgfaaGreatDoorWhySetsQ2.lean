/- Texts of this proof, joined: Df, D1, P1, P5, P14, R14, D2, E1, E2. What each holds is said at its theorems. -/
import Derived.Test.YtfehfkfdfmcgfaaGreatDoorWhySetsQ1
import Derived.Lib.ItoaLen
import Derived.Laws.BitsLemmas
set_option linter.unusedSimpArgs false
set_option linter.unusedVariables false
open Bool renaming true_and→A5,false_eq_true→A6,and_eq_true→A9,eq_iff_iff→AA,false_or→AQ,not_not→Ac,false_and→Ad,not_true→Ae
open Int renaming toNat→A0,toNat_natCast→A8
open List renaming mem_append→A4,set→A7,mem_singleton→AB,mem_of_getElem?→AC,mem_cons→AE,length_append→AF,drop→AH,replicate→AI,all_eq_true→AJ,length_cons→AL,mem_flatMap→AM,getElem?_eq_some_iff→AN,foldl_cons→AO,flatMap_cons→AP,mem_cons_of_mem→AR,pairwise_cons→AS,tail→AT,getElem?_append_left→AU,getElem?_eq_getElem→AY,not_mem_nil→AZ,foldl_append→Aa,not_any_eq_all_not→Ab,length_filterMap_le→Af,nil_append→Ag,countP_cons→Ah,countP_le_length→Ai,length_singleton→Aj,append_assoc→Ak,take_append_drop→Al
open List.Pairwise renaming nil→AD
open Nat renaming le_refl→AG,zero_add→AK,and_le_right→AX
open Option renaming bind_some→A3
open UInt8 renaming ofNat→AW
namespace Go.Proofs.YtfehfkfdfmcgfaaGreatDoor
section
set_option linter.unusedVariables false
structure ZJ where
 b:(List Int)
 i:Int
 h:Int
structure ZaA where
 rule:ByteArray
 facts:(List Zb)
structure Xr where
 rule:ByteArray
 token:Zu
noncomputable def ZsU (code_0:(List Int)):Option Bool:=
 some (decide (4096<((code_0.length:Nat):Int)))
noncomputable def Zjn (code_0:(List Int)):Option ZJ:=
 Zo (σ:=Int)
  (fun (i5:Nat) (c:Int) a=>
   if (decide (((i5:Nat):Int)<4000))=true then
    some (.inl (ZlF .i64 (IntKind.i64.wrap ((IntKind.i64.wrap ((IntKind.i64.wrap (a * 167))+IntKind.i64.wrap c))+29)) 1073741823))
   else
    some (.inr ({ b:=code_0,i:=0,h:=a }:ZJ)))
  (fun a=>
   some ({ b:=code_0,i:=0,h:=a }:ZJ))
  code_0 0 (IntKind.i64.wrap (851207+(IntKind.i64.wrap (3 * ((code_0.length:Nat):Int)))))
noncomputable def Zcy (a:ZJ):Option (Int × ZJ):=
 if (decide (a.i<((a.b.length:Nat):Int)))=true then
  (atI a.b a.i).bind fun c=>
  some ((ZlF .i64 (IntKind.i64.wrap ((ZlF .i64 (Zw6 .i64 (Ztw .i64 (IntKind.i64.wrap ((IntKind.i64.wrap (a.h * 6364136223846793005))+1442695040888963407)) 35) (Ztw .i64 (IntKind.i64.wrap ((IntKind.i64.wrap (a.h * 6364136223846793005))+1442695040888963407)) 45)) 255)+IntKind.i64.wrap c)) 255),({ b:=a.b,i:=(IntKind.i64.wrap (a.i+1)),h:=(IntKind.i64.wrap ((IntKind.i64.wrap (a.h * 6364136223846793005))+1442695040888963407)) }:ZJ))
 else
  some ((ZlF .i64 (Zw6 .i64 (Ztw .i64 (IntKind.i64.wrap ((IntKind.i64.wrap (a.h * 6364136223846793005))+1442695040888963407)) 35) (Ztw .i64 (IntKind.i64.wrap ((IntKind.i64.wrap (a.h * 6364136223846793005))+1442695040888963407)) 45)) 255),({ b:=a.b,i:=a.i,h:=(IntKind.i64.wrap ((IntKind.i64.wrap (a.h * 6364136223846793005))+1442695040888963407)) }:ZJ))
noncomputable def Xv (c_0:ZJ) (n_1:Int):Option (Int × ZJ):=
 if (decide (n_1≤0))=true then
  some (0,c_0)
 else
  if (decide (n_1≤256))=true then
   (Zcy c_0).bind fun a=>
   chk (¬n_1=0) <|
   some ((Int.tmod a.1 n_1),a.2)
  else
   (Zcy c_0).bind fun b=>
   (Zcy b.2).bind fun c=>
   (Zcy c.2).bind fun d=>
   chk (¬n_1=0) <|
   some ((Int.tmod (IntKind.i64.wrap ((IntKind.i64.wrap ((IntKind.i64.wrap (b.1 * 65536))+(IntKind.i64.wrap (c.1 * 256))))+d.1)) n_1),d.2)
noncomputable def Zat (b:Int):Option ByteArray:=
 if (b==(-9223372036854775808))=true then
  some (⟨#[45,57,50,50,51,51,55,50,48,51,54,56,53,52,55,55,53,56,48,56]⟩)
 else
  if (decide (b<0))=true then
   none
  else
   Yp (σ:=Int × ByteArray)
    (fun s=>
     match s with
     | (a,c)=>
     chk ((Y5 [(IntKind.u8.wrap (IntKind.i64.wrap (48+(Int.tmod a 10))))]).size+c.size≤9223372036854775807) <|
     if ((IntKind.i64.wrap (Int.tdiv a 10))==0)=true then
      some (.inr ((Y5 [(IntKind.u8.wrap (IntKind.i64.wrap (48+(Int.tmod a 10))))])++c))
     else
      some (.inl ((IntKind.i64.wrap (Int.tdiv a 10)),((Y5 [(IntKind.u8.wrap (IntKind.i64.wrap (48+(Int.tmod a 10))))])++c))))
    (b,⟨#[]⟩)
noncomputable def X3 (b:Int):Option ByteArray:=
 if (b==(-9223372036854775808))=true then
  some (⟨#[45,57,50,50,51,51,55,50,48,51,54,56,53,52,55,55,53,56,48,56]⟩)
 else
  if (decide (b<0))=true then
   (Zat (IntKind.i64.wrap (0 - b))).bind fun d=>
   chk ((⟨#[45]⟩:ByteArray).size+d.size≤9223372036854775807) <|
   some ((⟨#[45]⟩:ByteArray)++d)
  else
   Yp (σ:=Int × ByteArray)
    (fun s=>
     match s with
     | (a,c)=>
     chk ((Y5 [(IntKind.u8.wrap (IntKind.i64.wrap (48+(Int.tmod a 10))))]).size+c.size≤9223372036854775807) <|
     if ((IntKind.i64.wrap (Int.tdiv a 10))==0)=true then
      some (.inr ((Y5 [(IntKind.u8.wrap (IntKind.i64.wrap (48+(Int.tmod a 10))))])++c))
     else
      some (.inl ((IntKind.i64.wrap (Int.tdiv a 10)),((Y5 [(IntKind.u8.wrap (IntKind.i64.wrap (48+(Int.tmod a 10))))])++c))))
    (b,⟨#[]⟩)
noncomputable def X7 (x_0:Int) (least_1:Int) (most_2:Int):Option Bool:=
 if (decide (least_1≤x_0))=true then
  some (decide (x_0≤most_2))
 else
  some false
noncomputable def Qe (s_0:ByteArray):Option (Int × Bool):=
 (X7 ((s_0.size:Nat):Int) 1 4).bind fun c=>
 if c=true then
  Zo (σ:=Int)
   (fun (i7:Nat) (b:UInt8) a=>
    if (decide (((b.toNat:Nat):Int)<48))=true then
     some (.inr (0,false))
    else
     if (decide (57<((b.toNat:Nat):Int)))=true then
      some (.inr (0,false))
     else
      some (.inl (IntKind.i64.wrap ((IntKind.i64.wrap (10 * a))+IntKind.i64.wrap (IntKind.u8.wrap (((b.toNat:Nat):Int) - 48))))))
   (fun a=>
    (X3 a).bind fun d=>
    if (sEq d s_0)=true then
     some (a,true)
    else
     some (0,false))
   s_0.data.toList 0 0
 else
  some (0,false)
noncomputable def Qx (b:ByteArray) (c:ByteArray):Option (List ByteArray):=
 if (sEq c ⟨#[]⟩)=true then
  some [b]
 else
  Yp (σ:=(List ByteArray) × Int × Int)
   (fun s=>
    match s with
    | (e,d,a)=>
    if (decide ((IntKind.i64.wrap (a+((c.size:Nat):Int)))≤((b.size:Nat):Int)))=true then
     chk (0≤(IntKind.i64.wrap (a+((c.size:Nat):Int)))∧(IntKind.i64.wrap (a+((c.size:Nat):Int)))≤((b.size:Nat):Int)∧0≤a∧a≤(((A0 (IntKind.i64.wrap (a+((c.size:Nat):Int)))):Nat):Int)) <|
     if (sEq (b.extract (A0 a) (A0 (IntKind.i64.wrap (a+((c.size:Nat):Int))))) c)=true then
      chk (a≤((b.size:Nat):Int)∧0≤d∧d≤(((A0 a):Nat):Int)) <|
      chk (e.length+1≤1073741824) <|
      some (.inl ((e++[(b.extract (A0 d) (A0 a))]),(IntKind.i64.wrap (a+((c.size:Nat):Int))),(IntKind.i64.wrap (a+((c.size:Nat):Int)))))
     else
      some (.inl (e,d,(IntKind.i64.wrap (a+1))))
    else
     chk (0≤d∧d≤((b.size:Nat):Int)) <|
     chk (e.length+1≤1073741824) <|
     some (.inr (e++[(b.extract (A0 d) b.size)])))
   ([],0,0)
noncomputable def Qk (s_0:ByteArray):Option Bool:=
 Zo (σ:=Unit)
  (fun (i9:Nat) (a:UInt8) _=>
   (X7 (IntKind.i64.wrap ((a.toNat:Nat):Int)) 97 122).bind fun b=>
   if b=true then
    some (.inl ())
   else
    (X7 (IntKind.i64.wrap ((a.toNat:Nat):Int)) 48 57).bind fun c=>
    if c=true then
     some (.inl ())
    else
     some (.inr false))
  (fun _=>
   (X7 ((s_0.size:Nat):Int) 1 8).bind fun d=>
   some d)
  s_0.data.toList 0 ()
noncomputable def ZdP (s_0:ByteArray):Option Bool:=
 (Qk s_0).bind fun a=>
 if a=true then
  (sAt s_0 0).bind fun b=>
  (X7 (IntKind.i64.wrap ((b.toNat:Nat):Int)) 97 122).bind fun c=>
  some c
 else
  some false
noncomputable def Zaz (a:ByteArray):Option Bool:=
 if (decide (1<((a.size:Nat):Int)))=true then
  (sAt a 0).bind fun b=>
  if (((b.toNat:Nat):Int)==63)=true then
   chk (0≤1∧1≤((a.size:Nat):Int)) <|
   (Qk (a.extract (A0 1) a.size)).bind fun c=>
   some c
  else
   some false
 else
  some false
noncomputable def XO (l_0:(List ByteArray)) (s_1:ByteArray):Option (List ByteArray):=
 Zo (σ:=(List ByteArray) × Bool)
  (fun (i8:Nat) (b:ByteArray) s=>
   match s with
   | (a,c)=>
   if c=true then
    chk (a.length+1≤1073741824) <|
    some (.inl ((a++[b]),true))
   else
    if (sLt b s_1)=true then
     chk (a.length+1≤1073741824) <|
     some (.inl ((a++[b]),false))
    else
     if (sEq b s_1)=true then
      chk (a.length+1≤1073741824) <|
      some (.inl ((a++[b]),true))
     else
      chk (a.length+1≤1073741824) <|
      chk (a.length+1+1≤1073741824) <|
      some (.inl (((a++[s_1])++[b]),true)))
  (fun s=>
   match s with
   | (a,c)=>
   if c=true then
    some a
   else
    chk (a.length+1≤1073741824) <|
    some (a++[s_1]))
  l_0 0 ([],false)
noncomputable def Zba (p_0:Zv):Option (List ByteArray):=
 Zo (σ:=(List ByteArray))
  (fun (i9:Nat) (b:ByteArray) a=>
   (Zaz b).bind fun c=>
   if c=true then
    (XO a b).bind fun d=>
    some (.inl d)
   else
    some (.inl a))
  (fun a=>
   some a)
  p_0.args 0 []
noncomputable def X5 (r_0:Zg) (n_1:Int):Option (List ByteArray):=
 Zo (σ:=(List ByteArray))
  (fun (i25:Nat) (c:Zt) a=>
   if (decide (((i25:Nat):Int)<n_1))=true then
    if (c.kind==1)=true then
     (Zba c.pattern).bind fun d=>
     Zo (σ:=(List ByteArray))
      (fun (i34:Nat) (e:ByteArray) b=>
       (XO b e).bind fun f=>
       some (.inl f))
      (fun b=>
       some (.inl b))
      d 0 a
    else
     some (.inl a)
   else
    some (.inr a))
  (fun a=>
   some a)
  r_0.cond 0 []
noncomputable def QS (s_0:ByteArray):Option Bool:=
 (Qk s_0).bind fun a=>
 if a=true then
  some true
 else
  (Zaz s_0).bind fun b=>
  some b
noncomputable def YS (p_0:Zv):Option Bool:=
 Zo (σ:=Unit)
  (fun (i7:Nat) (a:ByteArray) _=>
   (QS a).bind fun b=>
   if b=true then
    some (.inl ())
   else
    some (.inr false))
  (fun _=>
   (ZdP p_0.rel).bind fun c=>
   if c=true then
    some (decide (((p_0.args.length:Nat):Int)≤3))
   else
    some false)
  p_0.args 0 ()
noncomputable def Zcn (x_0:Zt):Option Bool:=
 if (x_0.kind==1)=true then
  (YS x_0.pattern).bind fun a=>
  if a=true then
   if (sEq x_0.left ⟨#[]⟩)=true then
    some (sEq x_0.right ⟨#[]⟩)
   else
    some false
  else
   some false
 else
  if (x_0.kind==2)=true then
   (YS x_0.pattern).bind fun b=>
   if b=true then
    if (sEq x_0.left ⟨#[]⟩)=true then
     some (sEq x_0.right ⟨#[]⟩)
    else
     some false
   else
    some false
  else
   if (x_0.kind==3)=true then
    if (sEq x_0.pattern.rel ⟨#[]⟩)=true then
     if (((x_0.pattern.args.length:Nat):Int)==0)=true then
      (QS x_0.left).bind fun c=>
      if c=true then
       (QS x_0.right).bind fun d=>
       some d
      else
       some false
     else
      some false
    else
     some false
   else
    if (x_0.kind==4)=true then
     if (sEq x_0.pattern.rel ⟨#[]⟩)=true then
      if (((x_0.pattern.args.length:Nat):Int)==0)=true then
       (QS x_0.left).bind fun e=>
       if e=true then
        (QS x_0.right).bind fun f=>
        some f
       else
        some false
      else
       some false
     else
      some false
    else
     if (x_0.kind==5)=true then
      if (sEq x_0.pattern.rel ⟨#[]⟩)=true then
       if (((x_0.pattern.args.length:Nat):Int)==0)=true then
        (QS x_0.left).bind fun g=>
        if g=true then
         (QS x_0.right).bind fun i=>
         some i
        else
         some false
       else
        some false
      else
       some false
     else
      some false
noncomputable def XH (x_0:Zt):Option (List ByteArray):=
 (Zba x_0.pattern).bind fun a=>
 (Zaz x_0.left).bind fun c=>
 if c=true then
  (XO a x_0.left).bind fun b=>
  (Zaz x_0.right).bind fun d=>
  if d=true then
   (XO b x_0.right).bind fun e=>
   some e
  else
   some b
 else
  (Zaz x_0.right).bind fun f=>
  if f=true then
   (XO a x_0.right).bind fun g=>
   some g
  else
   some a
noncomputable def ZV (l_0:(List ByteArray)) (s_1:ByteArray):Option Bool:=
 Zo (σ:=Unit)
  (fun (i4:Nat) (a:ByteArray) _=>
   if (sEq a s_1)=true then
    some (.inr true)
   else
    some (.inl ()))
  (fun _=>
   some false)
  l_0 0 ()
noncomputable def Zbf (x_0:Zt):Option Bool:=
 (Zcn x_0).bind fun a=>
 if a=true then
  some (decide (3≤x_0.kind))
 else
  some false
noncomputable def XK (r_0:Zg) (i_1:Int) (v_2:ByteArray):Option Bool:=
 Zo (σ:=Unit)
  (fun (i19:Nat) (a:Zt) _=>
   if (((i19:Nat):Int) != i_1)=true then
    (XH a).bind fun b=>
    (ZV b v_2).bind fun c=>
    if c=true then
     some (.inr true)
    else
     some (.inl ())
   else
    some (.inl ()))
  (fun _=>
   Zo (σ:=Unit)
    (fun (i30:Nat) (d:Zz) _=>
     (Zba d.pattern).bind fun e=>
     (ZV e v_2).bind fun f=>
     if f=true then
      some (.inr true)
     else
      some (.inl ()))
    (fun _=>
     some false)
    r_0.thn 0 ())
  r_0.cond 0 ()
noncomputable def Zdd (a_0:Zz):Option Bool:=
 if (a_0.kind==1)=true then
  (YS a_0.pattern).bind fun a=>
  some a
 else
  if (a_0.kind==2)=true then
   (YS a_0.pattern).bind fun b=>
   some b
  else
   if (a_0.kind==3)=true then
    if (sEq a_0.pattern.rel ⟨#[]⟩)=true then
     some (((a_0.pattern.args.length:Nat):Int)==0)
    else
     some false
   else
    some false
noncomputable def ZdB (r_0:Zg):Option (List ByteArray):=
 Zo (σ:=(List ByteArray))
  (fun (i61:Nat) (e:Zt) a=>
   (XH e).bind fun f=>
   Zo (σ:=(List ByteArray))
    (fun (i70:Nat) (g:ByteArray) b=>
     (XO b g).bind fun i=>
     some (.inl i))
    (fun b=>
     some (.inl b))
    f 0 a)
  (fun a=>
   Zo (σ:=(List ByteArray))
    (fun (i97:Nat) (j:Zz) c=>
     (Zba j.pattern).bind fun k=>
     Zo (σ:=(List ByteArray))
      (fun (i106:Nat) (l:ByteArray) d=>
       (XO d l).bind fun m=>
       some (.inl m))
      (fun d=>
       some (.inl d))
      k 0 c)
    (fun c=>
     some c)
    r_0.thn 0 a)
  r_0.cond 0 []
noncomputable def Zcu (append_0:Zg):Option Bool:=
 (ZdP append_0.name).bind fun g=>
 if g=true then
  (X7 append_0.priority 0 9).bind fun i=>
  if i=true then
   (X7 ((append_0.cond.length:Nat):Int) 1 4).bind fun j=>
   if j=true then
    (X7 ((append_0.thn.length:Nat):Int) 1 2).bind fun k=>
    if k=true then
     (X5 append_0 ((append_0.cond.length:Nat):Int)).bind fun l=>
     Zo (σ:=Unit)
      (fun (i96:Nat) (a:Zt) _=>
       (Zcn a).bind fun m=>
       if m=true then
        if (((i96:Nat):Int)==0)=true then
         if (a.kind != 1)=true then
          some (.inr false)
         else
          (X5 append_0 ((i96:Nat):Int)).bind fun o=>
          (XH a).bind fun p=>
          Zo (σ:=Unit)
           (fun (i110:Nat) (b:ByteArray) _=>
            (ZV o b).bind fun c=>
            (Zbf a).bind fun q=>
            if q=true then
             if c=true then
              if (a.kind==2)=true then
               some (.inl ())
              else
               some (.inl ())
             else
              some (.inr (.inr false))
            else
             if (a.kind==2)=true then
              if c=true then
               some (.inl ())
              else
               (XK append_0 ((i96:Nat):Int) b).bind fun t=>
               if t=true then
                some (.inr (.inr false))
               else
                some (.inl ())
             else
              some (.inl ()))
           (fun _=>
            some (.inl ()))
           p 0 ()
        else
         (X5 append_0 ((i96:Nat):Int)).bind fun u=>
         (XH a).bind fun v=>
         Zo (σ:=Unit)
          (fun (i126:Nat) (d:ByteArray) _=>
           (ZV u d).bind fun e=>
           (Zbf a).bind fun w=>
           if w=true then
            if e=true then
             if (a.kind==2)=true then
              some (.inl ())
             else
              some (.inl ())
            else
             some (.inr (.inr false))
           else
            if (a.kind==2)=true then
             if e=true then
              some (.inl ())
             else
              (XK append_0 ((i96:Nat):Int) d).bind fun x=>
              if x=true then
               some (.inr (.inr false))
              else
               some (.inl ())
            else
             some (.inl ()))
          (fun _=>
           some (.inl ()))
          v 0 ()
       else
        some (.inr false))
      (fun _=>
       Zo (σ:=Unit)
        (fun (i155:Nat) (f:Zz) _=>
         (Zdd f).bind fun y=>
         if y=true then
          (Zba f.pattern).bind fun z=>
          Zo (σ:=Unit)
           (fun (i164:Nat) (A:ByteArray) _=>
            (ZV l A).bind fun B=>
            if B=true then
             some (.inl ())
            else
             some (.inr (.inr false)))
           (fun _=>
            some (.inl ()))
           z 0 ()
         else
          some (.inr false))
        (fun _=>
         (ZdB append_0).bind fun C=>
         some (decide (((C.length:Nat):Int)≤6)))
        append_0.thn 0 ())
      append_0.cond 0 ()
    else
     some false
   else
    some false
  else
   some false
 else
  some false
noncomputable def Zgi (kind_0:Int):Option ByteArray:=
 if (kind_0==3)=true then
  some (⟨#[32,61,32]⟩)
 else
  if (kind_0==4)=true then
   some (⟨#[32,33,61,32]⟩)
  else
   some (⟨#[32,60,32]⟩)
noncomputable def ZeH (s_0:ByteArray):Option (ByteArray × (List ByteArray) × Bool):=
 (Qx s_0 (⟨#[40]⟩)).bind fun b=>
 if (((b.length:Nat):Int) != 2)=true then
  some ((⟨#[]⟩),[],false)
 else
  chk (0≤1∧1<((b.length:Nat):Int)) <|
  (b[(A0 1)]?).bind fun a=>
  if (((a.size:Nat):Int)==0)=true then
   some ((⟨#[]⟩),[],false)
  else
   (sAt a (IntKind.i64.wrap (((a.size:Nat):Int) - 1))).bind fun c=>
   if (((c.toNat:Nat):Int) != 41)=true then
    some ((⟨#[]⟩),[],false)
   else
    chk (0≤(IntKind.i64.wrap (((a.size:Nat):Int) - 1))∧(IntKind.i64.wrap (((a.size:Nat):Int) - 1))≤((a.size:Nat):Int)) <|
    if (sEq (a.extract 0 (A0 (IntKind.i64.wrap (((a.size:Nat):Int) - 1)))) ⟨#[]⟩)=true then
     chk (0≤0∧0<((b.length:Nat):Int)) <|
     (b[(A0 0)]?).bind fun d=>
     some (d,[],true)
    else
     chk (0≤0∧0<((b.length:Nat):Int)) <|
     (b[(A0 0)]?).bind fun e=>
     (Qx (a.extract 0 (A0 (IntKind.i64.wrap (((a.size:Nat):Int) - 1)))) (⟨#[44]⟩)).bind fun f=>
     some (e,f,true)
noncomputable def Yl (s_0:ByteArray):Option (Zv × Bool):=
 (ZeH s_0).bind fun a=>
 if a.2.2=true then
  (YS ({ rel:=a.1,args:=a.2.1 }:Zv)).bind fun b=>
  if b=true then
   some (({ rel:=a.1,args:=a.2.1 }:Zv),true)
  else
   some (({ rel:=(⟨#[]⟩),args:=[] }:Zv),false)
 else
  some (({ rel:=(⟨#[]⟩),args:=[] }:Zv),false)
noncomputable def Za1 (a:ByteArray):Option (Zt × Bool):=
 Yp (σ:=Int)
  (fun b=>
   if (decide (b≤5))=true then
    (Zgi b).bind fun j=>
    (Qx a j).bind fun c=>
    if (((c.length:Nat):Int)==2)=true then
     chk (0≤0∧0<((c.length:Nat):Int)) <|
     (c[(A0 0)]?).bind fun d=>
     chk (0≤1∧1<((c.length:Nat):Int)) <|
     (c[(A0 1)]?).bind fun e=>
     (Zcn ({ kind:=b,pattern:=({ rel:=(⟨#[]⟩),args:=[] }:Zv),left:=d,right:=e }:Zt)).bind fun k=>
     if k=true then
      some (.inr (({ kind:=b,pattern:=({ rel:=(⟨#[]⟩),args:=[] }:Zv),left:=d,right:=e }:Zt),true))
     else
      some (.inl (IntKind.i64.wrap (b+1)))
    else
     some (.inl (IntKind.i64.wrap (b+1)))
   else
    if (decide (4<((a.size:Nat):Int)))=true then
     chk (0≤4∧4≤((a.size:Nat):Int)) <|
     if (sEq (a.extract 0 (A0 4)) ⟨#[110,111,116,32]⟩)=true then
      (Yl (a.extract (A0 4) a.size)).bind fun f=>
      if f.2=true then
       some (.inr (({ kind:=2,pattern:=f.1,left:=(⟨#[]⟩),right:=(⟨#[]⟩) }:Zt),true))
      else
       some (.inr (({ kind:=0,pattern:=({ rel:=(⟨#[]⟩),args:=[] }:Zv),left:=(⟨#[]⟩),right:=(⟨#[]⟩) }:Zt),false))
     else
      (Yl a).bind fun g=>
      if g.2=true then
       some (.inr (({ kind:=1,pattern:=g.1,left:=(⟨#[]⟩),right:=(⟨#[]⟩) }:Zt),true))
      else
       some (.inr (({ kind:=0,pattern:=({ rel:=(⟨#[]⟩),args:=[] }:Zv),left:=(⟨#[]⟩),right:=(⟨#[]⟩) }:Zt),false))
    else
     (Yl a).bind fun i=>
     if i.2=true then
      some (.inr (({ kind:=1,pattern:=i.1,left:=(⟨#[]⟩),right:=(⟨#[]⟩) }:Zt),true))
     else
      some (.inr (({ kind:=0,pattern:=({ rel:=(⟨#[]⟩),args:=[] }:Zv),left:=(⟨#[]⟩),right:=(⟨#[]⟩) }:Zt),false)))
  3
noncomputable def ZaE (s_0:ByteArray):Option (Zz × Bool):=
 if (sEq s_0 ⟨#[115,116,111,112]⟩)=true then
  some (({ kind:=3,pattern:=({ rel:=(⟨#[]⟩),args:=[] }:Zv) }:Zz),true)
 else
  (Qx s_0 (⟨#[32]⟩)).bind fun a=>
  if (((a.length:Nat):Int) != 2)=true then
   some (({ kind:=0,pattern:=({ rel:=(⟨#[]⟩),args:=[] }:Zv) }:Zz),false)
  else
   chk (0≤0∧0<((a.length:Nat):Int)) <|
   (a[(A0 0)]?).bind fun b=>
   if (sEq b ⟨#[97,100,100]⟩)=true then
    chk (0≤1∧1<((a.length:Nat):Int)) <|
    (a[(A0 1)]?).bind fun e=>
    (Yl e).bind fun c=>
    some (({ kind:=1,pattern:=c.1 }:Zz),c.2)
   else
    if (sEq b ⟨#[100,114,111,112]⟩)=true then
     chk (0≤1∧1<((a.length:Nat):Int)) <|
     (a[(A0 1)]?).bind fun f=>
     (Yl f).bind fun d=>
     some (({ kind:=2,pattern:=d.1 }:Zz),d.2)
    else
     some (({ kind:=0,pattern:=({ rel:=(⟨#[]⟩),args:=[] }:Zv) }:Zz),false)
noncomputable def ZeJ (append_0:Zg) (String_1:ByteArray) (a_2:ByteArray):Option (Zg × Bool):=
 (Qx String_1 (⟨#[32,38,32]⟩)).bind fun e=>
 Zo (σ:=(List Zt))
  (fun (i24:Nat) (f:ByteArray) a=>
   (Za1 f).bind fun c=>
   if c.2=true then
    chk (a.length+1≤1073741824) <|
    some (.inl (a++[c.1]))
   else
    some (.inr (({ name:=append_0.name,priority:=append_0.priority,cond:=a,thn:=[] }:Zg),false)))
  (fun a=>
   (Qx a_2 (⟨#[32,38,32]⟩)).bind fun g=>
   Zo (σ:=(List Zz))
    (fun (i37:Nat) (i:ByteArray) b=>
     (ZaE i).bind fun d=>
     if d.2=true then
      chk (b.length+1≤1073741824) <|
      some (.inl (b++[d.1]))
     else
      some (.inr (({ name:=append_0.name,priority:=append_0.priority,cond:=a,thn:=b }:Zg),false)))
    (fun b=>
     (Zcu ({ name:=append_0.name,priority:=append_0.priority,cond:=a,thn:=b }:Zg)).bind fun j=>
     some (({ name:=append_0.name,priority:=append_0.priority,cond:=a,thn:=b }:Zg),j))
    g 0 [])
  e 0 []
noncomputable def QD (s_0:ByteArray):Option (Zg × Bool):=
 (Qx s_0 (⟨#[58,32]⟩)).bind fun a=>
 if (((a.length:Nat):Int) != 2)=true then
  some (({ name:=(⟨#[]⟩),priority:=0,cond:=[],thn:=[] }:Zg),false)
 else
  chk (0≤0∧0<((a.length:Nat):Int)) <|
  (a[(A0 0)]?).bind fun f=>
  (Qx f (⟨#[32]⟩)).bind fun b=>
  chk (0≤1∧1<((a.length:Nat):Int)) <|
  (a[(A0 1)]?).bind fun g=>
  (Qx g (⟨#[32,45,62,32]⟩)).bind fun c=>
  if (((b.length:Nat):Int) != 2)=true then
   some (({ name:=(⟨#[]⟩),priority:=0,cond:=[],thn:=[] }:Zg),false)
  else
   if (((c.length:Nat):Int) != 2)=true then
    some (({ name:=(⟨#[]⟩),priority:=0,cond:=[],thn:=[] }:Zg),false)
   else
    chk (1<((b.length:Nat):Int)) <|
    (b[(A0 1)]?).bind fun i=>
    (Qe i).bind fun d=>
    if d.2=true then
     chk (0<((b.length:Nat):Int)) <|
     (b[(A0 0)]?).bind fun j=>
     chk (0<((c.length:Nat):Int)) <|
     (c[(A0 0)]?).bind fun k=>
     chk (1<((c.length:Nat):Int)) <|
     (c[(A0 1)]?).bind fun l=>
     (ZeJ ({ name:=j,priority:=d.1,cond:=[],thn:=[] }:Zg) k l).bind fun e=>
     if e.2=true then
      some (e.1,true)
     else
      some (({ name:=(⟨#[]⟩),priority:=0,cond:=[],thn:=[] }:Zg),false)
    else
     some (({ name:=(⟨#[]⟩),priority:=0,cond:=[],thn:=[] }:Zg),false)
noncomputable def ZbM (c_0:ZJ) (nots_1:Bool):Option (Zg × ZJ):=
 if nots_1=true then
  (Xv c_0 11).bind fun a=>
  chk (0≤a.1∧a.1<((11:Nat):Int)) <|
  (([(⟨#[114,32,49,58,32,111,110,40,63,120,44,63,121,41,32,38,32,111,110,40,63,121,44,63,122,41,32,45,62,32,97,100,100,32,111,110,40,63,120,44,63,122,41]⟩),(⟨#[114,32,50,58,32,111,110,40,63,120,44,63,121,41,32,38,32,112,40,63,121,41,32,45,62,32,97,100,100,32,112,40,63,120,41]⟩),(⟨#[114,32,48,58,32,112,40,63,120,41,32,38,32,111,110,40,63,120,44,63,121,41,32,38,32,63,120,32,33,61,32,63,121,32,45,62,32,97,100,100,32,113,40,63,121,41]⟩),(⟨#[114,32,51,58,32,112,40,63,120,41,32,38,32,112,40,63,121,41,32,38,32,63,120,32,60,32,63,121,32,45,62,32,97,100,100,32,122,40,41]⟩),(⟨#[114,32,52,58,32,111,110,40,63,120,44,97,41,32,45,62,32,97,100,100,32,113,40,63,120,41,32,38,32,97,100,100,32,112,40,97,41]⟩),(⟨#[114,32,49,58,32,113,40,63,120,41,32,38,32,112,40,63,120,41,32,45,62,32,97,100,100,32,98,97,100,40,41]⟩),(⟨#[114,32,49,58,32,97,116,40,63,120,44,63,121,41,32,45,62,32,97,100,100,32,111,110,40,63,120,44,63,121,41]⟩),(⟨#[114,32,50,58,32,112,40,63,120,41,32,38,32,110,111,116,32,113,40,63,120,41,32,45,62,32,97,100,100,32,115,40,63,120,41]⟩),(⟨#[114,32,53,58,32,111,110,40,63,120,44,63,121,41,32,38,32,110,111,116,32,112,40,63,121,41,32,45,62,32,97,100,100,32,115,40,63,121,41]⟩),(⟨#[114,32,48,58,32,115,40,63,120,41,32,38,32,110,111,116,32,122,40,41,32,38,32,110,111,116,32,112,40,63,120,41,32,45,62,32,97,100,100,32,98,97,100,40,41]⟩),(⟨#[114,32,49,58,32,113,40,63,120,41,32,38,32,111,110,40,63,120,44,63,121,41,32,38,32,110,111,116,32,113,40,63,121,41,32,45,62,32,97,100,100,32,115,40,63,120,41]⟩)])[(A0 a.1)]?).bind fun c=>
  (QD c).bind fun d=>
  some (d.1,a.2)
 else
  (Xv c_0 7).bind fun b=>
  chk (0≤b.1∧b.1<((11:Nat):Int)) <|
  (([(⟨#[114,32,49,58,32,111,110,40,63,120,44,63,121,41,32,38,32,111,110,40,63,121,44,63,122,41,32,45,62,32,97,100,100,32,111,110,40,63,120,44,63,122,41]⟩),(⟨#[114,32,50,58,32,111,110,40,63,120,44,63,121,41,32,38,32,112,40,63,121,41,32,45,62,32,97,100,100,32,112,40,63,120,41]⟩),(⟨#[114,32,48,58,32,112,40,63,120,41,32,38,32,111,110,40,63,120,44,63,121,41,32,38,32,63,120,32,33,61,32,63,121,32,45,62,32,97,100,100,32,113,40,63,121,41]⟩),(⟨#[114,32,51,58,32,112,40,63,120,41,32,38,32,112,40,63,121,41,32,38,32,63,120,32,60,32,63,121,32,45,62,32,97,100,100,32,122,40,41]⟩),(⟨#[114,32,52,58,32,111,110,40,63,120,44,97,41,32,45,62,32,97,100,100,32,113,40,63,120,41,32,38,32,97,100,100,32,112,40,97,41]⟩),(⟨#[114,32,49,58,32,113,40,63,120,41,32,38,32,112,40,63,120,41,32,45,62,32,97,100,100,32,98,97,100,40,41]⟩),(⟨#[114,32,49,58,32,97,116,40,63,120,44,63,121,41,32,45,62,32,97,100,100,32,111,110,40,63,120,44,63,121,41]⟩),(⟨#[114,32,50,58,32,112,40,63,120,41,32,38,32,110,111,116,32,113,40,63,120,41,32,45,62,32,97,100,100,32,115,40,63,120,41]⟩),(⟨#[114,32,53,58,32,111,110,40,63,120,44,63,121,41,32,38,32,110,111,116,32,112,40,63,121,41,32,45,62,32,97,100,100,32,115,40,63,121,41]⟩),(⟨#[114,32,48,58,32,115,40,63,120,41,32,38,32,110,111,116,32,122,40,41,32,38,32,110,111,116,32,112,40,63,120,41,32,45,62,32,97,100,100,32,98,97,100,40,41]⟩),(⟨#[114,32,49,58,32,113,40,63,120,41,32,38,32,111,110,40,63,120,44,63,121,41,32,38,32,110,111,116,32,113,40,63,121,41,32,45,62,32,97,100,100,32,115,40,63,120,41]⟩)])[(A0 b.1)]?).bind fun e=>
  (QD e).bind fun f=>
  some (f.1,b.2)
noncomputable def Zd3 (c_0:ZJ) (nots_1:Bool):Option ((List Zg) × ZJ):=
 (Xv c_0 4).bind fun c=>
 Yp (σ:=(List Int) × Int × Int × (List Zg) × Int)
  (fun s=>
   match s with
   | (f,g,j,d,e)=>
   if (decide (0<e))=true then
    (ZbM ({ b:=f,i:=g,h:=j }:ZJ) nots_1).bind fun a=>
    (X3 e).bind fun k=>
    chk ((⟨#[114]⟩:ByteArray).size+k.size≤9223372036854775807) <|
    chk (d.length+1≤1073741824) <|
    some (.inl (a.2.b,a.2.i,a.2.h,(d++[({ name:=((⟨#[114]⟩:ByteArray)++k),priority:=a.1.priority,cond:=a.1.cond,thn:=a.1.thn }:Zg)]),(IntKind.i64.wrap (e - 1))))
   else
    some (.inr (d,({ b:=f,i:=g,h:=j }:ZJ))))
  (c.2.b,c.2.i,c.2.h,[],c.1)
noncomputable def Zd8 (c_0:ZJ) (a:(List ByteArray)):Option (ByteArray × ZJ):=
 (Xv c_0 ((a.length:Nat):Int)).bind fun b=>
 (atI a b.1).bind fun c=>
 some (c,b.2)
noncomputable def Zhp (a:ByteArray) (b:ByteArray):Option Int:=
 if (sLt a b)=true then
  some (-1)
 else
  if (sLt a b||sEq a b)=true then
   some 0
  else
   some 1
noncomputable def Xd (a_0:ByteArray) (b_1:ByteArray):Option Int:=
 (Qe a_0).bind fun b=>
 (Qe b_1).bind fun a=>
 if b.2=true then
  if a.2=true then
   if (decide (b.1<a.1))=true then
    some (-1)
   else
    if (decide (a.1<b.1))=true then
     some 1
    else
     some 0
  else
   some (-1)
 else
  if a.2=true then
   some 1
  else
   (Zhp a_0 b_1).bind fun c=>
   some c
noncomputable def Yn (a_0:Zb) (a:Zb):Option Int:=
 if (sEq a_0.rel a.rel)=true then
  Zo (σ:=Unit)
   (fun (b:Nat) (d:ByteArray) _=>
    if (decide (((b:Nat):Int)<((a.args.length:Nat):Int)))=true then
     (atI a.args ((b:Nat):Int)).bind fun e=>
     (Xd d e).bind fun c=>
     if (c != 0)=true then
      some (.inr c)
     else
      some (.inl ())
    else
     if (decide (((a_0.args.length:Nat):Int)<((a.args.length:Nat):Int)))=true then
      some (.inr (-1))
     else
      if (decide (((a.args.length:Nat):Int)<((a_0.args.length:Nat):Int)))=true then
       some (.inr 1)
      else
       some (.inr 0))
   (fun _=>
    if (decide (((a_0.args.length:Nat):Int)<((a.args.length:Nat):Int)))=true then
     some (-1)
    else
     if (decide (((a.args.length:Nat):Int)<((a_0.args.length:Nat):Int)))=true then
      some 1
     else
      some 0)
   a_0.args 0 ()
 else
  (Zhp a_0.rel a.rel).bind fun f=>
  some f
noncomputable def Zfc (l_0:(List ByteArray)):Option (List ByteArray):=
 chk (l_0.length≤1073741824) <|
 some l_0
noncomputable def Xj (f_0:Zb):Option Zb:=
 (Zfc f_0.args).bind fun a=>
 some ({ rel:=f_0.rel,args:=a }:Zb)
noncomputable def YX (l_0:(List Zb)) (f_1:Zb):Option (List Zb):=
 Zo (σ:=(List Zb) × Bool)
  (fun (i21:Nat) (b:Zb) s=>
   match s with
   | (a,c)=>
   if c=true then
    (Xj b).bind fun d=>
    chk (a.length+1≤1073741824) <|
    some (.inl ((a++[d]),true))
   else
    (Yn b f_1).bind fun e=>
    if (decide (0≤e))=true then
     (Yn b f_1).bind fun f=>
     if (decide (0<f))=true then
      (Xj f_1).bind fun g=>
      chk (a.length+1≤1073741824) <|
      (Xj b).bind fun i=>
      chk (a.length+1+1≤1073741824) <|
      some (.inl (((a++[g])++[i]),true))
     else
      (Xj b).bind fun j=>
      chk (a.length+1≤1073741824) <|
      some (.inl ((a++[j]),true))
    else
     (Xj b).bind fun k=>
     chk (a.length+1≤1073741824) <|
     some (.inl ((a++[k]),false)))
  (fun s=>
   match s with
   | (a,c)=>
   if c=true then
    some a
   else
    (Xj f_1).bind fun l=>
    chk (a.length+1≤1073741824) <|
    some (a++[l]))
  l_0 0 ([],false)
noncomputable def ZeM (c_0:ZJ) (most_1:Int):Option ((List Zb) × ZJ):=
 (Xv c_0 (IntKind.i64.wrap (most_1+1))).bind fun f=>
 Yp (σ:=(List Int) × Int × Int × (List Zb) × Int)
  (fun s=>
   match s with
   | (j,k,l,c,d)=>
   if (decide (0<d))=true then
    (Zd8 ({ b:=j,i:=k,h:=l }:ZJ) ([(⟨#[97]⟩),(⟨#[98]⟩),(⟨#[49]⟩),(⟨#[50]⟩)])).bind fun e=>
    (Zd8 e.2 ([(⟨#[97]⟩),(⟨#[98]⟩),(⟨#[49]⟩)])).bind fun g=>
    (Xv g.2 5).bind fun a=>
    if (a.1==0)=true then
     (YX c ({ rel:=(⟨#[112]⟩),args:=[e.1] }:Zb)).bind fun m=>
     some (.inl (a.2.b,a.2.i,a.2.h,m,(IntKind.i64.wrap (d - 1))))
    else
     if (a.1==1)=true then
      (YX c ({ rel:=(⟨#[97,116]⟩),args:=[e.1,g.1] }:Zb)).bind fun o=>
      some (.inl (a.2.b,a.2.i,a.2.h,o,(IntKind.i64.wrap (d - 1))))
     else
      if (a.1==2)=true then
       (YX c ({ rel:=(⟨#[113]⟩),args:=[e.1] }:Zb)).bind fun p=>
       some (.inl (a.2.b,a.2.i,a.2.h,p,(IntKind.i64.wrap (d - 1))))
      else
       (YX c ({ rel:=(⟨#[111,110]⟩),args:=[e.1,g.1] }:Zb)).bind fun q=>
       some (.inl (a.2.b,a.2.i,a.2.h,q,(IntKind.i64.wrap (d - 1))))
   else
    some (.inr (c,({ b:=j,i:=k,h:=l }:ZJ))))
  (f.2.b,f.2.i,f.2.h,[],f.1)
noncomputable def Qm (s_0:ByteArray):Option Bool:=
 if (decide (((s_0.size:Nat):Int)<1))=true then
  some false
 else
  if (decide (8<((s_0.size:Nat):Int)))=true then
   some false
  else
   Zo (σ:=Unit)
    (fun (i4:Nat) (a:UInt8) _=>
     if (decide (((a.toNat:Nat):Int)<97))=true then
      if (decide (((a.toNat:Nat):Int)<48))=true then
       some (.inr false)
      else
       if (decide (57<((a.toNat:Nat):Int)))=true then
        some (.inr false)
       else
        some (.inl ())
     else
      if (decide (122<((a.toNat:Nat):Int)))=true then
       if (decide (((a.toNat:Nat):Int)<48))=true then
        some (.inr false)
       else
        if (decide (57<((a.toNat:Nat):Int)))=true then
         some (.inr false)
        else
         some (.inl ())
      else
       some (.inl ()))
    (fun _=>
     some true)
    s_0.data.toList 0 ()
noncomputable def Zd1 (s_0:ByteArray):Option Bool:=
 (Qm s_0).bind fun a=>
 if a=true then
  (sAt s_0 0).bind fun b=>
  some (decide (97≤((b.toNat:Nat):Int)))
 else
  some false
noncomputable def ZeG (f_0:Zb):Option Bool:=
 (Zd1 f_0.rel).bind fun a=>
 if a=true then
  if (decide (3<((f_0.args.length:Nat):Int)))=true then
   some false
  else
   Zo (σ:=Unit)
    (fun (i7:Nat) (b:ByteArray) _=>
     (Qm b).bind fun c=>
     if c=true then
      some (.inl ())
     else
      some (.inr false))
    (fun _=>
     some true)
    f_0.args 0 ()
 else
  some false
noncomputable def XG (a_0:Int) (b_1:Int):Option Int:=
 if (decide (a_0<b_1))=true then
  some (-1)
 else
  if (decide (b_1<a_0))=true then
   some 1
  else
   some 0
noncomputable def Za4 (n_0:Int):Option ByteArray:=
 (Zpj n_0).bind fun a=>
 some a
noncomputable def QE (s_0:ByteArray):Option (Int × Bool):=
 if (decide (((s_0.size:Nat):Int)<1))=true then
  some (0,false)
 else
  if (decide (4<((s_0.size:Nat):Int)))=true then
   some (0,false)
  else
   (Zl4 s_0).bind fun a=>
   if a.2=true then
    if (decide (a.1<0))=true then
     some (0,false)
    else
     if (decide (9999<a.1))=true then
      some (0,false)
     else
      (Za4 a.1).bind fun b=>
      if (sEq b s_0)=true then
       some (a.1,true)
      else
       some (0,false)
   else
    some (0,false)
noncomputable def QV (a_0:ByteArray) (b_1:ByteArray):Option Int:=
 (QE a_0).bind fun b=>
 (QE b_1).bind fun a=>
 if b.2=true then
  if a.2=true then
   (XG b.1 a.1).bind fun c=>
   some c
  else
   some (-1)
 else
  if a.2=true then
   some 1
  else
   (ZeP a_0 b_1).bind fun d=>
   some d
noncomputable def XV (a_0:Zb) (a:Zb):Option Int:=
 (ZeP a_0.rel a.rel).bind fun b=>
 if (b != 0)=true then
  some b
 else
  Zo (σ:=Unit)
   (fun (c:Nat) (e:ByteArray) _=>
    if (decide (((c:Nat):Int)<((a.args.length:Nat):Int)))=true then
     (atI a.args ((c:Nat):Int)).bind fun f=>
     (QV e f).bind fun d=>
     if (d != 0)=true then
      some (.inr d)
     else
      some (.inl ())
    else
     (XG ((a_0.args.length:Nat):Int) ((a.args.length:Nat):Int)).bind fun g=>
     some (.inr g))
   (fun _=>
    (XG ((a_0.args.length:Nat):Int) ((a.args.length:Nat):Int)).bind fun i=>
    some i)
   a_0.args 0 ()
noncomputable def ZaH (a:(List Zb)):Option Bool:=
 if (decide (24<((a.length:Nat):Int)))=true then
  some false
 else
  Zo (σ:=Unit)
   (fun (b:Nat) (c:Zb) _=>
    (ZeG c).bind fun d=>
    if d=true then
     if (decide (0<((b:Nat):Int)))=true then
      (atI a (IntKind.i64.wrap (((b:Nat):Int) - 1))).bind fun e=>
      (XV e c).bind fun f=>
      if (decide (0≤f))=true then
       some (.inr false)
      else
       some (.inl ())
     else
      some (.inl ())
    else
     some (.inr false))
   (fun _=>
    some true)
   a 0 ()
noncomputable def ZcP (a:ByteArray):Option Bool:=
 if (decide (1<((a.size:Nat):Int)))=true then
  (sAt a 0).bind fun b=>
  if (((b.toNat:Nat):Int)==63)=true then
   chk (0≤1∧1≤((a.size:Nat):Int)) <|
   (Qm (a.extract (A0 1) a.size)).bind fun c=>
   some c
  else
   some false
 else
  some false
noncomputable def QI (s_0:ByteArray):Option Bool:=
 (Qm s_0).bind fun a=>
 if a=true then
  some true
 else
  (ZcP s_0).bind fun b=>
  some b
noncomputable def Y9 (p_0:Zv):Option Bool:=
 (Zd1 p_0.rel).bind fun a=>
 if a=true then
  if (decide (3<((p_0.args.length:Nat):Int)))=true then
   some false
  else
   Zo (σ:=Unit)
    (fun (i7:Nat) (b:ByteArray) _=>
     (QI b).bind fun c=>
     if c=true then
      some (.inl ())
     else
      some (.inr false))
    (fun _=>
     some true)
    p_0.args 0 ()
 else
  some false
noncomputable def Xz (a:(List Zs)):Option Bool:=
 if (decide (6<((a.length:Nat):Int)))=true then
  some false
 else
  Zo (σ:=Unit)
   (fun (c:Nat) (b:Zs) _=>
    (ZcP b.var).bind fun d=>
    if d=true then
     (Qm b.value).bind fun e=>
     if e=true then
      if (decide (0<((c:Nat):Int)))=true then
       (atI a (IntKind.i64.wrap (((c:Nat):Int) - 1))).bind fun f=>
       if (sLt f.var b.var)=true then
        some (.inl ())
       else
        some (.inr false)
      else
       some (.inl ())
     else
      some (.inr false)
    else
     some (.inr false))
   (fun _=>
    some true)
   a 0 ()
noncomputable def ZaP (b_0:(List Zs)) (term_1:ByteArray):Option (ByteArray × Bool):=
 (Qm term_1).bind fun b=>
 if b=true then
  some (term_1,true)
 else
  (ZcP term_1).bind fun c=>
  if c=true then
   Zo (σ:=Unit)
    (fun (i6:Nat) (a:Zs) _=>
     if (sEq a.var term_1)=true then
      some (.inr (a.value,true))
     else
      some (.inl ()))
    (fun _=>
     some ((⟨#[]⟩),false))
    b_0 0 ()
  else
   some ((⟨#[]⟩),false)
noncomputable def XL (p_0:Zv) (b_1:(List Zs)):Option (Zb × Bool):=
 (Y9 p_0).bind fun c=>
 if c=true then
  (Xz b_1).bind fun d=>
  if d=true then
   Zo (σ:=(List ByteArray))
    (fun (i11:Nat) (e:ByteArray) a=>
     (ZaP b_1 e).bind fun b=>
     if b.2=true then
      chk (a.length+1≤1073741824) <|
      some (.inl (a++[b.1]))
     else
      some (.inr (({ rel:=(⟨#[]⟩),args:=[] }:Zb),false)))
    (fun a=>
     some (({ rel:=p_0.rel,args:=a }:Zb),true))
    p_0.args 0 []
  else
   some (({ rel:=(⟨#[]⟩),args:=[] }:Zb),false)
 else
  some (({ rel:=(⟨#[]⟩),args:=[] }:Zb),false)
noncomputable def Zct (a_0:(List ByteArray)) (a:(List ByteArray)):Option Bool:=
 if (((a_0.length:Nat):Int) != ((a.length:Nat):Int))=true then
  some false
 else
  Zo (σ:=Unit)
   (fun (b:Nat) (c:ByteArray) _=>
    (atI a ((b:Nat):Int)).bind fun d=>
    if (sEq c d)=true then
     some (.inl ())
    else
     some (.inr false))
   (fun _=>
    some true)
   a_0 0 ()
noncomputable def ZbR (a_0:Zb) (b_1:Zb):Option Bool:=
 if (sEq a_0.rel b_1.rel)=true then
  (Zct a_0.args b_1.args).bind fun a=>
  some a
 else
  some false
noncomputable def Yc (l_0:(List Zb)) (f_1:Zb):Option Int:=
 Zo (σ:=Unit)
  (fun (i6:Nat) (a:Zb) _=>
   (ZbR a f_1).bind fun b=>
   if b=true then
    some (.inr ((i6:Nat):Int))
   else
    some (.inl ()))
  (fun _=>
   some (-1))
  l_0 0 ()
noncomputable def Xc (l_0:(List ByteArray)) (s_1:ByteArray):Option Bool:=
 Zo (σ:=Unit)
  (fun (i4:Nat) (a:ByteArray) _=>
   if (sEq a s_1)=true then
    some (.inr true)
   else
    some (.inl ()))
  (fun _=>
   some false)
  l_0 0 ()
noncomputable def Ym (l_0:(List ByteArray)):Option (List ByteArray):=
 chk (l_0.length≤1073741824) <|
 (Zcb l_0).bind fun c=>
 Zo (σ:=(List ByteArray))
  (fun (b:Nat) (d:ByteArray) a=>
   if (((b:Nat):Int)==0)=true then
    chk (a.length+1≤1073741824) <|
    some (.inl (a++[d]))
   else
    chk (0≤(IntKind.i64.wrap (((b:Nat):Int) - 1))∧(IntKind.i64.wrap (((b:Nat):Int) - 1))<((c.length:Nat):Int)) <|
    (c[(A0 (IntKind.i64.wrap (((b:Nat):Int) - 1)))]?).bind fun e=>
    if (sEq e d)=true then
     some (.inl a)
    else
     chk (a.length+1≤1073741824) <|
     some (.inl (a++[d])))
  (fun a=>
   some a)
  c 0 []
noncomputable def Y8 (p_0:Zv):Option Bool:=
 if (sEq p_0.rel ⟨#[]⟩)=true then
  some (((p_0.args.length:Nat):Int)==0)
 else
  some false
noncomputable def ZdA (x_0:Zt):Option Bool:=
 if (x_0.kind==1)=true then
  (Y9 x_0.pattern).bind fun a=>
  if a=true then
   if (sEq x_0.left ⟨#[]⟩)=true then
    some (sEq x_0.right ⟨#[]⟩)
   else
    some false
  else
   some false
 else
  if (x_0.kind==2)=true then
   (Y9 x_0.pattern).bind fun b=>
   if b=true then
    if (sEq x_0.left ⟨#[]⟩)=true then
     some (sEq x_0.right ⟨#[]⟩)
    else
     some false
   else
    some false
  else
   if (x_0.kind==3)=true then
    (QI x_0.left).bind fun c=>
    if c=true then
     (QI x_0.right).bind fun d=>
     if d=true then
      (Y8 x_0.pattern).bind fun e=>
      some e
     else
      some false
    else
     some false
   else
    if (x_0.kind==4)=true then
     (QI x_0.left).bind fun f=>
     if f=true then
      (QI x_0.right).bind fun g=>
      if g=true then
       (Y8 x_0.pattern).bind fun i=>
       some i
      else
       some false
     else
      some false
    else
     if (x_0.kind==5)=true then
      (QI x_0.left).bind fun j=>
      if j=true then
       (QI x_0.right).bind fun k=>
       if k=true then
        (Y8 x_0.pattern).bind fun l=>
        some l
       else
        some false
      else
       some false
     else
      some false
noncomputable def QM (l_0:(List ByteArray)):Option (List ByteArray):=
 Zo (σ:=(List ByteArray))
  (fun (i9:Nat) (b:ByteArray) a=>
   (ZcP b).bind fun c=>
   if c=true then
    chk (a.length+1≤1073741824) <|
    some (.inl (a++[b]))
   else
    some (.inl a))
  (fun a=>
   some a)
  l_0 0 []
noncomputable def QN (r_0:Zg) (n_1:Int):Option (List ByteArray):=
 Zo (σ:=(List ByteArray))
  (fun (i10:Nat) (b:Zt) a=>
   if (decide (((i10:Nat):Int)<n_1))=true then
    if (b.kind==1)=true then
     (QM b.pattern.args).bind fun c=>
     chk (a.length+c.length≤1073741824) <|
     some (.inl (a++c))
    else
     some (.inl a)
   else
    some (.inl a))
  (fun a=>
   (Ym a).bind fun d=>
   some d)
  r_0.cond 0 []
noncomputable def Za6 (l_0:(List ByteArray)):Option (List ByteArray):=
 chk (l_0.length≤1073741824) <|
 some l_0
noncomputable def Zhu (x_0:Zt):Option (List ByteArray):=
 (Za6 x_0.pattern.args).bind fun a=>
 chk (a.length+2≤1073741824) <|
 some (a++[x_0.left,x_0.right])
noncomputable def Qa (x_0:Zt):Option (List ByteArray):=
 (Zhu x_0).bind fun a=>
 (QM a).bind fun b=>
 (Ym b).bind fun c=>
 some c
noncomputable def XC (r_0:Zg) (k_1:Int) (a:ByteArray):Option Bool:=
 Zo (σ:=Unit)
  (fun (i16:Nat) (b:Zt) _=>
   if (((i16:Nat):Int) != k_1)=true then
    (Qa b).bind fun c=>
    (Xc c a).bind fun d=>
    if d=true then
     some (.inr true)
    else
     some (.inl ())
   else
    some (.inl ()))
  (fun _=>
   Zo (σ:=Unit)
    (fun (i25:Nat) (e:Zz) _=>
     (Xc e.pattern.args a).bind fun f=>
     if f=true then
      some (.inr true)
     else
      some (.inl ()))
    (fun _=>
     some false)
    r_0.thn 0 ())
  r_0.cond 0 ()
noncomputable def ZbT (a:Zg) (b:Int):Option Bool:=
 (atI a.cond b).bind fun c=>
 (QN a b).bind fun e=>
 (Qa c).bind fun f=>
 Zo (σ:=Unit)
  (fun (i11:Nat) (d:ByteArray) _=>
   if (c.kind==1)=true then
    some (.inl ())
   else
    (Xc e d).bind fun g=>
    if g=true then
     some (.inl ())
    else
     if (c.kind != 2)=true then
      some (.inr false)
     else
      (XC a b d).bind fun i=>
      if i=true then
       some (.inr false)
      else
       some (.inl ()))
  (fun _=>
   some true)
  f 0 ()
noncomputable def Zdl (a_0:Zz):Option Bool:=
 if (a_0.kind==1)=true then
  (Y9 a_0.pattern).bind fun a=>
  some a
 else
  if (a_0.kind==2)=true then
   (Y9 a_0.pattern).bind fun b=>
   some b
  else
   if (a_0.kind==3)=true then
    (Y8 a_0.pattern).bind fun c=>
    some c
   else
    some false
noncomputable def Zbp (l_0:(List Zt)):Option (List ByteArray):=
 Zo (σ:=(List ByteArray))
  (fun (i9:Nat) (c:Zt) a=>
   (Qa c).bind fun b=>
   chk (a.length+b.length≤1073741824) <|
   some (.inl (a++b)))
  (fun a=>
   some a)
  l_0 0 []
noncomputable def Zfe (append_0:Zg):Option Bool:=
 (Zd1 append_0.name).bind fun c=>
 if c=true then
  if (decide (append_0.priority<0))=true then
   some false
  else
   if (decide (9<append_0.priority))=true then
    some false
   else
    if (decide (((append_0.cond.length:Nat):Int)<1))=true then
     some false
    else
     if (decide (4<((append_0.cond.length:Nat):Int)))=true then
      some false
     else
      if (decide (((append_0.thn.length:Nat):Int)<1))=true then
       some false
      else
       if (decide (2<((append_0.thn.length:Nat):Int)))=true then
        some false
       else
        Zo (σ:=Unit)
         (fun (i50:Nat) (a:Zt) _=>
          (ZdA a).bind fun d=>
          if d=true then
           if (((i50:Nat):Int)==0)=true then
            if (a.kind != 1)=true then
             some (.inr false)
            else
             (ZbT append_0 ((i50:Nat):Int)).bind fun e=>
             if e=true then
              some (.inl ())
             else
              some (.inr false)
           else
            (ZbT append_0 ((i50:Nat):Int)).bind fun f=>
            if f=true then
             some (.inl ())
            else
             some (.inr false)
          else
           some (.inr false))
         (fun _=>
          (QN append_0 ((append_0.cond.length:Nat):Int)).bind fun g=>
          Zo (σ:=Unit)
           (fun (i81:Nat) (b:Zz) _=>
            (Zdl b).bind fun i=>
            if i=true then
             (QM b.pattern.args).bind fun j=>
             Zo (σ:=Unit)
              (fun (i90:Nat) (k:ByteArray) _=>
               (Xc g k).bind fun l=>
               if l=true then
                some (.inl ())
               else
                some (.inr (.inr false)))
              (fun _=>
               some (.inl ()))
              j 0 ()
            else
             some (.inr false))
           (fun _=>
            (Zbp append_0.cond).bind fun m=>
            (Ym m).bind fun o=>
            some (decide (((o.length:Nat):Int)≤6)))
           append_0.thn 0 ())
         append_0.cond 0 ()
 else
  some false
noncomputable def QF (l_0:(List Zg)) (name_1:ByteArray):Option Int:=
 Zo (σ:=Unit)
  (fun (i4:Nat) (a:Zg) _=>
   if (sEq a.name name_1)=true then
    some (.inr ((i4:Nat):Int))
   else
    some (.inl ()))
  (fun _=>
   some (-1))
  l_0 0 ()
noncomputable def ZaL (l_0:(List Zg)):Option Bool:=
 if (decide (6<((l_0.length:Nat):Int)))=true then
  some false
 else
  Zo (σ:=Unit)
   (fun (i8:Nat) (a:Zg) _=>
    (Zfe a).bind fun b=>
    if b=true then
     (QF l_0 a.name).bind fun c=>
     if (c != ((i8:Nat):Int))=true then
      some (.inr false)
     else
      some (.inl ())
    else
     some (.inr false))
   (fun _=>
    some true)
   l_0 0 ()
noncomputable def Qf (r_0:Zg):Option (List ByteArray):=
 Zo (σ:=(List ByteArray))
  (fun (i7:Nat) (b:Zz) a=>
   if (b.kind==1)=true then
    chk (a.length+1≤1073741824) <|
    some (.inl (a++[b.pattern.rel]))
   else
    if (b.kind==2)=true then
     chk (a.length+1≤1073741824) <|
     some (.inl (a++[b.pattern.rel]))
    else
     some (.inl a))
  (fun a=>
   (Ym a).bind fun c=>
   some c)
  r_0.thn 0 []
noncomputable def ZbX (r_0:Zg):Option (List ByteArray):=
 Zo (σ:=(List ByteArray))
  (fun (i7:Nat) (b:Zt) a=>
   if (b.kind==1)=true then
    chk (a.length+1≤1073741824) <|
    some (.inl (a++[b.pattern.rel]))
   else
    if (b.kind==2)=true then
     chk (a.length+1≤1073741824) <|
     some (.inl (a++[b.pattern.rel]))
    else
     some (.inl a))
  (fun a=>
   (Ym a).bind fun c=>
   some c)
  r_0.cond 0 []
noncomputable def Zde (rules_0:(List Zg)) (a_1:ByteArray):Option (List (ByteArray × Bool)):=
 Yp (σ:=(List (ByteArray × Bool)) × (List ByteArray))
  (fun s=>
   match s with
   | (g,a)=>
   if (decide (0<((a.length:Nat):Int)))=true then
    chk (0≤0∧0<((a.length:Nat):Int)) <|
    (a[(A0 0)]?).bind fun j=>
    chk (0≤1∧1≤((a.length:Nat):Int)) <|
    Zo (σ:=(List (ByteArray × Bool)) × (List ByteArray))
     (fun (i72:Nat) (i:Zg) s=>
      match s with
      | (d,e)=>
      (Qf i).bind fun k=>
      (Xc k j).bind fun l=>
      if l=true then
       (ZbX i).bind fun m=>
       Zo (σ:=(List (ByteArray × Bool)) × (List ByteArray))
        (fun (i83:Nat) (f:ByteArray) s=>
         match s with
         | (b,c)=>
         if (Zah b f false)=true then
          some (.inl (b,c))
         else
          chk (c.length+1≤1073741824) <|
          some (.inl ((Zfn b f true),(c++[f]))))
        (fun s=>
         match s with
         | (b,c)=>
         some (.inl (b,c)))
        m 0 (d,e)
      else
       some (.inl (d,e)))
     (fun s=>
      match s with
      | (d,e)=>
      some (.inl (d,e)))
     rules_0 0 (g,(AH (A0 1) a))
   else
    some (.inr g))
  ([],[a_1])
noncomputable def ZdJ (r_0:Zg):Option Bool:=
 Zo (σ:=Unit)
  (fun (i4:Nat) (a:Zz) _=>
   if (a.kind != 1)=true then
    some (.inr false)
   else
    some (.inl ()))
  (fun _=>
   some true)
  r_0.thn 0 ()
noncomputable def Zci (r_0:Zg):Option Bool:=
 (Zfe r_0).bind fun b=>
 if b=true then
  (ZdJ r_0).bind fun c=>
  if c=true then
   Zo (σ:=Unit)
    (fun (i26:Nat) (a:Zt) _=>
     if (a.kind != 2)=true then
      some (.inl ())
     else
      (QN r_0 ((i26:Nat):Int)).bind fun d=>
      (Qa a).bind fun e=>
      Zo (σ:=Unit)
       (fun (i35:Nat) (f:ByteArray) _=>
        (Xc d f).bind fun g=>
        if g=true then
         some (.inl ())
        else
         some (.inr (.inr false)))
       (fun _=>
        some (.inl ()))
       e 0 ())
    (fun _=>
     some true)
    r_0.cond 0 ()
  else
   some false
 else
  some false
noncomputable def Zbt (rules_0:(List Zg)):Option Bool:=
 (ZaL rules_0).bind fun d=>
 if d=true then
  Zo (σ:=Unit)
   (fun (i59:Nat) (a:Zg) _=>
    (Zci a).bind fun e=>
    if e=true then
     Zo (σ:=Unit)
      (fun (i79:Nat) (b:Zt) _=>
       if (b.kind != 2)=true then
        some (.inl ())
       else
        (Zde rules_0 b.pattern.rel).bind fun f=>
        (Qf a).bind fun g=>
        Zo (σ:=Unit)
         (fun (i86:Nat) (c:ByteArray) _=>
          if (sEq c b.pattern.rel)=true then
           some (.inr (.inr (.inr false)))
          else
           if (Zah f c false)=true then
            some (.inr (.inr (.inr false)))
           else
            some (.inl ()))
         (fun _=>
          some (.inl ()))
         g 0 ())
      (fun _=>
       some (.inl ()))
      a.cond 0 ()
    else
     some (.inr false))
   (fun _=>
    some true)
   rules_0 0 ()
 else
  some false
noncomputable def YA (f_0:Zb):Option Zb:=
 (Za6 f_0.args).bind fun a=>
 some ({ rel:=f_0.rel,args:=a }:Zb)
noncomputable def Za7 (l_0:(List Zb)):Option (List Zb):=
 Zo (σ:=(List Zb))
  (fun (i9:Nat) (b:Zb) a=>
   (YA b).bind fun c=>
   chk (a.length+1≤1073741824) <|
   some (.inl (a++[c])))
  (fun a=>
   some a)
  l_0 0 []
noncomputable def ZaT (b_0:(List Zs)):Option (List Zs):=
 chk (b_0.length≤1073741824) <|
 some b_0
noncomputable def ZgK (append_0:(List Zs)) (b:ByteArray) (a_2:ByteArray):Option ((List Zs) × Bool):=
 (Xz append_0).bind fun f=>
 if f=true then
  (ZcP b).bind fun g=>
  if g=true then
   (Qm a_2).bind fun i=>
   if i=true then
    (ZaP append_0 b).bind fun e=>
    if e.2=true then
     if (sEq e.1 a_2)=true then
      (ZaT append_0).bind fun j=>
      some (j,true)
     else
      some ([],false)
    else
     if (decide (6≤((append_0.length:Nat):Int)))=true then
      some ([],false)
     else
      Zo (σ:=(List Zs) × Bool)
       (fun (i13:Nat) (c:Zs) s=>
        match s with
        | (a,d)=>
        if d=true then
         chk (a.length+1≤1073741824) <|
         some (.inl ((a++[c]),true))
        else
         if (sLt c.var b||sEq c.var b)=true then
          chk (a.length+1≤1073741824) <|
          some (.inl ((a++[c]),false))
         else
          chk (a.length+1≤1073741824) <|
          chk (a.length+1+1≤1073741824) <|
          some (.inl (((a++[({ var:=b,value:=a_2 }:Zs)])++[c]),true)))
       (fun s=>
        match s with
        | (a,d)=>
        if d=true then
         some (a,true)
        else
         chk (a.length+1≤1073741824) <|
         some ((a++[({ var:=b,value:=a_2 }:Zs)]),true))
       append_0 0 ([],false)
   else
    some ([],false)
  else
   some ([],false)
 else
  some ([],false)
noncomputable def Za0 (append_0:Zv) (a:Zb) (a_2:(List Zs)):Option ((List Zs) × Bool):=
 (Y9 append_0).bind fun f=>
 if f=true then
  (ZeG a).bind fun g=>
  if g=true then
   (Xz a_2).bind fun i=>
   if i=true then
    if (sEq append_0.rel a.rel)=true then
     if (((append_0.args.length:Nat):Int) != ((a.args.length:Nat):Int))=true then
      some ([],false)
     else
      (ZaT a_2).bind fun j=>
      Zo (σ:=(List Zs))
       (fun (d:Nat) (c:ByteArray) b=>
        (Qm c).bind fun k=>
        if k=true then
         (atI a.args ((d:Nat):Int)).bind fun l=>
         if (sEq c l)=true then
          some (.inl b)
         else
          some (.inr ([],false))
        else
         (atI a.args ((d:Nat):Int)).bind fun m=>
         (ZgK b c m).bind fun e=>
         if e.2=true then
          some (.inl e.1)
         else
          some (.inr ([],false)))
       (fun b=>
        some (b,true))
       append_0.args 0 j
    else
     some ([],false)
   else
    some ([],false)
  else
   some ([],false)
 else
  some ([],false)
noncomputable def Xt (p_0:Zv) (b_1:(List Zs)) (facts_2:(List Zb)):Option (List Zb):=
 Zo (σ:=(List Zb))
  (fun (i12:Nat) (b:Zb) a=>
   (Za0 p_0 b b_1).bind fun c=>
   if c.2=true then
    (YA b).bind fun d=>
    chk (a.length+1≤1073741824) <|
    some (.inl (a++[d]))
   else
    some (.inl a))
  (fun a=>
   some a)
  facts_2 0 []
noncomputable def Zi1 (x_0:Zt):Option Bool:=
 (ZdA x_0).bind fun a=>
 if a=true then
  some (decide (3≤x_0.kind))
 else
  some false
noncomputable def Zcs (append_0:Zt) (String_1:(List Zs)):Option Bool:=
 (Zi1 append_0).bind fun e=>
 if e=true then
  (Xz String_1).bind fun f=>
  if f=true then
   (ZaP String_1 append_0.left).bind fun a=>
   (ZaP String_1 append_0.right).bind fun b=>
   if a.2=true then
    if b.2=true then
     if (append_0.kind==3)=true then
      some (sEq a.1 b.1)
     else
      if (append_0.kind==4)=true then
       some (!(sEq a.1 b.1))
      else
       (QE a.1).bind fun c=>
       (QE b.1).bind fun d=>
       if c.2=true then
        if d.2=true then
         some (decide (c.1<d.1))
        else
         some false
       else
        some false
    else
     some false
   else
    some false
  else
   some false
 else
  some false
noncomputable def ZcD (x_0:Zt) (a:(List Zs)) (b:(List Zb)):Option Bool:=
 (ZdA x_0).bind fun c=>
 if c=true then
  (Xz a).bind fun d=>
  if d=true then
   if (x_0.kind==1)=true then
    (Xt x_0.pattern a b).bind fun e=>
    some (decide (0<((e.length:Nat):Int)))
   else
    if (x_0.kind==2)=true then
     (Xt x_0.pattern a b).bind fun f=>
     some (((f.length:Nat):Int)==0)
    else
     (Zcs x_0 a).bind fun g=>
     some g
  else
   some false
 else
  some false
noncomputable def QU (append_0:(List Zt)) (String_1:(List Zb)):Option (List Zu):=
 Zo (σ:=(List Zu))
  (fun (i246:Nat) (d:Zt) e=>
   Zo (σ:=(List Zu))
    (fun (i322:Nat) (c:Zu) a=>
     if (d.kind != 1)=true then
      (ZcD d c.binding String_1).bind fun j=>
      if j=true then
       chk (a.length+1≤1073741824) <|
       some (.inl (a++[c]))
      else
       some (.inl a)
     else
      Zo (σ:=(List Zu))
       (fun (i335:Nat) (f:Zb) b=>
        (Za0 d.pattern f c.binding).bind fun g=>
        if g.2=true then
         (Za7 c.facts).bind fun i=>
         (YA f).bind fun k=>
         chk (i.length+1≤1073741824) <|
         chk (b.length+1≤1073741824) <|
         some (.inl (b++[({ facts:=(i++[k]),binding:=g.1 }:Zu)]))
        else
         some (.inl b))
       (fun b=>
        some (.inl b))
       String_1 0 a)
    (fun a=>
     some (.inl a))
    e 0 [])
  (fun e=>
   some e)
  append_0 0 ([({ facts:=[],binding:=[] }:Zu)])
noncomputable def YP (r_0:Zg):Option (List Zt):=
 Zo (σ:=(List Zt))
  (fun (i7:Nat) (b:Zt) a=>
   if (b.kind != 2)=true then
    chk (a.length+1≤1073741824) <|
    some (.inl (a++[b]))
   else
    some (.inl a))
  (fun a=>
   some a)
  r_0.cond 0 []
noncomputable def XW (l_0:(List Zb)) (f_1:Zb):Option (List Zb):=
 Zo (σ:=(List Zb) × Bool)
  (fun (i21:Nat) (b:Zb) s=>
   match s with
   | (a,c)=>
   if c=true then
    (YA b).bind fun d=>
    chk (a.length+1≤1073741824) <|
    some (.inl ((a++[d]),true))
   else
    (XV b f_1).bind fun e=>
    if (decide (0<e))=true then
     (YA f_1).bind fun f=>
     chk (a.length+1≤1073741824) <|
     (YA b).bind fun g=>
     chk (a.length+1+1≤1073741824) <|
     some (.inl (((a++[f])++[g]),true))
    else
     (YA b).bind fun i=>
     chk (a.length+1≤1073741824) <|
     some (.inl ((a++[i]),false)))
  (fun s=>
   match s with
   | (a,c)=>
   if c=true then
    some a
   else
    (YA f_1).bind fun j=>
    chk (a.length+1≤1073741824) <|
    some (a++[j]))
  l_0 0 ([],false)
noncomputable def Yt (append_0:(List Zg)) (String_1:(List Zb)):Option ((List Zb) × Bool):=
 (Zbt append_0).bind fun k=>
 if k=true then
  (ZaH String_1).bind fun l=>
  if l=true then
   (Za7 String_1).bind fun m=>
   Yp (σ:=(List Zb) × Bool)
    (fun s=>
     match s with
     | (g,o)=>
     if o=true then
      Zo (σ:=(List Zb) × Bool)
       (fun (i423:Nat) (i:Zg) s=>
        match s with
        | (b,c)=>
        (YP i).bind fun p=>
        (QU p b).bind fun q=>
        Zo (σ:=(List Zb) × Bool)
         (fun (i480:Nat) (t:Zu) s=>
          match s with
          | (d,e)=>
          Zo (σ:=(List Zb) × Bool)
           (fun (i501:Nat) (u:Zz) s=>
            match s with
            | (a,f)=>
            (XL u.pattern t.binding).bind fun j=>
            (Yc a j.1).bind fun v=>
            if (decide (0≤v))=true then
             some (.inl (a,f))
            else
             if (decide (24≤((a.length:Nat):Int)))=true then
              some (.inr (.inr (.inr (.inr ([],false)))))
             else
              (XW a j.1).bind fun w=>
              some (.inl (w,true)))
           (fun s=>
            match s with
            | (a,f)=>
            some (.inl (a,f)))
           i.thn 0 (d,e))
         (fun s=>
          match s with
          | (d,e)=>
          some (.inl (d,e)))
         q 0 (b,c))
       (fun s=>
        match s with
        | (b,c)=>
        some (.inl (b,c)))
       append_0 0 (g,false)
     else
      some (.inr (g,true)))
    (m,true)
  else
   some ([],false)
 else
  some ([],false)
noncomputable def Zgz (l_0:(List Int)) (n_1:Int):Option Bool:=
 Zo (σ:=Unit)
  (fun (i4:Nat) (a:Int) _=>
   if (a==n_1)=true then
    some (.inr true)
   else
    some (.inl ()))
  (fun _=>
   some false)
  l_0 0 ()
noncomputable def Zc0 (facts_0:(List Zb)) (l_1:(List Zb)):Option (List Int):=
 Zo (σ:=(List Int))
  (fun (i16:Nat) (c:Zb) a=>
   (Yc facts_0 c).bind fun b=>
   if (decide (0≤b))=true then
    (Zgz a b).bind fun d=>
    if d=true then
     some (.inl a)
    else
     chk (a.length+1≤1073741824) <|
     some (.inl (a++[b]))
   else
    some (.inl a))
  (fun a=>
   (ZfG a).bind fun e=>
   some e)
  l_1 0 []
noncomputable def ZbL (a_0:(List Int)) (a:(List Int)):Option Bool:=
 if (((a_0.length:Nat):Int) != ((a.length:Nat):Int))=true then
  some false
 else
  Zo (σ:=Unit)
   (fun (b:Nat) (c:Int) _=>
    (atI a ((b:Nat):Int)).bind fun d=>
    if (c != d)=true then
     some (.inr false)
    else
     some (.inl ()))
   (fun _=>
    some true)
   a_0 0 ()
noncomputable def Zbw (a_0:Zf) (b_1:Zf):Option Bool:=
 if (a_0.for_==b_1.for_)=true then
  (ZbL a_0.inn b_1.inn).bind fun a=>
  if a=true then
   (ZbL a_0.outs b_1.outs).bind fun b=>
   some b
  else
   some false
 else
  some false
noncomputable def Za5 (l_0:(List Zf)) (r_1:Zf):Option Bool:=
 Zo (σ:=Unit)
  (fun (i6:Nat) (a:Zf) _=>
   (Zbw a r_1).bind fun b=>
   if b=true then
    some (.inr true)
   else
    some (.inl ()))
  (fun _=>
   some false)
  l_0 0 ()
noncomputable def Zbh (append_0:(List Zg)) (String_1:(List Zb)):Option ((List Zb) × Zr × (List ZaA) × Bool):=
 (Yt append_0 String_1).bind fun a=>
 if a.2=true then
  Zo (σ:=(List Zf) × (List ZaA))
   (fun (i941:Nat) (u:Zb) s=>
    match s with
    | (e,f)=>
    (Yc a.1 u).bind fun v=>
    chk (e.length+1≤1073741824) <|
    chk (f.length+1≤1073741824) <|
    some (.inl ((e++[({ for_:=v,inn:=[],outs:=[] }:Zf)]),(f++[({ rule:=(⟨#[]⟩),facts:=[] }:ZaA)]))))
   (fun s=>
    match s with
    | (e,f)=>
    Zo (σ:=(List Zf) × (List ZaA))
     (fun (i1660:Nat) (g:Zg) s=>
      match s with
      | (i,k)=>
      (YP g).bind fun w=>
      (QU w a.1).bind fun x=>
      Zo (σ:=(List Zf) × (List ZaA))
       (fun (i1803:Nat) (j:Zu) s=>
        match s with
        | (l,m)=>
        Zo (σ:=(List Zb))
         (fun (i1841:Nat) (o:Zt) c=>
          if (o.kind==2)=true then
           (XL o.pattern j.binding).bind fun y=>
           chk (c.length+1≤1073741824) <|
           some (.inl (c++[y.1]))
          else
           some (.inl c))
         (fun c=>
          Zo (σ:=(List Zf) × (List ZaA))
           (fun (i1865:Nat) (z:Zz) s=>
            match s with
            | (b,d)=>
            (XL z.pattern j.binding).bind fun A=>
            (Yc a.1 A.1).bind fun p=>
            (Zc0 a.1 j.facts).bind fun q=>
            (Zc0 a.1 c).bind fun t=>
            (Za5 b ({ for_:=p,inn:=q,outs:=t }:Zf)).bind fun B=>
            if B=true then
             some (.inl (b,d))
            else
             chk (b.length+1≤1073741824) <|
             chk (d.length+1≤1073741824) <|
             some (.inl ((b++[({ for_:=p,inn:=q,outs:=t }:Zf)]),(d++[({ rule:=g.name,facts:=j.facts }:ZaA)]))))
           (fun s=>
            match s with
            | (b,d)=>
            some (.inl (b,d)))
           g.thn 0 (l,m))
         g.cond 0 [])
       (fun s=>
        match s with
        | (l,m)=>
        some (.inl (l,m)))
       x 0 (i,k))
     (fun s=>
      match s with
      | (i,k)=>
      if (decide (60<((i.length:Nat):Int)))=true then
       some ([],({ nodes:=0,reasons:=[] }:Zr),[],false)
      else
       some (a.1,({ nodes:=((a.1.length:Nat):Int),reasons:=i }:Zr),k,true))
     append_0 0 (e,f))
   String_1 0 ([],[])
 else
  some ([],({ nodes:=0,reasons:=[] }:Zr),[],false)
noncomputable def Ql (rules_0:(List Zg)) (base_1:(List Zb)):Option ((List Zb) × Zr × Bool):=
 (Zbh rules_0 base_1).bind fun a=>
 some (a.1,a.2.1,a.2.2.2)
noncomputable def ZgJ (d:Zr):Option (List Int):=
 chk (0≤d.nodes∧d.nodes≤1073741824) <|
 Yp (σ:=(List Int) × Bool)
  (fun s=>
   match s with
   | (j,o)=>
   if o=true then
    Zo (σ:=(List Int) × Bool)
     (fun (i155:Nat) (b:Zf) s=>
      match s with
      | (a,f)=>
      chk (0≤b.for_∧b.for_<((a.length:Nat):Int)) <|
      (a[(A0 b.for_)]?).bind fun k=>
      Zo (σ:=Int)
       (fun (i173:Nat) (g:Int) e=>
        chk (0≤g∧g<((a.length:Nat):Int)) <|
        (a[(A0 g)]?).bind fun l=>
        some (.inl (if e<l then l else e)))
       (fun e=>
        Zo (σ:=Int)
         (fun (i182:Nat) (i:Int) c=>
          chk (0≤i∧i<((a.length:Nat):Int)) <|
          (a[(A0 i)]?).bind fun m=>
          some (.inl (if c<(IntKind.i64.wrap (m+1)) then (IntKind.i64.wrap (m+1)) else c)))
         (fun c=>
          if (decide (k<c))=true then
           some (.inl ((A7 a (A0 b.for_) c),true))
          else
           some (.inl (a,f)))
         b.outs 0 e)
       b.inn 0 k)
     (fun s=>
      match s with
      | (a,f)=>
      some (.inl (a,f)))
     d.reasons 0 (j,false)
   else
    some (.inr j))
  ((AI (A0 d.nodes) 0),true)
noncomputable def ZaY (r_0:Zf) (a:(List Int)) (before_2:Int):Option Bool:=
 Zo (σ:=Unit)
  (fun (i14:Nat) (c:Int) _=>
   (atI a c).bind fun b=>
   if (decide (b<0))=true then
    some (.inr false)
   else
    if (decide (before_2≤b))=true then
     some (.inr false)
    else
     some (.inl ()))
  (fun _=>
   Zo (σ:=Unit)
    (fun (i22:Nat) (d:Int) _=>
     (atI a d).bind fun e=>
     if (decide (0≤e))=true then
      some (.inr false)
     else
      some (.inl ()))
    (fun _=>
     some true)
    r_0.outs 0 ())
  r_0.inn 0 ()
noncomputable def ZfZ (d:Zr):Option (List Int):=
 (ZgJ d).bind fun g=>
 chk (0≤d.nodes∧d.nodes≤1073741824) <|
 Yp (σ:=(List Int) × Int × Int)
  (fun s=>
   match s with
   | (i,a,m)=>
   if (decide (a<((A0 d.nodes:Nat):Int)))=true then
    chk (0≤a∧a<((i.length:Nat):Int)) <|
    (i[(A0 a)]?).bind fun u=>
    chk (a<((g.length:Nat):Int)) <|
    (g[(A0 a)]?).bind fun o=>
    some (.inl ((A7 i (A0 a) (-1)),(IntKind.i64.wrap (a+1)),(if m<o then o else m)))
   else
    Yp (σ:=(List Int) × Int × Int)
     (fun s=>
      match s with
      | (e,j,k)=>
      if (decide (k≤m))=true then
       Zo (σ:=(List Int))
        (fun (i109:Nat) (c:Zf) b=>
         chk (0≤c.for_∧c.for_<((g.length:Nat):Int)) <|
         (g[(A0 c.for_)]?).bind fun p=>
         if (p==k)=true then
          chk (c.for_<((e.length:Nat):Int)) <|
          (e[(A0 c.for_)]?).bind fun q=>
          if (decide (q<0))=true then
           (ZaY c e j).bind fun t=>
           if t=true then
            chk (b.length+1≤1073741824) <|
            some (.inl (b++[c.for_]))
           else
            some (.inl b)
          else
           some (.inl b)
         else
          some (.inl b))
        (fun b=>
         if (((b.length:Nat):Int)==0)=true then
          some (.inl (e,j,(IntKind.i64.wrap (k+1))))
         else
          Zo (σ:=(List Int))
           (fun (i120:Nat) (l:Int) f=>
            chk (0≤l∧l<((f.length:Nat):Int)) <|
            (f[(A0 l)]?).bind fun v=>
            some (.inl (A7 f (A0 l) j)))
           (fun f=>
            some (.inl (f,(IntKind.i64.wrap (j+1)),k)))
           b 0 e)
        d.reasons 0 []
      else
       some (.inr (.inr e)))
     (i,0,0))
  ((AI (A0 d.nodes) 0),0,0)
noncomputable def Zgt (b_0:Zr):Option (List Bool):=
 (ZfZ b_0).bind fun b=>
 Zo (σ:=(List Bool))
  (fun (i7:Nat) (c:Int) a=>
   chk (a.length+1≤1073741824) <|
   some (.inl (a++[(decide (0≤c))])))
  (fun a=>
   some a)
  b 0 []
noncomputable def Zdo (b:(List Zb)) (b_1:Zr):Option (List Zb):=
 (Zgt b_1).bind fun c=>
 Zo (σ:=(List Zb))
  (fun (d:Nat) (e:Bool) a=>
   if e=true then
    (atI b ((d:Nat):Int)).bind fun f=>
    (YA f).bind fun g=>
    chk (a.length+1≤1073741824) <|
    some (.inl (a++[g]))
   else
    some (.inl a))
  (fun a=>
   some a)
  c 0 []
noncomputable def ZbK (rules_0:(List Zg)) (base_1:(List Zb)):Option ((List Zb) × Bool):=
 (Ql rules_0 base_1).bind fun a=>
 if a.2.2=true then
  (Zdo a.1 a.2.1).bind fun b=>
  some (b,true)
 else
  some ([],false)
noncomputable def Zev (a_0:(List ByteArray)) (a:(List ByteArray)):Option Bool:=
 if (((a_0.length:Nat):Int) != ((a.length:Nat):Int))=true then
  some false
 else
  Zo (σ:=Unit)
   (fun (b:Nat) (c:ByteArray) _=>
    (atI a ((b:Nat):Int)).bind fun d=>
    if (sEq c d)=true then
     some (.inl ())
    else
     some (.inr false))
   (fun _=>
    some true)
   a_0 0 ()
noncomputable def Zmh (a_0:Zb) (b_1:Zb):Option Bool:=
 if (sEq a_0.rel b_1.rel)=true then
  (Zev a_0.args b_1.args).bind fun a=>
  some a
 else
  some false
noncomputable def QT (l_0:(List Zb)) (f_1:Zb):Option Int:=
 Zo (σ:=Unit)
  (fun (i6:Nat) (a:Zb) _=>
   (Zmh a f_1).bind fun b=>
   if b=true then
    some (.inr ((i6:Nat):Int))
   else
    some (.inl ()))
  (fun _=>
   some (-1))
  l_0 0 ()
noncomputable def XE (a:(List Zs)):Option Bool:=
 Zo (σ:=Unit)
  (fun (c:Nat) (b:Zs) _=>
   (Zaz b.var).bind fun d=>
   if d=true then
    (Qk b.value).bind fun e=>
    if e=true then
     if (decide (0<((c:Nat):Int)))=true then
      (atI a (IntKind.i64.wrap (((c:Nat):Int) - 1))).bind fun f=>
      if (sLt f.var b.var)=true then
       some (.inl ())
      else
       some (.inr false)
     else
      some (.inl ())
    else
     some (.inr false)
   else
    some (.inr false))
  (fun _=>
   some (decide (((a.length:Nat):Int)≤6)))
  a 0 ()
noncomputable def ZaQ (b_0:(List Zs)) (term_1:ByteArray):Option (ByteArray × Bool):=
 (Qk term_1).bind fun b=>
 if b=true then
  some (term_1,true)
 else
  Zo (σ:=Unit)
   (fun (i7:Nat) (a:Zs) _=>
    if (sEq a.var term_1)=true then
     (Zaz term_1).bind fun c=>
     if c=true then
      some (.inr (a.value,true))
     else
      some (.inl ())
    else
     some (.inl ()))
   (fun _=>
    some ((⟨#[]⟩),false))
   b_0 0 ()
noncomputable def Yy (p_0:Zv) (b_1:(List Zs)):Option (Zb × Bool):=
 (YS p_0).bind fun c=>
 if c=true then
  (XE b_1).bind fun d=>
  if d=true then
   Zo (σ:=(List ByteArray))
    (fun (i11:Nat) (e:ByteArray) a=>
     (ZaQ b_1 e).bind fun b=>
     if b.2=true then
      chk (a.length+1≤1073741824) <|
      some (.inl (a++[b.1]))
     else
      some (.inr (({ rel:=(⟨#[]⟩),args:=[] }:Zb),false)))
    (fun a=>
     some (({ rel:=p_0.rel,args:=a }:Zb),true))
    p_0.args 0 []
  else
   some (({ rel:=(⟨#[]⟩),args:=[] }:Zb),false)
 else
  some (({ rel:=(⟨#[]⟩),args:=[] }:Zb),false)
noncomputable def Ze7 (f_0:Zb):Option Bool:=
 Zo (σ:=Unit)
  (fun (i7:Nat) (a:ByteArray) _=>
   (Qk a).bind fun b=>
   if b=true then
    some (.inl ())
   else
    some (.inr false))
  (fun _=>
   (ZdP f_0.rel).bind fun c=>
   if c=true then
    some (decide (((f_0.args.length:Nat):Int)≤3))
   else
    some false)
  f_0.args 0 ()
noncomputable def Zdv (a:(List Zb)):Option Bool:=
 Zo (σ:=Unit)
  (fun (b:Nat) (c:Zb) _=>
   (Ze7 c).bind fun d=>
   if d=true then
    if (decide (0<((b:Nat):Int)))=true then
     (atI a (IntKind.i64.wrap (((b:Nat):Int) - 1))).bind fun e=>
     (Yn e c).bind fun f=>
     if (decide (0≤f))=true then
      some (.inr false)
     else
      some (.inl ())
    else
     some (.inl ())
   else
    some (.inr false))
  (fun _=>
   some (decide (((a.length:Nat):Int)≤24)))
  a 0 ()
noncomputable def ZaJ (l_0:(List Zb)):Option (List Zb):=
 Zo (σ:=(List Zb))
  (fun (i7:Nat) (b:Zb) a=>
   (Xj b).bind fun c=>
   chk (a.length+1≤1073741824) <|
   some (.inl (a++[c])))
  (fun a=>
   some a)
  l_0 0 []
noncomputable def Zdm (a_0:(List ByteArray)) (b_1:(List ByteArray)):Option Bool:=
 Zo (σ:=Unit)
  (fun (i6:Nat) (a:ByteArray) _=>
   (ZV b_1 a).bind fun b=>
   if b=true then
    some (.inl ())
   else
    some (.inr false))
  (fun _=>
   some true)
  a_0 0 ()
noncomputable def Zcx (r_0:Zg):Option Bool:=
 (Zcu r_0).bind fun b=>
 if b=true then
  Zo (σ:=Unit)
   (fun (i16:Nat) (a:Zt) _=>
    if (a.kind==2)=true then
     (XH a).bind fun c=>
     (X5 r_0 ((i16:Nat):Int)).bind fun d=>
     (Zdm c d).bind fun e=>
     if e=true then
      some (.inl ())
     else
      some (.inr false)
    else
     some (.inl ()))
   (fun _=>
    Zo (σ:=Unit)
     (fun (i24:Nat) (f:Zz) _=>
      if (f.kind != 1)=true then
       some (.inr false)
      else
       some (.inl ()))
     (fun _=>
      some true)
     r_0.thn 0 ())
   r_0.cond 0 ()
 else
  some false
noncomputable def QR (r_0:Zg):Option (List ByteArray):=
 Zo (σ:=(List ByteArray))
  (fun (i9:Nat) (b:Zz) a=>
   if (b.kind==1)=true then
    (XO a b.pattern.rel).bind fun c=>
    some (.inl c)
   else
    if (b.kind==2)=true then
     (XO a b.pattern.rel).bind fun d=>
     some (.inl d)
    else
     some (.inl a))
  (fun a=>
   some a)
  r_0.thn 0 []
noncomputable def ZbY (r_0:Zg):Option (List ByteArray):=
 Zo (σ:=(List ByteArray))
  (fun (i9:Nat) (b:Zt) a=>
   if (b.kind==1)=true then
    (XO a b.pattern.rel).bind fun c=>
    some (.inl c)
   else
    if (b.kind==2)=true then
     (XO a b.pattern.rel).bind fun d=>
     some (.inl d)
    else
     some (.inl a))
  (fun a=>
   some a)
  r_0.cond 0 []
noncomputable def Zbg (append_0:(List Zg)) (String_1:ByteArray) (a_2:ByteArray):Option Bool:=
 Yp (σ:=(List ByteArray) × Int)
  (fun s=>
   match s with
   | (d,c)=>
   if (decide (c<((d.length:Nat):Int)))=true then
    Zo (σ:=(List ByteArray))
     (fun (i93:Nat) (e:Zg) a=>
      (QR e).bind fun i=>
      chk (0≤c∧c<((a.length:Nat):Int)) <|
      (a[(A0 c)]?).bind fun j=>
      (ZV i j).bind fun k=>
      if k=true then
       (ZbY e).bind fun f=>
       (ZV f a_2).bind fun l=>
       if l=true then
        some (.inr (.inr true))
       else
        Zo (σ:=(List ByteArray))
         (fun (i108:Nat) (g:ByteArray) b=>
          (ZV b g).bind fun m=>
          if m=true then
           some (.inl b)
          else
           chk (b.length+1≤1073741824) <|
           some (.inl (b++[g])))
         (fun b=>
          some (.inl b))
         f 0 a
      else
       some (.inl a))
     (fun a=>
      some (.inl (a,(IntKind.i64.wrap (c+1)))))
     append_0 0 d
   else
    some (.inr false))
  ([String_1],0)
noncomputable def ZdZ (l_0:(List Zg)) (name_1:ByteArray):Option Int:=
 Zo (σ:=Unit)
  (fun (i4:Nat) (a:Zg) _=>
   if (sEq a.name name_1)=true then
    some (.inr ((i4:Nat):Int))
   else
    some (.inl ()))
  (fun _=>
   some (-1))
  l_0 0 ()
noncomputable def ZdU (l_0:(List Zg)):Option Bool:=
 Zo (σ:=Unit)
  (fun (i8:Nat) (a:Zg) _=>
   (Zcu a).bind fun b=>
   if b=true then
    (ZdZ l_0 a.name).bind fun c=>
    if (c != ((i8:Nat):Int))=true then
     some (.inr false)
    else
     some (.inl ())
   else
    some (.inr false))
  (fun _=>
   some (decide (((l_0.length:Nat):Int)≤6)))
  l_0 0 ()
noncomputable def Zbs (append_0:(List Zg)):Option Bool:=
 Zo (σ:=Unit)
  (fun (i67:Nat) (a:Zg) _=>
   (Zcx a).bind fun d=>
   if d=true then
    (QR a).bind fun e=>
    Zo (σ:=Unit)
     (fun (i90:Nat) (b:Zt) _=>
      Zo (σ:=Unit)
       (fun (i97:Nat) (c:ByteArray) _=>
        if (b.kind==2)=true then
         if (sEq b.pattern.rel c)=true then
          some (.inr (.inr (.inr false)))
         else
          (Zbg append_0 b.pattern.rel c).bind fun f=>
          if f=true then
           some (.inr (.inr (.inr false)))
          else
           some (.inl ())
        else
         some (.inr (.inl ())))
       (fun _=>
        some (.inl ()))
       e 0 ())
     (fun _=>
      some (.inl ()))
     a.cond 0 ()
   else
    some (.inr false))
  (fun _=>
   (ZdU append_0).bind fun g=>
   some g)
  append_0 0 ()
noncomputable def ZcA (b_0:(List Zs)):Option (List Zs):=
 chk (b_0.length≤1073741824) <|
 some b_0
noncomputable def ZiO (b_0:(List Zs)) (c:ByteArray) (value_2:ByteArray):Option (List Zs):=
 Zo (σ:=(List Zs) × Bool)
  (fun (i8:Nat) (b:Zs) s=>
   match s with
   | (a,d)=>
   if d=true then
    chk (a.length+1≤1073741824) <|
    some (.inl ((a++[b]),true))
   else
    if (sLt b.var c||sEq b.var c)=true then
     chk (a.length+1≤1073741824) <|
     some (.inl ((a++[b]),false))
    else
     chk (a.length+1≤1073741824) <|
     chk (a.length+1+1≤1073741824) <|
     some (.inl (((a++[({ var:=c,value:=value_2 }:Zs)])++[b]),true)))
  (fun s=>
   match s with
   | (a,d)=>
   if d=true then
    some a
   else
    chk (a.length+1≤1073741824) <|
    some (a++[({ var:=c,value:=value_2 }:Zs)]))
  b_0 0 ([],false)
noncomputable def ZgN (b_0:(List Zs)) (v_1:ByteArray) (value_2:ByteArray):Option ((List Zs) × Bool):=
 (XE b_0).bind fun b=>
 if b=true then
  (Zaz v_1).bind fun c=>
  if c=true then
   (Qk value_2).bind fun d=>
   if d=true then
    (ZaQ b_0 v_1).bind fun a=>
    if a.2=true then
     if (sEq a.1 value_2)=true then
      (ZcA b_0).bind fun e=>
      some (e,true)
     else
      some ([],false)
    else
     if (((b_0.length:Nat):Int)==6)=true then
      some ([],false)
     else
      (ZiO b_0 v_1 value_2).bind fun f=>
      some (f,true)
   else
    some ([],false)
  else
   some ([],false)
 else
  some ([],false)
noncomputable def Za3 (append_0:Zv) (a:Zb) (a_2:(List Zs)):Option ((List Zs) × Bool):=
 (YS append_0).bind fun f=>
 if f=true then
  (Ze7 a).bind fun g=>
  if g=true then
   (XE a_2).bind fun i=>
   if i=true then
    if (sEq append_0.rel a.rel)=true then
     if (((append_0.args.length:Nat):Int) != ((a.args.length:Nat):Int))=true then
      some ([],false)
     else
      (ZcA a_2).bind fun j=>
      Zo (σ:=(List Zs))
       (fun (d:Nat) (c:ByteArray) b=>
        (Qk c).bind fun k=>
        if k=true then
         (atI a.args ((d:Nat):Int)).bind fun l=>
         if (sEq c l)=true then
          some (.inl b)
         else
          some (.inr ([],false))
        else
         (atI a.args ((d:Nat):Int)).bind fun m=>
         (ZgN b c m).bind fun e=>
         if e.2=true then
          some (.inl e.1)
         else
          some (.inr ([],false)))
       (fun b=>
        some (b,true))
       append_0.args 0 j
    else
     some ([],false)
   else
    some ([],false)
  else
   some ([],false)
 else
  some ([],false)
noncomputable def Xs (p_0:Zv) (b_1:(List Zs)) (facts_2:(List Zb)):Option (List Zb):=
 Zo (σ:=(List Zb))
  (fun (i9:Nat) (b:Zb) a=>
   (Za3 p_0 b b_1).bind fun c=>
   if c.2=true then
    (Xj b).bind fun d=>
    chk (a.length+1≤1073741824) <|
    some (.inl (a++[d]))
   else
    some (.inl a))
  (fun a=>
   some a)
  facts_2 0 []
noncomputable def ZdN (s_0:ByteArray):Option Bool:=
 (Qe s_0).bind fun a=>
 some a.2
noncomputable def Zcj (x_0:Zt) (b_1:(List Zs)):Option Bool:=
 (Zbf x_0).bind fun c=>
 if c=true then
  (XE b_1).bind fun d=>
  if d=true then
   (ZaQ b_1 x_0.left).bind fun a=>
   (ZaQ b_1 x_0.right).bind fun b=>
   if a.2=true then
    if b.2=true then
     if (x_0.kind==3)=true then
      some (sEq a.1 b.1)
     else
      if (x_0.kind==4)=true then
       some (!(sEq a.1 b.1))
      else
       (ZdN a.1).bind fun e=>
       if e=true then
        (ZdN b.1).bind fun f=>
        if f=true then
         (Xd a.1 b.1).bind fun g=>
         some (decide (g<0))
        else
         some false
       else
        some false
    else
     some false
   else
    some false
  else
   some false
 else
  some false
noncomputable def Zcl (x_0:Zt) (a:(List Zs)) (b:(List Zb)):Option Bool:=
 (Zcn x_0).bind fun c=>
 if c=true then
  (XE a).bind fun d=>
  if d=true then
   if (x_0.kind==1)=true then
    (Xs x_0.pattern a b).bind fun e=>
    some (decide (0<((e.length:Nat):Int)))
   else
    if (x_0.kind==2)=true then
     (Xs x_0.pattern a b).bind fun f=>
     some (((f.length:Nat):Int)==0)
    else
     (Zcj x_0 a).bind fun g=>
     some g
  else
   some false
 else
  some false
noncomputable def Zf4 (t_0:Zu):Option Zu:=
 (ZaJ t_0.facts).bind fun a=>
 (ZcA t_0.binding).bind fun b=>
 some ({ facts:=a,binding:=b }:Zu)
noncomputable def Zf9 (append_0:(List Zu)) (String_1:Zt) (a_2:(List Zb)):Option (List Zu):=
 Zo (σ:=(List Zu))
  (fun (i45:Nat) (c:Zu) a=>
   if (String_1.kind != 1)=true then
    (Zcl String_1 c.binding a_2).bind fun g=>
    if g=true then
     (Zf4 c).bind fun i=>
     chk (a.length+1≤1073741824) <|
     some (.inl (a++[i]))
    else
     some (.inl a)
   else
    Zo (σ:=(List Zu))
     (fun (i59:Nat) (d:Zb) b=>
      (Za3 String_1.pattern d c.binding).bind fun e=>
      if e.2=true then
       (ZaJ c.facts).bind fun f=>
       (Xj d).bind fun j=>
       chk (f.length+1≤1073741824) <|
       chk (b.length+1≤1073741824) <|
       some (.inl (b++[({ facts:=(f++[j]),binding:=e.1 }:Zu)]))
      else
       some (.inl b))
     (fun b=>
      some (.inl b))
     a_2 0 a)
  (fun a=>
   some a)
  append_0 0 []
noncomputable def ZaF (l_0:(List Zt)) (facts_1:(List Zb)):Option (List Zu):=
 Zo (σ:=(List Zu))
  (fun (i7:Nat) (b:Zt) a=>
   (Zf9 a b facts_1).bind fun c=>
   some (.inl c))
  (fun a=>
   some a)
  l_0 0 ([({ facts:=[],binding:=[] }:Zu)])
noncomputable def XJ (r_0:Zg):Option (List Zt):=
 Zo (σ:=(List Zt))
  (fun (i6:Nat) (b:Zt) a=>
   if (b.kind != 2)=true then
    chk (a.length+1≤1073741824) <|
    some (.inl (a++[b]))
   else
    some (.inl a))
  (fun a=>
   some a)
  r_0.cond 0 []
noncomputable def Yu (append_0:(List Zg)) (String_1:(List Zb)):Option ((List Zb) × Bool):=
 (Zbs append_0).bind fun f=>
 if f=true then
  (Zdv String_1).bind fun g=>
  if g=true then
   (ZaJ String_1).bind fun i=>
   Yp (σ:=(List Zb) × Bool)
    (fun s=>
     match s with
     | (a,j)=>
     if j=true then
      Zo (σ:=(List Zb))
       (fun (i311:Nat) (e:Zg) b=>
        (XJ e).bind fun k=>
        (ZaF k a).bind fun l=>
        Zo (σ:=(List Zb))
         (fun (i355:Nat) (m:Zu) c=>
          Zo (σ:=(List Zb))
           (fun (i368:Nat) (o:Zz) d=>
            (Yy o.pattern m.binding).bind fun p=>
            (YX d p.1).bind fun q=>
            some (.inl q))
           (fun d=>
            some (.inl d))
           e.thn 0 c)
         (fun c=>
          if (decide (24<((c.length:Nat):Int)))=true then
           some (.inr (.inr ([],false)))
          else
           some (.inl c))
         l 0 b)
       (fun b=>
        some (.inl (b,(decide (((a.length:Nat):Int)<((b.length:Nat):Int))))))
       append_0 0 a
     else
      some (.inr (a,true)))
    (i,true)
  else
   some ([],false)
 else
  some ([],false)
noncomputable def Zgk (l_0:(List Int)) (x_1:Int):Option (List Int):=
 Zo (σ:=(List Int) × Bool)
  (fun (i7:Nat) (b:Int) s=>
   match s with
   | (a,c)=>
   if c=true then
    chk (a.length+1≤1073741824) <|
    some (.inl ((a++[b]),true))
   else
    if (decide (x_1≤b))=true then
     if (b != x_1)=true then
      chk (a.length+1≤1073741824) <|
      chk (a.length+1+1≤1073741824) <|
      some (.inl (((a++[x_1])++[b]),true))
     else
      chk (a.length+1≤1073741824) <|
      some (.inl ((a++[b]),true))
    else
     chk (a.length+1≤1073741824) <|
     some (.inl ((a++[b]),false)))
  (fun s=>
   match s with
   | (a,c)=>
   if c=true then
    some a
   else
    chk (a.length+1≤1073741824) <|
    some (a++[x_1]))
  l_0 0 ([],false)
noncomputable def ZbP (l_0:(List Zb)) (facts_1:(List Zb)):Option (List Int):=
 Zo (σ:=(List Int))
  (fun (i9:Nat) (c:Zb) a=>
   (QT l_0 c).bind fun b=>
   if (decide (0≤b))=true then
    (Zgk a b).bind fun d=>
    some (.inl d)
   else
    some (.inl a))
  (fun a=>
   some a)
  facts_1 0 []
noncomputable def ZaS (c:Zg) (e:Int) (b:Zu) (a_3:(List Zb)):Option Zf:=
 (atI c.thn e).bind fun f=>
 (Yy f.pattern b.binding).bind fun g=>
 Zo (σ:=(List Zb))
  (fun (i12:Nat) (d:Zt) a=>
   if (d.kind==2)=true then
    (Yy d.pattern b.binding).bind fun i=>
    chk (a.length+1≤1073741824) <|
    some (.inl (a++[i.1]))
   else
    some (.inl a))
  (fun a=>
   (QT a_3 g.1).bind fun j=>
   (ZbP a_3 b.facts).bind fun k=>
   (ZbP a_3 a).bind fun l=>
   some ({ for_:=j,inn:=k,outs:=l }:Zf))
  c.cond 0 []
noncomputable def Zbi (a_0:(List Int)) (a:(List Int)):Option Bool:=
 if (((a_0.length:Nat):Int) != ((a.length:Nat):Int))=true then
  some false
 else
  Zo (σ:=Unit)
   (fun (b:Nat) (c:Int) _=>
    (atI a ((b:Nat):Int)).bind fun d=>
    if (c != d)=true then
     some (.inr false)
    else
     some (.inl ()))
   (fun _=>
    some true)
   a_0 0 ()
noncomputable def ZeD (l_0:(List Zf)) (r_1:Zf):Option Int:=
 Zo (σ:=Unit)
  (fun (i8:Nat) (a:Zf) _=>
   if (a.for_==r_1.for_)=true then
    (Zbi a.inn r_1.inn).bind fun b=>
    if b=true then
     (Zbi a.outs r_1.outs).bind fun c=>
     if c=true then
      some (.inr ((i8:Nat):Int))
     else
      some (.inl ())
    else
     some (.inl ())
   else
    some (.inl ()))
  (fun _=>
   some (-1))
  l_0 0 ()
noncomputable def Xy (append_0:(List Zg)) (String_1:(List Zb)):Option ((List Zb) × Zr × (List Xr) × Bool):=
 (Yu append_0 String_1).bind fun b=>
 if b.2=true then
  Zo (σ:=(List Zf) × (List Xr))
   (fun (i255:Nat) (o:Zb) s=>
    match s with
    | (d,e)=>
    (QT b.1 o).bind fun p=>
    chk (d.length+1≤1073741824) <|
    chk (e.length+1≤1073741824) <|
    some (.inl ((d++[({ for_:=p,inn:=[],outs:=[] }:Zf)]),(e++[({ rule:=(⟨#[]⟩),token:=({ facts:=[],binding:=[] }:Zu) }:Xr)]))))
   (fun s=>
    match s with
    | (d,e)=>
    Zo (σ:=(List Zf) × (List Xr))
     (fun (i446:Nat) (f:Zg) s=>
      match s with
      | (g,i)=>
      (XJ f).bind fun q=>
      (ZaF q b.1).bind fun t=>
      Zo (σ:=(List Zf) × (List Xr))
       (fun (i487:Nat) (l:Zu) s=>
        match s with
        | (j,k)=>
        Zo (σ:=(List Zf) × (List Xr))
         (fun (i498:Nat) (v:Zz) s=>
          match s with
          | (a,c)=>
          (ZaS f ((i498:Nat):Int) l b.1).bind fun m=>
          (ZeD a m).bind fun u=>
          if (decide (0≤u))=true then
           some (.inl (a,c))
          else
           if (decide (60≤((a.length:Nat):Int)))=true then
            some (.inr (.inr (.inr ([],({ nodes:=0,reasons:=[] }:Zr),[],false))))
           else
            chk (a.length+1≤1073741824) <|
            chk (c.length+1≤1073741824) <|
            some (.inl ((a++[m]),(c++[({ rule:=f.name,token:=l }:Xr)]))))
         (fun s=>
          match s with
          | (a,c)=>
          some (.inl (a,c)))
         f.thn 0 (j,k))
       (fun s=>
        match s with
        | (j,k)=>
        some (.inl (j,k)))
       t 0 (g,i))
     (fun s=>
      match s with
      | (g,i)=>
      some (b.1,({ nodes:=((b.1.length:Nat):Int),reasons:=g }:Zr),i,true))
     append_0 0 (d,e))
   String_1 0 ([],[])
 else
  some ([],({ nodes:=0,reasons:=[] }:Zr),[],false)
noncomputable def Qi (rules_0:(List Zg)) (base_1:(List Zb)):Option ((List Zb) × Zr × Bool):=
 (Xy rules_0 base_1).bind fun a=>
 if a.2.2.2=true then
  some (a.1,a.2.1,true)
 else
  some ([],({ nodes:=0,reasons:=[] }:Zr),false)
noncomputable def ZbS (a:(List Int)) (n_1:Int):Option Bool:=
 Zo (σ:=Unit)
  (fun (b:Nat) (c:Int) _=>
   (X7 c 0 (IntKind.i64.wrap (n_1 - 1))).bind fun d=>
   if d=true then
    if (decide (0<((b:Nat):Int)))=true then
     (atI a (IntKind.i64.wrap (((b:Nat):Int) - 1))).bind fun e=>
     if (decide (c≤e))=true then
      some (.inr false)
     else
      some (.inl ())
    else
     some (.inl ())
   else
    some (.inr false))
  (fun _=>
   some true)
  a 0 ()
noncomputable def Zcr (b_0:Zr):Option Bool:=
 Zo (σ:=Unit)
  (fun (i11:Nat) (a:Zf) _=>
   (X7 a.for_ 0 (IntKind.i64.wrap (b_0.nodes - 1))).bind fun b=>
   if b=true then
    (ZbS a.inn b_0.nodes).bind fun c=>
    if c=true then
     (ZbS a.outs b_0.nodes).bind fun d=>
     if d=true then
      some (.inl ())
     else
      some (.inr false)
    else
     some (.inr false)
   else
    some (.inr false))
  (fun _=>
   (X7 b_0.nodes 0 24).bind fun e=>
   if e=true then
    some (decide (((b_0.reasons.length:Nat):Int)≤60))
   else
    some false)
  b_0.reasons 0 ()
noncomputable def ZiE (l_0:(List Int)):Option (List Int):=
 chk (l_0.length≤1073741824) <|
 some l_0
noncomputable def Zdf (g:Zr) (o:Int):Option (List Bool):=
 chk (0≤g.nodes∧g.nodes≤1073741824) <|
 Yp (σ:=(List Bool) × (List Int) × Int)
  (fun s=>
   match s with
   | (l,m,d)=>
   if (decide (d<((m.length:Nat):Int)))=true then
    Zo (σ:=(List Bool) × (List Int))
     (fun (i95:Nat) (a:Zf) s=>
      match s with
      | (i,b)=>
      chk (0≤d∧d<((b.length:Nat):Int)) <|
      (b[(A0 d)]?).bind fun p=>
      if (a.for_ != p)=true then
       some (.inl (i,b))
      else
       (ZiE a.inn).bind fun j=>
       chk (j.length+a.outs.length≤1073741824) <|
       Yp (σ:=(List Bool) × (List Int) × Int)
        (fun s=>
         match s with
         | (e,k,c)=>
         if (decide (c<((j.length+a.outs.length:Nat):Int)))=true then
          chk (0≤c∧c<((j.length+a.outs.length:Nat):Int)) <|
          ((j++a.outs)[(A0 c)]?).bind fun f=>
          chk (0≤f∧f<((e.length:Nat):Int)) <|
          (e[(A0 f)]?).bind fun q=>
          if q=true then
           some (.inl (e,k,(IntKind.i64.wrap (c+1))))
          else
           chk (k.length+1≤1073741824) <|
           some (.inl ((A7 e (A0 f) true),(k++[f]),(IntKind.i64.wrap (c+1))))
         else
          some (.inr (.inl (e,k))))
        (i,b,0))
     (fun s=>
      match s with
      | (i,b)=>
      some (.inl (i,b,(IntKind.i64.wrap (d+1)))))
     g.reasons 0 (l,m)
   else
    some (.inr l))
  ((AI (A0 g.nodes) false),[o],0)
noncomputable def XR (b_0:Zr):Option Bool:=
 (Zcr b_0).bind fun d=>
 if d=true then
  Zo (σ:=Unit)
   (fun (i27:Nat) (a:Zf) _=>
    Zo (σ:=Unit)
     (fun (i36:Nat) (b:Int) _=>
      if (b==a.for_)=true then
       some (.inr (.inr false))
      else
       (Zdf b_0 b).bind fun c=>
       chk (0≤a.for_∧a.for_<((c.length:Nat):Int)) <|
       (c[(A0 a.for_)]?).bind fun e=>
       if e=true then
        some (.inr (.inr false))
       else
        some (.inl ()))
     (fun _=>
      some (.inl ()))
     a.outs 0 ())
   (fun _=>
    some true)
   b_0.reasons 0 ()
 else
  some false
noncomputable def Zds (d:Zr):Option (List Int):=
 (XR d).bind fun p=>
 if p=true then
  chk (0≤d.nodes∧d.nodes≤1073741824) <|
  Yp (σ:=(List Int) × Int)
   (fun s=>
    match s with
    | (i,j)=>
    if (decide (j≤d.nodes))=true then
     Zo (σ:=(List Int))
      (fun (i194:Nat) (a:Zf) e=>
       Zo (σ:=(List Int))
        (fun (i216:Nat) (f:Int) b=>
         chk (0≤a.for_∧a.for_<((b.length:Nat):Int)) <|
         (b[(A0 a.for_)]?).bind fun k=>
         chk (0≤f∧f<((b.length:Nat):Int)) <|
         (b[(A0 f)]?).bind fun l=>
         some (.inl (A7 b (A0 a.for_) (if k<l then l else k))))
        (fun b=>
         Zo (σ:=(List Int))
          (fun (i228:Nat) (g:Int) c=>
           chk (0≤a.for_∧a.for_<((c.length:Nat):Int)) <|
           (c[(A0 a.for_)]?).bind fun m=>
           chk (0≤g∧g<((c.length:Nat):Int)) <|
           (c[(A0 g)]?).bind fun o=>
           some (.inl (A7 c (A0 a.for_) (if m<(IntKind.i64.wrap (o+1)) then (IntKind.i64.wrap (o+1)) else m))))
          (fun c=>
           some (.inl c))
          a.outs 0 b)
        a.inn 0 e)
      (fun e=>
       some (.inl (e,(IntKind.i64.wrap (j+1)))))
      d.reasons 0 i
    else
     some (.inr i))
   ((AI (A0 d.nodes) 0),0)
 else
  some []
noncomputable def Zcz (l_0:(List Int)) (b:(List Int)) (round_2:Int):Option Bool:=
 Zo (σ:=Unit)
  (fun (i6:Nat) (c:Int) _=>
   (atI b c).bind fun a=>
   if (decide (a<0))=true then
    some (.inr false)
   else
    if (decide (round_2≤a))=true then
     some (.inr false)
    else
     some (.inl ()))
  (fun _=>
   some true)
  l_0 0 ()
noncomputable def Ze5 (l_0:(List Int)) (a:(List Int)):Option Bool:=
 Zo (σ:=Unit)
  (fun (i6:Nat) (b:Int) _=>
   (atI a b).bind fun c=>
   if (decide (0≤c))=true then
    some (.inr false)
   else
    some (.inl ()))
  (fun _=>
   some true)
  l_0 0 ()
noncomputable def ZbH (append_0:Zr) (e:(List Int)) (a_2:Int) (c:(List Int)) (a_4:Int):Option (List Int):=
 Yp (σ:=(List Int) × Int)
  (fun s=>
   match s with
   | (b,a)=>
   if (decide (a<append_0.nodes))=true then
    (atI e a).bind fun f=>
    if (f != a_2)=true then
     some (.inl (b,(IntKind.i64.wrap (a+1))))
    else
     (atI c a).bind fun g=>
     if (decide (0≤g))=true then
      some (.inl (b,(IntKind.i64.wrap (a+1))))
     else
      Zo (σ:=Unit)
       (fun (i38:Nat) (d:Zf) _=>
        if (d.for_==a)=true then
         (Zcz d.inn c a_4).bind fun i=>
         if i=true then
          (Ze5 d.outs c).bind fun j=>
          if j=true then
           chk (b.length+1≤1073741824) <|
           some (.inr (.inl ((b++[a]),(IntKind.i64.wrap (a+1)))))
          else
           some (.inl ())
         else
          some (.inl ())
        else
         some (.inl ()))
       (fun _=>
        some (.inl (b,(IntKind.i64.wrap (a+1)))))
       append_0.reasons 0 ()
   else
    some (.inr b))
  ([],0)
noncomputable def ZdF (b_0:Zr):Option (List Int):=
 (XR b_0).bind fun m=>
 if m=true then
  (Zds b_0).bind fun g=>
  Yp (σ:=(List Int) × Int)
   (fun s=>
    match s with
    | (e,i)=>
    if (decide (i<b_0.nodes))=true then
     chk (e.length+1≤1073741824) <|
     some (.inl ((e++[(-1)]),(IntKind.i64.wrap (i+1))))
    else
     Yp (σ:=(List Int) × Int × Int)
      (fun s=>
       match s with
       | (f,j,b)=>
       if (decide (b<b_0.nodes))=true then
        (ZbH b_0 g b f j).bind fun o=>
        Yp (σ:=(List Int) × (List Int) × Int)
         (fun s=>
          match s with
          | (k,l,c)=>
          if (decide (0<((l.length:Nat):Int)))=true then
           Zo (σ:=(List Int))
            (fun (i56:Nat) (d:Int) a=>
             chk (0≤d∧d<((a.length:Nat):Int)) <|
             (a[(A0 d)]?).bind fun q=>
             some (.inl (A7 a (A0 d) c)))
            (fun a=>
             (ZbH b_0 g b a (IntKind.i64.wrap (c+1))).bind fun p=>
             some (.inl (a,p,(IntKind.i64.wrap (c+1)))))
            l 0 k
          else
           some (.inr (.inl (k,c,(IntKind.i64.wrap (b+1))))))
         (f,o,j)
       else
        some (.inr (.inr f)))
      (e,0,0))
   ([],0)
 else
  some []
noncomputable def Zd0 (b_0:Zr):Option (List Bool):=
 (ZdF b_0).bind fun b=>
 Zo (σ:=(List Bool))
  (fun (i6:Nat) (c:Int) a=>
   chk (a.length+1≤1073741824) <|
   some (.inl (a++[(decide (0≤c))])))
  (fun a=>
   some a)
  b 0 []
noncomputable def Zjd (l_0:(List Zb)) (b_1:Zr):Option (List Zb):=
 (Zd0 b_1).bind fun b=>
 Zo (σ:=(List Zb))
  (fun (i10:Nat) (c:Zb) a=>
   if (decide (((i10:Nat):Int)<((b.length:Nat):Int)))=true then
    chk (0≤((i10:Nat):Int)∧((i10:Nat):Int)<((b.length:Nat):Int)) <|
    (b[i10]?).bind fun d=>
    if d=true then
     (Xj c).bind fun e=>
     chk (a.length+1≤1073741824) <|
     some (.inl (a++[e]))
    else
     some (.inl a)
   else
    some (.inr a))
  (fun a=>
   some a)
  l_0 0 []
noncomputable def Ze1 (rules_0:(List Zg)) (base_1:(List Zb)):Option ((List Zb) × Bool):=
 (Qi rules_0 base_1).bind fun a=>
 if a.2.2=true then
  (Zjd a.1 a.2.1).bind fun b=>
  some (b,true)
 else
  some ([],false)
noncomputable def ZfI (l_0:(List Zb)) (f_1:Zb):Option Bool:=
 (QT l_0 f_1).bind fun a=>
 some (decide (0≤a))
noncomputable def ZeN (a_0:(List Zb)) (b_1:(List Zb)):Option Bool:=
 Zo (σ:=Unit)
  (fun (i6:Nat) (a:Zb) _=>
   (ZfI b_1 a).bind fun b=>
   if b=true then
    some (.inl ())
   else
    some (.inr false))
  (fun _=>
   some true)
  a_0 0 ()
noncomputable def ZFL (a:(List Int)) (b:Int):Option Int:=
 if (decide (((a.length:Nat):Int)≤b))=true then
  some 0
 else
  (atI a b).bind fun c=>
  some (IntKind.i64.wrap c)
noncomputable def ZFU (l_0:(List Zb)) (rel_1:ByteArray):Option (List Zb):=
 Zo (σ:=(List Zb))
  (fun (i7:Nat) (b:Zb) a=>
   if (sEq b.rel rel_1)=true then
    (Xj b).bind fun c=>
    chk (a.length+1≤1073741824) <|
    some (.inl (a++[c]))
   else
    some (.inl a))
  (fun a=>
   some a)
  l_0 0 []
noncomputable def ZFx (l_0:(List Zb)) (n_1:Int):Option (List Zb):=
 Zo (σ:=(List Zb))
  (fun (i6:Nat) (b:Zb) a=>
   chk (¬(Int.tmod ((i6:Nat):Int) 16)<0) <|
   if ((ZlF .i64 (Ztw .i64 n_1 (Int.tmod ((i6:Nat):Int) 16)) 1)==1)=true then
    chk (a.length+1≤1073741824) <|
    some (.inl (a++[b]))
   else
    some (.inl a))
  (fun a=>
   some a)
  l_0 0 []
noncomputable def ZGu (c_0:ZJ) (n_1:Int):Option (Bool × ZJ):=
 (Xv c_0 n_1).bind fun a=>
 some ((a.1==0),a.2)
noncomputable def ZGz (c_0:ZJ):Option ((List Zg) × (List Zb) × ByteArray × ZJ):=
 (ZGu c_0 6).bind fun a=>
 (Zd3 a.2 a.1).bind fun b=>
 (ZeM b.2 7).bind fun c=>
 (Zd8 c.2 ([(⟨#[98,97,100]⟩),(⟨#[98,97,100]⟩),(⟨#[122]⟩),(⟨#[113]⟩),(⟨#[]⟩)])).bind fun d=>
 some (b.1,c.1,d.1,d.2)
noncomputable def ZG0 (c_0:ZJ):Option (ByteArray × Int × ZJ):=
 (Xv c_0 6).bind fun a=>
 chk (0≤a.1∧a.1<((6:Nat):Int)) <|
 (([(⟨#[111,110]⟩),(⟨#[111,110]⟩),(⟨#[97,116]⟩),(⟨#[112]⟩),(⟨#[113]⟩),(⟨#[122]⟩)])[(A0 a.1)]?).bind fun b=>
 ([2,2,2,1,1,0][(A0 a.1)]?).bind fun c=>
 some (b,c,a.2)
noncomputable def ZGv (c_0:ZJ):Option (ByteArray × ZJ):=
 (Zd8 c_0 ([(⟨#[97]⟩),(⟨#[98]⟩),(⟨#[99]⟩),(⟨#[49]⟩),(⟨#[50]⟩)])).bind fun a=>
 some (a.1,a.2)
noncomputable def ZGF (c_0:ZJ):Option (Zb × ZJ):=
 (ZG0 c_0).bind fun a=>
 Yp (σ:=(List Int) × Int × Int × (List ByteArray) × Int)
  (fun s=>
   match s with
   | (e,f,g,d,j)=>
   if (decide (j<a.2.1))=true then
    (ZGv ({ b:=e,i:=f,h:=g }:ZJ)).bind fun c=>
    chk (d.length+1≤1073741824) <|
    some (.inl (c.2.b,c.2.i,c.2.h,(d++[c.1]),(IntKind.i64.wrap (j+1))))
   else
    some (.inr (({ rel:=a.1,args:=d }:Zb),({ b:=e,i:=f,h:=g }:ZJ))))
  (a.2.2.b,a.2.2.i,a.2.2.h,[],0)
noncomputable def ZGo (c_0:ZJ):Option (ByteArray × ZJ):=
 (Zd8 c_0 ([(⟨#[97]⟩),(⟨#[98]⟩),(⟨#[111,110]⟩),(⟨#[55]⟩),(⟨#[49,48]⟩),(⟨#[57,57,57,57]⟩),(⟨#[49,48,48,48,48]⟩),(⟨#[48,48,55]⟩),(⟨#[48]⟩),(⟨#[]⟩),(⟨#[65]⟩),(⟨#[63,120]⟩),(⟨#[63,63]⟩),(⟨#[63]⟩),(⟨#[97,98,99,100,101,102,103,104]⟩),(⟨#[97,98,99,100,101,102,103,104,105]⟩),(⟨#[63,97,98,99,100,101,102,103,104]⟩),(⟨#[97,45,98]⟩),(⟨#[120,49]⟩),(⟨#[49,120]⟩),(⟨#[45,51]⟩)])).bind fun a=>
 some (a.1,a.2)
noncomputable def ZGS (c_0:ZJ):Option (Zb × ZJ):=
 (ZGF c_0).bind fun a=>
 (Xv a.2 10).bind fun b=>
 if (b.1==0)=true then
  (ZGo b.2).bind fun d=>
  some (({ rel:=d.1,args:=a.1.args }:Zb),d.2)
 else
  if (b.1==1)=true then
   (ZGo b.2).bind fun e=>
   chk (a.1.args.length+1≤1073741824) <|
   some (({ rel:=a.1.rel,args:=(a.1.args++[e.1]) }:Zb),e.2)
  else
   if (b.1==2)=true then
    (Xv b.2 5).bind fun c=>
    chk (0≤c.1∧c.1≤((4:Nat):Int)) <|
    some (({ rel:=a.1.rel,args:=(AH 0 (List.take (A0 c.1) [(⟨#[97]⟩),(⟨#[98]⟩),(⟨#[99]⟩),(⟨#[97]⟩)])) }:Zb),c.2)
   else
    some (a.1,b.2)
noncomputable def ZFW (code_0:(List Int)):Option ((List Zg) × (List Zb) × ByteArray × Zb):=
 (Zjn code_0).bind fun e=>
 (ZGz e).bind fun a=>
 (Yu a.1 a.2.1).bind fun b=>
 if (decide (0<((b.1.length:Nat):Int)))=true then
  (ZGu a.2.2.2 4).bind fun c=>
  if c.1=true then
   (ZGS c.2).bind fun f=>
   some (a.1,a.2.1,a.2.2.1,f.1)
  else
   (Xv c.2 ((b.1.length:Nat):Int)).bind fun d=>
   chk (0≤d.1∧d.1<((b.1.length:Nat):Int)) <|
   (b.1[(A0 d.1)]?).bind fun g=>
   some (a.1,a.2.1,a.2.2.1,g)
 else
  (ZGS a.2.2.2).bind fun i=>
  some (a.1,a.2.1,a.2.2.1,i.1)
noncomputable def ZF5 (r_0:Zg):Option Bool:=
 Zo (σ:=Unit)
  (fun (i6:Nat) (a:Zt) _=>
   if (a.kind==2)=true then
    some (.inr false)
   else
    some (.inl ()))
  (fun _=>
   (Zfe r_0).bind fun b=>
   if b=true then
    (ZdJ r_0).bind fun c=>
    some c
   else
    some false)
  r_0.cond 0 ()
noncomputable def ZGx (append_0:(List Zg)) (String_1:(List Zb)) (a_2:ByteArray):Option ((List Zb) × QZ × Bool):=
 (Ql append_0 String_1).bind fun a=>
 if a.2.2=true then
  if (decide (6<((String_1.length:Nat):Int)))=true then
   some ([],({ beliefs:=({ nodes:=0,reasons:=[] }:Zr),assumed:=[],bad:=[] }:QZ),false)
  else
   Zo (σ:=Unit)
    (fun (i15:Nat) (c:Zg) _=>
     (ZF5 c).bind fun d=>
     if d=true then
      some (.inl ())
     else
      some (.inr ([],({ beliefs:=({ nodes:=0,reasons:=[] }:Zr),assumed:=[],bad:=[] }:QZ),false)))
    (fun _=>
     chk (0≤((String_1.length:Nat):Int)∧((String_1.length:Nat):Int)≤((a.2.1.reasons.length:Nat):Int)) <|
     (Zc0 a.1 String_1).bind fun e=>
     Zo (σ:=(List Int))
      (fun (i24:Nat) (f:Zb) b=>
       if (sEq f.rel a_2)=true then
        chk (b.length+1≤1073741824) <|
        some (.inl (b++[((i24:Nat):Int)]))
       else
        some (.inl b))
      (fun b=>
       some (a.1,({ beliefs:=({ nodes:=a.2.1.nodes,reasons:=(AH String_1.length a.2.1.reasons) }:Zr),assumed:=e,bad:=b }:QZ),true))
      a.1 0 [])
    append_0 0 ()
 else
  some ([],({ beliefs:=({ nodes:=0,reasons:=[] }:Zr),assumed:=[],bad:=[] }:QZ),false)
noncomputable def ZFP (b:(List Int)) (nodes_1:Int):Option Bool:=
 Zo (σ:=Unit)
  (fun (c:Nat) (a:Int) _=>
   if (decide (a<0))=true then
    some (.inr false)
   else
    if (decide (nodes_1≤a))=true then
     some (.inr false)
    else
     if (decide (0<((c:Nat):Int)))=true then
      (atI b (IntKind.i64.wrap (((c:Nat):Int) - 1))).bind fun d=>
      if (decide (a≤d))=true then
       some (.inr false)
      else
       some (.inl ())
     else
      some (.inl ()))
  (fun _=>
   some true)
  b 0 ()
noncomputable def ZF9 (b_0:Zr):Option Bool:=
 if (decide (b_0.nodes<0))=true then
  some false
 else
  if (decide (24<b_0.nodes))=true then
   some false
  else
   if (decide (60<((b_0.reasons.length:Nat):Int)))=true then
    some false
   else
    Zo (σ:=Unit)
     (fun (i8:Nat) (a:Zf) _=>
      if (decide (a.for_<0))=true then
       some (.inr false)
      else
       if (decide (b_0.nodes≤a.for_))=true then
        some (.inr false)
       else
        (ZFP a.inn b_0.nodes).bind fun b=>
        if b=true then
         (ZFP a.outs b_0.nodes).bind fun c=>
         if c=true then
          some (.inl ())
         else
          some (.inr false)
        else
         some (.inr false))
     (fun _=>
      some true)
     b_0.reasons 0 ()
noncomputable def ZGs (f_0:QZ):Option Bool:=
 (ZF9 f_0.beliefs).bind fun a=>
 if a=true then
  if (decide (6<((f_0.assumed.length:Nat):Int)))=true then
   some false
  else
   (ZFP f_0.assumed f_0.beliefs.nodes).bind fun b=>
   if b=true then
    (ZFP f_0.bad f_0.beliefs.nodes).bind fun c=>
    if c=true then
     Zo (σ:=Unit)
      (fun (i7:Nat) (d:Zf) _=>
       if (decide (0<((d.outs.length:Nat):Int)))=true then
        some (.inr false)
       else
        some (.inl ()))
      (fun _=>
       some true)
      f_0.beliefs.reasons 0 ()
    else
     some false
   else
    some false
 else
  some false
noncomputable def ZGC (a_0:Int) (b_1:Int):Option Bool:=
 if (decide (0≤a_0))=true then
  if (decide (0≤b_1))=true then
   some ((ZlF .i64 a_0 b_1)==a_0)
  else
   some false
 else
  some false
noncomputable def ZFQ (l_0:(List Int)):Option (List Int):=
 Zo (σ:=(List Int))
  (fun (i54:Nat) (b:Int) a=>
   if (decide (0≤b))=true then
    (Zgz a b).bind fun e=>
    Zo (σ:=Bool × Bool × Bool)
     (fun (i65:Nat) (g:Int) s=>
      match s with
      | (c,d,f)=>
      if f=true then
       if (g==b)=true then
        some (.inl (c,d,true))
       else
        (ZGC g b).bind fun i=>
        some (.inl (c,d,(!i)))
      else
       some (.inl (c,d,false)))
     (fun s=>
      match s with
      | (c,d,f)=>
      if f=true then
       chk (a.length+1≤1073741824) <|
       some (.inl (a++[b]))
      else
       some (.inl a))
     l_0 0 (e,(!e),(!e))
   else
    Zo (σ:=Unit)
     (fun (i71:Nat) (k:Int) _=>
      some (.inl ()))
     (fun _=>
      some (.inl a))
     l_0 0 ())
  (fun a=>
   (ZfG a).bind fun j=>
   some j)
  l_0 0 []
noncomputable def ZGf (f_0:QZ) (keep_1:(Int→Option Bool)):Option (List Int):=
 chk (¬((f_0.assumed.length:Nat):Int)<0) <|
 Yp (σ:=(List Int) × Int)
  (fun s=>
   match s with
   | (b,a)=>
   if (decide (a<(ZCy .i64 1 ((f_0.assumed.length:Nat):Int))))=true then
    (keep_1 a).bind fun c=>
    if c=true then
     chk (b.length+1≤1073741824) <|
     some (.inl ((b++[a]),(IntKind.i64.wrap (a+1))))
    else
     some (.inl (b,(IntKind.i64.wrap (a+1))))
   else
    some (.inr b))
  ([],0)
noncomputable def ZGn (l_0:(List Int)) (set_1:Int):Option (List Int):=
 Zo (σ:=(List Int))
  (fun (i6:Nat) (b:Int) a=>
   chk (¬((i6:Nat):Int)<0) <|
   if ((ZlF .i64 (Ztw .i64 set_1 ((i6:Nat):Int)) 1)==1)=true then
    chk (a.length+1≤1073741824) <|
    some (.inl (a++[b]))
   else
    some (.inl a))
  (fun a=>
   some a)
  l_0 0 []
noncomputable def ZF8 (l_0:(List Int)):Option (List Int):=
 chk (l_0.length≤1073741824) <|
 some l_0
noncomputable def ZGb (r_0:Zf):Option Zf:=
 (ZF8 r_0.inn).bind fun a=>
 (ZF8 r_0.outs).bind fun b=>
 some ({ for_:=r_0.for_,inn:=a,outs:=b }:Zf)
noncomputable def ZFX (b_0:Zr):Option Zr:=
 Zo (σ:=(List Zf))
  (fun (i9:Nat) (b:Zf) a=>
   (ZGb b).bind fun c=>
   chk (a.length+1≤1073741824) <|
   some (.inl (a++[c])))
  (fun a=>
   some ({ nodes:=b_0.nodes,reasons:=a }:Zr))
  b_0.reasons 0 []
noncomputable def ZGQ (f_0:QZ) (set_1:Int):Option (List Bool):=
 (ZFX f_0.beliefs).bind fun b=>
 (ZGn f_0.assumed set_1).bind fun c=>
 Zo (σ:=(List Zf))
  (fun (i8:Nat) (d:Int) a=>
   chk (a.length+1≤1073741824) <|
   some (.inl (a++[({ for_:=d,inn:=[],outs:=[] }:Zf)])))
  (fun a=>
   (Zgt ({ nodes:=b.nodes,reasons:=a }:Zr)).bind fun e=>
   some e)
  c 0 b.reasons
noncomputable def ZGw (l_0:(List Int)) (a:(List Bool)):Option Bool:=
 Zo (σ:=Unit)
  (fun (i6:Nat) (b:Int) _=>
   (atI a b).bind fun c=>
   if c=true then
    some (.inr false)
   else
    some (.inl ()))
  (fun _=>
   some true)
  l_0 0 ()
noncomputable def ZF2 (set_0:Int) (cap_1:QZ) (a:Int):Option Bool:=
 (ZGQ cap_1 set_0).bind fun b=>
 chk (0≤a∧a<((b.length:Nat):Int)) <|
 (b[(A0 a)]?).bind fun c=>
 if c=true then
  (ZGw cap_1.bad b).bind fun d=>
  some d
 else
  some false
noncomputable def ZFZ (f_0:QZ) (x_1:Int):Option (List Int):=
 (ZGs f_0).bind fun a=>
 if a=true then
  if (decide (x_1<0))=true then
   some []
  else
   if (decide (f_0.beliefs.nodes≤x_1))=true then
    some []
   else
    (ZGf f_0 (fun a0_=>ZF2 a0_ f_0 x_1)).bind fun b=>
    (ZFQ b).bind fun c=>
    some c
 else
  some []
noncomputable def ZGt (rules_0:(List Zg)) (base_1:(List Zb)) (bad_2:ByteArray) (f_3:Zb):Option ((List (List Zb)) × Bool):=
 (ZGx rules_0 base_1 bad_2).bind fun a=>
 if a.2.2=true then
  (Yc a.1 f_3).bind fun e=>
  (ZFZ a.2.1 e).bind fun f=>
  Zo (σ:=(List (List Zb)))
   (fun (i57:Nat) (g:Int) b=>
    (ZGn a.2.1.assumed g).bind fun i=>
    Zo (σ:=(List Zb))
     (fun (i71:Nat) (d:Int) c=>
      chk (0≤d∧d<((a.1.length:Nat):Int)) <|
      (a.1[(A0 d)]?).bind fun j=>
      (YA j).bind fun k=>
      chk (c.length+1≤1073741824) <|
      some (.inl (c++[k])))
     (fun c=>
      chk (b.length+1≤1073741824) <|
      some (.inl (b++[c])))
     i 0 [])
   (fun b=>
    some (b,true))
   f 0 []
 else
  some ([],false)
noncomputable def ZFV (r_0:Zg):Option Bool:=
 Zo (σ:=Unit)
  (fun (i11:Nat) (a:Zt) _=>
   if (a.kind==2)=true then
    some (.inr false)
   else
    some (.inl ()))
  (fun _=>
   Zo (σ:=Unit)
    (fun (i17:Nat) (b:Zz) _=>
     if (b.kind != 1)=true then
      some (.inr false)
     else
      some (.inl ()))
    (fun _=>
     (Zcu r_0).bind fun c=>
     some c)
    r_0.thn 0 ())
  r_0.cond 0 ()
noncomputable def ZGr (rules_0:(List Zg)) (base_1:(List Zb)) (bad_2:ByteArray):Option ((List Zb) × QZ × Bool):=
 (Qi rules_0 base_1).bind fun a=>
 Zo (σ:=Bool)
  (fun (i11:Nat) (c:Zg) b=>
   if b=true then
    (ZFV c).bind fun d=>
    some (.inl d)
   else
    some (.inl false))
  (fun b=>
   if b=true then
    if (decide (6<((base_1.length:Nat):Int)))=true then
     some ([],({ beliefs:=({ nodes:=0,reasons:=[] }:Zr),assumed:=[],bad:=[] }:QZ),false)
    else
     chk (0≤((base_1.length:Nat):Int)∧((base_1.length:Nat):Int)≤((a.2.1.reasons.length:Nat):Int)) <|
     (ZbP a.1 base_1).bind fun e=>
     (ZFU a.1 bad_2).bind fun f=>
     (ZbP a.1 f).bind fun g=>
     some (a.1,({ beliefs:=({ nodes:=a.2.1.nodes,reasons:=(AH base_1.length a.2.1.reasons) }:Zr),assumed:=e,bad:=g }:QZ),true)
   else
    some ([],({ beliefs:=({ nodes:=0,reasons:=[] }:Zr),assumed:=[],bad:=[] }:QZ),false))
  rules_0 0 a.2.2
noncomputable def ZGp (f_0:QZ):Option Bool:=
 Zo (σ:=Unit)
  (fun (i7:Nat) (a:Zf) _=>
   if (decide (0<((a.outs.length:Nat):Int)))=true then
    some (.inr false)
   else
    some (.inl ()))
  (fun _=>
   (Zcr f_0.beliefs).bind fun b=>
   if b=true then
    (ZbS f_0.assumed f_0.beliefs.nodes).bind fun c=>
    if c=true then
     if (decide (((f_0.assumed.length:Nat):Int)≤6))=true then
      (ZbS f_0.bad f_0.beliefs.nodes).bind fun d=>
      some d
     else
      some false
    else
     some false
   else
    some false)
  f_0.beliefs.reasons 0 ()
noncomputable def ZF6 (f_0:QZ) (set_1:Int):Option Bool:=
 (ZGp f_0).bind fun a=>
 if a=true then
  chk (¬((f_0.assumed.length:Nat):Int)<0) <|
  (X7 set_1 0 (IntKind.i64.wrap ((ZCy .i64 1 ((f_0.assumed.length:Nat):Int)) - 1))).bind fun b=>
  some b
 else
  some false
noncomputable def ZFY (b:QZ) (String_1:Int):Option (List Bool):=
 chk (0≤b.beliefs.nodes∧b.beliefs.nodes≤1073741824) <|
 Zo (σ:=(List Bool))
  (fun (i87:Nat) (e:Int) c=>
   chk (¬((i87:Nat):Int)<0) <|
   if ((ZlF .i64 (Ztw .i64 String_1 ((i87:Nat):Int)) 1)==1)=true then
    chk (0≤e∧e<((c.length:Nat):Int)) <|
    (c[(A0 e)]?).bind fun m=>
    some (.inl (A7 c (A0 e) true))
   else
    some (.inl c))
  (fun c=>
   Yp (σ:=(List Bool) × Int)
    (fun s=>
     match s with
     | (i,j)=>
     if (decide (j≤b.beliefs.nodes))=true then
      Zo (σ:=(List Bool))
       (fun (i157:Nat) (d:Zf) a=>
        Zo (σ:=Bool)
         (fun (i166:Nat) (f:Int) g=>
          if g=true then
           chk (0≤f∧f<((a.length:Nat):Int)) <|
           (a[(A0 f)]?).bind fun k=>
           some (.inl k)
          else
           some (.inl false))
         (fun g=>
          chk (0≤d.for_∧d.for_<((a.length:Nat):Int)) <|
          (a[(A0 d.for_)]?).bind fun l=>
          if l=true then
           some (.inl (A7 a (A0 d.for_) true))
          else
           some (.inl (A7 a (A0 d.for_) g)))
         d.inn 0 true)
       (fun a=>
        some (.inl (a,(IntKind.i64.wrap (j+1)))))
       b.beliefs.reasons 0 i
     else
      some (.inr i))
    (c,0))
  b.assumed 0 (AI (A0 b.beliefs.nodes) false)
noncomputable def ZFT (f_0:QZ) (set_1:Int):Option Bool:=
 (ZF6 f_0 set_1).bind fun c=>
 if c=true then
  (ZFY f_0 set_1).bind fun b=>
  Zo (σ:=Unit)
   (fun (i8:Nat) (a:Int) _=>
    chk (0≤a∧a<((b.length:Nat):Int)) <|
    (b[(A0 a)]?).bind fun d=>
    if d=true then
     some (.inr false)
    else
     some (.inl ()))
   (fun _=>
    some true)
   f_0.bad 0 ()
 else
  some false
noncomputable def ZHv (l_0:(List Int)) (x_1:Int):Option Bool:=
 Zo (σ:=Unit)
  (fun (i4:Nat) (a:Int) _=>
   if (a==x_1)=true then
    some (.inr true)
   else
    some (.inl ()))
  (fun _=>
   some false)
  l_0 0 ()
noncomputable def ZF4 (f_0:QZ) (set_1:Int):Option (List Int):=
 (ZF6 f_0 set_1).bind fun b=>
 if b=true then
  (ZFY f_0 set_1).bind fun c=>
  Zo (σ:=(List Int))
   (fun (i7:Nat) (d:Bool) a=>
    if d=true then
     chk (a.length+1≤1073741824) <|
     some (.inl (a++[((i7:Nat):Int)]))
    else
     some (.inl a))
   (fun a=>
    some a)
   c 0 []
 else
  some []
noncomputable def ZF3 (f_0:QZ) (x_1:Int) (set_2:Int):Option Bool:=
 (ZFT f_0 set_2).bind fun a=>
 if a=true then
  (ZF4 f_0 set_2).bind fun b=>
  (ZHv b x_1).bind fun c=>
  some c
 else
  some false
noncomputable def ZGK (a_0:Int) (b_1:Int):Option Bool:=
 if (decide (0≤a_0))=true then
  if (decide (0≤b_1))=true then
   some ((ZlF .i64 a_0 b_1)==a_0)
  else
   some false
 else
  some false
noncomputable def ZFS (l_0:(List Int)):Option (List Int):=
 Zo (σ:=(List Int))
  (fun (i26:Nat) (a:Int) b=>
   Zo (σ:=Bool)
    (fun (i35:Nat) (d:Int) c=>
     if c=true then
      (ZGK d a).bind fun e=>
      if e=true then
       some (.inl (d==a))
      else
       some (.inl true)
     else
      some (.inl false))
    (fun c=>
     if c=true then
      (Zgk b a).bind fun f=>
      some (.inl f)
     else
      some (.inl b))
    l_0 0 (decide (0≤a)))
  (fun b=>
   some b)
  l_0 0 []
noncomputable def ZF7 (f_0:QZ) (x_1:Int):Option (List Int):=
 Yp (σ:=(List Int) × Int)
  (fun s=>
   match s with
   | (b,a)=>
   (ZF6 f_0 a).bind fun c=>
   if c=true then
    (ZF3 f_0 x_1 a).bind fun d=>
    if d=true then
     chk (b.length+1≤1073741824) <|
     some (.inl ((b++[a]),(IntKind.i64.wrap (a+1))))
    else
     some (.inl (b,(IntKind.i64.wrap (a+1))))
   else
    (ZFS b).bind fun e=>
    some (.inr e))
  ([],0)
noncomputable def ZGd (b:(List Zb)) (f_1:QZ) (set_2:Int):Option (List Zb):=
 Zo (σ:=(List Zb))
  (fun (i9:Nat) (c:Int) a=>
   chk (¬((i9:Nat):Int)<0) <|
   if ((ZlF .i64 (Ztw .i64 set_2 ((i9:Nat):Int)) 1)==1)=true then
    (atI b c).bind fun d=>
    (Xj d).bind fun e=>
    chk (a.length+1≤1073741824) <|
    some (.inl (a++[e]))
   else
    some (.inl a))
  (fun a=>
   some a)
  f_1.assumed 0 []
noncomputable def ZGy (rules_0:(List Zg)) (base_1:(List Zb)) (bad_2:ByteArray) (f_3:Zb):Option ((List (List Zb)) × Bool):=
 (ZGr rules_0 base_1 bad_2).bind fun a=>
 if a.2.2=true then
  (QT a.1 f_3).bind fun c=>
  (ZF7 a.2.1 c).bind fun d=>
  Zo (σ:=(List (List Zb)))
   (fun (i10:Nat) (e:Int) b=>
    (ZGd a.1 a.2.1 e).bind fun f=>
    chk (b.length+1≤1073741824) <|
    some (.inl (b++[f])))
   (fun b=>
    some (b,true))
   d 0 []
 else
  some ([],false)
noncomputable def ZGj (append_0:(List Int)):Option Bool:=
 (ZsU append_0).bind fun f=>
 if f=true then
  some true
 else
  (ZFW append_0).bind fun a=>
  (ZGt a.1 a.2.1 a.2.2.1 a.2.2.2).bind fun b=>
  (ZGy a.1 a.2.1 a.2.2.1 a.2.2.2).bind fun g=>
  if (b.2==g.2)=true then
   if b.2=true then
    (ZFL append_0 0).bind fun i=>
    (ZFx a.2.1 i).bind fun e=>
    (ZbK a.1 e).bind fun c=>
    if c.2=true then
     (ZFU c.1 a.2.2.1).bind fun j=>
     if (decide (0<((j.length:Nat):Int)))=true then
      some true
     else
      Zo (σ:=Bool)
       (fun (i16:Nat) (k:(List Zb)) d=>
        if d=true then
         some (.inl true)
        else
         (ZeN k e).bind fun l=>
         some (.inl l))
       (fun d=>
        (ZfI c.1 a.2.2.2).bind fun m=>
        some (d==m))
       b.1 0 false
    else
     some false
   else
    some (((b.1.length:Nat):Int)==0)
  else
   some false
end
theorem Zpz (y:Int):0≤ZlF .i64 y 255∧ZlF .i64 y 255≤255:=by
 have e:ZlF .i64 y 255=(((BitVec.ofInt 64 y &&& BitVec.ofInt 64 255).toNat:Nat):Int):=by
  show IntKind.i64.wrap (((BitVec.ofInt 64 y &&& BitVec.ofInt 64 255).toNat:Nat):Int)=_
  have:=AX (n:=(BitVec.ofInt 64 y).toNat) (m:=(BitVec.ofInt 64 255).toNat)
  rw [BitVec.toNat_and]
  have h2:(BitVec.ofInt 64 255).toNat=255:=by decide
  exact YW (by omega) (by omega)
 have:=AX (n:=(BitVec.ofInt 64 y).toNat) (m:=(BitVec.ofInt 64 255).toNat)
 rw [e,BitVec.toNat_and]
 have h2:(BitVec.ofInt 64 255).toNat=255:=by decide
 omega
structure Qu (c:ZJ):Prop where
 i:0≤c.i
 b:c.b.length≤4096
theorem ZvF (code:List Int) (h:code.length≤4096):∃c,Zjn code=some c∧Qu c:=by
 unfold Zjn
 have key:∀(l:List Int) (i:Nat) (s:Int),∃c,Zo (fun (i5:Nat) (x6:Int) (h_2:Int)=>
   if (decide (((i5:Nat):Int)<4000))=true then
    some (.inl (ZlF .i64 (IntKind.i64.wrap ((IntKind.i64.wrap ((IntKind.i64.wrap (h_2 * 167))+IntKind.i64.wrap x6))+29)) 1073741823))
   else
    some (.inr ({ b:=code,i:=0,h:=h_2 }:ZJ))) (fun h_2=>some ({ b:=code,i:=0,h:=h_2 }:ZJ)) l i s=some c∧Qu c:=by
  intro l
  induction l with
  | nil=>intro i s;exact ⟨_,rfl,Int.le_refl _,h⟩
  | cons x l ih=>
   intro i s
   cases hd:decide (((i:Nat):Int)<4000) with
   | true=>
    obtain ⟨c,h1,h2⟩:=ih (i+1) (ZlF .i64 (IntKind.i64.wrap ((IntKind.i64.wrap ((IntKind.i64.wrap (s * 167))+IntKind.i64.wrap x))+29)) 1073741823)
    exact ⟨c,by rw [ZX (by rw [hd,if_pos rfl])];exact h1,h2⟩
   | false=>exact ⟨_,by rw [Yi (by rw [hd];rfl)],Int.le_refl _,h⟩
 exact key code 0 _
theorem Zuq {c:ZJ} (h:Qu c):∃x c',Zcy c=some (x,c')∧0≤x∧x≤255∧Qu c':=by
 unfold Zcy
 cases hd:decide (c.i<((c.b.length:Nat):Int)) with
 | true=>
  have hlt:c.i<((c.b.length:Nat):Int):=by simpa using hd
  have hi:=h.i
  have hb:=h.b
  have hn:c.i.toNat<c.b.length:=by omega
  rw [if_pos rfl,show atI c.b c.i=some (c.b[c.i.toNat]) by unfold atI;rw [if_pos hi,AY hn]]
  refine ⟨_,_,rfl,(Zpz _).1,(Zpz _).2,?_,hb⟩
  show 0≤IntKind.i64.wrap (c.i+1)
  rw [YW (by omega) (by omega)]
  omega
 | false=>
  rw [if_neg (by simp)]
  exact ⟨_,_,rfl,(Zpz _).1,(Zpz _).2,h.i,h.b⟩
theorem ZdR {c:ZJ} (h:Qu c) {n:Int} (h0:0<n) (h1:n≤256):∃x c',Xv c n=some (x,c')∧0≤x∧x<n∧Qu c':=by
 unfold Xv
 obtain ⟨x,c',e,hx,_,hc⟩:=Zuq h
 rw [if_neg (by simp;omega),if_pos (by simp;omega),e]
 refine ⟨Int.tmod x n,c',?_,Int.tmod_nonneg _ hx,Int.tmod_lt_of_pos _ h0,hc⟩
 show chk _ _=_
 rw [Zh _ (by omega)]
theorem ZH1 {c:ZJ} (h:Qu c) {n:Int} (h0:0<n) (h1:n≤256):∃b c',ZGu c n=some (b,c')∧Qu c':=by
 obtain ⟨x,c',e,_,_,hc⟩:=ZdR h h0 h1
 exact ⟨x==0,c',by unfold ZGu;rw [e];rfl,hc⟩
def Zbn (b:UInt8):Bool:=(decide (97≤b.toNat)&&decide (b.toNat≤122))||(decide (48≤b.toNat)&&decide (b.toNat≤57))
def ZQ (s:ByteArray):Bool:=decide (1≤s.size)&&decide (s.size≤8)&&(toL s).all Zbn
theorem Zhs (x a b:Int):X7 x a b=some (decide (a≤x)&&decide (x≤b)):=by
 unfold X7
 by_cases h:a≤x<;>simp [h]
theorem Zoi (b:UInt8):IntKind.i64.wrap ((b.toNat:Nat):Int)=((b.toNat:Nat):Int):=YW (by omega) (by have:=b.toNat_lt;omega)
theorem Q9 {b:UInt8}:Zbn b=true↔(97≤b.toNat∧b.toNat≤122)∨(48≤b.toNat∧b.toNat≤57):=by
 simp only[Zbn,Bool.or_eq_true,A9,decide_eq_true_eq]
theorem X6 (s:ByteArray):Qk s=some (ZQ s):=by
 unfold Qk ZQ
 rw [show s.data.toList=toL s from rfl,ZU (p:=Zbn) (r:=false)]
 ·simp only[Zhs,A3]
  cases (toL s).all Zbn with
  | true=>
   simp only[if_true,Bool.and_true]
   congr 1
   rw [AA]
   simp only[A9,decide_eq_true_eq]
   omega
  | false=>simp
 ·intro i x _
  simp only[Zhs,A3,Zoi,A9,decide_eq_true_eq]
  cases hp:Zbn x with
  | true=>
   have:=Q9.1 hp
   repeat' split
   all_goals first | rfl | (exfalso;omega) | (exfalso;simp_all;done)
  | false=>
   have:=mt (Q9 (b:=x)).2 (by simp [hp])
   repeat' split
   all_goals first | rfl | (exfalso;omega) | (exfalso;simp_all;done)
theorem X1 (s:ByteArray):Qm s=some (ZQ s):=by
 unfold Qm ZQ
 simp only[decide_eq_true_eq]
 rw [show s.data.toList=toL s from rfl,ZU (p:=Zbn) (r:=false)]
 ·repeat' split
  ·rw [decide_eq_false (show ¬1≤s.size by omega)];rfl
  ·rw [decide_eq_false (show ¬s.size≤8 by omega)];simp
  ·rename_i h;rw [h,decide_eq_true (show 1≤s.size by omega),decide_eq_true (show s.size≤8 by omega)];rfl
  ·rename_i h;rw [eq_false_of_ne_true h];simp
 ·intro i x _
  cases hp:Zbn x with
  | true=>
   have:=Q9.1 hp
   repeat' split
   all_goals first | rfl | (exfalso;omega) | (exfalso;simp_all;done)
  | false=>
   have:=mt (Q9 (b:=x)).2 (by simp [hp])
   repeat' split
   all_goals first | rfl | (exfalso;omega) | (exfalso;simp_all;done)
def ZhX (s:ByteArray):UInt8:=(toL s).headD 0
theorem ZiF {s:ByteArray} (h:1≤s.size):sAt s 0=some (ZhX s):=by
 unfold sAt ZhX
 have hl:0<(toL s).length:=by rw [ZcW];omega
 have:(toL s)[0]?=some ((toL s).headD 0):=by
  cases hh:toL s with
  | nil=>rw [hh] at hl;simp at hl
  | cons a r=>simp
 rw [if_pos (by omega)]
 exact Zpp this
def X9 (s:ByteArray):Bool:=ZQ s&&decide (97≤(ZhX s).toNat)
theorem Zbr {s:ByteArray} (h:ZQ s=true):1≤s.size∧s.size≤8:=by
 simp only[ZQ,A9,decide_eq_true_eq] at h
 exact h.1
theorem ZiN {s:ByteArray} (h:ZQ s=true):Zbn (ZhX s)=true:=by
 have hs:=Zbr h
 simp only[ZQ,A9] at h
 have hl:0<(toL s).length:=by rw [ZcW];omega
 refine AJ.1 h.2 _ ?_
 unfold ZhX
 cases hh:toL s with
 | nil=>rw [hh] at hl;simp at hl
 | cons a r=>simp
theorem Zgv (s:ByteArray):ZdP s=some (X9 s):=by
 unfold ZdP X9
 rw [X6,A3]
 cases h:ZQ s with
 | false=>simp
 | true=>
  simp only[if_true,ZiF (Zbr h).1,A3,Zhs,Zoi,A5]
  have hb:=Q9.1 (ZiN h)
  congr 1
  rw [AA]
  simp only[A9,decide_eq_true_eq]
  omega
theorem Zga (s:ByteArray):Zd1 s=some (X9 s):=by
 unfold Zd1 X9
 rw [X1,A3]
 cases h:ZQ s with
 | false=>simp
 | true=>
  simp only[if_true,ZiF (Zbr h).1,A3,A5]
  congr 1
  rw [AA]
  simp only[decide_eq_true_eq]
  omega
def ZvM (s:ByteArray):ByteArray:=s.extract 1 s.size
def Ye (s:ByteArray):Bool:=decide (1<s.size)&&decide ((ZhX s).toNat=63)&&ZQ (ZvM s)
theorem QW (s:ByteArray):Zaz s=some (Ye s):=by
 unfold Zaz Ye ZvM
 by_cases h:1<s.size
 ·have h':(1:Int)<((s.size:Nat):Int):=by omega
  simp only[h',h,decide_true,if_true,ZiF (show 1≤s.size by omega),A3,A5]
  rw [Zh _ ⟨by omega,by omega⟩,show A0 1=1 from rfl,X6,A3]
  by_cases h2:(ZhX s).toNat=63
  ·simp [h2]
  ·have:¬((ZhX s).toNat:Int)=63:=by omega
   simp [h2,this]
 ·have h':¬(1:Int)<((s.size:Nat):Int):=by omega
  simp [h',h]
theorem ZdQ (s:ByteArray):ZcP s=some (Ye s):=by
 unfold ZcP Ye ZvM
 by_cases h:1<s.size
 ·have h':(1:Int)<((s.size:Nat):Int):=by omega
  simp only[h',h,decide_true,if_true,ZiF (show 1≤s.size by omega),A3,A5]
  rw [Zh _ ⟨by omega,by omega⟩,show A0 1=1 from rfl,X1,A3]
  by_cases h2:(ZhX s).toNat=63
  ·simp [h2]
  ·have:¬((ZhX s).toNat:Int)=63:=by omega
   simp [h2,this]
 ·have h':¬(1:Int)<((s.size:Nat):Int):=by omega
  simp [h',h]
def Yj (s:ByteArray):Bool:=ZQ s||Ye s
theorem Zj3 (s:ByteArray):QS s=some (Yj s):=by
 unfold QS Yj
 rw [X6,QW]
 cases ZQ s<;>simp
theorem Zkd (s:ByteArray):QI s=some (Yj s):=by
 unfold QI Yj
 rw [X1,ZdQ]
 cases ZQ s<;>simp
theorem YV (l:List ByteArray) (s:ByteArray):ZV l s=some (Yx l s):=by
 unfold ZV Yx
 rw [Zco (p:=fun x=>sEq x s) (r:=true)]
 ·cases l.any fun x=>sEq x s<;>simp
 ·intro i x _
  cases sEq x s<;>simp
theorem Q5 (l:List ByteArray) (s:ByteArray):Xc l s=some (Yx l s):=by
 unfold Xc Yx
 rw [Zco (p:=fun x=>sEq x s) (r:=true)]
 ·cases l.any fun x=>sEq x s<;>simp
 ·intro i x _
  cases sEq x s<;>simp
theorem Qb (l:List ByteArray) (s:ByteArray) (h:l.length+1≤1073741824):XO l s=some (Qh l s):=by
 unfold XO
 refine (Zal (fun l _ (st:List ByteArray × Bool)=>some (if st.2=true then st.1++l else st.1++Qh l s)) (fun l _ (st:List ByteArray × Bool)=>st.1.length+l.length+(if st.2=true then 0 else 1)≤1073741824) ?_ ?_ l 0 ([],false) (by simpa using h)).trans (by simp)
 ·rintro i ⟨row,d⟩ hI
  cases d with
  | true=>simp
  | false=>simp only[A6,if_false,Qh];simp at hI;rw [Zh _ (by omega)]
 ·rintro x l i ⟨row,d⟩ hI
  left
  cases d with
  | true=>
   simp at hI
   exact ⟨(row++[x],true),by simp only[if_true];rw [Zh _ (by omega)],by simp;omega,by simp⟩
  | false=>
   simp at hI
   cases h1:sLt x s with
   | true=>exact ⟨(row++[x],false),by simp only[A6,if_false,if_true];rw [Zh _ (by omega)],by simp;omega,by simp [Qh,h1]⟩
   | false=>
    cases h2:sEq x s with
    | true=>exact ⟨(row++[x],true),by simp only[A6,if_false,if_true];rw [Zh _ (by omega)],by simp;omega,by simp [Qh,h1,h2]⟩
    | false=>exact ⟨(row++[s]++[x],true),by simp only[A6,if_false];rw [Zh _ (by omega),Zh _ (by omega)],by simp;omega,by simp [Qh,h1,h2]⟩
def Xf:ByteArray→List ByteArray→List ByteArray
 | _,[]=>[]
 | y,x::r=>if sEq y x=true then Xf x r else x::Xf x r
def ZlV:List ByteArray→List ByteArray
 | []=>[]
 | x::r=>x::Xf x r
theorem Zfv {z:ByteArray}:∀{l:List ByteArray} {y:ByteArray},z∈Xf y l→z∈l
 | [],_,h=>by simp [Xf] at h
 | x::r,y,h=>by
  simp only[Xf] at h
  split at h
  ·exact AR _ (Zfv h)
  ·rcases AE.1 h with rfl | h
   ·simp
   ·exact AR _ (Zfv h)
theorem Zjk {z:ByteArray}:∀{l:List ByteArray} {y:ByteArray},z∈l→z=y∨z∈Xf y l
 | [],_,h=>by simp at h
 | x::r,y,h=>by
  simp only[Xf]
  rcases AE.1 h with rfl | h
  ·split
   ·rename_i e;exact .inl (ZO.1 e).symm
   ·simp
  ·rcases Zjk (y:=x) h with rfl | h'
   ·split
    ·rename_i e;exact .inl (ZO.1 e).symm
    ·simp
   ·split
    ·exact .inr h'
    ·exact .inr (AR _ h')
theorem Zi9:∀{l:List ByteArray} {y:ByteArray},(y::l).Pairwise (fun a b=>sLt b a=false)→Asc (y::Xf y l)
 | [],_,_=>by simp [Xf,Asc]
 | x::r,y,h=>by
  rw [AS] at h
  have ih:=Zi9 h.2
  simp only[Xf]
  split
  ·rename_i e
   have e':=ZO.1 e
   subst e'
   exact ih
  ·rename_i e
   have hyx:sLt y x=true:=ZeS (h.1 x (by simp)) (fun h=>e (ZO.2 h.symm))
   refine AS.2 ⟨fun z mz=>?_,ih⟩
   rcases AE.1 mz with rfl | mz
   ·exact hyx
   ·exact Zfa hyx ((AS.1 ih).1 z mz)
theorem ZoI (l:List ByteArray):ZlV (Ze2 l)=ZT l:=by
 have hs:=Zu8 l
 refine Zfi ?_ fun x=>?_
 ·cases h:Ze2 l with
  | nil=>simp [ZlV,Asc]
  | cons y r=>rw [h] at hs;exact Zi9 hs
 ·rw [←ZtE (l:=l)]
  cases h:Ze2 l with
  | nil=>simp [ZlV]
  | cons y r=>
   simp only[ZlV,AE]
   constructor
   ·rintro (rfl | h)
    ·exact .inl rfl
    ·exact .inr (Zfv h)
   ·rintro (rfl | h)
    ·exact .inl rfl
    ·exact Zjk h
theorem XZ (l:List ByteArray) (h:l.length≤1073741824):Ym l=some (ZT l):=by
 unfold Ym
 rw [Zh _ h,Zcb,Zh _ (by omega),A3]
 have hl:=ZuF l
 rw [←ZoI]
 generalize Ze2 l=v at hl
 refine (Zal (fun r i (row:List ByteArray)=>some (row++match i with | 0=>ZlV r | i+1=>(match v[i]? with | some y=>Xf y r | none=>[]))) (fun r i row=>v.drop i=r∧row.length≤i∧i≤v.length) ?_ ?_ v 0 [] ⟨by simp,by simp,by simp⟩).trans (by simp)
 ·rintro i row ⟨h1,h2,h3⟩
  cases i with
  | zero=>simp [ZlV]
  | succ i=>cases hv:v[i]?<;>simp [Xf,hv]
 ·rintro x r i row ⟨h1,h2,h3⟩
  left
  have hi:v[i]?=some x:=by have:=congrArg (fun l=>l[0]?) h1;simpa using this
  have hlt:i<v.length:=(AN.1 hi).1
  have hr:v.drop (i+1)=r:=by have:=congrArg AT h1;simpa using this
  cases i with
  | zero=>
   refine ⟨row++[x],?_,⟨hr,by simp at h2 ⊢;simp [h2],by omega⟩,?_⟩
   ·simp only[Int.natCast_zero,beq_self_eq_true,if_true]
    rw [Zh _ (by omega)]
   ·simp [ZlV,hi]
  | succ i=>
   have hw:IntKind.i64.wrap (((i+1:Nat):Int) - 1)=((i:Nat):Int):=by rw [YW (by omega) (by omega)];omega
   have hne:((((i+1:Nat):Int))==0)=false:=by rw [beq_eq_false_iff_ne];omega
   obtain ⟨y,hy⟩:∃y,v[i]?=some y:=⟨v[i],by simp⟩
   simp only[hne,A6,if_false,hw,A8,hy,A3]
   cases he:sEq y x with
   | true=>
    refine ⟨row,?_,⟨hr,by omega,by omega⟩,?_⟩
    ·rw [Zh _ ⟨by omega,by omega⟩];rfl
    ·simp [Xf,he,hi]
   | false=>
    refine ⟨row++[x],?_,⟨hr,by simp;omega,by omega⟩,?_⟩
    ·rw [Zh _ ⟨by omega,by omega⟩]
     simp only[A6,if_false]
     rw [Zh _ (by omega)]
    ·simp [Xf,he,hi]
theorem Zf6 (l:List ByteArray) (h:l.length≤1073741824):Za6 l=some l:=by
 unfold Za6
 rw [Zh _ h]
theorem ZoP (l:List ByteArray) (h:l.length≤1073741824):Zfc l=some l:=by
 unfold Zfc
 rw [Zh _ h]
theorem Zmv {ρ:Type} {fin:List ByteArray→Option ρ} {body:Nat→ByteArray→List ByteArray→Option (List ByteArray ⊕ ρ)} (hb:∀j x s,body j x s=(XO s x).bind fun v=>some (.inl v)) {l acc:List ByteArray} (h:acc.length+l.length≤1073741824):Zo body fin l 0 acc=fin (l.foldl Qh acc):=by
 refine YM (f:=Qh) (fun j s=>s.length≤acc.length+j) (by omega) fun j x s mx hj hl hI=>?_
 have hp:=Zdx x s
 exact ⟨by rw [hb,Qb _ _ (by omega)];rfl,by omega⟩
def ZR (p:Zv):Bool:=X9 p.rel&&decide (p.args.length≤3)&&p.args.all Yj
theorem QK (p:Zv):YS p=some (ZR p):=by
 unfold YS ZR
 rw [ZU (p:=Yj) (r:=false)]
 ·simp only[Zgv,A3]
  have:decide (((p.args.length:Nat):Int)≤3)=decide (p.args.length≤3):=by rw [AA];simp only[decide_eq_true_eq];omega
  rw [this]
  cases p.args.all Yj<;>cases X9 p.rel<;>simp
 ·intro i x _
  rw [Zj3]
  cases Yj x<;>simp
theorem Zbe (p:Zv):Y9 p=some (ZR p):=by
 unfold Y9 ZR
 rw [Zga,ZU (p:=Yj) (r:=false)]
 ·by_cases h:p.args.length≤3
  ·have h':¬(3:Int)<((p.args.length:Nat):Int):=by omega
   cases p.args.all Yj<;>cases X9 p.rel<;>simp [h,h']
  ·have h':(3:Int)<((p.args.length:Nat):Int):=by omega
   cases X9 p.rel<;>simp [h,h']
 ·intro i x _
  rw [Zkd]
  cases Yj x<;>simp
def Y3 (p:Zv):Bool:=sEq p.rel ⟨#[]⟩&&decide (p.args.length=0)
theorem Zud {α:Type} (l:List α):((((l.length:Nat):Int))==0)=decide (l.length=0):=by
 rw [AA,beq_iff_eq,decide_eq_true_eq];omega
theorem ZeC (p:Zv):Y8 p=some (Y3 p):=by
 unfold Y8 Y3
 rw [Zud]
 cases sEq p.rel ⟨#[]⟩<;>simp
def Yk (x:Zt):Bool:=
 if x.kind=1∨x.kind=2 then ZR x.pattern&&sEq x.left ⟨#[]⟩&&sEq x.right ⟨#[]⟩
 else if x.kind=3∨x.kind=4∨x.kind=5 then Y3 x.pattern&&Yj x.left&&Yj x.right
 else false
theorem Zcv (x:Zt):Zcn x=some (Yk x):=by
 unfold Zcn Yk
 simp only[QK,Zj3,A3,Y3,Zud,beq_iff_eq]
 by_cases h1:x.kind=1
 ·simp only[h1,if_true,true_or];cases ZR x.pattern<;>cases sEq x.left ⟨#[]⟩<;>simp
 by_cases h2:x.kind=2
 ·simp only[h2,if_true,or_true];cases ZR x.pattern<;>cases sEq x.left ⟨#[]⟩<;>simp
 simp only[h1,h2,if_false,or_self]
 by_cases h3:x.kind=3
 ·simp only[h3,if_true,true_or];cases sEq x.pattern.rel ⟨#[]⟩<;>cases decide (x.pattern.args.length=0)<;>cases Yj x.left<;>simp
 by_cases h4:x.kind=4
 ·simp only[h4,if_true,true_or,or_true];cases sEq x.pattern.rel ⟨#[]⟩<;>cases decide (x.pattern.args.length=0)<;>cases Yj x.left<;>simp
 by_cases h5:x.kind=5
 ·simp only[h5,if_true,or_true];cases sEq x.pattern.rel ⟨#[]⟩<;>cases decide (x.pattern.args.length=0)<;>cases Yj x.left<;>simp
 simp [h3,h4,h5]
theorem Zg4 (x:Zt):ZdA x=some (Yk x):=by
 unfold ZdA Yk
 simp only[Zbe,Zkd,ZeC,A3,beq_iff_eq]
 by_cases h1:x.kind=1
 ·simp only[h1,if_true,true_or];cases ZR x.pattern<;>cases sEq x.left ⟨#[]⟩<;>simp
 by_cases h2:x.kind=2
 ·simp only[h2,if_true,or_true];cases ZR x.pattern<;>cases sEq x.left ⟨#[]⟩<;>simp
 simp only[h1,h2,if_false,or_self]
 by_cases h3:x.kind=3
 ·simp only[h3,if_true,true_or];cases Y3 x.pattern<;>cases Yj x.left<;>cases Yj x.right<;>simp
 by_cases h4:x.kind=4
 ·simp only[h4,if_true,true_or,or_true];cases Y3 x.pattern<;>cases Yj x.left<;>cases Yj x.right<;>simp
 by_cases h5:x.kind=5
 ·simp only[h5,if_true,or_true];cases Y3 x.pattern<;>cases Yj x.left<;>cases Yj x.right<;>simp
 simp [h3,h4,h5]
theorem Zo4 {x:Zt} (h:Yk x=true):x.kind=1∨x.kind=2∨x.kind=3∨x.kind=4∨x.kind=5:=by
 unfold Yk at h
 split at h
 ·rename_i h1;omega
 ·split at h
  ·rename_i h1;omega
  ·simp at h
theorem Zqc (x:Zt):Zbf x=some (Yk x&&decide (3≤x.kind)):=by
 unfold Zbf
 rw [Zcv]
 cases Yk x<;>simp
def Xq (a:Zz):Bool:=
 if a.kind=1∨a.kind=2 then ZR a.pattern else if a.kind=3 then Y3 a.pattern else false
theorem Zm9 (a:Zz):Zdd a=some (Xq a):=by
 unfold Zdd Xq
 simp only[QK,A3,Y3,Zud,beq_iff_eq]
 by_cases h1:a.kind=1
 ·simp [h1]
 by_cases h2:a.kind=2
 ·simp [h2]
 by_cases h3:a.kind=3
 ·simp only[h3,if_true];cases sEq a.pattern.rel ⟨#[]⟩<;>simp
 simp [h1,h2,h3]
theorem Znc (a:Zz):Zdl a=some (Xq a):=by
 unfold Zdl Xq
 simp only[Zbe,ZeC,A3,beq_iff_eq]
 by_cases h1:a.kind=1
 ·simp [h1]
 by_cases h2:a.kind=2
 ·simp [h2]
 by_cases h3:a.kind=3
 ·simp [h3]
 simp [h1,h2,h3]
def Y2 (l:List ByteArray):List ByteArray:=l.filter Ye
theorem ZcZ (l:List ByteArray):(Y2 l).length≤l.length:=List.length_filter_le _ _
theorem ZbJ {x:ByteArray} {l:List ByteArray}:x∈Y2 l↔x∈l∧Ye x=true:=by simp [Y2]
theorem Zdz (l:List ByteArray) (h:l.length≤1073741824):QM l=some (Y2 l):=by
 unfold QM
 rw [Zcm (p:=Ye)]
 ·simp [Y2]
 ·intro j x s _ hs
  rw [ZdQ,A3]
  split
  ·rw [Zh _ (by simp at hs;omega)]
  ·rfl
theorem Zke {p:ByteArray→Bool}:∀(l acc:List ByteArray),l.foldl (fun s x=>if p x=true then Qh s x else s) acc=(l.filter p).foldl Qh acc
 | [],_=>rfl
 | x::l,acc=>by
  rw [AO,Zke l]
  by_cases h:p x=true<;>simp [h]
theorem Zch (p:Zv) (h:p.args.length≤1073741823):Zba p=some (ZT (Y2 p.args)):=by
 unfold Zba
 rw [YM (f:=fun s x=>if Ye x=true then Qh s x else s) (fun j s=>s.length≤j) (by simp)]
 ·rw [Zke];rfl
 ·intro j x s _ _ hl hI
  simp at hl
  have:=Zdx x s
  rw [QW,A3]
  split
  ·rw [Qb _ _ (by omega)]
   exact ⟨rfl,by omega⟩
  ·exact ⟨rfl,by omega⟩
def Zfz (x:Zt):List ByteArray:=x.pattern.args++[x.left,x.right]
def YB (x:Zt):List ByteArray:=ZT (Y2 (Zfz x))
theorem Zb6 (x:Zt) (h:x.pattern.args.length≤1073741822):Qa x=some (YB x):=by
 unfold Qa Zhu
 rw [Zf6 _ (by omega),A3,Zh _ (by omega),A3,Zdz _ (by simp;omega),A3]
 have:=ZcZ (x.pattern.args++[x.left,x.right])
 simp at this
 rw [XZ _ (by omega)]
 rfl
theorem Zcc (x:Zt) (h:x.pattern.args.length≤1073741820):XH x=some (YB x):=by
 unfold XH
 have h1:=Zei (Y2 x.pattern.args)
 have h2:=ZcZ x.pattern.args
 have h3:=Zdx x.left (ZT (Y2 x.pattern.args))
 have key:∀l:List ByteArray,(∀y,y∈l↔y∈Y2 (Zfz x))→Asc l→l=YB x:=fun l hm ha=>Zfi ha hm
 rw [Zch _ (by omega),A3,QW,A3,QW]
 simp only[A3]
 rw [Qb _ _ (by omega),A3,Qb (Qh _ _) _ (by omega),A3,Qb _ x.right (by omega),A3]
 cases hl:Ye x.left<;>cases hr:Ye x.right<;>simp only[if_true,A6,if_false]<;>congr 1<;>apply key<;>(try intro y)<;>(try simp only[Zjb,ZP,ZbJ,Zfz,A4,AE,AZ,or_false])
 all_goals first
  | exact ZcG _
  | exact Zf3 (ZcG _)
  | exact Zf3 (Zf3 (ZcG _))
  | skip
 ·constructor
  ·rintro ⟨a,b⟩;exact ⟨.inl a,b⟩
  ·rintro ⟨a | rfl | rfl,b⟩
   ·exact ⟨a,b⟩
   ·rw [hl] at b;simp at b
   ·rw [hr] at b;simp at b
 ·constructor
  ·rintro (rfl | ⟨a,b⟩)
   ·exact ⟨by simp,hr⟩
   ·exact ⟨.inl a,b⟩
  ·rintro ⟨a | rfl | rfl,b⟩
   ·exact .inr ⟨a,b⟩
   ·rw [hl] at b;simp at b
   ·exact .inl rfl
 ·constructor
  ·rintro (rfl | ⟨a,b⟩)
   ·exact ⟨by simp,hl⟩
   ·exact ⟨.inl a,b⟩
  ·rintro ⟨a | rfl | rfl,b⟩
   ·exact .inr ⟨a,b⟩
   ·exact .inl rfl
   ·rw [hr] at b;simp at b
 ·constructor
  ·rintro (rfl | rfl | ⟨a,b⟩)
   ·exact ⟨by simp,hr⟩
   ·exact ⟨by simp,hl⟩
   ·exact ⟨.inl a,b⟩
  ·rintro ⟨a | rfl | rfl,b⟩
   ·exact .inr (.inr ⟨a,b⟩)
   ·exact .inr (.inl rfl)
   ·exact .inl rfl
theorem Zhk (x:Zt):(YB x).length≤x.pattern.args.length+2:=by
 have h1:=Zei (Y2 (Zfz x))
 have h2:=ZcZ (Zfz x)
 have h3:(Zfz x).length=x.pattern.args.length+2:=by simp [Zfz]
 unfold YB
 omega
theorem ZuC {x:Zt} {v:ByteArray} (h:v∈YB x):Ye v=true:=(ZbJ.1 (ZP.1 h)).2
structure QC (r:Zg):Prop where
 cl:r.cond.length≤1048576
 tl:r.thn.length≤1048576
 ca:∀x∈r.cond,x.pattern.args.length≤1048576
 ta:∀a∈r.thn,a.pattern.args.length≤1048576
def Yr (l:List Zt):List ByteArray:=l.flatMap fun x=>if x.kind=1 then Y2 x.pattern.args else []
def YD (r:Zg) (n:Nat):List ByteArray:=ZT (Yr (r.cond.take n))
theorem Zdy (r:Zg) (n:Int) (h:QC r) (h4:r.cond.length≤4):QN r n=some (YD r n.toNat):=by
 unfold QN YD
 refine (Zal (fun l i (row:List ByteArray)=>some (ZT (row++Yr (l.take (n.toNat - i))))) (fun l i row=>r.cond.drop i=l∧row.length≤1048576 * i∧i≤r.cond.length) ?_ ?_ r.cond 0 [] ⟨by simp,by simp,by simp⟩).trans (by simp)
 ·rintro i row ⟨h1,h2,h3⟩
  rw [XZ _ (by omega)]
  simp [Yr]
 ·rintro x l i row ⟨h1,h2,h3⟩
  left
  have hi:r.cond[i]?=some x:=by have:=congrArg (fun l=>l[0]?) h1;simpa using this
  have hlt:i<r.cond.length:=(AN.1 hi).1
  have hr:r.cond.drop (i+1)=l:=by have:=congrArg AT h1;simpa using this
  have hx:=h.ca x (AC hi)
  have hv:=ZcZ x.pattern.args
  by_cases hn:((i:Nat):Int)<n
  ·have e:n.toNat - i=(n.toNat - (i+1))+1:=by omega
   by_cases hk:x.kind=1
   ·refine ⟨row++Y2 x.pattern.args,?_,⟨hr,by simp;omega,by omega⟩,?_⟩
    ·simp only[hn,hk,decide_true,beq_self_eq_true,if_true]
     rw [Zdz _ (by omega),A3,Zh _ (by omega)]
    ·rw [e];simp [Yr,hk]
   ·refine ⟨row,?_,⟨hr,by omega,by omega⟩,?_⟩
    ·simp [hn,hk]
    ·rw [e];simp [Yr,hk]
  ·have e:n.toNat - i=0:=by omega
   have e':n.toNat - (i+1)=0:=by omega
   refine ⟨row,?_,⟨hr,by omega,by omega⟩,?_⟩
   ·simp [hn]
   ·rw [e,e'];simp
theorem ZdY (r:Zg) (n:Int) (h:QC r) (h4:r.cond.length≤4):X5 r n=some (YD r n.toNat):=by
 unfold X5 YD
 refine (Zal (fun l i (row:List ByteArray)=>some ((Yr (l.take (n.toNat - i))).foldl Qh row)) (fun l i row=>r.cond.drop i=l∧row.length≤1048576 * i∧i≤r.cond.length∧Asc row) ?_ ?_ r.cond 0 [] ⟨by simp,by simp,by simp,AD⟩).trans (by simp [ZT])
 ·rintro i row ⟨h1,h2,h3,h5⟩
  simp [Yr]
 ·rintro x l i row ⟨h1,h2,h3,h5⟩
  have hi:r.cond[i]?=some x:=by have:=congrArg (fun l=>l[0]?) h1;simpa using this
  have hlt:i<r.cond.length:=(AN.1 hi).1
  have hr:r.cond.drop (i+1)=l:=by have:=congrArg AT h1;simpa using this
  have hx:=h.ca x (AC hi)
  have hv:=ZcZ x.pattern.args
  have hs:=Zei (Y2 x.pattern.args)
  by_cases hn:((i:Nat):Int)<n
  ·left
   have e:n.toNat - i=(n.toNat - (i+1))+1:=by omega
   by_cases hk:x.kind=1
   ·obtain ⟨f1,f2,f3⟩:=XP (ZT (Y2 x.pattern.args)) row h5
    refine ⟨(ZT (Y2 x.pattern.args)).foldl Qh row,?_,⟨hr,by omega,by omega,f1⟩,?_⟩
    ·simp only[hn,hk,decide_true,beq_self_eq_true,if_true]
     rw [Zch _ (by omega),A3,Zmv (fun _ _ _=>rfl) (by omega)]
    ·rw [e]
     simp only[Yr,List.take_succ_cons,AP,hk,if_true,Aa]
     congr 2
     obtain ⟨g1,g2,_⟩:=XP (Y2 x.pattern.args) row h5
     exact ZoX g1 f1 fun y=>by rw [g2,f2,ZP]
   ·refine ⟨row,?_,⟨hr,by omega,by omega,h5⟩,?_⟩
    ·simp [hn,hk]
    ·rw [e];simp [Yr,hk]
  ·right
   have e:n.toNat - i=0:=by omega
   refine ⟨row,by simp [hn],by rw [e];simp [Yr]⟩
def Zmm (r:Zg) (i:Int) (v:ByteArray):Bool:=!(Q0 (fun k x=>!(decide ((k:Int)≠i)&&Yx (YB x) v)) r.cond 0&&r.thn.all fun a=>!Yx a.pattern.args v)
theorem Zgj {r:Zg} {i:Int} {v:ByteArray} {f:Zt→Option (List ByteArray)} {g:List ByteArray→ByteArray→Option Bool} (hf:∀x∈r.cond,f x=some (YB x)) (hg:∀l,g l v=some (Yx l v)) {fin:Unit→Option Bool} (hfin:fin ()=some (!(r.thn.all fun a=>!Yx a.pattern.args v))):
  Zo (σ:=Unit) (fun (k:Nat) (x:Zt) _=>if (((k:Nat):Int) != i)=true then (f x).bind fun l=>(g l v).bind fun b=>if b=true then some (.inr true) else some (.inl ()) else some (.inl ())) fin r.cond 0 ()=some (Zmm r i v):=by
 rw [Xu (p:=fun k x=>!(decide ((k:Int)≠i)&&Yx (YB x) v)) (r:=true)]
 ·unfold Zmm
  cases Q0 (fun k x=>!(decide ((k:Int)≠i)&&Yx (YB x) v)) r.cond 0 with
  | true=>simp only[if_true,hfin,A5]
  | false=>simp
 ·intro j x hj
  rw [hf x (AC hj),A3,hg,A3,AK]
  by_cases h:(j:Int)=i
  ·simp [h]
  ·have:((j:Int) != i)=true:=by simpa using h
   simp only[this,if_true]
   cases Yx (YB x) v<;>simp [h]
theorem ZgA (r:Zg) (i:Int) (v:ByteArray) (h:QC r):XC r i v=some (Zmm r i v):=by
 unfold XC
 refine Zgj (f:=Qa) (g:=Xc) (fun x mx=>Zb6 x (by have:=h.ca x mx;omega)) (fun l=>Q5 l v) ?_
 rw [Zco (p:=fun a=>Yx a.pattern.args v) (r:=true)]
 ·simp only[←Ab,Ac]
  cases r.thn.any fun a=>Yx a.pattern.args v<;>rfl
 ·intro j a _
  rw [Q5]
  cases Yx a.pattern.args v<;>simp
theorem ZjV (r:Zg) (i:Int) (v:ByteArray) (h:QC r) (hv:Ye v=true):XK r i v=some (Zmm r i v):=by
 unfold XK
 refine Zgj (f:=XH) (g:=ZV) (fun x mx=>Zcc x (by have:=h.ca x mx;omega)) (fun l=>YV l v) ?_
 rw [Zco (p:=fun a=>Yx a.pattern.args v) (r:=true)]
 ·simp only[←Ab,Ac]
  cases r.thn.any fun a=>Yx a.pattern.args v<;>rfl
 ·intro j a ma
  rw [Zch _ (by have:=h.ta a ma;omega),A3,YV,A3]
  have:Yx (ZT (Y2 a.pattern.args)) v=Yx a.pattern.args v:=by
   rw [AA,Xw,Xw,ZP,ZbJ]
   simp [hv]
  rw [this]
  cases Yx a.pattern.args v<;>simp
def ZmC (r:Zg) (i:Nat) (x:Zt) (v:ByteArray):Bool:=decide (x.kind=1)||Yx (YD r i) v||(decide (x.kind=2)&&!Zmm r i v)
def Zgd (r:Zg) (i:Nat) (x:Zt):Bool:=(YB x).all (ZmC r i x)
theorem Zne (r:Zg) (i:Nat) (x:Zt) (h:QC r) (h4:r.cond.length≤4) (hx:r.cond[i]?=some x):ZbT r i=some (Zgd r i x):=by
 unfold ZbT Zgd
 have ha:atI r.cond (i:Int)=some x:=by unfold atI;rw [if_pos (by omega),A8];exact hx
 rw [ha,A3,Zdy r _ h h4,A3,Zb6 x (by have:=h.ca x (AC hx);omega),A3,A8]
 rw [ZU (p:=ZmC r i x) (r:=false)]
 ·cases (YB x).all (ZmC r i x)<;>rfl
 ·intro j v mv
  rw [Q5,ZgA r _ v h]
  simp only[A3,ZmC,beq_iff_eq,bne_iff_ne,ne_eq]
  by_cases h1:x.kind=1
  ·simp [h1]
  ·simp only[h1,if_false,decide_false,AQ]
   cases Yx (YD r i) v with
   | true=>simp
   | false=>
    by_cases h2:x.kind=2
    ·simp only[h2,not_true_eq_false,if_false,A6,decide_true,A5,AQ]
     cases Zmm r i v<;>simp
    ·simp [h2]
def YQ (r:Zg):Bool:=
 X9 r.name&&decide (0≤r.priority)&&decide (r.priority≤9)&&decide (1≤r.cond.length)&&decide (r.cond.length≤4)&&decide (1≤r.thn.length)&&decide (r.thn.length≤2)
  && Q0 (fun i x=>Yk x&&(decide (i≠0)||decide (x.kind=1))&&Zgd r i x) r.cond 0
  && r.thn.all (fun a=>Xq a&&(Y2 a.pattern.args).all (Yx (YD r r.cond.length)))
  && decide ((ZT (r.cond.flatMap YB)).length≤6)
theorem ZkP (l:List Zt) (h:∀x∈l,x.pattern.args.length≤1048576) (h4:l.length≤4):Zbp l=some (l.flatMap YB):=by
 unfold Zbp
 rw [YM (f:=fun s x=>s++YB x) (fun j s=>s.length≤1048578 * j) (by simp)]
 ·congr 1
  have:∀(l:List Zt) (acc:List ByteArray),l.foldl (fun s x=>s++YB x) acc=acc++l.flatMap YB:=by
   intro l
   induction l with
   | nil=>simp
   | cons x l ih=>intro acc;rw [AO,ih];simp
  simpa using this l []
 ·intro j x s mx _ hl hI
  have:=h x mx
  have:=Zhk x
  rw [Zb6 x (by omega),A3,Zh _ (by omega)]
  exact ⟨rfl,by simp;omega⟩
theorem Zj7 (r:Zg) (h:QC r):Zfe r=some (YQ r):=by
 unfold Zfe YQ
 rw [Zga,A3]
 cases X9 r.name with
 | false=>simp
 | true=>
 simp only[if_true,decide_eq_true_eq,A5]
 split
 ·rw [decide_eq_false (show ¬0≤r.priority by omega)];simp
 split
 ·rw [decide_eq_false (show ¬r.priority≤9 by omega)];simp
 split
 ·rw [decide_eq_false (show ¬1≤r.cond.length by omega)];simp
 split
 ·rw [decide_eq_false (show ¬r.cond.length≤4 by omega)];simp
 split
 ·rw [decide_eq_false (show ¬1≤r.thn.length by omega)];simp
 split
 ·rw [decide_eq_false (show ¬r.thn.length≤2 by omega)];simp
 rw [decide_eq_true (show 0≤r.priority by omega),decide_eq_true (show r.priority≤9 by omega),decide_eq_true (show 1≤r.cond.length by omega),decide_eq_true (show r.cond.length≤4 by omega),decide_eq_true (show 1≤r.thn.length by omega),decide_eq_true (show r.thn.length≤2 by omega)]
 simp only[A5]
 have h4:r.cond.length≤4:=by omega
 rw [Xu (p:=fun i x=>Yk x&&(decide (i≠0)||decide (x.kind=1))&&Zgd r i x) (r:=false)]
 ·cases Q0 (fun i x=>Yk x&&(decide (i≠0)||decide (x.kind=1))&&Zgd r i x) r.cond 0 with
  | false=>simp
  | true=>
   simp only[if_true,A5]
   rw [Zdy r _ h h4,A3,A8,ZU (p:=fun a=>Xq a&&(Y2 a.pattern.args).all (Yx (YD r r.cond.length))) (r:=false)]
   ·cases r.thn.all fun a=>Xq a&&(Y2 a.pattern.args).all (Yx (YD r r.cond.length)) with
    | false=>simp
    | true=>
     have hl:(r.cond.flatMap YB).length≤1048578 * r.cond.length:=by
      have:∀l:List Zt,(∀x∈l,x.pattern.args.length≤1048576)→(l.flatMap YB).length≤1048578 * l.length:=by
       intro l
       induction l with
       | nil=>simp
       | cons x l ih=>
        intro hl
        have h1:=ih fun y my=>hl y (by simp [my])
        have h2:=hl x (by simp)
        have h3:=Zhk x
        simp only[AP,AF,AL]
        omega
      exact this r.cond h.ca
     simp only[if_true,A5]
     rw [ZkP _ h.ca h4,A3,XZ _ (by omega),A3]
     congr 1
     rw [AA]
     simp only[decide_eq_true_eq]
     omega
   ·intro j a ma
    rw [Znc,A3]
    cases Xq a with
    | false=>simp
    | true=>
     simp only[if_true,A5]
     rw [Zdz _ (by have:=h.ta a ma;omega),A3,ZU (p:=Yx (YD r r.cond.length)) (r:=.inr false)]
     ·cases (Y2 a.pattern.args).all (Yx (YD r r.cond.length))<;>rfl
     ·intro k v _
      rw [Q5,A3]
      cases Yx (YD r r.cond.length) v<;>simp
 ·intro j x hj
  rw [AK,Zg4,A3,Zne r j x h h4 hj]
  simp only[A3]
  cases Yk x with
  | false=>simp
  | true=>
   by_cases h0:j=0
   ·subst h0
    by_cases hk:x.kind=1
    ·simp only[hk];cases Zgd r 0 x<;>simp
    ·simp [hk]
   ·have:((j:Int)==0)=false:=by rw [beq_eq_false_iff_ne];omega
    simp only[this]
    cases Zgd r j x<;>simp [h0]
theorem ZfB {α:Type} (f:α→List ByteArray):∀(l:List α) (acc:List ByteArray),Asc acc→l.foldl (fun s x=>(f x).foldl Qh s) acc=(l.flatMap f).foldl Qh acc
 | [],_,_=>rfl
 | x::l,acc,h=>by rw [AO,ZfB f l _ (XP (f x) acc h).1,AP,Aa]
def Zmw (r:Zg):List ByteArray:=ZT (r.cond.flatMap YB++r.thn.flatMap fun a=>Y2 a.pattern.args)
theorem Znj (r:Zg) (h:QC r) (h4:r.cond.length≤4) (h2:r.thn.length≤2):ZdB r=some (Zmw r):=by
 unfold ZdB Zmw
 rw [YM (f:=fun s x=>(YB x).foldl Qh s) (fun j s=>s.length≤1048578 * j∧Asc s) ⟨by simp,AD⟩]
 ·have hA:=ZfB YB r.cond [] AD
  have hB:Asc (r.cond.foldl (fun s x=>(YB x).foldl Qh s) []):=by rw [hA];exact (XP _ [] AD).1
  have hl:(r.cond.foldl (fun s x=>(YB x).foldl Qh s) []).length≤1048578 * 4:=by
   rw [hA]
   have:=(XP (r.cond.flatMap YB) [] AD).2.2
   have h3:(r.cond.flatMap YB).length≤1048578 * r.cond.length:=by
    have:∀l:List Zt,(∀x∈l,x.pattern.args.length≤1048576)→(l.flatMap YB).length≤1048578 * l.length:=by
     intro l
     induction l with
     | nil=>simp
     | cons x l ih=>
      intro hl
      have h1:=ih fun y my=>hl y (by simp [my])
      have h2:=hl x (by simp)
      have h3:=Zhk x
      simp only[AP,AF,AL]
      omega
    exact this r.cond h.ca
   simp only[List.length_nil,Nat.add_zero] at this
   omega
  rw [YM (f:=fun s a=>(ZT (Y2 a.pattern.args)).foldl Qh s) (fun j s=>s.length≤1048578 * 4+1048576 * j∧Asc s) ⟨by omega,hB⟩]
  ·congr 1
   rw [ZfB (fun a:Zz=>ZT (Y2 a.pattern.args)) r.thn _ hB,hA]
   refine Zfi (XP _ _ (XP _ [] AD).1).1 fun y=>?_
   rw [(XP _ _ (XP _ [] AD).1).2.1 y,(XP _ [] AD).2.1 y]
   simp only[A4,AM,ZP,AZ,or_false]
   exact Or.comm
  ·intro j a s ma _ hj hI
   have h5:=h.ta a ma
   have h6:=ZcZ a.pattern.args
   have h7:=Zei (Y2 a.pattern.args)
   obtain ⟨f1,f2,f3⟩:=XP (ZT (Y2 a.pattern.args)) s hI.2
   rw [Zch _ (by omega),A3,Zmv (fun _ _ _=>rfl) (by omega)]
   exact ⟨rfl,by omega,f1⟩
 ·intro j x s mx _ hj hI
  have h5:=h.ca x mx
  have h6:=Zhk x
  obtain ⟨f1,f2,f3⟩:=XP (YB x) s hI.2
  rw [Zcc _ (by omega),A3,Zmv (fun _ _ _=>rfl) (by omega)]
  exact ⟨rfl,by omega,f1⟩
theorem Zrm {l:List Zt} {y:ByteArray} (h:y∈Yr l):y∈l.flatMap YB:=by
 simp only[Yr,AM] at h ⊢
 obtain ⟨x,hx,hy⟩:=h
 refine ⟨x,hx,?_⟩
 split at hy
 ·rw [YB,ZP,ZbJ]
  rw [ZbJ] at hy
  exact ⟨by simp [Zfz,hy.1],hy.2⟩
 ·simp at hy
theorem Zgg (r:Zg) (h:QC r):Zcu r=some (YQ r):=by
 unfold Zcu YQ
 rw [Zgv,A3]
 cases X9 r.name with
 | false=>simp
 | true=>
 simp only[if_true,Zhs,A3,A5,A9,decide_eq_true_eq]
 split
 rotate_left
 ·rename_i hh
  have:(decide (0≤r.priority)&&decide (r.priority≤9))=false:=by simp;omega
  rw [this];simp
 rename_i hp
 rw [decide_eq_true hp.1,decide_eq_true hp.2]
 split
 rotate_left
 ·rename_i hh
  have:(decide (1≤r.cond.length)&&decide (r.cond.length≤4))=false:=by simp;omega
  simp only[A5,this,Ad]
 rename_i hc
 rw [decide_eq_true (show 1≤r.cond.length by omega),decide_eq_true (show r.cond.length≤4 by omega)]
 split
 rotate_left
 ·rename_i hh
  have:(decide (1≤r.thn.length)&&decide (r.thn.length≤2))=false:=by simp;omega
  simp only[A5,this,Ad]
 rename_i ht
 rw [decide_eq_true (show 1≤r.thn.length by omega),decide_eq_true (show r.thn.length≤2 by omega)]
 simp only[A5]
 have h4:r.cond.length≤4:=by omega
 rw [ZdY r _ h h4,A3,A8]
 rw [Xu (p:=fun i x=>Yk x&&(decide (i≠0)||decide (x.kind=1))&&Zgd r i x) (r:=false)]
 ·cases Q0 (fun i x=>Yk x&&(decide (i≠0)||decide (x.kind=1))&&Zgd r i x) r.cond 0 with
  | false=>simp
  | true=>
   simp only[if_true,A5]
   rw [ZU (p:=fun a=>Xq a&&(Y2 a.pattern.args).all (Yx (YD r r.cond.length))) (r:=false)]
   ·cases ha:r.thn.all fun a=>Xq a&&(Y2 a.pattern.args).all (Yx (YD r r.cond.length)) with
    | false=>simp
    | true=>
     simp only[if_true,A5]
     rw [Znj r h h4 (by omega),A3]
     have e:Zmw r=ZT (r.cond.flatMap YB):=ZmV fun y=>by
      simp only[A4]
      refine ⟨fun hy=>?_,.inl⟩
      rcases hy with hy | hy
      ·exact hy
      ·obtain ⟨a,ma,hy⟩:=AM.1 hy
       have:=AJ.1 ha a ma
       simp only[A9] at this
       have:=AJ.1 this.2 y hy
       rw [Xw,YD,ZP,List.take_length] at this
       exact Zrm this
     rw [e]
     congr 1
     rw [AA]
     simp only[decide_eq_true_eq]
     omega
   ·intro j a ma
    rw [Zm9,A3]
    cases Xq a with
    | false=>simp
    | true=>
     simp only[if_true,A5]
     rw [Zch _ (by have:=h.ta a ma;omega),A3,ZU (p:=Yx (YD r r.cond.length)) (r:=.inr false)]
     ·have:(ZT (Y2 a.pattern.args)).all (Yx (YD r r.cond.length))=(Y2 a.pattern.args).all (Yx (YD r r.cond.length)):=by
       rw [AA,AJ,AJ]
       simp only[ZP]
      rw [this]
      cases (Y2 a.pattern.args).all (Yx (YD r r.cond.length))<;>rfl
     ·intro k v _
      rw [YV,A3]
      cases Yx (YD r r.cond.length) v<;>simp
 ·intro j x hj
  have hxa:=h.ca x (AC hj)
  rw [AK,Zcv,A3,ZdY r _ h h4,Zcc x (by omega),A8]
  simp only[A3]
  cases hic:Yk x with
  | false=>simp
  | true=>
   have loop:∀{fin:Unit→Option (Unit ⊕ Bool)} (hfin:fin ()=some (.inl ())),Zo (σ:=Unit) (ρ:=Unit ⊕ Bool) (fun (_:Nat) (v:ByteArray) _=>(ZV (YD r j) v).bind fun b=>(Zbf x).bind fun t=>if t=true then (if b=true then (if (x.kind==2)=true then some (.inl ()) else some (.inl ())) else some (.inr (.inr false))) else (if (x.kind==2)=true then (if b=true then some (.inl ()) else (XK r ((j:Nat):Int) v).bind fun e=>if e=true then some (.inr (.inr false)) else some (.inl ())) else some (.inl ()))) fin (YB x) 0 ()=some (bif Zgd r j x then .inl () else .inr false):=fun {fin} hfin=>by
    rw [ZU (p:=ZmC r j x) (r:=.inr false)]
    ·unfold Zgd
     cases (YB x).all (ZmC r j x)<;>simp [hfin]
    ·intro k v mv
     rw [YV,Zqc,ZjV r _ v h (ZuC mv),hic]
     simp only[A3,A5,decide_eq_true_eq,beq_iff_eq,ZmC]
     rcases Zo4 hic with hk | hk | hk | hk | hk<;>rw [hk]<;>cases Yx (YD r j) v<;>cases Zmm r j v<;>simp
   by_cases h0:j=0
   ·subst h0
    by_cases hk:x.kind=1
    ·have hk':(x.kind != 1)=false:=by simp [hk]
     simp only[if_true,hk',show (((0:Nat):Int)==0)=true from rfl,A6,if_false]
     rw [loop rfl]
     simp [hk]
    ·have hk':(x.kind != 1)=true:=by simpa using hk
     simp [hk',hk]
   ·have:((j:Int)==0)=false:=by rw [beq_eq_false_iff_ne];omega
    simp only[if_true,this,A6,if_false]
    rw [loop rfl]
    simp [h0]
theorem XB {r:Zg} (h:YQ r=true):r.cond.length≤4∧r.thn.length≤2:=by
 simp only[YQ,A9,decide_eq_true_eq] at h
 omega
def Zot (r:Zg):Bool:=r.thn.all fun a=>decide (a.kind=1)
def Zgu (r:Zg) (i:Nat) (x:Zt):Bool:=!decide (x.kind=2)||(YB x).all (Yx (YD r i))
def ZM (r:Zg):Bool:=YQ r&&Q0 (Zgu r) r.cond 0&&Zot r
theorem Zm7 (a b:List ByteArray):Zdm a b=some (a.all (Yx b)):=by
 unfold Zdm
 rw [ZU (p:=Yx b) (r:=false)]
 ·cases a.all (Yx b)<;>rfl
 ·intro i x _
  rw [YV,A3]
  cases Yx b x<;>simp
theorem ZnC {fin:Unit→Option Bool} {l:List Zz}:Zo (σ:=Unit) (fun (_:Nat) (x:Zz) _=>if (x.kind != 1)=true then some (.inr false) else some (.inl ())) fin l 0 ()=if (l.all fun a=>decide (a.kind=1))=true then fin () else some false:=by
 refine ZU fun i x _=>?_
 by_cases h:x.kind=1
 ·simp [h]
 ·have:(x.kind != 1)=true:=by simpa using h
  simp [this,h]
theorem ZmX (r:Zg):ZdJ r=some (Zot r):=by
 unfold ZdJ Zot
 rw [ZnC]
 cases r.thn.all fun a=>decide (a.kind=1)<;>rfl
theorem ZlX (r:Zg) (h:QC r):Zcx r=some (ZM r):=by
 unfold Zcx ZM
 rw [Zgg r h,A3]
 cases hr:YQ r with
 | false=>simp
 | true=>
  have h4:=(XB hr).1
  simp only[if_true,A5]
  rw [Xu (p:=Zgu r) (r:=false),ZnC]
  ·unfold Zot
   cases Q0 (Zgu r) r.cond 0<;>cases r.thn.all fun a=>decide (a.kind=1)<;>simp
  ·intro j x hj
   rw [AK,Zcc x (by have:=h.ca x (AC hj);omega),ZdY r _ h h4,A8]
   simp only[A3,Zm7,Zgu]
   by_cases hk:x.kind=2
   ·simp only[hk,beq_self_eq_true,if_true,decide_true,Ae,AQ]
    cases (YB x).all (Yx (YD r j))<;>simp
   ·simp [hk]
theorem ZlO (r:Zg) (h:QC r):Zci r=some (ZM r):=by
 unfold Zci ZM
 rw [Zj7 r h,A3,ZmX]
 cases hr:YQ r with
 | false=>simp
 | true=>
  have h4:=(XB hr).1
  simp only[if_true,A5,A3]
  rw [Xu (p:=Zgu r) (r:=false)]
  ·cases Q0 (Zgu r) r.cond 0<;>cases Zot r<;>simp
  ·intro j x hj
   rw [AK,Zb6 x (by have:=h.ca x (AC hj);omega),Zdy r _ h h4,A8]
   simp only[A3,Zgu]
   by_cases hk:x.kind=2
   ·simp only[hk,bne_self_eq_false,A6,if_false,decide_true,Ae,AQ]
    rw [ZU (p:=Yx (YD r j)) (r:=.inr false)]
    ·cases (YB x).all (Yx (YD r j))<;>simp
    ·intro k v _
     rw [Q5,A3]
     cases Yx (YD r j) v<;>simp
   ·have:(x.kind != 2)=true:=by simpa using hk
    simp [hk,this]
section
section
variable {α σ ρ:Type} {body:Nat→α→σ→Option (σ ⊕ ρ)}
theorem Zoo (I:List α→σ→Prop) (Q:ρ→Prop):∀(l pre:List α) (s:σ),I pre s→(∀p x s,x∈l→p.length<pre.length+l.length→I p s→(∃s',body p.length x s=some (.inl s')∧I (p++[x]) s')∨∃r,body p.length x s=some (.inr r)∧Q r)→
  (∃s',(∀fin:σ→Option ρ,Zo body fin l pre.length s=fin s')∧I (pre++l) s')∨∃r,(∀fin:σ→Option ρ,Zo body fin l pre.length s=some r)∧Q r
 | [],pre,s,h,_=>.inl ⟨s,fun _=>rfl,by simpa using h⟩
 | x::l,pre,s,h,hs=>by
  rcases hs pre x s (by simp) (by simp) h with ⟨s',e,h'⟩ | ⟨r,e,h'⟩
  ·rcases Zoo I Q l (pre++[x]) s' h' fun p y s m hp hI=>hs p y s (by simp [m]) (by simp at hp ⊢;omega) hI with ⟨s2,e2,h2⟩ | ⟨r,e2,h2⟩
   ·refine .inl ⟨s2,fun fin=>?_,by simpa using h2⟩
    rw [ZX e]
    simpa using e2 fin
   ·refine .inr ⟨r,fun fin=>?_,h2⟩
    rw [ZX e]
    simpa using e2 fin
  ·exact .inr ⟨r,fun fin=>Yi e,h'⟩
theorem ZbG (I:List α→σ→Prop) (Q:ρ→Prop) (l:List α) (s:σ) (h:I [] s) (hs:∀p x s,x∈l→p.length<l.length→I p s→(∃s',body p.length x s=some (.inl s')∧I (p++[x]) s')∨∃r,body p.length x s=some (.inr r)∧Q r):
  (∃s',(∀fin:σ→Option ρ,Zo body fin l 0 s=fin s')∧I l s')∨∃r,(∀fin:σ→Option ρ,Zo body fin l 0 s=some r)∧Q r:=by
 have:=Zoo I Q l [] s h fun p x s m hp hI=>hs p x s m (by simpa using hp) hI
 simpa using this
theorem ZeL (I:List α→σ→Prop) (l:List α) (s:σ) (h:I [] s) (hs:∀p x s,x∈l→p.length<l.length→I p s→∃s',body p.length x s=some (.inl s')∧I (p++[x]) s'):∃s',(∀fin:σ→Option ρ,Zo body fin l 0 s=fin s')∧I l s':=by
 rcases ZbG I (fun _=>False) l s h fun p x s m hp hI=>.inl (hs p x s m hp hI) with h | ⟨_,_,h⟩
 ·exact h
 ·exact h.elim
end
def Xk (r:Zg):List ByteArray:=r.thn.filterMap fun x=>if x.kind=1∨x.kind=2 then some x.pattern.rel else none
def Yq (r:Zg):List ByteArray:=r.cond.filterMap fun x=>if x.kind=1∨x.kind=2 then some x.pattern.rel else none
theorem Zqp (r:Zg):(Xk r).length≤r.thn.length:=Af _ _
theorem ZlT (r:Zg):(Yq r).length≤r.cond.length:=Af _ _
theorem ZhI (r:Zg) (h:r.thn.length≤1048576):Qf r=some (ZT (Xk r)):=by
 unfold Qf
 rw [YC (g:=fun x:Zz=>if x.kind=1∨x.kind=2 then some x.pattern.rel else none)]
 ·have:=Zqp r
  simp only[Ag]
  show (Ym (Xk r)).bind _=_
  rw [XZ _ (by omega)]
  rfl
 ·intro j x s _ hs
  simp at hs
  by_cases h1:x.kind=1
  ·simp only[h1,beq_self_eq_true,if_true];rw [Zh _ (by omega)];rfl
  ·by_cases h2:x.kind=2
   ·have:((2:Int)==1)=false:=by decide
    simp only[h2,this,A6,if_false,beq_self_eq_true,if_true];rw [Zh _ (by omega)];rfl
   ·simp [h1,h2]
theorem ZoQ (r:Zg) (h:r.cond.length≤1048576):ZbX r=some (ZT (Yq r)):=by
 unfold ZbX
 rw [YC (g:=fun x:Zt=>if x.kind=1∨x.kind=2 then some x.pattern.rel else none)]
 ·have:=ZlT r
  simp only[Ag]
  show (Ym (Yq r)).bind _=_
  rw [XZ _ (by omega)]
  rfl
 ·intro j x s _ hs
  simp at hs
  by_cases h1:x.kind=1
  ·simp only[h1,beq_self_eq_true,if_true];rw [Zh _ (by omega)];rfl
  ·by_cases h2:x.kind=2
   ·have:((2:Int)==1)=false:=by decide
    simp only[h2,this,A6,if_false,beq_self_eq_true,if_true];rw [Zh _ (by omega)];rfl
   ·simp [h1,h2]
theorem Zj0 {α:Type} (kd:α→Int) (f:α→ByteArray):∀(l:List α) (acc:List ByteArray),l.foldl (fun s x=>if kd x=1∨kd x=2 then Qh s (f x) else s) acc=(l.filterMap fun x=>if kd x=1∨kd x=2 then some (f x) else none).foldl Qh acc
 | [],_=>rfl
 | x::l,acc=>by
  rw [AO,Zj0 kd f l]
  by_cases h:kd x=1∨kd x=2<;>simp [h]
theorem ZhJ (r:Zg) (h:r.thn.length≤1048576):QR r=some (ZT (Xk r)):=by
 unfold QR
 rw [YM (f:=fun s (x:Zz)=>if x.kind=1∨x.kind=2 then Qh s x.pattern.rel else s) (fun j s=>s.length≤j) (by simp)]
 ·congr 1
  exact Zj0 (fun x:Zz=>x.kind) (fun x=>x.pattern.rel) r.thn []
 ·intro j x s _ _ hl hI
  have:=Zdx x.pattern.rel s
  by_cases h1:x.kind=1
  ·simp only[h1,beq_self_eq_true,if_true,true_or];rw [Qb _ _ (by omega)];exact ⟨rfl,by omega⟩
  ·by_cases h2:x.kind=2
   ·have:((2:Int)==1)=false:=by decide
    simp only[h2,this,A6,if_false,beq_self_eq_true,if_true,or_true];rw [Qb _ _ (by omega)];exact ⟨rfl,by omega⟩
   ·simp [h1,h2];omega
theorem Zpo (r:Zg) (h:r.cond.length≤1048576):ZbY r=some (ZT (Yq r)):=by
 unfold ZbY
 rw [YM (f:=fun s (x:Zt)=>if x.kind=1∨x.kind=2 then Qh s x.pattern.rel else s) (fun j s=>s.length≤j) (by simp)]
 ·congr 1
  exact Zj0 (fun x:Zt=>x.kind) (fun x=>x.pattern.rel) r.cond []
 ·intro j x s _ _ hl hI
  have:=Zdx x.pattern.rel s
  by_cases h1:x.kind=1
  ·simp only[h1,beq_self_eq_true,if_true,true_or];rw [Qb _ _ (by omega)];exact ⟨rfl,by omega⟩
  ·by_cases h2:x.kind=2
   ·have:((2:Int)==1)=false:=by decide
    simp only[h2,this,A6,if_false,beq_self_eq_true,if_true,or_true];rw [Qb _ _ (by omega)];exact ⟨rfl,by omega⟩
   ·simp [h1,h2];omega
def Zdq (R:List Zg) (x y:ByteArray):Prop:=∃r∈R,x∈Xk r∧y∈Yq r
inductive YJ (R:List Zg) (a:ByteArray):ByteArray→Prop
 | one {y:ByteArray}:Zdq R a y→YJ R a y
 | next {x y:ByteArray}:YJ R a x→Zdq R x y→YJ R a y
theorem YJ.step {R:List Zg} {a x y:ByteArray} (hx:x=a∨YJ R a x) (h:Zdq R x y):YJ R a y:=by
 rcases hx with rfl | hx
 ·exact .one h
 ·exact .next hx h
structure Zbc (R:List Zg):Prop where
 s:∀r∈R,QC r
 n:(R.flatMap Yq).length≤1048576
theorem Zf8 {m:List (ByteArray × Bool)} {k y:ByteArray}:Zah (Zfn m k true) y false=if y=k then true else Zah m y false:=by
 unfold Zah
 induction m with
 | nil=>
  by_cases h:y=k<;>simp [Zfn,ZfW,h]
 | cons p r ih=>
  simp only[Zfn]
  by_cases h:k=p.1
  ·subst h
   rw [if_pos rfl]
   by_cases h2:y=p.1
   ·simp [ZfW,h2]
   ·simp [ZfW,h2]
  ·rw [if_neg h]
   by_cases h2:y=p.1
   ·subst h2
    have:¬p.1=k:=fun e=>h e.symm
    simp [ZfW,this]
   ·simp only[ZfW,if_neg h2];exact ih
def ZcF (m:List (ByteArray × Bool)) (y:ByteArray):Prop:=Zah m y false=true
def Zgb (U:List ByteArray) (m:List (ByteArray × Bool)):Nat:=U.countP fun y=>!Zah m y false
theorem Zfb {α:Type} {p q:α→Bool}:∀{l:List α},(∀x∈l,p x=true→q x=true)→∀y∈l,p y=false→q y=true→l.countP p+1≤l.countP q
 | x::l,h,y,hy,h1,h2=>by
  rw [Ah,Ah]
  have hle:l.countP p≤l.countP q:=List.countP_mono_left fun z mz=>h z (by simp [mz])
  have hx:=h x (by simp)
  rcases AE.1 hy with rfl | hy
  ·simp [h1,h2];omega
  ·have ih:=Zfb (p:=p) (q:=q) (l:=l) (fun z mz=>h z (by simp [mz])) y hy h1 h2
   cases hp:p x with
   | true=>simp [hx hp];omega
   | false=>cases q x<;>simp<;>omega
structure ZrD (U:List ByteArray) (P:ByteArray→Prop) (s0 s:List (ByteArray × Bool) × List ByteArray):Prop where
 mono:∀y,ZcF s0.1 y→ZcF s.1 y
 fresh:∀y,ZcF s.1 y→ZcF s0.1 y∨(P y∧y∈s.2)
 sub:∀y∈s0.2,y∈s.2
 row:∀y∈s.2,y∈s0.2∨ZcF s.1 y
 cnt:Zgb U s.1+s.2.length≤Zgb U s0.1+s0.2.length
theorem ZrD.refl (U:List ByteArray) (P:ByteArray→Prop) (s:List (ByteArray × Bool) × List ByteArray):ZrD U P s s:=⟨fun _ h=>h,fun _ h=>.inl h,fun _ h=>h,fun _ h=>.inl h,AG _⟩
theorem ZrD.push {U:List ByteArray} {P:ByteArray→Prop} {s0:List (ByteArray × Bool) × List ByteArray} {m:List (ByteArray × Bool)} {row:List ByteArray} (h:ZrD U P s0 (m,row)) {y:ByteArray} (hy:Zah m y false=false) (hU:y∈U) (hP:P y):ZrD U P s0 (Zfn m y true,row++[y]):=by
 have hS:∀z,ZcF (Zfn m y true) z↔z=y∨ZcF m z:=fun z=>by
  unfold ZcF
  rw [Zf8]
  by_cases e:z=y<;>simp [e]
 refine ⟨fun z hz=>(hS z).2 (.inr (h.mono z hz)),fun z hz=>?_,fun z hz=>A4.2 (.inl (h.sub z hz)),fun z hz=>?_,?_⟩
 ·rcases (hS z).1 hz with rfl | hz
  ·exact .inr ⟨hP,by simp⟩
  ·exact (h.fresh z hz).imp id fun ⟨a,b⟩=>⟨a,A4.2 (.inl b)⟩
 ·rcases A4.1 hz with hz | hz
  ·exact (h.row z hz).imp id fun hh=>(hS z).2 (.inr hh)
  ·exact .inr ((hS z).2 (.inl (by simpa using hz)))
 ·have h1:=h.cnt
  have h2:Zgb U (Zfn m y true)+1≤Zgb U m:=Zfb (fun z _ hz=>by
   rw [Zf8] at hz
   by_cases e:z=y
   ·simp [e] at hz
   ·simpa [e] using hz) y hU (by rw [Zf8];simp) (by simp [hy])
  show _+(row++[y]).length≤_
  rw [AF]
  simp only at h1 ⊢
  simp
  omega
theorem Yh {σ ρ:Type} {body:σ→Option (σ ⊕ ρ)} {s s':σ} (h:body s=some (.inl s')):Yp body s=Yp body s':=by rw [Zfq,h]
theorem Z2 {σ ρ:Type} {body:σ→Option (σ ⊕ ρ)} {s:σ} {r:ρ} (h:body s=some (.inr r)):Yp body s=some r:=by rw [Zfq,h]
theorem Zni {R:List Zg} (hR:Zbc R) (a:ByteArray):∃m,Zde R a=some m∧∀y,ZcF m y↔YJ R a y:=by
 have hU:∀r∈R,∀y∈Yq r,y∈R.flatMap Yq:=fun r mr y my=>AM.2 ⟨r,mr,my⟩
 have key:∀(n:Nat) (m:List (ByteArray × Bool)) (row:List ByteArray),Zgb (R.flatMap Yq) m+row.length≤n→n≤1048577→(∀y,ZcF m y→YJ R a y)→(∀y∈row,y=a∨ZcF m y)→(∀z,(z=a∨ZcF m z)→z∈row∨∀y,Zdq R z y→ZcF m y)→
   ∃m',Yp (σ:=(List (ByteArray × Bool)) × (List ByteArray)) (fun s=>
   match s with
   | (mp_42,row_43)=>
   if (decide (0<((row_43.length:Nat):Int)))=true then
    chk (0≤0∧0<((row_43.length:Nat):Int)) <|
    (row_43[(A0 0)]?).bind fun x44=>
    chk (0≤1∧1≤((row_43.length:Nat):Int)) <|
    Zo (σ:=(List (ByteArray × Bool)) × (List ByteArray))
     (fun (i72:Nat) (x73:Zg) s=>
      match s with
      | (mp_57,row_58)=>
      (Qf x73).bind fun v74=>
      (Xc v74 x44).bind fun v75=>
      if v75=true then
       (ZbX x73).bind fun v76=>
       Zo (σ:=(List (ByteArray × Bool)) × (List ByteArray))
        (fun (i83:Nat) (x84:ByteArray) s=>
         match s with
         | (mp_80,row_81)=>
         if (Zah mp_80 x84 false)=true then
          some (.inl (mp_80,row_81))
         else
          chk (row_81.length+1≤1073741824) <|
          some (.inl ((Zfn mp_80 x84 true),(row_81++[x84]))))
        (fun s=>
         match s with
         | (mp_80,row_81)=>
         some (.inl (mp_80,row_81)))
        v76 0 (mp_57,row_58)
      else
       some (.inl (mp_57,row_58)))
     (fun s=>
      match s with
      | (mp_57,row_58)=>
      some (.inl (mp_57,row_58)))
     R 0 (mp_42,(AH (A0 1) row_43))
   else
    some (.inr mp_42)) (m,row)=some m'∧∀y,ZcF m' y↔YJ R a y:=by
  intro n
  induction n with
  | zero=>
   intro m row hn _ h1 h2 h3
   have hr:row=[]:=List.eq_nil_of_length_eq_zero (by omega)
   subst hr
   refine ⟨m,by rw [Zfq];rfl,fun y=>⟨h1 y,fun hy=>?_⟩⟩
   induction hy with
   | one h=>exact ((h3 _ (.inl rfl)).resolve_left (by simp)) _ h
   | next _ h ih=>exact ((h3 _ (.inr ih)).resolve_left (by simp)) _ h
  | succ n ih=>
   intro m row hn hN h1 h2 h3
   cases row with
   | nil=>
    refine ⟨m,by rw [Zfq];rfl,fun y=>⟨h1 y,fun hy=>?_⟩⟩
    induction hy with
    | one h=>exact ((h3 _ (.inl rfl)).resolve_left (by simp)) _ h
    | next _ h ih=>exact ((h3 _ (.inr ih)).resolve_left (by simp)) _ h
   | cons x rest=>
    have hx:x=a∨YJ R a x:=(h2 x (by simp)).imp id (h1 x)
    have hn':Zgb (R.flatMap Yq) m+rest.length≤n:=by simp at hn;omega
    obtain ⟨s',e,hg,hd⟩:=ZeL (ρ:=((List (ByteArray × Bool)) × (List ByteArray)) ⊕ (List (ByteArray × Bool))) (body:=fun (i72:Nat) (x73:Zg) (s:(List (ByteArray × Bool)) × (List ByteArray))=>
      match s with
      | (mp_57,row_58)=>
      (Qf x73).bind fun v74=>
      (Xc v74 x).bind fun v75=>
      if v75=true then
       (ZbX x73).bind fun v76=>
       Zo (σ:=(List (ByteArray × Bool)) × (List ByteArray))
        (fun (i83:Nat) (x84:ByteArray) s=>
         match s with
         | (mp_80,row_81)=>
         if (Zah mp_80 x84 false)=true then
          some (.inl (mp_80,row_81))
         else
          chk (row_81.length+1≤1073741824) <|
          some (.inl ((Zfn mp_80 x84 true),(row_81++[x84]))))
        (fun s=>
         match s with
         | (mp_80,row_81)=>
         some (.inl (mp_80,row_81)))
        v76 0 (mp_57,row_58)
      else
       some (.inl (mp_57,row_58))) (fun pre s=>ZrD (R.flatMap Yq) (YJ R a) (m,rest) s∧∀r∈pre,x∈Xk r→∀y∈Yq r,ZcF s.1 y) R (m,rest) ⟨ZrD.refl _ _ _,by simp⟩ fun p r s mr hp hI=>by
     obtain ⟨mp,rw_⟩:=s
     obtain ⟨hg,hd⟩:=hI
     have hsm:=hR.s r mr
     show ∃s',(Qf r).bind _=_∧_
     rw [ZhI r hsm.tl]
     simp only[A3]
     rw [Q5]
     simp only[A3]
     by_cases hw:x∈Xk r
     ·have hh:Yx (ZT (Xk r)) x=true:=by rw [Xw,ZP];exact hw
      rw [if_pos hh,ZoQ r hsm.cl]
      simp only[A3]
      obtain ⟨s2,e2,hg2,hd2⟩:=ZeL (ρ:=((List (ByteArray × Bool)) × (List ByteArray)) ⊕ (((List (ByteArray × Bool)) × (List ByteArray)) ⊕ (List (ByteArray × Bool)))) (body:=fun (i83:Nat) (x84:ByteArray) (s:(List (ByteArray × Bool)) × (List ByteArray))=>
         match s with
         | (mp_80,row_81)=>
         if (Zah mp_80 x84 false)=true then
          some (.inl (mp_80,row_81))
         else
          chk (row_81.length+1≤1073741824) <|
          some (.inl ((Zfn mp_80 x84 true),(row_81++[x84])))) (fun pre s=>ZrD (R.flatMap Yq) (YJ R a) (m,rest) s∧(∀y,ZcF mp y→ZcF s.1 y)∧∀y∈pre,ZcF s.1 y) (ZT (Yq r)) (mp,rw_) ⟨hg,fun _ h=>h,by simp⟩ fun p y s my hp hI=>by
       obtain ⟨m2,row2⟩:=s
       obtain ⟨g2,g3,g4⟩:=hI
       have hyr:y∈Yq r:=ZP.1 my
       by_cases hs:Zah m2 y false=true
       ·refine ⟨(m2,row2),by simp only[hs,if_true],g2,g3,fun z mz=>?_⟩
        rcases A4.1 mz with mz | mz
        ·exact g4 z mz
        ·rw [AB.1 mz];exact hs
       ·have hf:Zah m2 y false=false:=by simpa using hs
        have hc:=g2.cnt
        have hG:=g2.push hf (hU r mr y hyr) (YJ.step hx ⟨r,mr,hw,hyr⟩)
        have hmono:∀z,ZcF m2 z→ZcF (Zfn m2 y true) z:=fun z hz=>by
         unfold ZcF at *;rw [Zf8];by_cases e:z=y<;>simp [e,hz]
        refine ⟨(Zfn m2 y true,row2++[y]),?_,hG,fun z hz=>hmono z (g3 z hz),fun z mz=>?_⟩
        ·simp only[hf,A6,if_false]
         rw [Zh _ (by simp only at hc;omega)]
        ·rcases A4.1 mz with mz | mz
         ·exact hmono z (g4 z mz)
         ·rw [AB.1 mz];unfold ZcF;rw [Zf8];simp
      refine ⟨s2,by rw [e2],hg2,fun q mq hq y my=>?_⟩
      rcases A4.1 mq with mq | mq
      ·exact hd2.1 y (hd q mq hq y my)
      ·rw [AB.1 mq] at my
       exact hd2.2 y (ZP.2 my)
     ·have hh:Yx (ZT (Xk r)) x=false:=by
       cases hq:Yx (ZT (Xk r)) x with
       | false=>rfl
       | true=>rw [Xw,ZP] at hq;exact absurd hq hw
      refine ⟨(mp,rw_),by rw [if_neg (by rw [hh];simp)],hg,fun q mq hq=>?_⟩
      rcases A4.1 mq with mq | mq
      ·exact hd q mq hq
      ·rw [AB.1 mq] at hq;exact absurd hq hw
    obtain ⟨m',row'⟩:=s'
    obtain ⟨m2,r1,r2⟩:=ih m' row' (by have:=hg.cnt;simp only at this;omega) (by omega)
     (fun y hy=>(hg.fresh y hy).elim (h1 y) fun h=>h.1)
     (fun y hy=>by
      rcases hg.row y hy with h | h
      ·exact (h2 y (by simp [show y∈rest from h])).imp id (hg.mono y)
      ·exact .inr h)
     (fun z hz=>by
      have old:(z=a∨ZcF m z)→z∈row'∨∀y,Zdq R z y→ZcF m' y:=fun hz=>by
       rcases h3 z hz with h | h
       ·rcases AE.1 h with rfl | h
        ·exact .inr fun y ⟨r,mr,hw,hy⟩=>hd r mr hw y hy
        ·exact .inl (hg.sub z h)
       ·exact .inr fun y hy=>hg.mono y (h y hy)
      rcases hz with hz | hz
      ·exact old (.inl hz)
      ·rcases hg.fresh z hz with h | ⟨_,h⟩
       ·exact old (.inr h)
       ·exact .inl h)
    refine ⟨m2,(Yh ?_).trans r1,r2⟩
    show (if decide (0<(((x::rest).length:Nat):Int))=true then _ else _)=_
    rw [if_pos (decide_eq_true (by simp only[AL];omega)),Zh _ (by simp only[AL];omega)]
    show chk _ (Zo _ _ R 0 (m,rest))=_
    rw [Zh _ (by simp only[AL];omega)]
    exact e _
 unfold Zde
 refine key (Zgb (R.flatMap Yq) []+1) [] [a] (by simp) ?_ (fun y hy=>by simp [ZcF,Zah,ZfW] at hy) (fun y hy=>.inl (by simpa using hy)) (fun z hz=>.inl ?_)
 ·have:=hR.n
  have h2:Zgb (R.flatMap Yq) []≤(R.flatMap Yq).length:=Ai
  omega
 ·rcases hz with rfl | hz
  ·simp
  ·simp [ZcF,Zah,ZfW] at hz
def Zjs (U row:List ByteArray):Nat:=U.countP fun y=>!Yx row y
theorem Zof {row:List ByteArray} {y z:ByteArray}:Yx (row++[y]) z=true↔Yx row z=true∨z=y:=by
 rw [Xw,Xw,A4,AB]
theorem ZpN {U row:List ByteArray} {y:ByteArray} (hU:y∈U) (hy:Yx row y=false):Zjs U (row++[y])+1≤Zjs U row:=
 Zfb (fun z _ hz=>by
  cases h:Yx row z with
  | false=>rfl
  | true=>have:=Zof (y:=y).2 (.inl h);rw [this] at hz;simp at hz) y hU (by have:=Zof (row:=row) (y:=y) (z:=y).2 (.inr rfl);rw [this];rfl) (by rw [hy];rfl)
open Classical
theorem ZkL {R:List Zg} (hR:Zbc R) (a b:ByteArray):Zbg R a b=some (decide (YJ R a b)):=by
 have hU:∀r∈R,∀y∈Yq r,y∈R.flatMap Yq:=fun r mr y my=>AM.2 ⟨r,mr,my⟩
 unfold Zbg
 have key:∀(n u:Nat) (row:List ByteArray),Zjs (R.flatMap Yq) row+row.length≤n+u→n+u≤1048577→u≤row.length→(∀y∈row,y=a∨YJ R a y)→a∈row→(∀i x,i<u→row[i]?=some x→∀y,Zdq R x y→y∈row∧y≠b)→
   Yp (σ:=(List ByteArray) × Int)
  (fun s=>
   match s with
   | (row_55,u_56)=>
   if (decide (u_56<((row_55.length:Nat):Int)))=true then
    Zo (σ:=(List ByteArray))
     (fun (i93:Nat) (x94:Zg) row_74=>
      (QR x94).bind fun v95=>
      chk (0≤u_56∧u_56<((row_74.length:Nat):Int)) <|
      (row_74[(A0 u_56)]?).bind fun x96=>
      (ZV v95 x96).bind fun v97=>
      if v97=true then
       (ZbY x94).bind fun v98=>
       (ZV v98 b).bind fun v99=>
       if v99=true then
        some (.inr (.inr true))
       else
        Zo (σ:=(List ByteArray))
         (fun (i108:Nat) (x109:ByteArray) row_105=>
          (ZV row_105 x109).bind fun v110=>
          if v110=true then
           some (.inl row_105)
          else
           chk (row_105.length+1≤1073741824) <|
           some (.inl (row_105++[x109])))
         (fun row_105=>
          some (.inl row_105))
         v98 0 row_74
      else
       some (.inl row_74))
     (fun row_74=>
      some (.inl (row_74,(IntKind.i64.wrap (u_56+1)))))
     R 0 row_55
   else
    some (.inr false))
  (row,((u:Nat):Int))=some (decide (YJ R a b)):=by
  intro n
  have fin:∀(u:Nat) (row:List ByteArray),u=row.length→a∈row→(∀i x,i<u→row[i]?=some x→∀y,Zdq R x y→y∈row∧y≠b)→¬YJ R a b:=fun u row hu ha hc hb=>by
   have all:∀y,YJ R a y→y∈row∧y≠b:=fun y hy=>by
    have one:∀x,x∈row→∀y,Zdq R x y→y∈row∧y≠b:=fun x mx y h=>by
     obtain ⟨i,hi⟩:=List.mem_iff_getElem?.1 mx
     exact hc i x (by rw [hu];exact (AN.1 hi).1) hi y h
    induction hy with
    | one h=>exact one a ha _ h
    | next _ h ih=>exact one _ ih.1 _ h
   exact (all b hb).2 rfl
  have stop:∀(u:Nat) (row:List ByteArray),u=row.length→a∈row→(∀i x,i<u→row[i]?=some x→∀y,Zdq R x y→y∈row∧y≠b)→decide (YJ R a b)=false:=fun u row h1 h2 h3=>decide_eq_false (fin u row h1 h2 h3)
  induction n with
  | zero=>
   intro u row hn _ hu h1 ha hc
   have hu':u=row.length:=by omega
   rw [stop u row hu' ha hc]
   refine Z2 ?_
   show (if decide (((u:Nat):Int)<((row.length:Nat):Int))=true then _ else _)=_
   rw [if_neg (by rw [decide_eq_true_iff];omega)]
  | succ n ih=>
   intro u row hn hN hu h1 ha hc
   by_cases hlt:u<row.length
   ·have hx:row[u]?=some row[u]:=AY hlt
    generalize row[u]=x at hx
    have hxr:x=a∨YJ R a x:=h1 x (AC hx)
    rcases ZbG (ρ:=((List ByteArray) × Int) ⊕ Bool) (body:=fun (i93:Nat) (x94:Zg) (row_74:List ByteArray)=>
      (QR x94).bind fun v95=>
      chk (0≤((u:Nat):Int)∧((u:Nat):Int)<((row_74.length:Nat):Int)) <|
      (row_74[(A0 ((u:Nat):Int))]?).bind fun x96=>
      (ZV v95 x96).bind fun v97=>
      if v97=true then
       (ZbY x94).bind fun v98=>
       (ZV v98 b).bind fun v99=>
       if v99=true then
        some (.inr (.inr true))
       else
        Zo (σ:=(List ByteArray))
         (fun (i108:Nat) (x109:ByteArray) row_105=>
          (ZV row_105 x109).bind fun v110=>
          if v110=true then
           some (.inl row_105)
          else
           chk (row_105.length+1≤1073741824) <|
           some (.inl (row_105++[x109])))
         (fun row_105=>
          some (.inl row_105))
         v98 0 row_74
      else
       some (.inl row_74)) (fun pre r2=>(∃q,r2=row++q)∧Zjs (R.flatMap Yq) r2+r2.length≤n+1+u∧(∀y∈r2,y=a∨YJ R a y)∧∀r∈pre,x∈Xk r→∀y∈Yq r,y∈r2∧y≠b) (fun z=>z=.inr true∧YJ R a b) R row ⟨⟨[],by simp⟩,hn,h1,by simp⟩ fun p r r2 mr hp hI=>by
     obtain ⟨⟨q,rfl⟩,g1,g2,g3⟩:=hI
     have hsm:=hR.s r mr
     have hxq:(row++q)[u]?=some x:=by rw [AU hlt];exact hx
     rw [ZhJ r hsm.tl,A3,Zh _ (by simp;omega),A8,hxq,A3,YV,A3]
     by_cases hw:x∈Xk r
     ·have hh:Yx (ZT (Xk r)) x=true:=by rw [Xw,ZP];exact hw
      rw [if_pos hh,Zpo r hsm.cl,A3,YV,A3]
      by_cases hb:b∈Yq r
      ·have hh:Yx (ZT (Yq r)) b=true:=by rw [Xw,ZP];exact hb
       rw [if_pos hh]
       exact .inr ⟨_,rfl,rfl,YJ.step hxr ⟨r,mr,hw,hb⟩⟩
      ·have hh:¬Yx (ZT (Yq r)) b=true:=by rw [Xw,ZP];exact hb
       rw [if_neg hh]
       obtain ⟨r3,e3,⟨q3,hq3⟩,k1,k2,k3⟩:=ZeL (ρ:=(List ByteArray) ⊕ (((List ByteArray) × Int) ⊕ Bool)) (body:=fun (i108:Nat) (x109:ByteArray) (row_105:List ByteArray)=>
          (ZV row_105 x109).bind fun v110=>
          if v110=true then
           some (.inl row_105)
          else
           chk (row_105.length+1≤1073741824) <|
           some (.inl (row_105++[x109]))) (fun pre r3=>(∃q',r3=(row++q)++q')∧Zjs (R.flatMap Yq) r3+r3.length≤n+1+u∧(∀y∈r3,y=a∨YJ R a y)∧∀y∈pre,y∈r3) (ZT (Yq r)) (row++q) ⟨⟨[],by simp⟩,g1,g2,by simp⟩ fun p y r3 my hp hI=>by
        obtain ⟨⟨q',rfl⟩,k1,k2,k3⟩:=hI
        have hyr:y∈Yq r:=ZP.1 my
        rw [YV,A3]
        by_cases hh:Yx (row++q++q') y=true
        ·rw [if_pos hh]
         refine ⟨_,rfl,⟨q',rfl⟩,k1,k2,fun z mz=>?_⟩
         rcases A4.1 mz with mz | mz
         ·exact k3 z mz
         ·rw [AB.1 mz];exact Xw.1 hh
        ·have hf:Yx (row++q++q') y=false:=by simpa using hh
         have hab:=ZpN (hU r mr y hyr) hf
         rw [if_neg hh,Zh _ (by omega)]
         refine ⟨_,rfl,⟨q'++[y],by simp⟩,by rw [AF];simp only[Aj];omega,fun z mz=>?_,fun z mz=>?_⟩
         ·rcases A4.1 mz with mz | mz
          ·exact k2 z mz
          ·rw [AB.1 mz];exact .inr (YJ.step hxr ⟨r,mr,hw,hyr⟩)
         ·rcases A4.1 mz with mz | mz
          ·exact A4.2 (.inl (k3 z mz))
          ·exact A4.2 (.inr mz)
       refine .inl ⟨r3,e3 _,⟨q++q3,by rw [hq3];simp⟩,k1,k2,fun r' mr' hw' y my=>?_⟩
       rcases A4.1 mr' with mr' | mr'
       ·have:=g3 r' mr' hw' y my
        exact ⟨by rw [hq3];exact A4.2 (.inl this.1),this.2⟩
       ·rw [AB.1 mr'] at my
        exact ⟨k3 y (ZP.2 my),fun e=>hb (e ▸ my)⟩
     ·have hh:¬Yx (ZT (Xk r)) x=true:=by rw [Xw,ZP];exact hw
      rw [if_neg hh]
      refine .inl ⟨_,rfl,⟨q,rfl⟩,g1,g2,fun r' mr' hw'=>?_⟩
      rcases A4.1 mr' with mr' | mr'
      ·exact g3 r' mr' hw'
      ·rw [AB.1 mr'] at hw';exact absurd hw' hw
    with ⟨r2,e,⟨q,rfl⟩,k1,k2,k3⟩ | ⟨z,e,rfl,hb⟩
    ·refine (Yh ?_).trans (ih (u+1) (row++q) (by omega) (by omega) (by rw [AF];omega) k2 (A4.2 (.inl ha)) fun i y hi hy z hz=>?_)
     ·show (if decide (((u:Nat):Int)<((row.length:Nat):Int))=true then _ else _)=_
      rw [if_pos (decide_eq_true (by omega)),e,YW (by omega) (by omega)]
      rfl
     ·by_cases hiu:i<u
      ·rw [AU (by omega)] at hy
       have:=hc i y hiu hy z hz
       exact ⟨A4.2 (.inl this.1),this.2⟩
      ·have:i=u:=by omega
       subst this
       rw [AU hlt,hx] at hy
       obtain rfl:=Option.some.inj hy
       obtain ⟨r,mr,hw,hr⟩:=hz
       exact k3 r mr hw z hr
    ·rw [decide_eq_true hb]
     refine Z2 ?_
     show (if decide (((u:Nat):Int)<((row.length:Nat):Int))=true then _ else _)=_
     rw [if_pos (decide_eq_true (by omega)),e]
   ·have hu':u=row.length:=by omega
    rw [stop u row hu' ha hc]
    refine Z2 ?_
    show (if decide (((u:Nat):Int)<((row.length:Nat):Int))=true then _ else _)=_
    rw [if_neg (by rw [decide_eq_true_iff];omega)]
 refine key 1048577 0 [a] ?_ (by omega) (by simp) (fun y hy=>.inl (by simpa using hy)) (by simp) (fun i x hi=>by omega)
 have h1:=hR.n
 have h2:Zjs (R.flatMap Yq) [a]≤(R.flatMap Yq).length:=Ai
 simp only[Aj]
 omega
end
def Xe (p s:ByteArray):Prop:=∃a b,a≤b∧b≤s.size∧p=s.extract a b
theorem Xe.size {p s:ByteArray} (h:Xe p s):p.size≤s.size:=by
 obtain ⟨a,b,h1,h2,rfl⟩:=h
 rw [ByteArray.size_extract]
 omega
theorem Zrd (s:ByteArray) (a b:Nat):toL (s.extract a b)=((toL s).drop a).take (b - a):=by
 unfold toL
 rw [ByteArray.data_extract,Array.toList_extract,List.extract_eq_take_drop]
theorem Xe.infix {p s:ByteArray} (h:Xe p s):toL p <:+: toL s:=by
 obtain ⟨a,b,h1,h2,rfl⟩:=h
 rw [Zrd]
 refine ⟨(toL s).take a,((toL s).drop a).drop (b - a),?_⟩
 rw [Ak,Al,Al]
theorem ZsE {σ ρ:Type} {s sep:ByteArray} (hsep:0<sep.size) (st:List ByteArray→Nat→Nat→σ) (g:List ByteArray→ρ) {body:σ→Option (σ ⊕ ρ)}
  (h1:∀row from_ i,from_≤i→i+sep.size≤s.size→row.length≤i→body (st row from_ i)=some (.inl (if sEq (s.extract i (i+sep.size)) sep=true then st (row++[s.extract from_ i]) (i+sep.size) (i+sep.size) else st row from_ (i+1))))
  (h2:∀row from_ i,from_≤i→i≤s.size→¬i+sep.size≤s.size→row.length≤i→body (st row from_ i)=some (.inr (g (row++[s.extract from_ s.size])))):
  ∃l,Yp body (st [] 0 0)=some (g l)∧l.length≤s.size+1∧∀p∈l,Xe p s:=by
 have key:∀m row from_ i,s.size - i≤m→from_≤i→i≤s.size→row.length≤i→(∀p∈row,Xe p s)→∃l,Yp body (st row from_ i)=some (g l)∧l.length≤s.size+1∧∀p∈l,Xe p s:=by
  intro m
  induction m with
  | zero=>
   intro row from_ i hm hf hi hr hp
   have hn:¬i+sep.size≤s.size:=by omega
   refine ⟨_,Z2 (h2 row from_ i hf hi hn hr),by simp;omega,fun p mp=>?_⟩
   rcases A4.1 mp with mp | mp
   ·exact hp p mp
   ·simp at mp;subst mp;exact ⟨from_,s.size,by omega,AG _,rfl⟩
  | succ m ih=>
   intro row from_ i hm hf hi hr hp
   by_cases hn:i+sep.size≤s.size
   ·rw [Yh (h1 row from_ i hf hn hr)]
    split
    ·refine ih _ _ _ (by omega) (AG _) hn (by simp;omega) fun p mp=>?_
     rcases A4.1 mp with mp | mp
     ·exact hp p mp
     ·simp at mp;subst mp;exact ⟨from_,i,hf,hi,rfl⟩
    ·exact ih _ _ _ (by omega) (by omega) (by omega) (by omega) hp
   ·refine ⟨_,Z2 (h2 row from_ i hf hi hn hr),by simp;omega,fun p mp=>?_⟩
    rcases A4.1 mp with mp | mp
    ·exact hp p mp
    ·simp at mp;subst mp;exact ⟨from_,s.size,by omega,AG _,rfl⟩
 exact key s.size [] 0 0 (by omega) (AG _) (Nat.zero_le _) (AG _) (by simp)
theorem Zdp (a b:ByteArray):toL (a++b)=toL a++toL b:=by simp [toL]
theorem Zsm (a b:List UInt8):ofL (a++b)=ofL a++ofL b:=Zfy (by rw [Zdp,Zb2,Zb2,Zb2])
theorem ZgD (a:List UInt8):(ofL a).size=a.length:=by rw [←ZcW,Zb2]
theorem ZvX (a b c:ByteArray):(a++b)++c=a++(b++c):=Zfy (by simp only[Zdp,Ak])
theorem Zxa (a b:ByteArray):(a++b).size=a.size+b.size:=by rw [←ZcW,←ZcW,←ZcW,Zdp,AF]
theorem Zd9 {n:Int} (h0:-9223372036854775808≤n) (h1:n≤9223372036854775807):IntKind.i64.wrap n=n:=by rw [IntKind.wrap_i64];omega
theorem Zvh (u:Nat) (hu:u<9223372036854775808):Y5 [IntKind.u8.wrap (IntKind.i64.wrap (48+Int.tmod (u:Int) 10))]=ofL [AW (48+u % 10)]:=by
 have h1:Int.tmod (u:Int) 10=((u % 10:Nat):Int):=by rw [Int.tmod_eq_emod_of_nonneg (by omega)];omega
 rw [h1,Zd9 (by omega) (by omega),IntKind.wrap_u8,show (48+((u % 10:Nat):Int)) % 256=((48+u % 10:Nat):Int) by omega]
 apply Zfy
 rw [Zb2]
 simp only[Y5,List.map_cons,List.map_nil,toL,A8]
theorem ZxA (u:Nat) (hu:u<9223372036854775808):IntKind.i64.wrap (Int.tdiv (u:Int) 10)=((u / 10:Nat):Int):=by
 rw [Int.tdiv_eq_ediv_of_nonneg (by omega),Zd9 (by omega) (by omega)]
 omega
theorem ZvG {body:Int × ByteArray→Option ((Int × ByteArray) ⊕ ByteArray)} (hb:∀n t,body (n,t)=chk ((Y5 [IntKind.u8.wrap (IntKind.i64.wrap (48+Int.tmod n 10))]).size+t.size≤9223372036854775807)
   (if (IntKind.i64.wrap (Int.tdiv n 10)==0)=true then some (.inr (Y5 [IntKind.u8.wrap (IntKind.i64.wrap (48+Int.tmod n 10))]++t)) else some (.inl (IntKind.i64.wrap (Int.tdiv n 10),Y5 [IntKind.u8.wrap (IntKind.i64.wrap (48+Int.tmod n 10))]++t)))):
  ∀(u:Nat) (t:ByteArray),u<9223372036854775808→t.size+Lib.nDigits u≤1000→Yp body ((u:Int),t)=some (ofL (Lib.decDigits u)++t):=by
 intro u
 induction u using Nat.strongRecOn with
 | ind u ih=>
  intro t hu ht
  rw [Zfq,hb,Zvh u hu,ZxA u hu]
  have hp:=Lib.nDigits_pos u
  rw [Zh _ (by rw [ZgD];simp;omega)]
  by_cases h:u<10
  ·have h0:u / 10=0:=by omega
   rw [h0,Lib.decDigits_one h,show u % 10=u by omega]
   rfl
  ·have h0:¬(((u / 10:Nat):Int)==0)=true:=by simp;omega
   rw [if_neg h0]
   have hd:=Lib.nDigits_big h
   show Yp body (((u / 10:Nat):Int),ofL [AW (48+u % 10)]++t)=_
   rw [ih (u / 10) (by omega) _ (by omega) (by rw [Zxa,ZgD];simp;omega),←ZvX,←Zsm]
   congr 2
   rw [show Lib.decDigits u=Lib.decDigits (u / 10)++[AW (48+u % 10)] by rw [Lib.decDigits,dif_neg h]]
theorem ZyK (t:ByteArray):t++(⟨#[]⟩:ByteArray)=t:=Zfy (by rw [Zdp];simp [toL])
theorem Znx {body:Int × ByteArray→Option ((Int × ByteArray) ⊕ ByteArray)} (hb:∀n t,body (n,t)=chk ((Y5 [IntKind.u8.wrap (IntKind.i64.wrap (48+Int.tmod n 10))]).size+t.size≤9223372036854775807)
   (if (IntKind.i64.wrap (Int.tdiv n 10)==0)=true then some (.inr (Y5 [IntKind.u8.wrap (IntKind.i64.wrap (48+Int.tmod n 10))]++t)) else some (.inl (IntKind.i64.wrap (Int.tdiv n 10),Y5 [IntKind.u8.wrap (IntKind.i64.wrap (48+Int.tmod n 10))]++t))))
  {n:Int} (h0:0≤n) (h1:n≤9223372036854775807):Yp body (n,⟨#[]⟩)=some (ofL (Lib.itoa n)):=by
 obtain ⟨u,rfl⟩:∃u:Nat,n=(u:Int):=⟨n.toNat,by omega⟩
 have:=Lib.nDigits_le20 u (by omega)
 rw [ZvG hb u _ (by omega) (by show 0+_≤_;omega),ZyK,Lib.itoa_nonneg]
theorem ZrY:ofL (Lib.itoa (-9223372036854775808))=(⟨#[45,57,50,50,51,51,55,50,48,51,54,56,53,52,55,55,53,56,48,56]⟩:ByteArray):=by
 rw [show (-9223372036854775808:Int)=-((9223372036854775808:Nat):Int) by rfl,Lib.itoa_neg _ (by omega),Lib.decDigits_eq,Lib.nDigits_unique 18 _ (by decide) (by decide)]
 decide +kernel
theorem ZjJ {n:Int} (h0:0≤n) (h1:n≤9223372036854775807):Zat n=some (ofL (Lib.itoa n)):=by
 unfold Zat
 rw [if_neg (by simp;omega),if_neg (by simp;omega)]
 exact Znx (fun _ _=>rfl) h0 h1
theorem Zf5 {n:Int} (h:ZqV n):X3 n=some (ofL (Lib.itoa n)):=by
 unfold X3
 by_cases hm:n=-9223372036854775808
 ·subst hm
  rw [if_pos (by decide),ZrY]
 ·rw [if_neg (by simpa using hm)]
  by_cases hn:n<0
  ·have h2:ZqV n:=h
   unfold ZqV at h2
   rw [if_pos (by simpa using hn),Zd9 (by omega) (by omega),ZjJ (by omega) (by omega),A3]
   obtain ⟨u,rfl⟩:∃u:Nat,n=-(u:Int):=⟨n.natAbs,by omega⟩
   rw [show (0 - -(u:Int))=(u:Int) by omega,Lib.itoa_nonneg,Lib.itoa_neg u (by omega)]
   have:=Lib.nDigits_le20 u (by omega)
   rw [Zh _ (by rw [ZgD,Lib.decDigits_length];show 1+_≤_;omega)]
   exact congrArg some (Zfy (by rw [Zdp,Zb2,Zb2];rfl))
  ·rw [if_neg (by simpa using hn)]
   exact Znx (fun _ _=>rfl) (by omega) h.2
theorem ZdI {n:Int} (h:ZqV n):Za4 n=some (ofL (Lib.itoa n)):=by
 have h2:-9223372036854775808≤n∧n≤9223372036854775807:=h
 unfold Za4 Zpj
 rw [Zh _ h2]
 rfl
theorem ZtA {n:Int} (h:ZqV n):(ofL (Lib.itoa n)).size≤21:=by
 rw [ZgD]
 exact Lib.itoa_length_le n h.1 h.2
theorem Zae {α σ ρ:Type} {body:Nat→α→σ→Option (σ ⊕ ρ)} {fin:σ→Option ρ} (st:List α→σ) (l:List α) (h:∀p x q,l=p++x::q→body p.length x (st p)=some (.inl (st (p++[x])))):Zo body fin l 0 (st [])=fin (st l):=by
 have key:∀(q p:List α),l=p++q→Zo body fin q p.length (st p)=fin (st l):=by
  intro q
  induction q with
  | nil=>intro p e;rw [ZlZ,e,List.append_nil]
  | cons x q ih=>
   intro p e
   rw [ZX (h p x q e)]
   have:=ih (p++[x]) (by rw [e];simp)
   simpa using this
 exact key l [] rfl
def Yb (f:Zb):Bool:=X9 f.rel&&decide (f.args.length≤3)&&f.args.all ZQ
theorem Zko (f:Zb):Ze7 f=some (Yb f):=by
 unfold Ze7 Yb
 rw [ZU (p:=ZQ) (r:=false)]
 ·rw [Zgv,A3]
  cases X9 f.rel<;>cases h:f.args.all ZQ<;>simp<;>omega
 ·intro i x _
  rw [X6,A3]
  cases ZQ x<;>rfl
theorem Zj8 (f:Zb):ZeG f=some (Yb f):=by
 unfold ZeG Yb
 rw [Zga,A3]
 cases X9 f.rel with
 | false=>rfl
 | true=>
  rw [if_pos rfl]
  by_cases h:f.args.length≤3
  ·rw [if_neg (by simp;omega),ZU (p:=ZQ) (r:=false)]
   ·cases h2:f.args.all ZQ<;>simp [h]
   ·intro i x _
    rw [X1,A3]
    cases ZQ x<;>rfl
  ·rw [if_pos (by simp;omega)]
   simp [h]
end Go.Proofs.YtfehfkfdfmcgfaaGreatDoor
