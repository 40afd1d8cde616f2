/- Texts of this proof, joined: Df, E1, P1, E2, E3, E15, P5, F3, F4, P14, R14, S14, F6, K1. What each holds is said at its theorems. -/
import Derived.Test.YtaafhjecikjhbaaGreatDoorFollowsQ1
import Derived.Lib.ItoaLen
import Derived.Laws.BitsLemmas
import Derived.Lib.Bytealg
open Bool renaming and_eq_true→A5,true_and→A6,false_eq_true→AA,eq_iff_iff→AC,or_eq_true→AX,false_and→Ah,and_true→Ai,not_not→Aq,false_or→Ar
open Go.ByteArray renaming toList_eq→Ak
open Int renaming toNat→A4,toNat_natCast→AD
open List renaming mem_cons→A9,length_cons→AB,pairwise_cons→AE,getElem?_eq_getElem→AF,all_eq_true→AH,getElem?_eq_some_iff→AK,mem_of_getElem?→AN,length_append→AO,mem_append→AP,flatMap_cons→AQ,foldl_cons→AS,mem_flatMap→AT,set→AU,mem_cons_of_mem→AY,tail→AZ,drop_eq_nil_of_le→Ac,drop_eq_getElem_cons→Ad,length_nil→Ae,foldl_append→Ag,append_nil→Aj,not_mem_nil→An,not_any_eq_all_not→Ao,take_length→As,getElem?_eq_none→At
open List.Pairwise renaming nil→AG
open Nat renaming zero_add→AJ,le_trans→AL,le_refl→AR,pow_le_pow_right→Aa,mul_assoc→Al
open Option renaming bind_some→A0,map_some→Am
open Option.some renaming inj→AI
open UInt8 renaming ofNat→AW
set_option linter.unusedSimpArgs false
set_option linter.unusedVariables false
set_option maxRecDepth 1000000
set_option maxHeartbeats 4000000
namespace Go.Proofs.YtaafhjecikjhbaaGreatDoor
section
structure Zp where
 b:(List Int)
 i:Int
 h:Int
noncomputable def Zu3 (code_0:(List Int)):Option Bool:=
 some (decide (4096<((code_0.length:Nat):Int)))
noncomputable def Zkm (code_0:(List Int)):Option Zp:=
 forL (σ:=Int)
  (fun (i5:Nat) (c:Int) a=>
   if (decide (((i5:Nat):Int)<4000))=true then
    some (.inl (Zmz .i64 (IntKind.i64.wrap ((IntKind.i64.wrap ((IntKind.i64.wrap (a*167))+IntKind.i64.wrap c))+29)) 1073741823))
   else
    some (.inr ({ b:=code_0,i:=0,h:=a }:Zp)))
  (fun a=>
   some ({ b:=code_0,i:=0,h:=a }:Zp))
  code_0 0 (IntKind.i64.wrap (851207+(IntKind.i64.wrap (3*((code_0.length:Nat):Int)))))
noncomputable def ZdK (a:Zp):Option (Int×Zp):=
 if (decide (a.i<((a.b.length:Nat):Int)))=true then
  (atI a.b a.i).bind fun c=>
  some ((Zmz .i64 (IntKind.i64.wrap ((Zmz .i64 (ZAV .i64 (ZwZ .i64 (IntKind.i64.wrap ((IntKind.i64.wrap (a.h*6364136223846793005))+1442695040888963407)) 35) (ZwZ .i64 (IntKind.i64.wrap ((IntKind.i64.wrap (a.h*6364136223846793005))+1442695040888963407)) 45)) 255)+IntKind.i64.wrap c)) 255),({ b:=a.b,i:=(IntKind.i64.wrap (a.i+1)),h:=(IntKind.i64.wrap ((IntKind.i64.wrap (a.h*6364136223846793005))+1442695040888963407)) }:Zp))
 else
  some ((Zmz .i64 (ZAV .i64 (ZwZ .i64 (IntKind.i64.wrap ((IntKind.i64.wrap (a.h*6364136223846793005))+1442695040888963407)) 35) (ZwZ .i64 (IntKind.i64.wrap ((IntKind.i64.wrap (a.h*6364136223846793005))+1442695040888963407)) 45)) 255),({ b:=a.b,i:=a.i,h:=(IntKind.i64.wrap ((IntKind.i64.wrap (a.h*6364136223846793005))+1442695040888963407)) }:Zp))
noncomputable def Y7 (c_0:Zp) (n_1:Int):Option (Int×Zp):=
 if (decide (n_1<=0))=true then
  some (0,c_0)
 else
  if (decide (n_1<=256))=true then
   (ZdK c_0).bind fun a=>
   chk (¬n_1=0) <|
   some ((Int.tmod a.1 n_1),a.2)
  else
   (ZdK c_0).bind fun b=>
   (ZdK b.2).bind fun c=>
   (ZdK c.2).bind fun d=>
   chk (¬n_1=0) <|
   some ((Int.tmod (IntKind.i64.wrap ((IntKind.i64.wrap ((IntKind.i64.wrap (b.1*65536))+(IntKind.i64.wrap (c.1*256))))+d.1)) n_1),d.2)
noncomputable def ZdA (c_0:Zp) (n_1:Int):Option (Bool×Zp):=
 (Y7 c_0 n_1).bind fun a=>
 some ((a.1==0),a.2)
noncomputable def Zd2 (c_0:Zp) (a:(List Int)):Option (Int×Zp):=
 (Y7 c_0 ((a.length:Nat):Int)).bind fun b=>
 (atI a b.1).bind fun c=>
 some (c,b.2)
noncomputable def Zii (c_0:Zp) (a:(List ByteArray)):Option (ByteArray×Zp):=
 (Y7 c_0 ((a.length:Nat):Int)).bind fun b=>
 (atI a b.1).bind fun c=>
 some (c,b.2)
noncomputable def Zca (c_0:Zp):Option (ByteArray×Zp):=
 (Zii c_0 ([(⟨#[97]⟩),(⟨#[98]⟩),(⟨#[99]⟩),(⟨#[49]⟩),(⟨#[50]⟩)])).bind fun a=>
 some (a.1,a.2)
noncomputable def Qh (b:ByteArray) (c:ByteArray):Option (List ByteArray):=
 if (sEq c ⟨#[]⟩)=true then
  some [b]
 else
  iter (σ:=(List ByteArray)×Int×Int)
   (fun s=>
    match s with
    |(e,d,a)=>
    if (decide ((IntKind.i64.wrap (a+((c.size:Nat):Int)))<=((b.size:Nat):Int)))=true then
     chk (0<=(IntKind.i64.wrap (a+((c.size:Nat):Int)))/\(IntKind.i64.wrap (a+((c.size:Nat):Int)))<=((b.size:Nat):Int)/\0<=a/\a<=(((A4 (IntKind.i64.wrap (a+((c.size:Nat):Int)))):Nat):Int)) <|
     if (sEq (b.extract (A4 a) (A4 (IntKind.i64.wrap (a+((c.size:Nat):Int))))) c)=true then
      chk (a<=((b.size:Nat):Int)/\0<=d/\d<=(((A4 a):Nat):Int)) <|
      chk (e.length+1<=1073741824) <|
      some (.inl ((e++[(b.extract (A4 d) (A4 a))]),(IntKind.i64.wrap (a+((c.size:Nat):Int))),(IntKind.i64.wrap (a+((c.size:Nat):Int)))))
     else
      some (.inl (e,d,(IntKind.i64.wrap (a+1))))
    else
     chk (0<=d/\d<=((b.size:Nat):Int)) <|
     chk (e.length+1<=1073741824) <|
     some (.inr (e++[(b.extract (A4 d) b.size)])))
   ([],0,0)
noncomputable def Zbu (n_0:Int):Option ByteArray:=
 if (n_0==(-9223372036854775808))=true then
  some (⟨#[45,57,50,50,51,51,55,50,48,51,54,56,53,52,55,55,53,56,48,56]⟩)
 else
  if (decide (n_0<0))=true then
   none
  else
   iter (σ:=Int×ByteArray)
    (fun s=>
     match s with
     |(a,b)=>
     chk ((XG [(IntKind.u8.wrap (IntKind.i64.wrap (48+(Int.tmod a 10))))]).size+b.size<=9223372036854775807) <|
     if ((IntKind.i64.wrap (Int.tdiv a 10))==0)=true then
      some (.inr ((XG [(IntKind.u8.wrap (IntKind.i64.wrap (48+(Int.tmod a 10))))])++b))
     else
      some (.inl ((IntKind.i64.wrap (Int.tdiv a 10)),((XG [(IntKind.u8.wrap (IntKind.i64.wrap (48+(Int.tmod a 10))))])++b))))
    (n_0,⟨#[]⟩)
noncomputable def QQ (n_0:Int):Option ByteArray:=
 if (n_0==(-9223372036854775808))=true then
  some (⟨#[45,57,50,50,51,51,55,50,48,51,54,56,53,52,55,55,53,56,48,56]⟩)
 else
  if (decide (n_0<0))=true then
   (Zbu (IntKind.i64.wrap (0 - n_0))).bind fun c=>
   chk ((⟨#[45]⟩:ByteArray).size+c.size<=9223372036854775807) <|
   some ((⟨#[45]⟩:ByteArray)++c)
  else
   iter (σ:=Int×ByteArray)
    (fun s=>
     match s with
     |(a,b)=>
     chk ((XG [(IntKind.u8.wrap (IntKind.i64.wrap (48+(Int.tmod a 10))))]).size+b.size<=9223372036854775807) <|
     if ((IntKind.i64.wrap (Int.tdiv a 10))==0)=true then
      some (.inr ((XG [(IntKind.u8.wrap (IntKind.i64.wrap (48+(Int.tmod a 10))))])++b))
     else
      some (.inl ((IntKind.i64.wrap (Int.tdiv a 10)),((XG [(IntKind.u8.wrap (IntKind.i64.wrap (48+(Int.tmod a 10))))])++b))))
    (n_0,⟨#[]⟩)
noncomputable def Zcv (x_0:Int) (least_1:Int) (most_2:Int):Option Bool:=
 if (decide (least_1<=x_0))=true then
  some (decide (x_0<=most_2))
 else
  some false
noncomputable def Zc3 (s_0:ByteArray):Option (Int×Bool):=
 (Zcv ((s_0.size:Nat):Int) 1 4).bind fun c=>
 if c=true then
  forL (σ:=Int)
   (fun (i7:Nat) (b:UInt8) a=>
    if (decide (((b.toNat:Nat):Int)<48))=true then
     some (.inr (0,false))
    else
     if (decide (57<((b.toNat:Nat):Int)))=true then
      some (.inr (0,false))
     else
      some (.inl (IntKind.i64.wrap ((IntKind.i64.wrap (10*a))+IntKind.i64.wrap (IntKind.u8.wrap (((b.toNat:Nat):Int) - 48))))))
   (fun a=>
    (QQ a).bind fun d=>
    if (sEq d s_0)=true then
     some (a,true)
    else
     some (0,false))
   s_0.data.toList 0 0
 else
  some (0,false)
noncomputable def Zew (s_0:ByteArray):Option Bool:=
 forL (σ:=Unit)
  (fun (i9:Nat) (a:UInt8) _=>
   (Zcv (IntKind.i64.wrap ((a.toNat:Nat):Int)) 97 122).bind fun b=>
   if b=true then
    some (.inl ())
   else
    (Zcv (IntKind.i64.wrap ((a.toNat:Nat):Int)) 48 57).bind fun c=>
    if c=true then
     some (.inl ())
    else
     some (.inr false))
  (fun _=>
   (Zcv ((s_0.size:Nat):Int) 1 8).bind fun d=>
   some d)
  s_0.data.toList 0 ()
noncomputable def ZcI (a:ByteArray):Option Bool:=
 if (decide (1<((a.size:Nat):Int)))=true then
  (sAt a 0).bind fun b=>
  if (((b.toNat:Nat):Int)==63)=true then
   chk (0<=1/\1<=((a.size:Nat):Int)) <|
   (Zew (a.extract (A4 1) a.size)).bind fun c=>
   some c
  else
   some false
 else
  some false
noncomputable def ZbH (l_0:(List ByteArray)) (s_1:ByteArray):Option (List ByteArray):=
 forL (σ:=(List ByteArray)×Bool)
  (fun (i8:Nat) (b:ByteArray) s=>
   match s with
   |(a,c)=>
   if c=true then
    chk (a.length+1<=1073741824) <|
    some (.inl ((a++[b]),true))
   else
    if (sLt b s_1)=true then
     chk (a.length+1<=1073741824) <|
     some (.inl ((a++[b]),false))
    else
     if (sEq b s_1)=true then
      chk (a.length+1<=1073741824) <|
      some (.inl ((a++[b]),true))
     else
      chk (a.length+1<=1073741824) <|
      chk (a.length+1+1<=1073741824) <|
      some (.inl (((a++[s_1])++[b]),true)))
  (fun s=>
   match s with
   |(a,c)=>
   if c=true then
    some a
   else
    chk (a.length+1<=1073741824) <|
    some (a++[s_1]))
  l_0 0 ([],false)
noncomputable def Zcr (p_0:Zi):Option (List ByteArray):=
 forL (σ:=(List ByteArray))
  (fun (i9:Nat) (b:ByteArray) a=>
   (ZcI b).bind fun c=>
   if c=true then
    (ZbH a b).bind fun d=>
    some (.inl d)
   else
    some (.inl a))
  (fun a=>
   some a)
  p_0.args 0 []
noncomputable def QX (r_0:Zh) (n_1:Int):Option (List ByteArray):=
 forL (σ:=(List ByteArray))
  (fun (i25:Nat) (c:Zj) a=>
   if (decide (((i25:Nat):Int)<n_1))=true then
    if (c.kind==1)=true then
     (Zcr c.pattern).bind fun d=>
     forL (σ:=(List ByteArray))
      (fun (i34:Nat) (e:ByteArray) b=>
       (ZbH b e).bind fun f=>
       some (.inl f))
      (fun b=>
       some (.inl b))
      d 0 a
    else
     some (.inl a)
   else
    some (.inr a))
  (fun a=>
   some a)
  r_0.cond 0 []
noncomputable def YY (l_0:(List ByteArray)) (s_1:ByteArray):Option Bool:=
 forL (σ:=Unit)
  (fun (i4:Nat) (a:ByteArray) _=>
   if (sEq a s_1)=true then
    some (.inr true)
   else
    some (.inl ()))
  (fun _=>
   some false)
  l_0 0 ()
noncomputable def ZfA (s_0:ByteArray):Option Bool:=
 (Zew s_0).bind fun a=>
 if a=true then
  (sAt s_0 0).bind fun b=>
  (Zcv (IntKind.i64.wrap ((b.toNat:Nat):Int)) 97 122).bind fun c=>
  some c
 else
  some false
noncomputable def ZaA (s_0:ByteArray):Option Bool:=
 (Zew s_0).bind fun a=>
 if a=true then
  some true
 else
  (ZcI s_0).bind fun b=>
  some b
noncomputable def XK (p_0:Zi):Option Bool:=
 forL (σ:=Unit)
  (fun (i7:Nat) (a:ByteArray) _=>
   (ZaA a).bind fun b=>
   if b=true then
    some (.inl ())
   else
    some (.inr false))
  (fun _=>
   (ZfA p_0.rel).bind fun c=>
   if c=true then
    some (decide (((p_0.args.length:Nat):Int)<=3))
   else
    some false)
  p_0.args 0 ()
noncomputable def ZdM (x_0:Zj):Option Bool:=
 if (x_0.kind==1)=true then
  (XK x_0.pattern).bind fun a=>
  if a=true then
   if (sEq x_0.left ⟨#[]⟩)=true then
    some (sEq x_0.right ⟨#[]⟩)
   else
    some false
  else
   some false
 else
  if (x_0.kind==2)=true then
   (XK x_0.pattern).bind fun b=>
   if b=true then
    if (sEq x_0.left ⟨#[]⟩)=true then
     some (sEq x_0.right ⟨#[]⟩)
    else
     some false
   else
    some false
  else
   if (x_0.kind==3)=true then
    if (sEq x_0.pattern.rel ⟨#[]⟩)=true then
     if (((x_0.pattern.args.length:Nat):Int)==0)=true then
      (ZaA x_0.left).bind fun c=>
      if c=true then
       (ZaA x_0.right).bind fun d=>
       some d
      else
       some false
     else
      some false
    else
     some false
   else
    if (x_0.kind==4)=true then
     if (sEq x_0.pattern.rel ⟨#[]⟩)=true then
      if (((x_0.pattern.args.length:Nat):Int)==0)=true then
       (ZaA x_0.left).bind fun e=>
       if e=true then
        (ZaA x_0.right).bind fun f=>
        some f
       else
        some false
      else
       some false
     else
      some false
    else
     if (x_0.kind==5)=true then
      if (sEq x_0.pattern.rel ⟨#[]⟩)=true then
       if (((x_0.pattern.args.length:Nat):Int)==0)=true then
        (ZaA x_0.left).bind fun g=>
        if g=true then
         (ZaA x_0.right).bind fun i=>
         some i
        else
         some false
       else
        some false
      else
       some false
     else
      some false
noncomputable def QZ (x_0:Zj):Option (List ByteArray):=
 (Zcr x_0.pattern).bind fun a=>
 (ZcI x_0.left).bind fun c=>
 if c=true then
  (ZbH a x_0.left).bind fun b=>
  (ZcI x_0.right).bind fun d=>
  if d=true then
   (ZbH b x_0.right).bind fun e=>
   some e
  else
   some b
 else
  (ZcI x_0.right).bind fun f=>
  if f=true then
   (ZbH a x_0.right).bind fun g=>
   some g
  else
   some a
noncomputable def Zer (x_0:Zj):Option Bool:=
 (ZdM x_0).bind fun a=>
 if a=true then
  some (decide (3<=x_0.kind))
 else
  some false
noncomputable def Qr (r_0:Zh) (i_1:Int) (v_2:ByteArray):Option Bool:=
 forL (σ:=Unit)
  (fun (i19:Nat) (a:Zj) _=>
   if (((i19:Nat):Int) != i_1)=true then
    (QZ a).bind fun b=>
    (YY b v_2).bind fun c=>
    if c=true then
     some (.inr true)
    else
     some (.inl ())
   else
    some (.inl ()))
  (fun _=>
   forL (σ:=Unit)
    (fun (i30:Nat) (d:ZB) _=>
     (Zcr d.pattern).bind fun e=>
     (YY e v_2).bind fun f=>
     if f=true then
      some (.inr true)
     else
      some (.inl ()))
    (fun _=>
     some false)
    r_0.thn 0 ())
  r_0.cond 0 ()
noncomputable def ZeP (a_0:ZB):Option Bool:=
 if (a_0.kind==1)=true then
  (XK a_0.pattern).bind fun a=>
  some a
 else
  if (a_0.kind==2)=true then
   (XK a_0.pattern).bind fun b=>
   some b
  else
   if (a_0.kind==3)=true then
    if (sEq a_0.pattern.rel ⟨#[]⟩)=true then
     some (((a_0.pattern.args.length:Nat):Int)==0)
    else
     some false
   else
    some false
noncomputable def Zep (r_0:Zh):Option (List ByteArray):=
 forL (σ:=(List ByteArray))
  (fun (i61:Nat) (e:Zj) a=>
   (QZ e).bind fun f=>
   forL (σ:=(List ByteArray))
    (fun (i70:Nat) (g:ByteArray) b=>
     (ZbH b g).bind fun i=>
     some (.inl i))
    (fun b=>
     some (.inl b))
    f 0 a)
  (fun a=>
   forL (σ:=(List ByteArray))
    (fun (i97:Nat) (j:ZB) c=>
     (Zcr j.pattern).bind fun k=>
     forL (σ:=(List ByteArray))
      (fun (i106:Nat) (l:ByteArray) d=>
       (ZbH d l).bind fun m=>
       some (.inl m))
      (fun d=>
       some (.inl d))
      k 0 c)
    (fun c=>
     some c)
    r_0.thn 0 a)
  r_0.cond 0 []
noncomputable def Zae (append_0:Zh):Option Bool:=
 (ZfA append_0.name).bind fun g=>
 if g=true then
  (Zcv append_0.priority 0 9).bind fun i=>
  if i=true then
   (Zcv ((append_0.cond.length:Nat):Int) 1 4).bind fun j=>
   if j=true then
    (Zcv ((append_0.thn.length:Nat):Int) 1 2).bind fun k=>
    if k=true then
     (QX append_0 ((append_0.cond.length:Nat):Int)).bind fun l=>
     forL (σ:=Unit)
      (fun (i96:Nat) (a:Zj) _=>
       (ZdM a).bind fun m=>
       if m=true then
        if (((i96:Nat):Int)==0)=true then
         if (a.kind != 1)=true then
          some (.inr false)
         else
          (QX append_0 ((i96:Nat):Int)).bind fun o=>
          (QZ a).bind fun p=>
          forL (σ:=Unit)
           (fun (i110:Nat) (b:ByteArray) _=>
            (YY o b).bind fun c=>
            (Zer a).bind fun q=>
            if q=true then
             if c=true then
              if (a.kind==2)=true then
               some (.inl ())
              else
               some (.inl ())
             else
              some (.inr (.inr false))
            else
             if (a.kind==2)=true then
              if c=true then
               some (.inl ())
              else
               (Qr append_0 ((i96:Nat):Int) b).bind fun t=>
               if t=true then
                some (.inr (.inr false))
               else
                some (.inl ())
             else
              some (.inl ()))
           (fun _=>
            some (.inl ()))
           p 0 ()
        else
         (QX append_0 ((i96:Nat):Int)).bind fun u=>
         (QZ a).bind fun v=>
         forL (σ:=Unit)
          (fun (i126:Nat) (d:ByteArray) _=>
           (YY u d).bind fun e=>
           (Zer a).bind fun w=>
           if w=true then
            if e=true then
             if (a.kind==2)=true then
              some (.inl ())
             else
              some (.inl ())
            else
             some (.inr (.inr false))
           else
            if (a.kind==2)=true then
             if e=true then
              some (.inl ())
             else
              (Qr append_0 ((i96:Nat):Int) d).bind fun x=>
              if x=true then
               some (.inr (.inr false))
              else
               some (.inl ())
            else
             some (.inl ()))
          (fun _=>
           some (.inl ()))
          v 0 ()
       else
        some (.inr false))
      (fun _=>
       forL (σ:=Unit)
        (fun (i155:Nat) (f:ZB) _=>
         (ZeP f).bind fun y=>
         if y=true then
          (Zcr f.pattern).bind fun z=>
          forL (σ:=Unit)
           (fun (i164:Nat) (A:ByteArray) _=>
            (YY l A).bind fun B=>
            if B=true then
             some (.inl ())
            else
             some (.inr (.inr false)))
           (fun _=>
            some (.inl ()))
           z 0 ()
         else
          some (.inr false))
        (fun _=>
         (Zep append_0).bind fun C=>
         some (decide (((C.length:Nat):Int)<=6)))
        append_0.thn 0 ())
      append_0.cond 0 ()
    else
     some false
   else
    some false
  else
   some false
 else
  some false
noncomputable def Zf0 (kind_0:Int):Option ByteArray:=
 if (kind_0==3)=true then
  some (⟨#[32,61,32]⟩)
 else
  if (kind_0==4)=true then
   some (⟨#[32,33,61,32]⟩)
  else
   some (⟨#[32,60,32]⟩)
noncomputable def ZcS (s_0:ByteArray):Option (ByteArray×(List ByteArray)×Bool):=
 (Qh s_0 (⟨#[40]⟩)).bind fun b=>
 if (((b.length:Nat):Int) != 2)=true then
  some ((⟨#[]⟩),[],false)
 else
  chk (0<=1/\1<((b.length:Nat):Int)) <|
  (b[(A4 1)]?).bind fun a=>
  if (((a.size:Nat):Int)==0)=true then
   some ((⟨#[]⟩),[],false)
  else
   (sAt a (IntKind.i64.wrap (((a.size:Nat):Int) - 1))).bind fun c=>
   if (((c.toNat:Nat):Int) != 41)=true then
    some ((⟨#[]⟩),[],false)
   else
    chk (0<=(IntKind.i64.wrap (((a.size:Nat):Int) - 1))/\(IntKind.i64.wrap (((a.size:Nat):Int) - 1))<=((a.size:Nat):Int)) <|
    if (sEq (a.extract 0 (A4 (IntKind.i64.wrap (((a.size:Nat):Int) - 1)))) ⟨#[]⟩)=true then
     chk (0<=0/\0<((b.length:Nat):Int)) <|
     (b[(A4 0)]?).bind fun d=>
     some (d,[],true)
    else
     chk (0<=0/\0<((b.length:Nat):Int)) <|
     (b[(A4 0)]?).bind fun e=>
     (Qh (a.extract 0 (A4 (IntKind.i64.wrap (((a.size:Nat):Int) - 1)))) (⟨#[44]⟩)).bind fun f=>
     some (e,f,true)
noncomputable def Yy (s_0:ByteArray):Option (Zi×Bool):=
 (ZcS s_0).bind fun a=>
 if a.2.2=true then
  (XK ({ rel:=a.1,args:=a.2.1 }:Zi)).bind fun b=>
  if b=true then
   some (({ rel:=a.1,args:=a.2.1 }:Zi),true)
  else
   some (({ rel:=(⟨#[]⟩),args:=[] }:Zi),false)
 else
  some (({ rel:=(⟨#[]⟩),args:=[] }:Zi),false)
noncomputable def QT (a:ByteArray):Option (Zj×Bool):=
 iter (σ:=Int)
  (fun b=>
   if (decide (b<=5))=true then
    (Zf0 b).bind fun j=>
    (Qh a j).bind fun c=>
    if (((c.length:Nat):Int)==2)=true then
     chk (0<=0/\0<((c.length:Nat):Int)) <|
     (c[(A4 0)]?).bind fun d=>
     chk (0<=1/\1<((c.length:Nat):Int)) <|
     (c[(A4 1)]?).bind fun e=>
     (ZdM ({ kind:=b,pattern:=({ rel:=(⟨#[]⟩),args:=[] }:Zi),left:=d,right:=e }:Zj)).bind fun k=>
     if k=true then
      some (.inr (({ kind:=b,pattern:=({ rel:=(⟨#[]⟩),args:=[] }:Zi),left:=d,right:=e }:Zj),true))
     else
      some (.inl (IntKind.i64.wrap (b+1)))
    else
     some (.inl (IntKind.i64.wrap (b+1)))
   else
    if (decide (4<((a.size:Nat):Int)))=true then
     chk (0<=4/\4<=((a.size:Nat):Int)) <|
     if (sEq (a.extract 0 (A4 4)) ⟨#[110,111,116,32]⟩)=true then
      (Yy (a.extract (A4 4) a.size)).bind fun f=>
      if f.2=true then
       some (.inr (({ kind:=2,pattern:=f.1,left:=(⟨#[]⟩),right:=(⟨#[]⟩) }:Zj),true))
      else
       some (.inr (({ kind:=0,pattern:=({ rel:=(⟨#[]⟩),args:=[] }:Zi),left:=(⟨#[]⟩),right:=(⟨#[]⟩) }:Zj),false))
     else
      (Yy a).bind fun g=>
      if g.2=true then
       some (.inr (({ kind:=1,pattern:=g.1,left:=(⟨#[]⟩),right:=(⟨#[]⟩) }:Zj),true))
      else
       some (.inr (({ kind:=0,pattern:=({ rel:=(⟨#[]⟩),args:=[] }:Zi),left:=(⟨#[]⟩),right:=(⟨#[]⟩) }:Zj),false))
    else
     (Yy a).bind fun i=>
     if i.2=true then
      some (.inr (({ kind:=1,pattern:=i.1,left:=(⟨#[]⟩),right:=(⟨#[]⟩) }:Zj),true))
     else
      some (.inr (({ kind:=0,pattern:=({ rel:=(⟨#[]⟩),args:=[] }:Zi),left:=(⟨#[]⟩),right:=(⟨#[]⟩) }:Zj),false)))
  3
noncomputable def Q9 (s_0:ByteArray):Option (ZB×Bool):=
 if (sEq s_0 ⟨#[115,116,111,112]⟩)=true then
  some (({ kind:=3,pattern:=({ rel:=(⟨#[]⟩),args:=[] }:Zi) }:ZB),true)
 else
  (Qh s_0 (⟨#[32]⟩)).bind fun a=>
  if (((a.length:Nat):Int) != 2)=true then
   some (({ kind:=0,pattern:=({ rel:=(⟨#[]⟩),args:=[] }:Zi) }:ZB),false)
  else
   chk (0<=0/\0<((a.length:Nat):Int)) <|
   (a[(A4 0)]?).bind fun b=>
   if (sEq b ⟨#[97,100,100]⟩)=true then
    chk (0<=1/\1<((a.length:Nat):Int)) <|
    (a[(A4 1)]?).bind fun e=>
    (Yy e).bind fun c=>
    some (({ kind:=1,pattern:=c.1 }:ZB),c.2)
   else
    if (sEq b ⟨#[100,114,111,112]⟩)=true then
     chk (0<=1/\1<((a.length:Nat):Int)) <|
     (a[(A4 1)]?).bind fun f=>
     (Yy f).bind fun d=>
     some (({ kind:=2,pattern:=d.1 }:ZB),d.2)
    else
     some (({ kind:=0,pattern:=({ rel:=(⟨#[]⟩),args:=[] }:Zi) }:ZB),false)
noncomputable def ZcN (append_0:Zh) (String_1:ByteArray) (a_2:ByteArray):Option (Zh×Bool):=
 (Qh String_1 (⟨#[32,38,32]⟩)).bind fun e=>
 forL (σ:=(List Zj))
  (fun (i24:Nat) (f:ByteArray) a=>
   (QT f).bind fun c=>
   if c.2=true then
    chk (a.length+1<=1073741824) <|
    some (.inl (a++[c.1]))
   else
    some (.inr (({ name:=append_0.name,priority:=append_0.priority,cond:=a,thn:=[] }:Zh),false)))
  (fun a=>
   (Qh a_2 (⟨#[32,38,32]⟩)).bind fun g=>
   forL (σ:=(List ZB))
    (fun (i37:Nat) (i:ByteArray) b=>
     (Q9 i).bind fun d=>
     if d.2=true then
      chk (b.length+1<=1073741824) <|
      some (.inl (b++[d.1]))
     else
      some (.inr (({ name:=append_0.name,priority:=append_0.priority,cond:=a,thn:=b }:Zh),false)))
    (fun b=>
     (Zae ({ name:=append_0.name,priority:=append_0.priority,cond:=a,thn:=b }:Zh)).bind fun j=>
     some (({ name:=append_0.name,priority:=append_0.priority,cond:=a,thn:=b }:Zh),j))
    g 0 [])
  e 0 []
noncomputable def X9 (s_0:ByteArray):Option (Zh×Bool):=
 (Qh s_0 (⟨#[58,32]⟩)).bind fun a=>
 if (((a.length:Nat):Int) != 2)=true then
  some (({ name:=(⟨#[]⟩),priority:=0,cond:=[],thn:=[] }:Zh),false)
 else
  chk (0<=0/\0<((a.length:Nat):Int)) <|
  (a[(A4 0)]?).bind fun f=>
  (Qh f (⟨#[32]⟩)).bind fun b=>
  chk (0<=1/\1<((a.length:Nat):Int)) <|
  (a[(A4 1)]?).bind fun g=>
  (Qh g (⟨#[32,45,62,32]⟩)).bind fun c=>
  if (((b.length:Nat):Int) != 2)=true then
   some (({ name:=(⟨#[]⟩),priority:=0,cond:=[],thn:=[] }:Zh),false)
  else
   if (((c.length:Nat):Int) != 2)=true then
    some (({ name:=(⟨#[]⟩),priority:=0,cond:=[],thn:=[] }:Zh),false)
   else
    chk (1<((b.length:Nat):Int)) <|
    (b[(A4 1)]?).bind fun i=>
    (Zc3 i).bind fun d=>
    if d.2=true then
     chk (0<((b.length:Nat):Int)) <|
     (b[(A4 0)]?).bind fun j=>
     chk (0<((c.length:Nat):Int)) <|
     (c[(A4 0)]?).bind fun k=>
     chk (1<((c.length:Nat):Int)) <|
     (c[(A4 1)]?).bind fun l=>
     (ZcN ({ name:=j,priority:=d.1,cond:=[],thn:=[] }:Zh) k l).bind fun e=>
     if e.2=true then
      some (e.1,true)
     else
      some (({ name:=(⟨#[]⟩),priority:=0,cond:=[],thn:=[] }:Zh),false)
    else
     some (({ name:=(⟨#[]⟩),priority:=0,cond:=[],thn:=[] }:Zh),false)
noncomputable def Zaj (c_0:Zp) (most_1:Int):Option (Zh×Zp):=
 (Y7 c_0 (if 13<most_1 then 13 else most_1)).bind fun a=>
 chk (0<=a.1/\a.1<((13:Nat):Int)) <|
 (([(⟨#[114,32,49,58,32,111,110,40,63,120,44,63,121,41,32,38,32,111,110,40,63,121,44,63,122,41,32,45,62,32,97,100,100,32,111,110,40,63,120,44,63,122,41]⟩),(⟨#[114,32,50,58,32,111,110,40,63,120,44,63,121,41,32,38,32,112,40,63,121,41,32,45,62,32,97,100,100,32,112,40,63,120,41]⟩),(⟨#[114,32,48,58,32,112,40,63,120,41,32,38,32,111,110,40,63,120,44,63,121,41,32,38,32,63,120,32,33,61,32,63,121,32,45,62,32,97,100,100,32,97,116,40,63,121,44,63,120,41]⟩),(⟨#[114,32,51,58,32,97,116,40,63,120,44,63,121,41,32,38,32,112,40,63,120,41,32,38,32,112,40,63,121,41,32,38,32,63,120,32,60,32,63,121,32,45,62,32,97,100,100,32,122,40,41]⟩),(⟨#[114,32,52,58,32,111,110,40,63,120,44,97,41,32,45,62,32,97,100,100,32,113,40,63,120,41,32,38,32,97,100,100,32,112,40,97,41]⟩),(⟨#[114,32,49,58,32,97,116,40,63,120,44,63,120,41,32,38,32,113,40,49,41,32,45,62,32,97,100,100,32,111,110,40,63,120,44,49,41]⟩),(⟨#[114,32,49,58,32,112,40,63,120,41,32,38,32,110,111,116,32,113,40,63,120,41,32,45,62,32,97,100,100,32,97,116,40,63,120,44,98,41]⟩),(⟨#[114,32,50,58,32,111,110,40,63,120,44,63,121,41,32,38,32,110,111,116,32,97,116,40,63,121,44,63,122,41,32,45,62,32,97,100,100,32,113,40,63,121,41]⟩),(⟨#[114,32,53,58,32,97,116,40,63,120,44,63,121,41,32,38,32,110,111,116,32,112,40,63,121,41,32,38,32,63,120,32,33,61,32,63,121,32,45,62,32,97,100,100,32,122,40,41]⟩),(⟨#[114,32,57,58,32,113,40,63,120,41,32,38,32,112,40,63,120,41,32,45,62,32,100,114,111,112,32,112,40,63,120,41]⟩),(⟨#[114,32,48,58,32,97,116,40,63,120,44,49,41,32,38,32,97,116,40,63,121,44,50,41,32,38,32,63,120,32,61,32,63,121,32,45,62,32,100,114,111,112,32,97,116,40,63,120,44,49,41,32,38,32,115,116,111,112]⟩),(⟨#[114,32,49,58,32,111,110,40,63,120,44,63,120,41,32,45,62,32,115,116,111,112]⟩),(⟨#[114,32,55,58,32,122,40,41,32,38,32,111,110,40,63,120,44,63,121,41,32,45,62,32,100,114,111,112,32,122,40,41,32,38,32,97,100,100,32,111,110,40,63,121,44,63,120,41]⟩)])[(A4 a.1)]?).bind fun b=>
 (X9 b).bind fun c=>
 some (c.1,a.2)
noncomputable def Zh7 (c_0:Zp):Option (ByteArray×Int×Zp):=
 (Y7 c_0 6).bind fun a=>
 chk (0<=a.1/\a.1<((6:Nat):Int)) <|
 (([(⟨#[111,110]⟩),(⟨#[111,110]⟩),(⟨#[97,116]⟩),(⟨#[112]⟩),(⟨#[113]⟩),(⟨#[122]⟩)])[(A4 a.1)]?).bind fun b=>
 ([2,2,2,1,1,0][(A4 a.1)]?).bind fun c=>
 some (b,c,a.2)
noncomputable def Zdw (c_0:Zp):Option (ByteArray×Zp):=
 (ZdA c_0 4).bind fun a=>
 if a.1=true then
  (Zca a.2).bind fun b=>
  some (b.1,b.2)
 else
  (Zii a.2 ([(⟨#[63,120]⟩),(⟨#[63,121]⟩),(⟨#[63,122]⟩)])).bind fun c=>
  some (c.1,c.2)
noncomputable def Zbp (c_0:Zp):Option (Zi×Zp):=
 (Zh7 c_0).bind fun a=>
 iter (σ:=(List Int)×Int×Int×(List ByteArray)×Int)
  (fun s=>
   match s with
   |(e,f,g,d,j)=>
   if (decide (j<a.2.1))=true then
    (Zdw ({ b:=e,i:=f,h:=g }:Zp)).bind fun c=>
    chk (d.length+1<=1073741824) <|
    some (.inl (c.2.b,c.2.i,c.2.h,(d++[c.1]),(IntKind.i64.wrap (j+1))))
   else
    some (.inr (({ rel:=a.1,args:=d }:Zi),({ b:=e,i:=f,h:=g }:Zp))))
  (a.2.2.b,a.2.2.i,a.2.2.h,[],0)
noncomputable def Zko (c_0:Zp) (l_1:ByteArray) (r_2:ByteArray):Option (Zj×Zp):=
 (Zd2 c_0 [3,4,4,5]).bind fun a=>
 some (({ kind:=a.1,pattern:=({ rel:=(⟨#[]⟩),args:=[] }:Zi),left:=l_1,right:=r_2 }:Zj),a.2)
noncomputable def ZhN (c_0:Zp):Option (Zj×Zp):=
 (Y7 c_0 5).bind fun a=>
 if (a.1==0)=true then
  (Zbp a.2).bind fun b=>
  some (({ kind:=1,pattern:=b.1,left:=(⟨#[]⟩),right:=(⟨#[]⟩) }:Zj),b.2)
 else
  if (a.1==1)=true then
   (Zbp a.2).bind fun c=>
   some (({ kind:=1,pattern:=c.1,left:=(⟨#[]⟩),right:=(⟨#[]⟩) }:Zj),c.2)
  else
   if (a.1==2)=true then
    (Zbp a.2).bind fun d=>
    some (({ kind:=2,pattern:=d.1,left:=(⟨#[]⟩),right:=(⟨#[]⟩) }:Zj),d.2)
   else
    (Zdw a.2).bind fun e=>
    (Zdw e.2).bind fun f=>
    (Zko f.2 e.1 f.1).bind fun g=>
    some (g.1,g.2)
noncomputable def ZeE (append_0:Zp):Option (Zh×Zp):=
 (Y7 append_0 4).bind fun f=>
 (Zbp f.2).bind fun t=>
 (Y7 t.2 3).bind fun k=>
 iter (σ:=(List Int)×Int×Int×(List Zj)×Int)
  (fun s=>
   match s with
   |(u,v,w,c,x)=>
   if (decide (0<x))=true then
    (ZhN ({ b:=u,i:=v,h:=w }:Zp)).bind fun l=>
    chk (c.length+1<=1073741824) <|
    some (.inl (l.2.b,l.2.i,l.2.h,(c++[l.1]),(IntKind.i64.wrap (x - 1))))
   else
    (QX ({ name:=(⟨#[114]⟩),priority:=f.1,cond:=c,thn:=[] }:Zh) ((c.length:Nat):Int)).bind fun B=>
    (Zbp ({ b:=u,i:=v,h:=w }:Zp)).bind fun d=>
    iter (σ:=(List Int)×Int×Int×(List ByteArray)×Int)
     (fun s=>
      match s with
      |(m,o,p,a,e)=>
      if (decide (e<((a.length:Nat):Int)))=true then
       chk (0<=e/\e<((a.length:Nat):Int)) <|
       (a[(A4 e)]?).bind fun y=>
       (ZcI y).bind fun C=>
       if C=true then
        (YY B y).bind fun D=>
        if D=true then
         some (.inl (m,o,p,a,(IntKind.i64.wrap (e+1))))
        else
         (Zca ({ b:=m,i:=o,h:=p }:Zp)).bind fun q=>
         some (.inl (q.2.b,q.2.i,q.2.h,(AU a (A4 e) q.1),(IntKind.i64.wrap (e+1))))
       else
        some (.inl (m,o,p,a,(IntKind.i64.wrap (e+1))))
      else
       (Zd2 ({ b:=m,i:=o,h:=p }:Zp) [1,1,2]).bind fun g=>
       (ZdA g.2 6).bind fun j=>
       if j.1=true then
        (Zae ({ name:=(⟨#[114]⟩),priority:=f.1,cond:=c,thn:=[({ kind:=g.1,pattern:=({ rel:=d.1.rel,args:=a }:Zi) }:ZB),({ kind:=3,pattern:=({ rel:=(⟨#[]⟩),args:=[] }:Zi) }:ZB)] }:Zh)).bind fun E=>
        if E=true then
         some (.inr (.inr (({ name:=(⟨#[114]⟩),priority:=f.1,cond:=c,thn:=[({ kind:=g.1,pattern:=({ rel:=d.1.rel,args:=a }:Zi) }:ZB),({ kind:=3,pattern:=({ rel:=(⟨#[]⟩),args:=[] }:Zi) }:ZB)] }:Zh),j.2)))
        else
         (Zaj j.2 99).bind fun z=>
         some (.inr (.inr (z.1,z.2)))
       else
        (Zae ({ name:=(⟨#[114]⟩),priority:=f.1,cond:=c,thn:=[({ kind:=g.1,pattern:=({ rel:=d.1.rel,args:=a }:Zi) }:ZB)] }:Zh)).bind fun F=>
        if F=true then
         some (.inr (.inr (({ name:=(⟨#[114]⟩),priority:=f.1,cond:=c,thn:=[({ kind:=g.1,pattern:=({ rel:=d.1.rel,args:=a }:Zi) }:ZB)] }:Zh),j.2)))
        else
         (Zaj j.2 99).bind fun A=>
         some (.inr (.inr (A.1,A.2))))
     (d.2.b,d.2.i,d.2.h,d.1.args,0))
  (k.2.b,k.2.i,k.2.h,[({ kind:=1,pattern:=t.1,left:=(⟨#[]⟩),right:=(⟨#[]⟩) }:Zj)],k.1)
noncomputable def ZfO (c_0:Zp):Option (Zh×Zp):=
 (ZdA c_0 3).bind fun a=>
 if a.1=true then
  (ZeE a.2).bind fun b=>
  some (b.1,b.2)
 else
  (Zaj a.2 99).bind fun c=>
  some (c.1,c.2)
noncomputable def Zjv (c_0:Zp) (most_1:Int):Option ((List Zh)×Zp):=
 (Y7 c_0 (IntKind.i64.wrap (most_1+1))).bind fun c=>
 iter (σ:=(List Int)×Int×Int×(List Zh)×Int)
  (fun s=>
   match s with
   |(f,g,j,d,e)=>
   if (decide (0<e))=true then
    (ZfO ({ b:=f,i:=g,h:=j }:Zp)).bind fun a=>
    (QQ e).bind fun k=>
    chk ((⟨#[114]⟩:ByteArray).size+k.size<=9223372036854775807) <|
    chk (d.length+1<=1073741824) <|
    some (.inl (a.2.b,a.2.i,a.2.h,(d++[({ name:=((⟨#[114]⟩:ByteArray)++k),priority:=a.1.priority,cond:=a.1.cond,thn:=a.1.thn }:Zh)]),(IntKind.i64.wrap (e - 1))))
   else
    some (.inr (d,({ b:=f,i:=g,h:=j }:Zp))))
  (c.2.b,c.2.i,c.2.h,[],c.1)
noncomputable def Zf8 (c_0:Zp):Option (Zg×Zp):=
 (Zh7 c_0).bind fun a=>
 iter (σ:=(List Int)×Int×Int×(List ByteArray)×Int)
  (fun s=>
   match s with
   |(e,f,g,d,j)=>
   if (decide (j<a.2.1))=true then
    (Zca ({ b:=e,i:=f,h:=g }:Zp)).bind fun c=>
    chk (d.length+1<=1073741824) <|
    some (.inl (c.2.b,c.2.i,c.2.h,(d++[c.1]),(IntKind.i64.wrap (j+1))))
   else
    some (.inr (({ rel:=a.1,args:=d }:Zg),({ b:=e,i:=f,h:=g }:Zp))))
  (a.2.2.b,a.2.2.i,a.2.2.h,[],0)
noncomputable def Zel (code_0:(List Int)):Option ((List Zh)×(List Z6)):=
 (Zkm code_0).bind fun j=>
 (Zjv j 3).bind fun e=>
 (Y7 e.2 12).bind fun a=>
 iter (σ:=(List Int)×Int×Int×(List Z6)×Int)
  (fun s=>
   match s with
   |(k,l,m,d,f)=>
   if (decide (0<f))=true then
    (Zd2 ({ b:=k,i:=l,h:=m }:Zp) [1,1,1,2,3]).bind fun g=>
    (Zf8 g.2).bind fun c=>
    chk (d.length+1<=1073741824) <|
    some (.inl (c.2.b,c.2.i,c.2.h,(d++[({ kind:=g.1,rule:=(⟨#[]⟩),fact:=c.1 }:Z6)]),(IntKind.i64.wrap (f - 1))))
   else
    some (.inr (e.1,d)))
  (a.2.b,a.2.i,a.2.h,[],a.1)
noncomputable def QK (s_0:ByteArray):Option Bool:=
 if (decide (((s_0.size:Nat):Int)<1))=true then
  some false
 else
  if (decide (8<((s_0.size:Nat):Int)))=true then
   some false
  else
   forL (σ:=Unit)
    (fun (i4:Nat) (a:UInt8) _=>
     if (decide (((a.toNat:Nat):Int)<97))=true then
      if (decide (((a.toNat:Nat):Int)<48))=true then
       some (.inr false)
      else
       if (decide (57<((a.toNat:Nat):Int)))=true then
        some (.inr false)
       else
        some (.inl ())
     else
      if (decide (122<((a.toNat:Nat):Int)))=true then
       if (decide (((a.toNat:Nat):Int)<48))=true then
        some (.inr false)
       else
        if (decide (57<((a.toNat:Nat):Int)))=true then
         some (.inr false)
        else
         some (.inl ())
      else
       some (.inl ()))
    (fun _=>
     some true)
    s_0.data.toList 0 ()
noncomputable def XR (s_0:ByteArray):Option Bool:=
 (QK s_0).bind fun a=>
 if a=true then
  (sAt s_0 0).bind fun b=>
  some (decide (97<=((b.toNat:Nat):Int)))
 else
  some false
noncomputable def Zcj (a:ByteArray):Option Bool:=
 if (decide (1<((a.size:Nat):Int)))=true then
  (sAt a 0).bind fun b=>
  if (((b.toNat:Nat):Int)==63)=true then
   chk (0<=1/\1<=((a.size:Nat):Int)) <|
   (QK (a.extract (A4 1) a.size)).bind fun c=>
   some c
  else
   some false
 else
  some false
noncomputable def ZaI (s_0:ByteArray):Option Bool:=
 (QK s_0).bind fun a=>
 if a=true then
  some true
 else
  (Zcj s_0).bind fun b=>
  some b
noncomputable def XN (p_0:Zi):Option Bool:=
 (XR p_0.rel).bind fun a=>
 if a=true then
  if (decide (3<((p_0.args.length:Nat):Int)))=true then
   some false
  else
   forL (σ:=Unit)
    (fun (i7:Nat) (b:ByteArray) _=>
     (ZaI b).bind fun c=>
     if c=true then
      some (.inl ())
     else
      some (.inr false))
    (fun _=>
     some true)
    p_0.args 0 ()
 else
  some false
noncomputable def XL (p_0:Zi):Option Bool:=
 if (sEq p_0.rel ⟨#[]⟩)=true then
  some (((p_0.args.length:Nat):Int)==0)
 else
  some false
noncomputable def Zeu (x_0:Zj):Option Bool:=
 if (x_0.kind==1)=true then
  (XN x_0.pattern).bind fun a=>
  if a=true then
   if (sEq x_0.left ⟨#[]⟩)=true then
    some (sEq x_0.right ⟨#[]⟩)
   else
    some false
  else
   some false
 else
  if (x_0.kind==2)=true then
   (XN x_0.pattern).bind fun b=>
   if b=true then
    if (sEq x_0.left ⟨#[]⟩)=true then
     some (sEq x_0.right ⟨#[]⟩)
    else
     some false
   else
    some false
  else
   if (x_0.kind==3)=true then
    (ZaI x_0.left).bind fun c=>
    if c=true then
     (ZaI x_0.right).bind fun d=>
     if d=true then
      (XL x_0.pattern).bind fun e=>
      some e
     else
      some false
    else
     some false
   else
    if (x_0.kind==4)=true then
     (ZaI x_0.left).bind fun f=>
     if f=true then
      (ZaI x_0.right).bind fun g=>
      if g=true then
       (XL x_0.pattern).bind fun i=>
       some i
      else
       some false
     else
      some false
    else
     if (x_0.kind==5)=true then
      (ZaI x_0.left).bind fun j=>
      if j=true then
       (ZaI x_0.right).bind fun k=>
       if k=true then
        (XL x_0.pattern).bind fun l=>
        some l
       else
        some false
      else
       some false
     else
      some false
noncomputable def ZaP (l_0:(List ByteArray)):Option (List ByteArray):=
 forL (σ:=(List ByteArray))
  (fun (i9:Nat) (b:ByteArray) a=>
   (Zcj b).bind fun c=>
   if c=true then
    chk (a.length+1<=1073741824) <|
    some (.inl (a++[b]))
   else
    some (.inl a))
  (fun a=>
   some a)
  l_0 0 []
noncomputable def Qt (l_0:(List ByteArray)):Option (List ByteArray):=
 chk (l_0.length<=1073741824) <|
 (Zdl l_0).bind fun c=>
 forL (σ:=(List ByteArray))
  (fun (b:Nat) (d:ByteArray) a=>
   if (((b:Nat):Int)==0)=true then
    chk (a.length+1<=1073741824) <|
    some (.inl (a++[d]))
   else
    chk (0<=(IntKind.i64.wrap (((b:Nat):Int) - 1))/\(IntKind.i64.wrap (((b:Nat):Int) - 1))<((c.length:Nat):Int)) <|
    (c[(A4 (IntKind.i64.wrap (((b:Nat):Int) - 1)))]?).bind fun e=>
    if (sEq e d)=true then
     some (.inl a)
    else
     chk (a.length+1<=1073741824) <|
     some (.inl (a++[d])))
  (fun a=>
   some a)
  c 0 []
noncomputable def ZbS (r_0:Zh) (n_1:Int):Option (List ByteArray):=
 forL (σ:=(List ByteArray))
  (fun (i10:Nat) (b:Zj) a=>
   if (decide (((i10:Nat):Int)<n_1))=true then
    if (b.kind==1)=true then
     (ZaP b.pattern.args).bind fun c=>
     chk (a.length+c.length<=1073741824) <|
     some (.inl (a++c))
    else
     some (.inl a)
   else
    some (.inl a))
  (fun a=>
   (Qt a).bind fun d=>
   some d)
  r_0.cond 0 []
noncomputable def Za1 (l_0:(List ByteArray)) (s_1:ByteArray):Option Bool:=
 forL (σ:=Unit)
  (fun (i4:Nat) (a:ByteArray) _=>
   if (sEq a s_1)=true then
    some (.inr true)
   else
    some (.inl ()))
  (fun _=>
   some false)
  l_0 0 ()
noncomputable def ZaT (l_0:(List ByteArray)):Option (List ByteArray):=
 chk (l_0.length<=1073741824) <|
 some l_0
noncomputable def Zb2 (x_0:Zj):Option (List ByteArray):=
 (ZaT x_0.pattern.args).bind fun a=>
 chk (a.length+2<=1073741824) <|
 some (a++[x_0.left,x_0.right])
noncomputable def ZaO (x_0:Zj):Option (List ByteArray):=
 (Zb2 x_0).bind fun a=>
 (ZaP a).bind fun b=>
 (Qt b).bind fun c=>
 some c
noncomputable def Qb (r_0:Zh) (k_1:Int) (a:ByteArray):Option Bool:=
 forL (σ:=Unit)
  (fun (i16:Nat) (b:Zj) _=>
   if (((i16:Nat):Int) != k_1)=true then
    (ZaO b).bind fun c=>
    (Za1 c a).bind fun d=>
    if d=true then
     some (.inr true)
    else
     some (.inl ())
   else
    some (.inl ()))
  (fun _=>
   forL (σ:=Unit)
    (fun (i25:Nat) (e:ZB) _=>
     (Za1 e.pattern.args a).bind fun f=>
     if f=true then
      some (.inr true)
     else
      some (.inl ()))
    (fun _=>
     some false)
    r_0.thn 0 ())
  r_0.cond 0 ()
noncomputable def Zc1 (a:Zh) (b:Int):Option Bool:=
 (atI a.cond b).bind fun c=>
 (ZbS a b).bind fun e=>
 (ZaO c).bind fun f=>
 forL (σ:=Unit)
  (fun (i11:Nat) (d:ByteArray) _=>
   if (c.kind==1)=true then
    some (.inl ())
   else
    (Za1 e d).bind fun g=>
    if g=true then
     some (.inl ())
    else
     if (c.kind != 2)=true then
      some (.inr false)
     else
      (Qb a b d).bind fun i=>
      if i=true then
       some (.inr false)
      else
       some (.inl ()))
  (fun _=>
   some true)
  f 0 ()
noncomputable def ZeT (a_0:ZB):Option Bool:=
 if (a_0.kind==1)=true then
  (XN a_0.pattern).bind fun a=>
  some a
 else
  if (a_0.kind==2)=true then
   (XN a_0.pattern).bind fun b=>
   some b
  else
   if (a_0.kind==3)=true then
    (XL a_0.pattern).bind fun c=>
    some c
   else
    some false
noncomputable def Zcq (l_0:(List Zj)):Option (List ByteArray):=
 forL (σ:=(List ByteArray))
  (fun (i9:Nat) (c:Zj) a=>
   (ZaO c).bind fun b=>
   chk (a.length+b.length<=1073741824) <|
   some (.inl (a++b)))
  (fun a=>
   some a)
  l_0 0 []
noncomputable def ZhF (append_0:Zh):Option Bool:=
 (XR append_0.name).bind fun c=>
 if c=true then
  if (decide (append_0.priority<0))=true then
   some false
  else
   if (decide (9<append_0.priority))=true then
    some false
   else
    if (decide (((append_0.cond.length:Nat):Int)<1))=true then
     some false
    else
     if (decide (4<((append_0.cond.length:Nat):Int)))=true then
      some false
     else
      if (decide (((append_0.thn.length:Nat):Int)<1))=true then
       some false
      else
       if (decide (2<((append_0.thn.length:Nat):Int)))=true then
        some false
       else
        forL (σ:=Unit)
         (fun (i50:Nat) (a:Zj) _=>
          (Zeu a).bind fun d=>
          if d=true then
           if (((i50:Nat):Int)==0)=true then
            if (a.kind != 1)=true then
             some (.inr false)
            else
             (Zc1 append_0 ((i50:Nat):Int)).bind fun e=>
             if e=true then
              some (.inl ())
             else
              some (.inr false)
           else
            (Zc1 append_0 ((i50:Nat):Int)).bind fun f=>
            if f=true then
             some (.inl ())
            else
             some (.inr false)
          else
           some (.inr false))
         (fun _=>
          (ZbS append_0 ((append_0.cond.length:Nat):Int)).bind fun g=>
          forL (σ:=Unit)
           (fun (i81:Nat) (b:ZB) _=>
            (ZeT b).bind fun i=>
            if i=true then
             (ZaP b.pattern.args).bind fun j=>
             forL (σ:=Unit)
              (fun (i90:Nat) (k:ByteArray) _=>
               (Za1 g k).bind fun l=>
               if l=true then
                some (.inl ())
               else
                some (.inr (.inr false)))
              (fun _=>
               some (.inl ()))
              j 0 ()
            else
             some (.inr false))
           (fun _=>
            (Zcq append_0.cond).bind fun m=>
            (Qt m).bind fun o=>
            some (decide (((o.length:Nat):Int)<=6)))
           append_0.thn 0 ())
         append_0.cond 0 ()
 else
  some false
noncomputable def XS (l_0:(List Zh)) (name_1:ByteArray):Option Int:=
 forL (σ:=Unit)
  (fun (i4:Nat) (a:Zh) _=>
   if (sEq a.name name_1)=true then
    some (.inr ((i4:Nat):Int))
   else
    some (.inl ()))
  (fun _=>
   some (-1))
  l_0 0 ()
noncomputable def Q6 (l_0:(List Zh)):Option Bool:=
 if (decide (6<((l_0.length:Nat):Int)))=true then
  some false
 else
  forL (σ:=Unit)
   (fun (i8:Nat) (a:Zh) _=>
    (ZhF a).bind fun b=>
    if b=true then
     (XS l_0 a.name).bind fun c=>
     if (c != ((i8:Nat):Int))=true then
      some (.inr false)
     else
      some (.inl ())
    else
     some (.inr false))
   (fun _=>
    some true)
   l_0 0 ()
noncomputable def XO (p_0:Zi):Option Zi:=
 (ZaT p_0.args).bind fun a=>
 some ({ rel:=p_0.rel,args:=a }:Zi)
noncomputable def Y1 (x_0:Zj):Option Zj:=
 (XO x_0.pattern).bind fun a=>
 some ({ kind:=x_0.kind,pattern:=a,left:=x_0.left,right:=x_0.right }:Zj)
noncomputable def ZdG (l_0:(List Zj)):Option (List Zj):=
 forL (σ:=(List Zj))
  (fun (i9:Nat) (b:Zj) a=>
   (Y1 b).bind fun c=>
   chk (a.length+1<=1073741824) <|
   some (.inl (a++[c])))
  (fun a=>
   some a)
  l_0 0 []
noncomputable def ZeH (r_0:Zh):Option Zh:=
 (ZdG r_0.cond).bind fun c=>
 forL (σ:=(List ZB))
  (fun (i10:Nat) (b:ZB) a=>
   (XO b.pattern).bind fun d=>
   chk (a.length+1<=1073741824) <|
   some (.inl (a++[({ kind:=b.kind,pattern:=d }:ZB)])))
  (fun a=>
   some ({ name:=r_0.name,priority:=r_0.priority,cond:=c,thn:=a }:Zh))
  r_0.thn 0 []
noncomputable def QS (l_0:(List Zh)):Option (List Zh):=
 forL (σ:=(List Zh))
  (fun (i9:Nat) (b:Zh) a=>
   (ZeH b).bind fun c=>
   chk (a.length+1<=1073741824) <|
   some (.inl (a++[c])))
  (fun a=>
   some a)
  l_0 0 []
noncomputable def ZdB (rules_0:(List Zh)):Option (Zu×Bool):=
 (Q6 rules_0).bind fun a=>
 if a=true then
  (QS rules_0).bind fun b=>
  some (({ rules:=b,memory:=[],clock:=0,fired:=[],halted:=false,log:=[] }:Zu),true)
 else
  some (({ rules:=[],memory:=[],clock:=0,fired:=[],halted:=false,log:=[] }:Zu),false)
noncomputable def XX (l_0:(List Int)):Option (List Int):=
 chk (l_0.length<=1073741824) <|
 some l_0
noncomputable def Yw (f_0:Zg):Option Zg:=
 (ZaT f_0.args).bind fun a=>
 some ({ rel:=f_0.rel,args:=a }:Zg)
noncomputable def Zfj (x_0:Z6):Option Z6:=
 (Yw x_0.fact).bind fun a=>
 some ({ kind:=x_0.kind,rule:=x_0.rule,fact:=a }:Z6)
noncomputable def Q8 (append_0:Zu):Option Zu:=
 (QS append_0.rules).bind fun f=>
 forL (σ:=(List Zv))
  (fun (i43:Nat) (d:Zv) a=>
   (Yw d.fact).bind fun g=>
   chk (a.length+1<=1073741824) <|
   some (.inl (a++[({ fact:=g,time:=d.time }:Zv)])))
  (fun a=>
   forL (σ:=(List ZP))
    (fun (i65:Nat) (e:ZP) b=>
     (XX e.times).bind fun i=>
     chk (b.length+1<=1073741824) <|
     some (.inl (b++[({ rule:=e.rule,times:=i }:ZP)])))
    (fun b=>
     forL (σ:=(List Z6))
      (fun (i76:Nat) (j:Z6) c=>
       (Zfj j).bind fun k=>
       chk (c.length+1<=1073741824) <|
       some (.inl (c++[k])))
      (fun c=>
       some ({ rules:=f,memory:=a,clock:=append_0.clock,fired:=b,halted:=append_0.halted,log:=c }:Zu))
      append_0.log 0 [])
    append_0.fired 0 [])
  append_0.memory 0 []
noncomputable def Za7 (l_0:(List Zv)):Option (List Zg):=
 forL (σ:=(List Zg))
  (fun (i9:Nat) (b:Zv) a=>
   (Yw b.fact).bind fun c=>
   chk (a.length+1<=1073741824) <|
   some (.inl (a++[c])))
  (fun a=>
   some a)
  l_0 0 []
noncomputable def XA (f_0:Zg):Option Bool:=
 (XR f_0.rel).bind fun a=>
 if a=true then
  if (decide (3<((f_0.args.length:Nat):Int)))=true then
   some false
  else
   forL (σ:=Unit)
    (fun (i7:Nat) (b:ByteArray) _=>
     (QK b).bind fun c=>
     if c=true then
      some (.inl ())
     else
      some (.inr false))
    (fun _=>
     some true)
    f_0.args 0 ()
 else
  some false
noncomputable def ZT (a_0:Int) (b_1:Int):Option Int:=
 if (decide (a_0<b_1))=true then
  some (-1)
 else
  if (decide (b_1<a_0))=true then
   some 1
  else
   some 0
noncomputable def QP (n_0:Int):Option ByteArray:=
 (Zqt n_0).bind fun a=>
 some a
noncomputable def ZaN (s_0:ByteArray):Option (Int×Bool):=
 if (decide (((s_0.size:Nat):Int)<1))=true then
  some (0,false)
 else
  if (decide (4<((s_0.size:Nat):Int)))=true then
   some (0,false)
  else
   (Znm s_0).bind fun a=>
   if a.2=true then
    if (decide (a.1<0))=true then
     some (0,false)
    else
     if (decide (9999<a.1))=true then
      some (0,false)
     else
      (QP a.1).bind fun b=>
      if (sEq b s_0)=true then
       some (a.1,true)
      else
       some (0,false)
   else
    some (0,false)
noncomputable def ZaH (a_0:ByteArray) (b_1:ByteArray):Option Int:=
 (ZaN a_0).bind fun b=>
 (ZaN b_1).bind fun a=>
 if b.2=true then
  if a.2=true then
   (ZT b.1 a.1).bind fun c=>
   some c
  else
   some (-1)
 else
  if a.2=true then
   some 1
  else
   (Zfy a_0 b_1).bind fun d=>
   some d
noncomputable def YH (a_0:Zg) (a:Zg):Option Int:=
 (Zfy a_0.rel a.rel).bind fun b=>
 if (b != 0)=true then
  some b
 else
  forL (σ:=Unit)
   (fun (c:Nat) (e:ByteArray) _=>
    if (decide (((c:Nat):Int)<((a.args.length:Nat):Int)))=true then
     (atI a.args ((c:Nat):Int)).bind fun f=>
     (ZaH e f).bind fun d=>
     if (d != 0)=true then
      some (.inr d)
     else
      some (.inl ())
    else
     (ZT ((a_0.args.length:Nat):Int) ((a.args.length:Nat):Int)).bind fun g=>
     some (.inr g))
   (fun _=>
    (ZT ((a_0.args.length:Nat):Int) ((a.args.length:Nat):Int)).bind fun i=>
    some i)
   a_0.args 0 ()
noncomputable def Q3 (a:(List Zg)):Option Bool:=
 if (decide (24<((a.length:Nat):Int)))=true then
  some false
 else
  forL (σ:=Unit)
   (fun (b:Nat) (c:Zg) _=>
    (XA c).bind fun d=>
    if d=true then
     if (decide (0<((b:Nat):Int)))=true then
      (atI a (IntKind.i64.wrap (((b:Nat):Int) - 1))).bind fun e=>
      (YH e c).bind fun f=>
      if (decide (0<=f))=true then
       some (.inr false)
      else
       some (.inl ())
     else
      some (.inl ())
    else
     some (.inr false))
   (fun _=>
    some true)
   a 0 ()
noncomputable def ZcX (l_0:(List Zv)):Option Bool:=
 forL (σ:=(List (Int×Bool)))
  (fun (i7:Nat) (a:Zv) b=>
   if (decide (a.time<1))=true then
    some (.inr false)
   else
    if (decide (200<a.time))=true then
     some (.inr false)
    else
     if (Zby b a.time false)=true then
      some (.inr false)
     else
      some (.inl (ZfG b a.time true)))
  (fun b=>
   (Za7 l_0).bind fun c=>
   (Q3 c).bind fun d=>
   some d)
  l_0 0 []
noncomputable def ZcJ (b:Zu) (f_1:ZP):Option Bool:=
 (XS b.rules f_1.rule).bind fun c=>
 if (decide (c<0))=true then
  some false
 else
  (atI b.rules c).bind fun e=>
  forL (σ:=Int)
   (fun (i12:Nat) (f:Zj) a=>
    if (f.kind==1)=true then
     some (.inl (IntKind.i64.wrap (a+1)))
    else
     some (.inl a))
   (fun a=>
    forL (σ:=Unit)
     (fun (i17:Nat) (d:Int) _=>
      if (decide (d<1))=true then
       some (.inr false)
      else
       if (decide (b.clock<d))=true then
        some (.inr false)
       else
        some (.inl ()))
     (fun _=>
      some (((f_1.times.length:Nat):Int)==a))
     f_1.times 0 ())
   e.cond 0 0
noncomputable def ZbK (a_0:(List Int)) (a:(List Int)):Option Bool:=
 if (((a_0.length:Nat):Int) != ((a.length:Nat):Int))=true then
  some false
 else
  forL (σ:=Unit)
   (fun (b:Nat) (c:Int) _=>
    (atI a ((b:Nat):Int)).bind fun d=>
    if (c != d)=true then
     some (.inr false)
    else
     some (.inl ()))
   (fun _=>
    some true)
   a_0 0 ()
noncomputable def Zcm (a_0:ZP) (b_1:ZP):Option Bool:=
 if (sEq a_0.rule b_1.rule)=true then
  (ZbK a_0.times b_1.times).bind fun a=>
  some a
 else
  some false
noncomputable def QC (x_0:Z6):Option Bool:=
 if (sEq x_0.fact.rel ⟨#[]⟩)=true then
  if (x_0.kind==1)=true then
   if (sEq x_0.rule ⟨#[]⟩)=true then
    (XA x_0.fact).bind fun a=>
    some a
   else
    some false
  else
   if (x_0.kind==2)=true then
    if (sEq x_0.rule ⟨#[]⟩)=true then
     (XA x_0.fact).bind fun b=>
     some b
    else
     some false
   else
    if (x_0.kind==3)=true then
     (XR x_0.rule).bind fun c=>
     if c=true then
      some (((x_0.fact.args.length:Nat):Int)==0)
     else
      some false
    else
     if (x_0.kind==6)=true then
      (XR x_0.rule).bind fun d=>
      if d=true then
       some (((x_0.fact.args.length:Nat):Int)==0)
      else
       some false
     else
      if (x_0.kind==4)=true then
       (XR x_0.rule).bind fun e=>
       if e=true then
        (XA x_0.fact).bind fun f=>
        some f
       else
        some false
      else
       if (x_0.kind==5)=true then
        (XR x_0.rule).bind fun g=>
        if g=true then
         (XA x_0.fact).bind fun i=>
         some i
        else
         some false
       else
        some false
 else
  if (x_0.kind==1)=true then
   if (sEq x_0.rule ⟨#[]⟩)=true then
    (XA x_0.fact).bind fun j=>
    some j
   else
    some false
  else
   if (x_0.kind==2)=true then
    if (sEq x_0.rule ⟨#[]⟩)=true then
     (XA x_0.fact).bind fun k=>
     some k
    else
     some false
   else
    if (x_0.kind==3)=true then
     (XR x_0.rule).bind fun l=>
     if l=true then
      some false
     else
      some false
    else
     if (x_0.kind==6)=true then
      (XR x_0.rule).bind fun m=>
      if m=true then
       some false
      else
       some false
     else
      if (x_0.kind==4)=true then
       (XR x_0.rule).bind fun o=>
       if o=true then
        (XA x_0.fact).bind fun p=>
        some p
       else
        some false
      else
       if (x_0.kind==5)=true then
        (XR x_0.rule).bind fun q=>
        if q=true then
         (XA x_0.fact).bind fun t=>
         some t
        else
         some false
       else
        some false
noncomputable def Qm (a:Zu):Option Bool:=
 (Q6 a.rules).bind fun d=>
 if d=true then
  (ZcX a.memory).bind fun e=>
  if e=true then
   if (decide (a.clock<0))=true then
    some false
   else
    if (decide (200<a.clock))=true then
     some false
    else
     if (decide (40<((a.fired.length:Nat):Int)))=true then
      some false
     else
      if (decide (500<((a.log.length:Nat):Int)))=true then
       some false
      else
       forL (σ:=Unit)
        (fun (i40:Nat) (f:Zv) _=>
         if (decide (a.clock<f.time))=true then
          some (.inr false)
         else
          some (.inl ()))
        (fun _=>
         forL (σ:=Unit)
          (fun (i60:Nat) (c:ZP) _=>
           (ZcJ a c).bind fun g=>
           if g=true then
            iter (σ:=Int)
             (fun b=>
              if (decide (b<((i60:Nat):Int)))=true then
               (atI a.fired b).bind fun i=>
               (Zcm i c).bind fun j=>
               if j=true then
                some (.inr (.inr false))
               else
                some (.inl (IntKind.i64.wrap (b+1)))
              else
               some (.inr (.inl ())))
             0
           else
            some (.inr false))
          (fun _=>
           forL (σ:=Unit)
            (fun (i73:Nat) (k:Z6) _=>
             (QC k).bind fun l=>
             if l=true then
              some (.inl ())
             else
              some (.inr false))
            (fun _=>
             some true)
            a.log 0 ())
          a.fired 0 ())
        a.memory 0 ()
  else
   some false
 else
  some false
noncomputable def ZbX (a_0:(List ByteArray)) (a:(List ByteArray)):Option Bool:=
 if (((a_0.length:Nat):Int) != ((a.length:Nat):Int))=true then
  some false
 else
  forL (σ:=Unit)
   (fun (b:Nat) (c:ByteArray) _=>
    (atI a ((b:Nat):Int)).bind fun d=>
    if (sEq c d)=true then
     some (.inl ())
    else
     some (.inr false))
   (fun _=>
    some true)
   a_0 0 ()
noncomputable def Xi (a_0:Zg) (b_1:Zg):Option Bool:=
 if (sEq a_0.rel b_1.rel)=true then
  (ZbX a_0.args b_1.args).bind fun a=>
  some a
 else
  some false
noncomputable def Xg (l_0:(List Zv)) (f_1:Zg):Option Bool:=
 forL (σ:=Unit)
  (fun (i6:Nat) (a:Zv) _=>
   (Xi a.fact f_1).bind fun b=>
   if b=true then
    some (.inr true)
   else
    some (.inl ()))
  (fun _=>
   some false)
  l_0 0 ()
noncomputable def YJ (e_0:Zu) (kind_1:Int) (rule_2:ByteArray) (f_3:Zg):Option Zu:=
 (Yw f_3).bind fun a=>
 chk (e_0.log.length+1<=1073741824) <|
 some ({ rules:=e_0.rules,memory:=e_0.memory,clock:=e_0.clock,fired:=e_0.fired,halted:=e_0.halted,log:=(e_0.log++[({ kind:=kind_1,rule:=rule_2,fact:=a }:Z6)]) }:Zu)
noncomputable def Zub (cmp:Zg->Option Int) (s:Zv):List Zv->Option (List Zv)
 | []=>some [s]
 |x::l=>(cmp x.fact).bind fun v=>if 0<v then some (s::x::l) else (Zub cmp s l).map fun r=>x::r
noncomputable def XF (e_0:Zu) (f_1:Zg) (kind_2:Int) (rule_3:ByteArray):Option Zu:=
 if e_0.memory.length<=1048576/\f_1.args.length<=1048576/\0<=e_0.clock/\e_0.clock<=1048576 then
  (Zub (fun x=>YH x f_1) ({ fact:=f_1,time:=e_0.clock+1 }:Zv) e_0.memory).bind fun m=>
  YJ ({ rules:=e_0.rules,memory:=m,clock:=e_0.clock+1,fired:=e_0.fired,halted:=e_0.halted,log:=e_0.log }:Zu) kind_2 rule_3 f_1
 else none
noncomputable def Zea (e_0:Zu) (f_1:Zg):Option (Zu×Bool):=
 (Q8 e_0).bind fun a=>
 (Qm e_0).bind fun b=>
 if b=true then
  (XA f_1).bind fun c=>
  if c=true then
   (Xg e_0.memory f_1).bind fun d=>
   if d=true then
    some (a,false)
   else
    if (decide (24<=((e_0.memory.length:Nat):Int)))=true then
     some (a,false)
    else
     if (decide (200<=e_0.clock))=true then
      some (a,false)
     else
      if (decide (500<=((e_0.log.length:Nat):Int)))=true then
       some (a,false)
      else
       (XF a f_1 1 (⟨#[]⟩)).bind fun e=>
       some (e,true)
  else
   some (a,false)
 else
  some (a,false)
noncomputable def Xn (e_0:Zu) (f_1:Zg) (kind_2:Int) (rule_3:ByteArray):Option Zu:=
 if e_0.memory.length<=1048576/\f_1.args.length<=1048576 then
  YJ ({ rules:=e_0.rules,memory:=e_0.memory.filter fun x=>!decide (Xi x.fact f_1=some true),clock:=e_0.clock,fired:=e_0.fired,halted:=e_0.halted,log:=e_0.log }:Zu) kind_2 rule_3 f_1
 else none
noncomputable def Zc2 (e_0:Zu) (f_1:Zg):Option (Zu×Bool):=
 (Q8 e_0).bind fun a=>
 (Qm e_0).bind fun b=>
 if b=true then
  (Xg e_0.memory f_1).bind fun c=>
  if c=true then
   if (decide (500<=((e_0.log.length:Nat):Int)))=true then
    some (a,false)
   else
    (Xn a f_1 2 (⟨#[]⟩)).bind fun d=>
    some (d,true)
  else
   some (a,false)
 else
  some (a,false)
noncomputable def Yb (l_0:(List Zg)):Option (List Zg):=
 forL (σ:=(List Zg))
  (fun (i9:Nat) (b:Zg) a=>
   (Yw b).bind fun c=>
   chk (a.length+1<=1073741824) <|
   some (.inl (a++[c])))
  (fun a=>
   some a)
  l_0 0 []
noncomputable def Qd (a:(List Zo)):Option Bool:=
 if (decide (6<((a.length:Nat):Int)))=true then
  some false
 else
  forL (σ:=Unit)
   (fun (c:Nat) (b:Zo) _=>
    (Zcj b.var).bind fun d=>
    if d=true then
     (QK b.value).bind fun e=>
     if e=true then
      if (decide (0<((c:Nat):Int)))=true then
       (atI a (IntKind.i64.wrap (((c:Nat):Int) - 1))).bind fun f=>
       if (sLt f.var b.var)=true then
        some (.inl ())
       else
        some (.inr false)
      else
       some (.inl ())
     else
      some (.inr false)
    else
     some (.inr false))
   (fun _=>
    some true)
   a 0 ()
noncomputable def Za0 (b_0:(List Zo)) (term_1:ByteArray):Option (ByteArray×Bool):=
 (QK term_1).bind fun b=>
 if b=true then
  some (term_1,true)
 else
  (Zcj term_1).bind fun c=>
  if c=true then
   forL (σ:=Unit)
    (fun (i6:Nat) (a:Zo) _=>
     if (sEq a.var term_1)=true then
      some (.inr (a.value,true))
     else
      some (.inl ()))
    (fun _=>
     some ((⟨#[]⟩),false))
    b_0 0 ()
  else
   some ((⟨#[]⟩),false)
noncomputable def XM (b_0:(List Zo)):Option (List Zo):=
 chk (b_0.length<=1073741824) <|
 some b_0
noncomputable def ZfD (append_0:(List Zo)) (b:ByteArray) (a_2:ByteArray):Option ((List Zo)×Bool):=
 (Qd append_0).bind fun f=>
 if f=true then
  (Zcj b).bind fun g=>
  if g=true then
   (QK a_2).bind fun i=>
   if i=true then
    (Za0 append_0 b).bind fun e=>
    if e.2=true then
     if (sEq e.1 a_2)=true then
      (XM append_0).bind fun j=>
      some (j,true)
     else
      some ([],false)
    else
     if (decide (6<=((append_0.length:Nat):Int)))=true then
      some ([],false)
     else
      forL (σ:=(List Zo)×Bool)
       (fun (i13:Nat) (c:Zo) s=>
        match s with
        |(a,d)=>
        if d=true then
         chk (a.length+1<=1073741824) <|
         some (.inl ((a++[c]),true))
        else
         if (sLt c.var b||sEq c.var b)=true then
          chk (a.length+1<=1073741824) <|
          some (.inl ((a++[c]),false))
         else
          chk (a.length+1<=1073741824) <|
          chk (a.length+1+1<=1073741824) <|
          some (.inl (((a++[({ var:=b,value:=a_2 }:Zo)])++[c]),true)))
       (fun s=>
        match s with
        |(a,d)=>
        if d=true then
         some (a,true)
        else
         chk (a.length+1<=1073741824) <|
         some ((a++[({ var:=b,value:=a_2 }:Zo)]),true))
       append_0 0 ([],false)
   else
    some ([],false)
  else
   some ([],false)
 else
  some ([],false)
noncomputable def Qk (append_0:Zi) (a:Zg) (a_2:(List Zo)):Option ((List Zo)×Bool):=
 (XN append_0).bind fun f=>
 if f=true then
  (XA a).bind fun g=>
  if g=true then
   (Qd a_2).bind fun i=>
   if i=true then
    if (sEq append_0.rel a.rel)=true then
     if (((append_0.args.length:Nat):Int) != ((a.args.length:Nat):Int))=true then
      some ([],false)
     else
      (XM a_2).bind fun j=>
      forL (σ:=(List Zo))
       (fun (d:Nat) (c:ByteArray) b=>
        (QK c).bind fun k=>
        if k=true then
         (atI a.args ((d:Nat):Int)).bind fun l=>
         if (sEq c l)=true then
          some (.inl b)
         else
          some (.inr ([],false))
        else
         (atI a.args ((d:Nat):Int)).bind fun m=>
         (ZfD b c m).bind fun e=>
         if e.2=true then
          some (.inl e.1)
         else
          some (.inr ([],false)))
       (fun b=>
        some (b,true))
       append_0.args 0 j
    else
     some ([],false)
   else
    some ([],false)
  else
   some ([],false)
 else
  some ([],false)
noncomputable def Xx (p_0:Zi) (b_1:(List Zo)) (facts_2:(List Zg)):Option (List Zg):=
 forL (σ:=(List Zg))
  (fun (i12:Nat) (b:Zg) a=>
   (Qk p_0 b b_1).bind fun c=>
   if c.2=true then
    (Yw b).bind fun d=>
    chk (a.length+1<=1073741824) <|
    some (.inl (a++[d]))
   else
    some (.inl a))
  (fun a=>
   some a)
  facts_2 0 []
noncomputable def ZjC (x_0:Zj):Option Bool:=
 (Zeu x_0).bind fun a=>
 if a=true then
  some (decide (3<=x_0.kind))
 else
  some false
noncomputable def Zdo (append_0:Zj) (String_1:(List Zo)):Option Bool:=
 (ZjC append_0).bind fun e=>
 if e=true then
  (Qd String_1).bind fun f=>
  if f=true then
   (Za0 String_1 append_0.left).bind fun a=>
   (Za0 String_1 append_0.right).bind fun b=>
   if a.2=true then
    if b.2=true then
     if (append_0.kind==3)=true then
      some (sEq a.1 b.1)
     else
      if (append_0.kind==4)=true then
       some (!(sEq a.1 b.1))
      else
       (ZaN a.1).bind fun c=>
       (ZaN b.1).bind fun d=>
       if c.2=true then
        if d.2=true then
         some (decide (c.1<d.1))
        else
         some false
       else
        some false
    else
     some false
   else
    some false
  else
   some false
 else
  some false
noncomputable def Zdz (x_0:Zj) (a:(List Zo)) (b:(List Zg)):Option Bool:=
 (Zeu x_0).bind fun c=>
 if c=true then
  (Qd a).bind fun d=>
  if d=true then
   if (x_0.kind==1)=true then
    (Xx x_0.pattern a b).bind fun e=>
    some (decide (0<((e.length:Nat):Int)))
   else
    if (x_0.kind==2)=true then
     (Xx x_0.pattern a b).bind fun f=>
     some (((f.length:Nat):Int)==0)
    else
     (Zdo x_0 a).bind fun g=>
     some g
  else
   some false
 else
  some false
noncomputable def Zi9 (append_0:(List Zj)) (String_1:(List Zg)):Option (List Zs):=
 forL (σ:=(List Zs))
  (fun (i246:Nat) (d:Zj) e=>
   forL (σ:=(List Zs))
    (fun (i322:Nat) (c:Zs) a=>
     if (d.kind != 1)=true then
      (Zdz d c.binding String_1).bind fun j=>
      if j=true then
       chk (a.length+1<=1073741824) <|
       some (.inl (a++[c]))
      else
       some (.inl a)
     else
      forL (σ:=(List Zs))
       (fun (i335:Nat) (f:Zg) b=>
        (Qk d.pattern f c.binding).bind fun g=>
        if g.2=true then
         (Yb c.facts).bind fun i=>
         (Yw f).bind fun k=>
         chk (i.length+1<=1073741824) <|
         chk (b.length+1<=1073741824) <|
         some (.inl (b++[({ facts:=(i++[k]),binding:=g.1 }:Zs)]))
        else
         some (.inl b))
       (fun b=>
        some (.inl b))
       String_1 0 a)
    (fun a=>
     some (.inl a))
    e 0 [])
  (fun e=>
   some e)
  append_0 0 ([({ facts:=[],binding:=[] }:Zs)])
noncomputable def ZbW (conds_0:List Zj) (facts_1:List Zg):Option (List Zs):=if conds_0.length<=4/\facts_1.length<=24/\(∀f∈facts_1,f.args.length<=3) then Zi9 conds_0 facts_1 else none
noncomputable def Zds (r_0:Zh) (facts_1:(List Zg)):Option (List Yk):=
 (ZbW r_0.cond facts_1).bind fun c=>
 forL (σ:=(List Yk))
  (fun (i8:Nat) (b:Zs) a=>
   chk (a.length+1<=1073741824) <|
   some (.inl (a++[({ rule:=r_0.name,facts:=b.facts,binding:=b.binding }:Yk)])))
  (fun a=>
   some a)
  c 0 []
noncomputable def Zcd (rules_0:(List Zh)) (facts_1:(List Zg)):Option (List Yk):=
 forL (σ:=(List Yk))
  (fun (i11:Nat) (c:Zh) a=>
   (Zds c facts_1).bind fun b=>
   chk (a.length+b.length<=1073741824) <|
   some (.inl (a++b)))
  (fun a=>
   some a)
  rules_0 0 []
noncomputable def ZbU (m_0:Yk):Option Yk:=
 (Yb m_0.facts).bind fun a=>
 (XM m_0.binding).bind fun b=>
 some ({ rule:=m_0.rule,facts:=a,binding:=b }:Yk)
noncomputable def Zhc (l_0:(List Zv)) (f_1:Zg):Option Int:=
 forL (σ:=Unit)
  (fun (i6:Nat) (a:Zv) _=>
   (Xi a.fact f_1).bind fun b=>
   if b=true then
    some (.inr a.time)
   else
    some (.inl ()))
  (fun _=>
   some 0)
  l_0 0 ()
noncomputable def ZfR (l_0:(List Zv)) (facts_1:(List Zg)):Option (List Int):=
 forL (σ:=(List Int))
  (fun (i9:Nat) (b:Zg) a=>
   (Zhc l_0 b).bind fun c=>
   chk (a.length+1<=1073741824) <|
   some (.inl (a++[c])))
  (fun a=>
   some a)
  facts_1 0 []
noncomputable def Zbj (r_0:Zh):Option Int:=
 forL (σ:=Int)
  (fun (i23:Nat) (c:Zj) b=>
   forL (σ:=Int)
    (fun (i31:Nat) (d:ByteArray) a=>
     (QK d).bind fun e=>
     if e=true then
      some (.inl (IntKind.i64.wrap (a+1)))
     else
      some (.inl a))
    (fun a=>
     some (.inl a))
    c.pattern.args 0 b)
  (fun b=>
   some b)
  r_0.cond 0 ((r_0.cond.length:Nat):Int)
noncomputable def Zc9 (b:(List Zh)) (l_1:(List Zv)) (m_2:Yk):Option (ZC×Bool):=
 (XS b m_2.rule).bind fun a=>
 if (decide (a<0))=true then
  some (({ mtch:=({ rule:=(⟨#[]⟩),facts:=[],binding:=[] }:Yk),priority:=0,times:=[],specific:=0,ordr:=0 }:ZC),false)
 else
  forL (σ:=Unit)
   (fun (i11:Nat) (d:Zg) _=>
    (Xg l_1 d).bind fun e=>
    if e=true then
     some (.inl ())
    else
     some (.inr (({ mtch:=({ rule:=(⟨#[]⟩),facts:=[],binding:=[] }:Yk),priority:=0,times:=[],specific:=0,ordr:=0 }:ZC),false)))
   (fun _=>
    (ZbU m_2).bind fun f=>
    (atI b a).bind fun c=>
    (ZfR l_1 m_2.facts).bind fun g=>
    (Zbj c).bind fun i=>
    some (({ mtch:=f,priority:=c.priority,times:=g,specific:=i,ordr:=a }:ZC),true))
   m_2.facts 0 ()
noncomputable def ZcO (l_0:(List ZP)) (x_1:ZC):Option Bool:=
 forL (σ:=Unit)
  (fun (i6:Nat) (a:ZP) _=>
   if (sEq a.rule x_1.mtch.rule)=true then
    (ZbK a.times x_1.times).bind fun b=>
    if b=true then
     some (.inr true)
    else
     some (.inl ())
   else
    some (.inl ()))
  (fun _=>
   some false)
  l_0 0 ()
noncomputable def Q5 (x_0:ZC):Option ZC:=
 (ZbU x_0.mtch).bind fun a=>
 (XX x_0.times).bind fun b=>
 some ({ mtch:=a,priority:=x_0.priority,times:=b,specific:=x_0.specific,ordr:=x_0.ordr }:ZC)
noncomputable def Zd9 (l_0:(List Int)):Option (List Int):=
 (XX l_0).bind fun a=>if a.length<=12 then some (Zld a) else none
noncomputable def YI (a_0:(List Zg)) (a:(List Zg)):Option Int:=
 forL (σ:=Unit)
  (fun (b:Nat) (d:Zg) _=>
   if (decide (((b:Nat):Int)<((a.length:Nat):Int)))=true then
    (atI a ((b:Nat):Int)).bind fun e=>
    (YH d e).bind fun c=>
    if (c != 0)=true then
     some (.inr c)
    else
     some (.inl ())
   else
    (ZT ((a_0.length:Nat):Int) ((a.length:Nat):Int)).bind fun f=>
    some (.inr f))
  (fun _=>
   (ZT ((a_0.length:Nat):Int) ((a.length:Nat):Int)).bind fun g=>
   some g)
  a_0 0 ()
noncomputable def Yp (append_0:ZC) (String_1:ZC):Option Int:=
 if (append_0.priority != String_1.priority)=true then
  (ZT String_1.priority append_0.priority).bind fun e=>
  some e
 else
  (Zd9 append_0.times).bind fun b=>
  (Zd9 String_1.times).bind fun a=>
  forL (σ:=Unit)
   (fun (i19:Nat) (c:Int) _=>
    if (decide (((i19:Nat):Int)<((a.length:Nat):Int)))=true then
     chk (0<=((i19:Nat):Int)/\((i19:Nat):Int)<((a.length:Nat):Int)) <|
     (a[i19]?).bind fun d=>
     if (c != d)=true then
      (ZT d c).bind fun f=>
      some (.inr f)
     else
      some (.inl ())
    else
     if (((b.length:Nat):Int) != ((a.length:Nat):Int))=true then
      (ZT ((a.length:Nat):Int) ((b.length:Nat):Int)).bind fun g=>
      some (.inr g)
     else
      if (append_0.specific != String_1.specific)=true then
       (ZT String_1.specific append_0.specific).bind fun i=>
       some (.inr i)
      else
       if (append_0.ordr != String_1.ordr)=true then
        (ZT append_0.ordr String_1.ordr).bind fun j=>
        some (.inr j)
       else
        (YI append_0.mtch.facts String_1.mtch.facts).bind fun k=>
        some (.inr k))
   (fun _=>
    if (((b.length:Nat):Int) != ((a.length:Nat):Int))=true then
     (ZT ((a.length:Nat):Int) ((b.length:Nat):Int)).bind fun l=>
     some l
    else
     if (append_0.specific != String_1.specific)=true then
      (ZT String_1.specific append_0.specific).bind fun m=>
      some m
     else
      if (append_0.ordr != String_1.ordr)=true then
       (ZT append_0.ordr String_1.ordr).bind fun o=>
       some o
      else
       (YI append_0.mtch.facts String_1.mtch.facts).bind fun p=>
       some p)
   b 0 ()
noncomputable def ZbC (b:Int) (c:Int) (a:(List ZC)):Option Bool:=
 (atI a b).bind fun d=>
 (atI a c).bind fun e=>
 (Yp d e).bind fun f=>
 some (decide (f<0))
noncomputable def Zbt (l_0:(List ZC)):Option (List ZC):=
 forL (σ:=(List ZC))
  (fun (i9:Nat) (b:ZC) a=>
   (Q5 b).bind fun c=>
   chk (a.length+1<=1073741824) <|
   some (.inl (a++[c])))
  (fun a=>
   some a)
  l_0 0 []
noncomputable def ltC (l:List ZC) (i j:Nat):Bool:=decide (((l[i]?).bind fun x=>(l[j]?).bind fun y=>Yp x y).getD 0<0)
noncomputable def Zbz (l_0:(List ZC)):Option (List ZC):=
 (Zbt l_0).bind fun l=>
 if l.length<=1048576/\∀x∈l,∀y∈l,(Yp x y).isSome=true then some ((Zg6 (ltC l) l.length (Array.range l.length)).toList.filterMap fun i=>l[i]?) else none
noncomputable def QM (rules_0:(List Zh)) (l_1:(List Zv)) (fired_2:(List ZP)):Option (List ZC):=
 (Q6 rules_0).bind fun c=>
 if c=true then
  (ZcX l_1).bind fun d=>
  if d=true then
   (Za7 l_1).bind fun e=>
   (Zcd rules_0 e).bind fun f=>
   forL (σ:=(List ZC))
    (fun (i20:Nat) (g:Yk) a=>
     (Zc9 rules_0 l_1 g).bind fun b=>
     (ZcO fired_2 b.1).bind fun i=>
     if i=true then
      some (.inl a)
     else
      chk (a.length+1<=1073741824) <|
      some (.inl (a++[b.1])))
    (fun a=>
     (Zbz a).bind fun j=>
     some j)
    f 0 []
  else
   some []
 else
  some []
noncomputable def ZbO (p_0:Zi) (b_1:(List Zo)):Option (Zg×Bool):=
 (XN p_0).bind fun c=>
 if c=true then
  (Qd b_1).bind fun d=>
  if d=true then
   forL (σ:=(List ByteArray))
    (fun (i11:Nat) (e:ByteArray) a=>
     (Za0 b_1 e).bind fun b=>
     if b.2=true then
      chk (a.length+1<=1073741824) <|
      some (.inl (a++[b.1]))
     else
      some (.inr (({ rel:=(⟨#[]⟩),args:=[] }:Zg),false)))
    (fun a=>
     some (({ rel:=p_0.rel,args:=a }:Zg),true))
    p_0.args 0 []
  else
   some (({ rel:=(⟨#[]⟩),args:=[] }:Zg),false)
 else
  some (({ rel:=(⟨#[]⟩),args:=[] }:Zg),false)
noncomputable def ZaY (c:Zu):Option (Zu×Bool):=
 (Q8 c).bind fun a=>
 (Qm c).bind fun u=>
 if u=true then
  if c.halted=true then
   some (a,false)
  else
   if (decide (198<c.clock))=true then
    some (a,false)
   else
    if (decide (40<=((c.fired.length:Nat):Int)))=true then
     some (a,false)
    else
     if (decide (498<=((c.log.length:Nat):Int)))=true then
      some (a,false)
     else
      (QM c.rules c.memory c.fired).bind fun t=>
      if (((t.length:Nat):Int)==0)=true then
       some (a,false)
      else
       chk (0<=0/\0<((t.length:Nat):Int)) <|
       (t[(A4 0)]?).bind fun i=>
       (XX i.times).bind fun v=>
       chk (a.fired.length+1<=1073741824) <|
       (YJ ({ rules:=a.rules,memory:=a.memory,clock:=a.clock,fired:=(a.fired++[({ rule:=i.mtch.rule,times:=v }:ZP)]),halted:=a.halted,log:=a.log }:Zu) 3 i.mtch.rule ({ rel:=(⟨#[]⟩),args:=[] }:Zg)).bind fun k=>
       (atI c.rules i.ordr).bind fun w=>
       forL (σ:=Int×Bool×(List Zh)×(List Zv)×(List ZP)×(List Z6))
        (fun (i36:Nat) (p:ZB) s=>
         match s with
         |(d,j,e,b,f,g)=>
         (ZbO p.pattern i.mtch.binding).bind fun q=>
         if (p.kind==1)=true then
          (Xg b q.1).bind fun x=>
          if x=true then
           some (.inl (d,j,e,b,f,g))
          else
           if (decide (((b.length:Nat):Int)<24))=true then
            (XF ({ rules:=e,memory:=b,clock:=d,fired:=f,halted:=j,log:=g }:Zu) q.1 4 i.mtch.rule).bind fun l=>
            some (.inl (l.clock,l.halted,l.rules,l.memory,l.fired,l.log))
           else
            some (.inl (d,j,e,b,f,g))
         else
          if (p.kind==2)=true then
           (Xg b q.1).bind fun y=>
           if y=true then
            (Xn ({ rules:=e,memory:=b,clock:=d,fired:=f,halted:=j,log:=g }:Zu) q.1 5 i.mtch.rule).bind fun m=>
            some (.inl (m.clock,m.halted,m.rules,m.memory,m.fired,m.log))
           else
            some (.inl (d,j,e,b,f,g))
          else
           if (p.kind==3)=true then
            (YJ ({ rules:=e,memory:=b,clock:=d,fired:=f,halted:=true,log:=g }:Zu) 6 i.mtch.rule ({ rel:=(⟨#[]⟩),args:=[] }:Zg)).bind fun o=>
            some (.inl (o.clock,o.halted,o.rules,o.memory,o.fired,o.log))
           else
            some (.inl (d,j,e,b,f,g)))
        (fun s=>
         match s with
         |(d,j,e,b,f,g)=>
         some (({ rules:=e,memory:=b,clock:=d,fired:=f,halted:=j,log:=g }:Zu),true))
        w.thn 0 (k.clock,k.halted,k.rules,k.memory,k.fired,k.log)
 else
  some (a,false)
noncomputable def Q7 (l_0:(List ByteArray)):Option (List Zo):=
 forL (σ:=(List (ByteArray×Bool))×(List Zo))
  (fun (i16:Nat) (c:ByteArray) s=>
   match s with
   |(b,a)=>
   (Zcj c).bind fun e=>
   if e=true then
    if (Zby b c false)=true then
     some (.inl (b,a))
    else
     (QP (IntKind.i64.wrap (((a.length:Nat):Int)+1))).bind fun d=>
     chk ((⟨#[63]⟩:ByteArray).size+d.size<=9223372036854775807) <|
     chk (a.length+1<=1073741824) <|
     some (.inl ((ZfG b c true),(a++[({ var:=c,value:=((⟨#[63]⟩:ByteArray)++d) }:Zo)])))
   else
    some (.inl (b,a)))
  (fun s=>
   match s with
   |(b,a)=>
   some a)
  l_0 0 ([],[])
noncomputable def ZaZ (r_0:Zh):Option (List Zo):=
 forL (σ:=(List ByteArray))
  (fun (i10:Nat) (c:Zj) a=>
   (Zb2 c).bind fun b=>
   chk (a.length+b.length<=1073741824) <|
   some (.inl (a++b)))
  (fun a=>
   (Q7 a).bind fun d=>
   some d)
  r_0.cond 0 []
noncomputable def Zak (s_0:ByteArray) (a_1:(List Zo)):Option ByteArray:=
 forL (σ:=Unit)
  (fun (i4:Nat) (a:Zo) _=>
   if (sEq a.var s_0)=true then
    some (.inr a.value)
   else
    some (.inl ()))
  (fun _=>
   some s_0)
  a_1 0 ()
noncomputable def Za8 (x_0:Zj) (a_1:(List Zo)):Option Zj:=
 (Zak x_0.left a_1).bind fun b=>
 (Zak x_0.right a_1).bind fun c=>
 forL (σ:=(List ByteArray))
  (fun (i11:Nat) (d:ByteArray) a=>
   (Zak d a_1).bind fun e=>
   chk (a.length+1<=1073741824) <|
   some (.inl (a++[e])))
  (fun a=>
   some ({ kind:=x_0.kind,pattern:=({ rel:=x_0.pattern.rel,args:=a }:Zi),left:=b,right:=c }:Zj))
  x_0.pattern.args 0 []
noncomputable def Zcz (r_0:Zh):Option (List Zj):=
 (ZaZ r_0).bind fun b=>
 forL (σ:=(List Zj))
  (fun (i10:Nat) (c:Zj) a=>
   (Za8 c b).bind fun d=>
   chk (a.length+1<=1073741824) <|
   some (.inl (a++[d])))
  (fun a=>
   some a)
  r_0.cond 0 []
noncomputable def XI (a_0:Zi) (b_1:Zi):Option Bool:=
 if (sEq a_0.rel b_1.rel)=true then
  (ZbX a_0.args b_1.args).bind fun a=>
  some a
 else
  some false
noncomputable def Zav (a_0:Zj) (a:Zj):Option Bool:=
 if (a_0.kind==a.kind)=true then
  if (sEq a_0.left a.left)=true then
   if (sEq a_0.right a.right)=true then
    (XI a_0.pattern a.pattern).bind fun b=>
    some b
   else
    some false
  else
   some false
 else
  some false
noncomputable def X6 (n_0:Ze) (shape_1:Zi):Option (Int×Ze):=
 forL (σ:=Unit)
  (fun (i6:Nat) (a:YR) _=>
   (XI a.shape shape_1).bind fun b=>
   if b=true then
    some (.inr (((i6:Nat):Int),n_0))
   else
    some (.inl ()))
  (fun _=>
   chk (n_0.alphas.length+1<=1073741824) <|
   some ((IntKind.i64.wrap (((n_0.alphas.length+1:Nat):Int) - 1)),({ rules:=n_0.rules,ends:=n_0.ends,alphas:=(n_0.alphas++[({ shape:=shape_1,facts:=[] }:YR)]),nodes:=n_0.nodes,facts:=n_0.facts,tries:=n_0.tries }:Ze)))
  n_0.alphas 0 ()
noncomputable def Zec (p_0:Zi):Option Zi:=
 (Q7 p_0.args).bind fun a=>
 (Za8 ({ kind:=0,pattern:=p_0,left:=(⟨#[]⟩),right:=(⟨#[]⟩) }:Zj) a).bind fun b=>
 some b.pattern
noncomputable def Zab (append_0:Ze) (String_1:Int) (a_2:Zj):Option (Int×Ze):=
 forL (σ:=Unit)
  (fun (i12:Nat) (c:ZV) _=>
   if (decide (0<((i12:Nat):Int)))=true then
    if (c.parent==String_1)=true then
     (Zav c.cond a_2).bind fun d=>
     if d=true then
      some (.inr (((i12:Nat):Int),append_0))
     else
      some (.inl ())
    else
     some (.inl ())
   else
    some (.inl ()))
  (fun _=>
   if (a_2.kind==1)=true then
    (Zec a_2.pattern).bind fun e=>
    (X6 append_0 e).bind fun a=>
    (Y1 a_2).bind fun f=>
    chk (a.2.nodes.length+1<=1073741824) <|
    some ((IntKind.i64.wrap (((a.2.nodes.length+1:Nat):Int) - 1)),({ rules:=a.2.rules,ends:=a.2.ends,alphas:=a.2.alphas,nodes:=(a.2.nodes++[({ parent:=String_1,cond:=f,alpha:=a.1,tokens:=[] }:ZV)]),facts:=a.2.facts,tries:=a.2.tries }:Ze))
   else
    if (a_2.kind==2)=true then
     (Zec a_2.pattern).bind fun g=>
     (X6 append_0 g).bind fun b=>
     (Y1 a_2).bind fun i=>
     chk (b.2.nodes.length+1<=1073741824) <|
     some ((IntKind.i64.wrap (((b.2.nodes.length+1:Nat):Int) - 1)),({ rules:=b.2.rules,ends:=b.2.ends,alphas:=b.2.alphas,nodes:=(b.2.nodes++[({ parent:=String_1,cond:=i,alpha:=b.1,tokens:=[] }:ZV)]),facts:=b.2.facts,tries:=b.2.tries }:Ze))
    else
     (Y1 a_2).bind fun j=>
     chk (append_0.nodes.length+1<=1073741824) <|
     some ((IntKind.i64.wrap (((append_0.nodes.length+1:Nat):Int) - 1)),({ rules:=append_0.rules,ends:=append_0.ends,alphas:=append_0.alphas,nodes:=(append_0.nodes++[({ parent:=String_1,cond:=j,alpha:=(-1),tokens:=[] }:ZV)]),facts:=append_0.facts,tries:=append_0.tries }:Ze)))
  append_0.nodes 0 ()
noncomputable def Zdp (rules_0:(List Zh)):Option Ze:=
 (QS rules_0).bind fun q=>
 forL (σ:=Int×(List Zh)×(List Int)×(List YR)×(List ZV)×(List Zg))
  (fun (i62:Nat) (t:Zh) s=>
   match s with
   |(c,d,e,f,g,i)=>
   (Zcz t).bind fun u=>
   forL (σ:=Int×(List Zh)×(List Int)×(List YR)×(List ZV)×(List Zg)×Int)
    (fun (i77:Nat) (v:Zj) s=>
     match s with
     |(j,k,b,l,m,o,p)=>
     (Zab ({ rules:=k,ends:=b,alphas:=l,nodes:=m,facts:=o,tries:=j }:Ze) p v).bind fun a=>
     some (.inl (a.2.tries,a.2.rules,a.2.ends,a.2.alphas,a.2.nodes,a.2.facts,a.1)))
    (fun s=>
     match s with
     |(j,k,b,l,m,o,p)=>
     chk (b.length+1<=1073741824) <|
     some (.inl (j,k,(b++[p]),l,m,o)))
    u 0 (c,d,e,f,g,i,0))
  (fun s=>
   match s with
   |(c,d,e,f,g,i)=>
   some ({ rules:=d,ends:=e,alphas:=f,nodes:=g,facts:=i,tries:=c }:Ze))
  rules_0 0 (0,q,[],[],[({ parent:=(-1),cond:=({ kind:=0,pattern:=({ rel:=(⟨#[]⟩),args:=[] }:Zi),left:=(⟨#[]⟩),right:=(⟨#[]⟩) }:Zj),alpha:=(-1),tokens:=[] }:ZV)],[])
noncomputable def ZgY (e:Ze) (node_1:Int):Option (List Zj):=
 if (decide (node_1<1))=true then
  some []
 else
  if (decide (((e.nodes.length:Nat):Int)<=node_1))=true then
   some []
  else
   iter (σ:=(List Int)×Int)
    (fun s=>
     match s with
     |(a,b)=>
     chk (a.length+1<=1073741824) <|
     (atI e.nodes b).bind fun f=>
     if (decide (f.parent<1))=true then
      iter (σ:=(List Zj)×Int)
       (fun s=>
        match s with
        |(g,c)=>
        if (decide (0<=c))=true then
         chk (0<=c/\c<((a.length+1:Nat):Int)) <|
         ((a++[b])[(A4 c)]?).bind fun j=>
         (atI e.nodes j).bind fun k=>
         (Y1 k.cond).bind fun l=>
         chk (g.length+1<=1073741824) <|
         some (.inl ((g++[l]),(IntKind.i64.wrap (c - 1))))
        else
         some (.inr (.inr g)))
       ([],(IntKind.i64.wrap (((a.length+1:Nat):Int) - 1)))
     else
      if (decide (b<=f.parent))=true then
       iter (σ:=(List Zj)×Int)
        (fun s=>
         match s with
         |(i,d)=>
         if (decide (0<=d))=true then
          chk (0<=d/\d<((a.length+1:Nat):Int)) <|
          ((a++[b])[(A4 d)]?).bind fun m=>
          (atI e.nodes m).bind fun o=>
          (Y1 o.cond).bind fun p=>
          chk (i.length+1<=1073741824) <|
          some (.inl ((i++[p]),(IntKind.i64.wrap (d - 1))))
         else
          some (.inr (.inr i)))
        ([],(IntKind.i64.wrap (((a.length+1:Nat):Int) - 1)))
      else
       some (.inl ((a++[b]),f.parent)))
    ([],node_1)
noncomputable def QL (n_0:Ze) (facts_1:(List Zg)):Option Ze:=
 (Yb facts_1).bind fun f=>
 iter (σ:=(List YR)×Int)
  (fun s=>
   match s with
   |(c,b)=>
   if (decide (b<((n_0.alphas.length:Nat):Int)))=true then
    chk (0<=b/\b<((c.length:Nat):Int)) <|
    (c[(A4 b)]?).bind fun g=>
    (Xx g.shape [] facts_1).bind fun i=>
    some (.inl ((AU c (A4 b) ({ shape:=g.shape,facts:=i }:YR)),(IntKind.i64.wrap (b+1))))
   else
    iter (σ:=(List ZV)×Int)
     (fun s=>
      match s with
      |(d,a)=>
      if (decide (a<((n_0.nodes.length:Nat):Int)))=true then
       (ZgY ({ rules:=n_0.rules,ends:=n_0.ends,alphas:=c,nodes:=d,facts:=f,tries:=n_0.tries }:Ze) a).bind fun j=>
       (ZbW j facts_1).bind fun k=>
       chk (0<=a/\a<((d.length:Nat):Int)) <|
       (d[(A4 a)]?).bind fun e=>
       some (.inl ((AU d (A4 a) ({ parent:=e.parent,cond:=e.cond,alpha:=e.alpha,tokens:=k }:ZV)),(IntKind.i64.wrap (a+1))))
      else
       some (.inr (.inr ({ rules:=n_0.rules,ends:=n_0.ends,alphas:=c,nodes:=d,facts:=f,tries:=n_0.tries }:Ze))))
     (n_0.nodes,0))
  (n_0.alphas,0)
noncomputable def Zh5 (rules_0:(List Zh)) (facts_1:(List Zg)) (tries_2:Int):Option Ze:=
 (Zdp rules_0).bind fun b=>
 (QL b facts_1).bind fun a=>
 some ({ rules:=a.rules,ends:=a.ends,alphas:=a.alphas,nodes:=a.nodes,facts:=a.facts,tries:=tries_2 }:Ze)
noncomputable def QN (rules_0:(List Zh)):Option (Ze×Bool):=
 (Q6 rules_0).bind fun a=>
 if a=true then
  (Zh5 rules_0 [] 0).bind fun b=>
  some (b,true)
 else
  some (({ rules:=[],ends:=[],alphas:=[],nodes:=[],facts:=[],tries:=0 }:Ze),false)
noncomputable def Zcp (l_0:(List Zs)):Option (List Zs):=
 forL (σ:=(List Zs))
  (fun (i12:Nat) (b:Zs) a=>
   (Yb b.facts).bind fun c=>
   (XM b.binding).bind fun d=>
   chk (a.length+1<=1073741824) <|
   some (.inl (a++[({ facts:=c,binding:=d }:Zs)])))
  (fun a=>
   some a)
  l_0 0 []
noncomputable def Yt (append_0:Ze):Option Ze:=
 (QS append_0.rules).bind fun e=>
 (XX append_0.ends).bind fun f=>
 (Yb append_0.facts).bind fun g=>
 forL (σ:=(List YR))
  (fun (i30:Nat) (d:YR) a=>
   (XO d.shape).bind fun i=>
   (Yb d.facts).bind fun j=>
   chk (a.length+1<=1073741824) <|
   some (.inl (a++[({ shape:=i,facts:=j }:YR)])))
  (fun a=>
   forL (σ:=(List ZV))
    (fun (i45:Nat) (b:ZV) c=>
     (Y1 b.cond).bind fun k=>
     (Zcp b.tokens).bind fun l=>
     chk (c.length+1<=1073741824) <|
     some (.inl (c++[({ parent:=b.parent,cond:=k,alpha:=b.alpha,tokens:=l }:ZV)])))
    (fun c=>
     some ({ rules:=e,ends:=f,alphas:=a,nodes:=c,facts:=g,tries:=append_0.tries }:Ze))
    append_0.nodes 0 [])
  append_0.alphas 0 []
noncomputable def ZeK (append_0:Zh) (a:Zh):Option Bool:=
 if (sEq append_0.name a.name)=true then
  if (append_0.priority != a.priority)=true then
   some false
  else
   if (((append_0.cond.length:Nat):Int) != ((a.cond.length:Nat):Int))=true then
    some false
   else
    if (((append_0.thn.length:Nat):Int) != ((a.thn.length:Nat):Int))=true then
     some false
    else
     forL (σ:=Unit)
      (fun (d:Nat) (e:Zj) _=>
       (atI a.cond ((d:Nat):Int)).bind fun f=>
       (Zav e f).bind fun g=>
       if g=true then
        some (.inl ())
       else
        some (.inr false))
      (fun _=>
       forL (σ:=Unit)
        (fun (i:Nat) (b:ZB) _=>
         (atI a.thn ((i:Nat):Int)).bind fun c=>
         if (b.kind != c.kind)=true then
          some (.inr false)
         else
          (XI b.pattern c.pattern).bind fun j=>
          if j=true then
           some (.inl ())
          else
           some (.inr false))
        (fun _=>
         some true)
        append_0.thn 0 ())
      append_0.cond 0 ()
 else
  some false
noncomputable def ZbT (a_0:(List Zh)) (a:(List Zh)):Option Bool:=
 if (((a_0.length:Nat):Int) != ((a.length:Nat):Int))=true then
  some false
 else
  forL (σ:=Unit)
   (fun (b:Nat) (c:Zh) _=>
    (atI a ((b:Nat):Int)).bind fun d=>
    (ZeK c d).bind fun e=>
    if e=true then
     some (.inl ())
    else
     some (.inr false))
   (fun _=>
    some true)
   a_0 0 ()
noncomputable def QR (a_0:(List Zg)) (a:(List Zg)):Option Bool:=
 if (((a_0.length:Nat):Int) != ((a.length:Nat):Int))=true then
  some false
 else
  forL (σ:=Unit)
   (fun (b:Nat) (c:Zg) _=>
    (atI a ((b:Nat):Int)).bind fun d=>
    (Xi c d).bind fun e=>
    if e=true then
     some (.inl ())
    else
     some (.inr false))
   (fun _=>
    some true)
   a_0 0 ()
noncomputable def ZdN (a_0:(List Zo)) (a:(List Zo)):Option Bool:=
 if (((a_0.length:Nat):Int) != ((a.length:Nat):Int))=true then
  some false
 else
  forL (σ:=Unit)
   (fun (d:Nat) (b:Zo) _=>
    (atI a ((d:Nat):Int)).bind fun c=>
    if (sEq b.var c.var&&sEq b.value c.value)=true then
     some (.inl ())
    else
     some (.inr false))
   (fun _=>
    some true)
   a_0 0 ()
noncomputable def ZcB (a_0:(List Zs)) (a:(List Zs)):Option Bool:=
 if (((a_0.length:Nat):Int) != ((a.length:Nat):Int))=true then
  some false
 else
  forL (σ:=Unit)
   (fun (d:Nat) (b:Zs) _=>
    (atI a ((d:Nat):Int)).bind fun c=>
    (QR b.facts c.facts).bind fun e=>
    if e=true then
     (ZdN b.binding c.binding).bind fun f=>
     if f=true then
      some (.inl ())
     else
      some (.inr false)
    else
     some (.inr false))
   (fun _=>
    some true)
   a_0 0 ()
noncomputable def ZaD (append_0:Ze) (a:Ze):Option Bool:=
 (ZbT append_0.rules a.rules).bind fun f=>
 if f=true then
  (ZbK append_0.ends a.ends).bind fun g=>
  if g=true then
   (QR append_0.facts a.facts).bind fun i=>
   if i=true then
    if (((append_0.alphas.length:Nat):Int) != ((a.alphas.length:Nat):Int))=true then
     some false
    else
     if (((append_0.nodes.length:Nat):Int) != ((a.nodes.length:Nat):Int))=true then
      some false
     else
      forL (σ:=Unit)
       (fun (j:Nat) (d:YR) _=>
        (atI a.alphas ((j:Nat):Int)).bind fun e=>
        (XI d.shape e.shape).bind fun k=>
        if k=true then
         (QR d.facts e.facts).bind fun l=>
         if l=true then
          some (.inl ())
         else
          some (.inr false)
        else
         some (.inr false))
       (fun _=>
        forL (σ:=Unit)
         (fun (m:Nat) (b:ZV) _=>
          (atI a.nodes ((m:Nat):Int)).bind fun c=>
          if (b.parent != c.parent)=true then
           some (.inr false)
          else
           if (b.alpha != c.alpha)=true then
            some (.inr false)
           else
            (Zav b.cond c.cond).bind fun o=>
            if o=true then
             (ZcB b.tokens c.tokens).bind fun p=>
             if p=true then
              some (.inl ())
             else
              some (.inr false)
            else
             some (.inr false))
         (fun _=>
          some true)
         append_0.nodes 0 ())
       append_0.alphas 0 ()
   else
    some false
  else
   some false
 else
  some false
noncomputable def QV (n_0:Ze):Option Bool:=
 (Q6 n_0.rules).bind fun a=>
 if a=true then
  (Q3 n_0.facts).bind fun b=>
  if b=true then
   if (decide (0<=n_0.tries))=true then
    (Zh5 n_0.rules n_0.facts 0).bind fun c=>
    (ZaD n_0 c).bind fun d=>
    some d
   else
    some false
  else
   some false
 else
  some false
noncomputable def ZaV (l_0:(List Zg)) (f_1:Zg):Option Int:=
 forL (σ:=Unit)
  (fun (i6:Nat) (a:Zg) _=>
   (Xi a f_1).bind fun b=>
   if b=true then
    some (.inr ((i6:Nat):Int))
   else
    some (.inl ()))
  (fun _=>
   some (-1))
  l_0 0 ()
noncomputable def ZfN (l_0:(List Zg)) (f_1:Zg):Option (List Zg):=
 forL (σ:=(List Zg)×Bool)
  (fun (i21:Nat) (b:Zg) s=>
   match s with
   |(a,c)=>
   if c=true then
    (Yw b).bind fun d=>
    chk (a.length+1<=1073741824) <|
    some (.inl ((a++[d]),true))
   else
    (YH b f_1).bind fun e=>
    if (decide (0<e))=true then
     (Yw f_1).bind fun f=>
     chk (a.length+1<=1073741824) <|
     (Yw b).bind fun g=>
     chk (a.length+1+1<=1073741824) <|
     some (.inl (((a++[f])++[g]),true))
    else
     (Yw b).bind fun i=>
     chk (a.length+1<=1073741824) <|
     some (.inl ((a++[i]),false)))
  (fun s=>
   match s with
   |(a,c)=>
   if c=true then
    some a
   else
    (Yw f_1).bind fun j=>
    chk (a.length+1<=1073741824) <|
    some (a++[j]))
  l_0 0 ([],false)
noncomputable def Zf5 (l_0:(List Zg)) (f_1:Zg):Option ((List Zg)×Bool):=
 (Q3 l_0).bind fun a=>
 if a=true then
  (XA f_1).bind fun b=>
  if b=true then
   (ZaV l_0 f_1).bind fun c=>
   if (decide (0<=c))=true then
    (Yb l_0).bind fun d=>
    some (d,false)
   else
    if (decide (24<=((l_0.length:Nat):Int)))=true then
     (Yb l_0).bind fun e=>
     some (e,false)
    else
     (ZfN l_0 f_1).bind fun f=>
     some (f,true)
  else
   (Yb l_0).bind fun g=>
   some (g,false)
 else
  (Yb l_0).bind fun i=>
  some (i,false)
noncomputable def Zad (a_0:Zs) (b_1:Zs):Option Int:=
 (YI a_0.facts b_1.facts).bind fun a=>
 some a
noncomputable def Zeq (l_0:(List Zs)) (t_1:Zs):Option Bool:=
 forL (σ:=Unit)
  (fun (i6:Nat) (a:Zs) _=>
   (Zad a t_1).bind fun b=>
   if (b==0)=true then
    some (.inr true)
   else
    some (.inl ()))
  (fun _=>
   some false)
  l_0 0 ()
noncomputable def Zeg (g:Ze) (String_1:(List Zg)) (a_2:Zg):Option Ze:=
 (Yt g).bind fun i=>
 (QL i String_1).bind fun a=>
 forL (σ:=Int)
  (fun (i50:Nat) (b:ZV) c=>
   if (((i50:Nat):Int)==0)=true then
    some (.inl c)
   else
    chk (0<=b.parent/\b.parent<((a.nodes.length:Nat):Int)) <|
    (a.nodes[(A4 b.parent)]?).bind fun j=>
    forL (σ:=Int×Int)
     (fun (i67:Nat) (k:Zs) s=>
      match s with
      |(e,d)=>
      (atI g.nodes b.parent).bind fun l=>
      (Zeq l.tokens k).bind fun m=>
      if m=true then
       some (.inl ((IntKind.i64.wrap (e+1)),d))
      else
       some (.inl (e,(IntKind.i64.wrap (d+1)))))
     (fun s=>
      match s with
      |(e,d)=>
      if (decide (b.alpha<0))=true then
       some (.inl (IntKind.i64.wrap (c+d)))
      else
       chk (0<=b.alpha/\b.alpha<((a.alphas.length:Nat):Int)) <|
       (a.alphas[(A4 b.alpha)]?).bind fun f=>
       (Qk f.shape a_2 []).bind fun o=>
       if o.2=true then
        some (.inl (IntKind.i64.wrap ((IntKind.i64.wrap (c+(IntKind.i64.wrap (d*((f.facts.length:Nat):Int)))))+e)))
       else
        some (.inl (IntKind.i64.wrap (c+(IntKind.i64.wrap (d*((f.facts.length:Nat):Int)))))))
     j.tokens 0 (0,0))
  (fun c=>
   some ({ rules:=a.rules,ends:=a.ends,alphas:=a.alphas,nodes:=a.nodes,facts:=a.facts,tries:=c }:Ze))
  a.nodes 0 a.tries
noncomputable def ZuZ (n_0:Ze) (f_1:Zg):Option (Ze×Bool):=
 (Zf5 n_0.facts f_1).bind fun a=>
 if a.2=true then
  (Zeg n_0 a.1 f_1).bind fun b=>
  some (b,true)
 else
  (Yt n_0).bind fun c=>
  some (c,false)
noncomputable def QG (n_0:Ze) (f_1:Zg):Option (Ze×Bool):=
 (QV n_0).bind fun b=>
 if b=true then
  (ZuZ n_0 f_1).bind fun a=>
  some (a.1,a.2)
 else
  (Yt n_0).bind fun c=>
  some (c,false)
noncomputable def ZcC (a:(List Zg)) (f_1:Zg):Option ((List Zg)×Bool):=
 (ZaV a f_1).bind fun b=>
 (Q3 a).bind fun e=>
 if e=true then
  if (decide (b<0))=true then
   (Yb a).bind fun f=>
   some (f,false)
  else
   chk (0<=b/\b<=((a.length:Nat):Int)) <|
   (Yb (List.drop 0 (List.take (A4 b) a))).bind fun c=>
   chk (0<=(IntKind.i64.wrap (b+1))/\(IntKind.i64.wrap (b+1))<=((a.length:Nat):Int)) <|
   (Yb (List.drop (A4 (IntKind.i64.wrap (b+1))) (List.take a.length a))).bind fun d=>
   chk (c.length+d.length<=1073741824) <|
   some ((c++d),true)
 else
  (Yb a).bind fun g=>
  some (g,false)
noncomputable def ZqA (n_0:Ze) (f_1:Zg):Option (Ze×Bool):=
 (ZcC n_0.facts f_1).bind fun a=>
 if a.2=true then
  (Zeg n_0 a.1 f_1).bind fun b=>
  some (b,true)
 else
  (Yt n_0).bind fun c=>
  some (c,false)
noncomputable def Xv (n_0:Ze) (f_1:Zg):Option (Ze×Bool):=
 (QV n_0).bind fun b=>
 if b=true then
  (ZqA n_0 f_1).bind fun a=>
  some (a.1,a.2)
 else
  (Yt n_0).bind fun c=>
  some (c,false)
noncomputable def ZbY (n_0:Ze) (l_1:(List Z6)):Option (Ze×Bool):=
 (Yt n_0).bind fun m=>
 forL (σ:=Int×(List Zh)×(List Int)×(List YR)×(List ZV)×(List Zg))
  (fun (i27:Nat) (a:Z6) s=>
   match s with
   |(b,c,d,e,f,g)=>
   if (a.kind==1)=true then
    (QG ({ rules:=c,ends:=d,alphas:=e,nodes:=f,facts:=g,tries:=b }:Ze) a.fact).bind fun i=>
    if i.2=true then
     some (.inl (i.1.tries,i.1.rules,i.1.ends,i.1.alphas,i.1.nodes,i.1.facts))
    else
     (Yt n_0).bind fun o=>
     some (.inr (o,false))
   else
    if (a.kind==4)=true then
     (QG ({ rules:=c,ends:=d,alphas:=e,nodes:=f,facts:=g,tries:=b }:Ze) a.fact).bind fun j=>
     if j.2=true then
      some (.inl (j.1.tries,j.1.rules,j.1.ends,j.1.alphas,j.1.nodes,j.1.facts))
     else
      (Yt n_0).bind fun p=>
      some (.inr (p,false))
    else
     if (a.kind==2)=true then
      (Xv ({ rules:=c,ends:=d,alphas:=e,nodes:=f,facts:=g,tries:=b }:Ze) a.fact).bind fun k=>
      if k.2=true then
       some (.inl (k.1.tries,k.1.rules,k.1.ends,k.1.alphas,k.1.nodes,k.1.facts))
      else
       (Yt n_0).bind fun q=>
       some (.inr (q,false))
     else
      if (a.kind==5)=true then
       (Xv ({ rules:=c,ends:=d,alphas:=e,nodes:=f,facts:=g,tries:=b }:Ze) a.fact).bind fun l=>
       if l.2=true then
        some (.inl (l.1.tries,l.1.rules,l.1.ends,l.1.alphas,l.1.nodes,l.1.facts))
       else
        (Yt n_0).bind fun t=>
        some (.inr (t,false))
      else
       some (.inl (b,c,d,e,f,g)))
  (fun s=>
   match s with
   |(b,c,d,e,f,g)=>
   some (({ rules:=c,ends:=d,alphas:=e,nodes:=f,facts:=g,tries:=b }:Ze),true))
  l_1 0 (m.tries,m.rules,m.ends,m.alphas,m.nodes,m.facts)
noncomputable def Zfr (a_0:(List ByteArray)) (a:(List ByteArray)):Option Bool:=
 if (((a_0.length:Nat):Int) != ((a.length:Nat):Int))=true then
  some false
 else
  forL (σ:=Unit)
   (fun (b:Nat) (c:ByteArray) _=>
    (atI a ((b:Nat):Int)).bind fun d=>
    if (sEq c d)=true then
     some (.inl ())
    else
     some (.inr false))
   (fun _=>
    some true)
   a_0 0 ()
noncomputable def Znf (a_0:Zg) (b_1:Zg):Option Bool:=
 if (sEq a_0.rel b_1.rel)=true then
  (Zfr a_0.args b_1.args).bind fun a=>
  some a
 else
  some false
noncomputable def ZdL (a_0:(List Zg)) (a:(List Zg)):Option Bool:=
 if (((a_0.length:Nat):Int) != ((a.length:Nat):Int))=true then
  some false
 else
  forL (σ:=Unit)
   (fun (b:Nat) (c:Zg) _=>
    (atI a ((b:Nat):Int)).bind fun d=>
    (Znf c d).bind fun e=>
    if e=true then
     some (.inl ())
    else
     some (.inr false))
   (fun _=>
    some true)
   a_0 0 ()
noncomputable def ZfB (l_0:(List ByteArray)):Option (List ByteArray):=
 chk (l_0.length<=1073741824) <|
 some l_0
noncomputable def ZhL (f_0:Zg):Option Zg:=
 (ZfB f_0.args).bind fun a=>
 some ({ rel:=f_0.rel,args:=a }:Zg)
noncomputable def Zef (l_0:(List Zv)):Option (List Zg):=
 forL (σ:=(List Zg))
  (fun (i7:Nat) (b:Zv) a=>
   (ZhL b.fact).bind fun c=>
   chk (a.length+1<=1073741824) <|
   some (.inl (a++[c])))
  (fun a=>
   some a)
  l_0 0 []
noncomputable def ZeV (d_0:Zlg):Option Bool:=
 (Qm d_0.engine).bind fun a=>
 if a=true then
  (QV d_0.network).bind fun b=>
  if b=true then
   (ZbT d_0.engine.rules d_0.network.rules).bind fun c=>
   if c=true then
    (Za7 d_0.engine.memory).bind fun d=>
    (QR d_0.network.facts d).bind fun e=>
    some e
   else
    some false
  else
   some false
 else
  some false
noncomputable def Zb4 (e_0:Zu):Option (List ZC):=
 (Qm e_0).bind fun a=>
 if a=true then
  (QM e_0.rules e_0.memory e_0.fired).bind fun b=>
  some b
 else
  some []
noncomputable def Zbn (c:Ze):Option (List Yk):=
 forL (σ:=(List Yk))
  (fun (j:Nat) (e:Zh) d=>
   (ZaZ e).bind fun k=>
   (atI c.ends ((j:Nat):Int)).bind fun l=>
   (atI c.nodes l).bind fun m=>
   forL (σ:=(List Yk))
    (fun (i235:Nat) (f:Zs) a=>
     (Yb f.facts).bind fun o=>
     forL (σ:=(List Zo))
      (fun (i249:Nat) (g:Zo) b=>
       (Za0 f.binding g.value).bind fun i=>
       if i.2=true then
        (ZfD b g.var i.1).bind fun p=>
        some (.inl p.1)
       else
        some (.inl b))
      (fun b=>
       chk (a.length+1<=1073741824) <|
       some (.inl (a++[({ rule:=e.name,facts:=o,binding:=b }:Yk)])))
      k 0 [])
    (fun a=>
     some (.inl a))
    m.tokens 0 d)
  (fun d=>
   some d)
  c.rules 0 []
noncomputable def Zbg (n_0:Ze):Option (List Yk):=
 (QV n_0).bind fun a=>
 if a=true then
  (Zbn n_0).bind fun b=>
  some b
 else
  some []
noncomputable def ZbD (a_0:(List Zo)) (a:(List Zo)):Option Bool:=
 if (((a_0.length:Nat):Int) != ((a.length:Nat):Int))=true then
  some false
 else
  forL (σ:=Unit)
   (fun (d:Nat) (b:Zo) _=>
    (atI a ((d:Nat):Int)).bind fun c=>
    if (sEq b.var c.var&&sEq b.value c.value)=true then
     some (.inl ())
    else
     some (.inr false))
   (fun _=>
    some true)
   a_0 0 ()
noncomputable def Ze3 (a_0:Yk) (b_1:Yk):Option Bool:=
 if (sEq a_0.rule b_1.rule)=true then
  (ZdL a_0.facts b_1.facts).bind fun a=>
  if a=true then
   (ZbD a_0.binding b_1.binding).bind fun b=>
   some b
  else
   some false
 else
  some false
noncomputable def ZeI (l_0:(List Yk)) (m_1:Yk):Option Bool:=
 forL (σ:=Unit)
  (fun (i6:Nat) (a:Yk) _=>
   (Ze3 a m_1).bind fun b=>
   if b=true then
    some (.inr true)
   else
    some (.inl ()))
  (fun _=>
   some false)
  l_0 0 ()
noncomputable def Ze8 (append_0:(List Int)):Option Bool:=
 (Zu3 append_0).bind fun u=>
 if u=true then
  some true
 else
  (Zel append_0).bind fun o=>
  (ZdB o.1).bind fun c=>
  forL (σ:=Int×Bool×(List Zh)×(List Zv)×(List ZP)×(List Z6))
   (fun (i34:Nat) (l:Z6) s=>
    match s with
    |(d,e,f,a,g,b)=>
    if (l.kind==1)=true then
     (Zea ({ rules:=f,memory:=a,clock:=d,fired:=g,halted:=e,log:=b }:Zu) l.fact).bind fun i=>
     some (.inl (i.1.clock,i.1.halted,i.1.rules,i.1.memory,i.1.fired,i.1.log))
    else
     if (l.kind==2)=true then
      (Zc2 ({ rules:=f,memory:=a,clock:=d,fired:=g,halted:=e,log:=b }:Zu) l.fact).bind fun j=>
      some (.inl (j.1.clock,j.1.halted,j.1.rules,j.1.memory,j.1.fired,j.1.log))
     else
      (ZaY ({ rules:=f,memory:=a,clock:=d,fired:=g,halted:=e,log:=b }:Zu)).bind fun k=>
      some (.inl (k.1.clock,k.1.halted,k.1.rules,k.1.memory,k.1.fired,k.1.log)))
   (fun s=>
    match s with
    |(d,e,f,a,g,b)=>
    (QN o.1).bind fun p=>
    (ZbY p.1 b).bind fun m=>
    if p.2=true then
     if m.2=true then
      (Zef a).bind fun v=>
      (ZdL m.1.facts v).bind fun w=>
      if w=true then
       (ZeV ({ engine:=({ rules:=f,memory:=a,clock:=d,fired:=g,halted:=e,log:=b }:Zu),network:=m.1 }:Zlg)).bind fun x=>
       if x=true then
        (Zb4 ({ rules:=f,memory:=a,clock:=d,fired:=g,halted:=e,log:=b }:Zu)).bind fun q=>
        (Zbg m.1).bind fun t=>
        forL (σ:=Unit)
         (fun (i51:Nat) (y:ZC) _=>
          (ZeI t y.mtch).bind fun z=>
          if z=true then
           some (.inl ())
          else
           some (.inr false))
         (fun _=>
          some (decide (((q.length:Nat):Int)<=((t.length:Nat):Int))))
         q 0 ()
       else
        some false
      else
       some false
     else
      some false
    else
     some false)
   o.2 0 (c.1.clock,c.1.halted,c.1.rules,c.1.memory,c.1.fired,c.1.log)
end
theorem Zen (a b:ByteArray):toL (a++b)=toL a++toL b:=by simp [toL]
theorem Zt8 (a b:List UInt8):ofL (a++b)=ofL a++ofL b:=Zgu (by rw [Zen,Zdi,Zdi,Zdi])
theorem Zhs (a:List UInt8):(ofL a).size=a.length:=by rw [<-ZdZ,Zdi]
theorem ZAd (a b c:ByteArray):(a++b)++c=a++(b++c):=Zgu (by simp only[Zen,List.append_assoc])
theorem ZAJ (a b:ByteArray):(a++b).size=a.size+b.size:=by rw [<-ZdZ,<-ZdZ,<-ZdZ,Zen,AO]
theorem Zfd {n:Int}(h0:-9223372036854775808<=n) (h1:n<=9223372036854775807):IntKind.i64.wrap n=n:=by rw [IntKind.wrap_i64];omega
theorem Zzf (u:Nat) (hu:u<9223372036854775808):XG [IntKind.u8.wrap (IntKind.i64.wrap (48+Int.tmod (u:Int) 10))]=ofL [AW (48+u % 10)]:=by
 have h1:Int.tmod (u:Int) 10=((u % 10:Nat):Int):=by rw [Int.tmod_eq_emod_of_nonneg yE];omega
 rw [h1,Zfd yE yE,IntKind.wrap_u8,show (48+((u % 10:Nat):Int)) % 256=((48+u % 10:Nat):Int) by omega]
 apply Zgu
 rw [Zdi]
 simp only[XG,List.map_cons,List.map_nil,toL,AD]
theorem ZBe (u:Nat) (hu:u<9223372036854775808):IntKind.i64.wrap (Int.tdiv (u:Int) 10)=((u / 10:Nat):Int):=by
 rw [Int.tdiv_eq_ediv_of_nonneg yE,Zfd yE yE]
 omega
theorem Zzu {body:Int×ByteArray->Option ((Int×ByteArray) ⊕ ByteArray)}(hb:∀n t,body (n,t)=chk ((XG [IntKind.u8.wrap (IntKind.i64.wrap (48+Int.tmod n 10))]).size+t.size<=9223372036854775807)
   (if (IntKind.i64.wrap (Int.tdiv n 10)==0)=true then some (.inr (XG [IntKind.u8.wrap (IntKind.i64.wrap (48+Int.tmod n 10))]++t)) else some (.inl (IntKind.i64.wrap (Int.tdiv n 10),XG [IntKind.u8.wrap (IntKind.i64.wrap (48+Int.tmod n 10))]++t)))):
  ∀(u:Nat) (t:ByteArray),u<9223372036854775808->t.size+Lib.nDigits u<=1000->iter body ((u:Int),t)=some (ofL (Lib.decDigits u)++t):=by
 intro u
 induction u using Nat.strongRecOn with
 |ind u ih=>
  intro t hu ht
  rw [ZqU,hb,Zzf u hu,ZBe u hu]
  have hp:=Lib.nDigits_pos u
  rw [Zk _ (by rw [Zhs];simp;omega)]
  by_cases h:u<10
  .have h0:u / 10=0:=by omega
   rw [h0,Lib.decDigits_one h,show u % 10=u by omega]
   rfl
  .have h0:¬(((u / 10:Nat):Int)==0)=true:=by simp;omega
   rw [if_neg h0]
   have hd:=Lib.nDigits_big h
   show iter body (((u / 10:Nat):Int),ofL [AW (48+u % 10)]++t)=_
   rw [ih (u / 10) yE _ yE (by rw [ZAJ,Zhs];simp;omega),<-ZAd,<-Zt8]
   congr 2
   rw [show Lib.decDigits u=Lib.decDigits (u / 10)++[AW (48+u % 10)] by rw [Lib.decDigits,dif_neg h]]
theorem ZEb (t:ByteArray):t++(⟨#[]⟩:ByteArray)=t:=Zgu (by rw [Zen];simp [toL])
theorem Zqe {body:Int×ByteArray->Option ((Int×ByteArray) ⊕ ByteArray)}(hb:∀n t,body (n,t)=chk ((XG [IntKind.u8.wrap (IntKind.i64.wrap (48+Int.tmod n 10))]).size+t.size<=9223372036854775807)
   (if (IntKind.i64.wrap (Int.tdiv n 10)==0)=true then some (.inr (XG [IntKind.u8.wrap (IntKind.i64.wrap (48+Int.tmod n 10))]++t)) else some (.inl (IntKind.i64.wrap (Int.tdiv n 10),XG [IntKind.u8.wrap (IntKind.i64.wrap (48+Int.tmod n 10))]++t))))
  {n:Int} (h0:0<=n) (h1:n<=9223372036854775807):iter body (n,⟨#[]⟩)=some (ofL (Lib.itoa n)):=by
 obtain ⟨u,rfl⟩:∃u:Nat,n=(u:Int):=⟨n.toNat,yE⟩
 have:=Lib.nDigits_le20 u yE
 rw [Zzu hb u _ yE (by show 0+_<=_;omega),ZEb,Lib.itoa_nonneg]
theorem ZtV:ofL (Lib.itoa (-9223372036854775808))=(⟨#[45,57,50,50,51,51,55,50,48,51,54,56,53,52,55,55,53,56,48,56]⟩:ByteArray):=by
 rw [show (-9223372036854775808:Int)=-((9223372036854775808:Nat):Int) by rfl,Lib.itoa_neg _ yE,Lib.decDigits_eq,Lib.nDigits_unique 18 _ yF yF]
 decide +kernel
theorem ZkR {n:Int}(h0:0<=n) (h1:n<=9223372036854775807):Zbu n=some (ofL (Lib.itoa n)):=by
 unfold Zbu
 rw [if_neg (by simp;omega),if_neg (by simp;omega)]
 exact Zqe (fun _ _=>rfl) h0 h1
theorem Zg1 {n:Int}(h:Znu n):QQ n=some (ofL (Lib.itoa n)):=by
 unfold QQ
 by_cases hm:n=-9223372036854775808
 .subst hm
  rw [if_pos yF,ZtV]
 .rw [if_neg (by simpa using hm)]
  by_cases hn:n<0
  .have h2:Znu n:=h
   unfold Znu at h2
   rw [if_pos (by simpa using hn),Zfd yE yE,ZkR yE yE,A0]
   obtain ⟨u,rfl⟩:∃u:Nat,n=-(u:Int):=⟨n.natAbs,yE⟩
   rw [show (0 - -(u:Int))=(u:Int) by omega,Lib.itoa_nonneg,Lib.itoa_neg u yE]
   have:=Lib.nDigits_le20 u yE
   rw [Zk _ (by rw [Zhs,Lib.decDigits_length];show 1+_<=_;omega)]
   exact congrArg some (Zgu (by rw [Zen,Zdi,Zdi];rfl))
  .rw [if_neg (by simpa using hn)]
   exact Zqe (fun _ _=>rfl) yE h.2
theorem ZcE {n:Int}(h:Znu n):QP n=some (ofL (Lib.itoa n)):=by
 have h2:-9223372036854775808<=n/\n<=9223372036854775807:=h
 unfold QP Zqt
 rw [Zk _ h2]
 rfl
theorem Zqb {n:Int}(h:Znu n):(ofL (Lib.itoa n)).size<=21:=by
 rw [Zhs]
 exact Lib.itoa_length_le n h.1 h.2
def Zcn (b:UInt8):Bool:=(decide (97<=b.toNat)&&decide (b.toNat<=122))||(decide (48<=b.toNat)&&decide (b.toNat<=57))
def ZU (s:ByteArray):Bool:=decide (1<=s.size)&&decide (s.size<=8)&&(toL s).all Zcn
theorem Zia (x a b:Int):Zcv x a b=some (decide (a<=x)&&decide (x<=b)):=by
 unfold Zcv
 by_cases h:a<=x<;>simp [h]
theorem ZpR (b:UInt8):IntKind.i64.wrap ((b.toNat:Nat):Int)=((b.toNat:Nat):Int):=Yi yE (by have:=b.toNat_lt;omega)
theorem Za6 {b:UInt8}:Zcn b=true↔(97<=b.toNat/\b.toNat<=122)\/(48<=b.toNat/\b.toNat<=57):=by
 simp only[Zcn,AX,A5,decide_eq_true_eq]
theorem Zhw (s:ByteArray):Zew s=some (ZU s):=by
 unfold Zew ZU
 rw [show s.data.toList=toL s from rfl,X8 (p:=Zcn) (r:=false)]
 .simp only[Zia,A0]
  cases (toL s).all Zcn with
  |true=>
   simp only[if_true,Ai]
   congr 1
   rw [AC]
   simp only[A5,decide_eq_true_eq]
   omega
  |false=>simp
 .intro i x _
  simp only[Zia,A0,ZpR,A5,decide_eq_true_eq]
  cases hp:Zcn x with
  |true=>
   have:=Za6.1 hp
   repeat' split
   all_goals first|rfl|(exfalso;omega)|(exfalso;simp_all;done)
  |false=>
   have:=mt (Za6 (b:=x)).2 (by simp [hp])
   repeat' split
   all_goals first|rfl|(exfalso;omega)|(exfalso;simp_all;done)
theorem Qf (s:ByteArray):QK s=some (ZU s):=by
 unfold QK ZU
 simp only[decide_eq_true_eq]
 rw [show s.data.toList=toL s from rfl,X8 (p:=Zcn) (r:=false)]
 .repeat' split
  .rw [decide_eq_false (show ¬1<=s.size by omega)];rfl
  .rw [decide_eq_false (show ¬s.size<=8 by omega)];simp
  .rename_i h;rw [h,decide_eq_true (show 1<=s.size by omega),decide_eq_true (show s.size<=8 by omega)];rfl
  .rename_i h;rw [eq_false_of_ne_true h];simp
 .intro i x _
  cases hp:Zcn x with
  |true=>
   have:=Za6.1 hp
   repeat' split
   all_goals first|rfl|(exfalso;omega)|(exfalso;simp_all;done)
  |false=>
   have:=mt (Za6 (b:=x)).2 (by simp [hp])
   repeat' split
   all_goals first|rfl|(exfalso;omega)|(exfalso;simp_all;done)
def Zir (s:ByteArray):UInt8:=(toL s).headD 0
theorem ZjZ {s:ByteArray}(h:1<=s.size):sAt s 0=some (Zir s):=by
 unfold sAt Zir
 have hl:0<(toL s).length:=by rw [ZdZ];omega
 have:(toL s)[0]?=some ((toL s).headD 0):=by
  cases hh:toL s with
  |nil=>rw [hh]at hl;simp at hl
  |cons a r=>simp
 rw [if_pos yE]
 exact ZqY this
def Xo (s:ByteArray):Bool:=ZU s&&decide (97<=(Zir s).toNat)
theorem Q4 {s:ByteArray}(h:ZU s=true):1<=s.size/\s.size<=8:=by
 simp only[ZU,A5,decide_eq_true_eq]at h
 exact h.1
theorem Zkq {s:ByteArray}(h:ZU s=true):Zcn (Zir s)=true:=by
 have hs:=Q4 h
 simp only[ZU,A5]at h
 have hl:0<(toL s).length:=by rw [ZdZ];omega
 refine AH.1 h.2 _ ?_
 unfold Zir
 cases hh:toL s with
 |nil=>rw [hh]at hl;simp at hl
 |cons a r=>simp
theorem Zlx (s:ByteArray):ZfA s=some (Xo s):=by
 unfold ZfA Xo
 rw [Zhw,A0]
 cases h:ZU s with
 |false=>simp
 |true=>
  simp only[if_true,ZjZ (Q4 h).1,A0,Zia,ZpR,A6]
  have hb:=Za6.1 (Zkq h)
  congr 1
  rw [AC]
  simp only[A5,decide_eq_true_eq]
  omega
theorem QU (s:ByteArray):XR s=some (Xo s):=by
 unfold XR Xo
 rw [Qf,A0]
 cases h:ZU s with
 |false=>simp
 |true=>
  simp only[if_true,ZjZ (Q4 h).1,A0,A6]
  congr 1
  rw [AC]
  simp only[decide_eq_true_eq]
  omega
def Zu5 (s:ByteArray):ByteArray:=s.extract 1 s.size
def ZS (s:ByteArray):Bool:=decide (1<s.size)&&decide ((Zir s).toNat=63)&&ZU (Zu5 s)
theorem ZbN (s:ByteArray):ZcI s=some (ZS s):=by
 unfold ZcI ZS Zu5
 by_cases h:1<s.size
 .have h':(1:Int)<((s.size:Nat):Int):=by omega
  simp only[h',h,decide_true,if_true,ZjZ (show 1<=s.size by omega),A0,A6]
  rw [Zk _ ⟨yE,yE⟩,show A4 1=1 from rfl,Zhw,A0]
  by_cases h2:(Zir s).toNat=63
  .simp [h2]
  .have:¬((Zir s).toNat:Int)=63:=by omega
   simp [h2,this]
 .have h':¬(1:Int)<((s.size:Nat):Int):=by omega
  simp [h',h]
theorem Zaz (s:ByteArray):Zcj s=some (ZS s):=by
 unfold Zcj ZS Zu5
 by_cases h:1<s.size
 .have h':(1:Int)<((s.size:Nat):Int):=by omega
  simp only[h',h,decide_true,if_true,ZjZ (show 1<=s.size by omega),A0,A6]
  rw [Zk _ ⟨yE,yE⟩,show A4 1=1 from rfl,Qf,A0]
  by_cases h2:(Zir s).toNat=63
  .simp [h2]
  .have:¬((Zir s).toNat:Int)=63:=by omega
   simp [h2,this]
 .have h':¬(1:Int)<((s.size:Nat):Int):=by omega
  simp [h',h]
def Yo (s:ByteArray):Bool:=ZU s||ZS s
theorem Zlf (s:ByteArray):ZaA s=some (Yo s):=by
 unfold ZaA Yo
 rw [Zhw,ZbN]
 cases ZU s<;>simp
theorem Zlj (s:ByteArray):ZaI s=some (Yo s):=by
 unfold ZaI Yo
 rw [Qf,Zaz]
 cases ZU s<;>simp
theorem QJ (l:List ByteArray) (s:ByteArray):YY l s=some (Zaf l s):=by
 unfold YY Zaf
 rw [Zb7 (p:=fun x=>sEq x s) (r:=true)]
 .cases l.any fun x=>sEq x s<;>simp
 .intro i x _
  cases sEq x s<;>simp
theorem Zd5 (l:List ByteArray) (s:ByteArray):Za1 l s=some (Zaf l s):=by
 unfold Za1 Zaf
 rw [Zb7 (p:=fun x=>sEq x s) (r:=true)]
 .cases l.any fun x=>sEq x s<;>simp
 .intro i x _
  cases sEq x s<;>simp
theorem Zex (l:List ByteArray) (s:ByteArray) (h:l.length+1<=1073741824):ZbH l s=some (ZaC l s):=by
 unfold ZbH
 refine (Zdq (fun l _ (st:List ByteArray×Bool)=>some (if st.2=true then st.1++l else st.1++ZaC l s)) (fun l _ (st:List ByteArray×Bool)=>st.1.length+l.length+(if st.2=true then 0 else 1)<=1073741824) ?_ ?_ l 0 ([],false) (by simpa using h)).trans yG
 .rintro i ⟨row,d⟩ hI
  cases d with
  |true=>simp
  |false=>simp only[AA,if_false,ZaC];simp at hI;rw [Zk _ yE]
 .rintro x l i ⟨row,d⟩ hI
  left
  cases d with
  |true=>
   simp at hI
   exact ⟨(row++[x],true),by simp only[if_true];rw [Zk _ yE],by simp;omega,yG⟩
  |false=>
   simp at hI
   cases h1:sLt x s with
   |true=>exact ⟨(row++[x],false),by simp only[AA,if_false,if_true];rw [Zk _ yE],by simp;omega,by simp [ZaC,h1]⟩
   |false=>
    cases h2:sEq x s with
    |true=>exact ⟨(row++[x],true),by simp only[AA,if_false,if_true];rw [Zk _ yE],by simp;omega,by simp [ZaC,h1,h2]⟩
    |false=>exact ⟨(row++[s]++[x],true),by simp only[AA,if_false];rw [Zk _ yE,Zk _ yE],by simp;omega,by simp [ZaC,h1,h2]⟩
def XU:ByteArray->List ByteArray->List ByteArray
 |_,[]=>[]
 |y,x::r=>if sEq y x=true then XU x r else x::XU x r
def ZmD:List ByteArray->List ByteArray
 | []=>[]
 |x::r=>x::XU x r
theorem Zf9 {z:ByteArray}:∀{l:List ByteArray}{y:ByteArray},z∈XU y l->z∈l
 | [],_,h=>by simp [XU]at h
 |x::r,y,h=>by
  simp only[XU]at h
  split at h
  .exact AY _ (Zf9 h)
  .rcases A9.1 h with rfl|h
   .simp
   .exact AY _ (Zf9 h)
theorem ZjV {z:ByteArray}:∀{l:List ByteArray}{y:ByteArray},z∈l->z=y\/z∈XU y l
 | [],_,h=>by simp at h
 |x::r,y,h=>by
  simp only[XU]
  rcases A9.1 h with rfl|h
  .split
   .rename_i e;exact .inl (ZL.1 e).symm
   .simp
  .rcases ZjV (y:=x) h with rfl|h'
   .split
    .rename_i e;exact .inl (ZL.1 e).symm
    .simp
   .split
    .exact .inr h'
    .exact .inr (AY _ h')
theorem Zkn:∀{l:List ByteArray}{y:ByteArray},(y::l).Pairwise (fun a b=>sLt b a=false)->Asc (y::XU y l)
 | [],_,_=>by simp [XU,Asc]
 |x::r,y,h=>by
  rw [AE]at h
  have ih:=Zkn h.2
  simp only[XU]
  split
  .rename_i e
   have e':=ZL.1 e
   subst e'
   exact ih
  .rename_i e
   have c:sLt y x=true:=Zeh (h.1 x yG) (fun h=>e (ZL.2 h.symm))
   refine AE.2 ⟨fun z mz=>?_,ih⟩
   rcases A9.1 mz with rfl|mz
   .exact c
   .exact ZfM c ((AE.1 ih).1 z mz)
theorem ZqR (l:List ByteArray):ZmD (ZfS l)=YU l:=by
 have hs:=Zyz l
 refine Zgg ?_ fun x=>?_
 .cases h:ZfS l with
  |nil=>simp [ZmD,Asc]
  |cons y r=>rw [h]at hs;exact Zkn hs
 .rw [<-Zxb (l:=l)]
  cases h:ZfS l with
  |nil=>simp [ZmD]
  |cons y r=>
   simp only[ZmD,A9]
   constructor
   .rintro (rfl|h)
    .exact .inl rfl
    .exact .inr (Zf9 h)
   .rintro (rfl|h)
    .exact .inl rfl
    .exact ZjV h
theorem Zde (l:List ByteArray) (h:l.length<=1073741824):Qt l=some (YU l):=by
 unfold Qt
 rw [Zk _ h,Zdl,Zk _ yE,A0]
 have hl:=Zv8 l
 rw [<-ZqR]
 generalize ZfS l=v at hl
 refine (Zdq (fun r i (row:List ByteArray)=>some (row++match i with|0=>ZmD r|i+1=>(match v[i]? with|some y=>XU y r|none=>[]))) (fun r i row=>v.drop i=r/\row.length<=i/\i<=v.length) ?_ ?_ v 0 [] ⟨yG,yG,yG⟩).trans yG
 .rintro i row ⟨h1,h2,h3⟩
  cases i with
  |zero=>simp [ZmD]
  |succ i=>cases hv:v[i]?<;>simp [XU,hv]
 .rintro x r i row ⟨h1,h2,h3⟩
  left
  have hi:v[i]?=some x:=by have:=congrArg (fun l=>l[0]?) h1;simpa using this
  have hlt:i<v.length:=(AK.1 hi).1
  have hr:v.drop (i+1)=r:=by have:=congrArg AZ h1;simpa using this
  cases i with
  |zero=>
   refine ⟨row++[x],?_,⟨hr,by simp at h2 ⊢;simp [h2],yE⟩,?_⟩
   .simp only[Int.natCast_zero,beq_self_eq_true,if_true]
    rw [Zk _ yE]
   .simp [ZmD,hi]
  |succ i=>
   have hw:IntKind.i64.wrap (((i+1:Nat):Int) - 1)=((i:Nat):Int):=by rw [Yi yE yE];omega
   have a:((((i+1:Nat):Int))==0)=false:=by rw [beq_eq_false_iff_ne];omega
   obtain ⟨y,hy⟩:∃y,v[i]?=some y:=⟨v[i],yG⟩
   simp only[a,AA,if_false,hw,AD,hy,A0]
   cases he:sEq y x with
   |true=>
    refine ⟨row,?_,⟨hr,yE,yE⟩,?_⟩
    .rw [Zk _ ⟨yE,yE⟩];rfl
    .simp [XU,he,hi]
   |false=>
    refine ⟨row++[x],?_,⟨hr,by simp;omega,yE⟩,?_⟩
    .rw [Zk _ ⟨yE,yE⟩]
     simp only[AA,if_false]
     rw [Zk _ yE]
    .simp [XU,he,hi]
theorem Zay (l:List ByteArray) (h:l.length<=1073741824):ZaT l=some l:=by
 unfold ZaT
 rw [Zk _ h]
theorem Zqh (l:List ByteArray) (h:l.length<=1073741824):ZfB l=some l:=by
 unfold ZfB
 rw [Zk _ h]
theorem Zmx {ρ:Type}{fin:List ByteArray->Option ρ}{body:Nat->ByteArray->List ByteArray->Option (List ByteArray ⊕ ρ)}(hb:∀j x s,body j x s=(ZbH s x).bind fun v=>some (.inl v)) {l acc:List ByteArray}(h:acc.length+l.length<=1073741824):forL body fin l 0 acc=fin (l.foldl ZaC acc):=by
 refine ZcR (f:=ZaC) (fun j s=>s.length<=acc.length+j) yE fun j x s mx hj hl hI=>?_
 have hp:=Zhz x s
 exact ⟨by rw [hb,Zex _ _ yE];rfl,yE⟩
theorem Zeb {α σ ρ:Type}{body:Nat->α->σ->Option (σ ⊕ ρ)}{fin:σ->Option ρ}(st:List α->σ) (l:List α) (h:∀p x q,l=p++x::q->body p.length x (st p)=some (.inl (st (p++[x])))):forL body fin l 0 (st [])=fin (st l):=by
 have key:∀(q p:List α),l=p++q->forL body fin q p.length (st p)=fin (st l):=by
  intro q
  induction q with
  |nil=>intro p e;rw [Zmo,e,Aj]
  |cons x q ih=>
   intro p e
   rw [ZD (h p x q e)]
   have:=ih (p++[x]) (by rw [e];simp)
   simpa using this
 exact key l [] rfl
def Yr (f:Zg):Bool:=Xo f.rel&&decide (f.args.length<=3)&&f.args.all ZU
theorem Qj (f:Zg):XA f=some (Yr f):=by
 unfold XA Yr
 rw [QU,A0]
 cases Xo f.rel with
 |false=>rfl
 |true=>
  rw [if_pos rfl]
  by_cases h:f.args.length<=3
  .rw [if_neg (by simp;omega),X8 (p:=ZU) (r:=false)]
   .cases h2:f.args.all ZU<;>simp [h]
   .intro i x _
    rw [Qf,A0]
    cases ZU x<;>rfl
  .rw [if_pos (by simp;omega)]
   simp [h]
structure ZoX {α:Type}(c:α->α->Int):Prop where
 eq:∀a b,c a b=0↔a=b
 anti:∀a b,c b a=- c a b
 tr:∀a b d,c a b<0->c b d<0->c a d<0
def Zjq (a b:ByteArray):Int:=Lib.compareBytes (toL a) (toL b)
theorem ZiA:∀(x y:List UInt8),Lib.compareBytes x y=if Op.bytesLess x y=true then -1 else if x=y then 0 else 1
 | [],[]=>by simp [Lib.compareBytes,Op.bytesLess]
 | [],_::_=>by simp [Lib.compareBytes,Op.bytesLess]
 |_::_,[]=>by simp [Lib.compareBytes,Op.bytesLess]
 |a::x,b::y=>by
  have ih:=ZiA x y
  unfold Lib.compareBytes Op.bytesLess
  by_cases h1:a<b
  .simp [h1]
  .rw [if_neg h1]
   by_cases h2:b<a
   .have h3:¬a=b:=fun e=>by rw [e]at h2;exact absurd h2 (UInt8.lt_irrefl _)
    rw [if_pos h2]
    simp [h1,h3]
   .have h3:a=b:=by
     apply UInt8.toNat_inj.1
     rw [UInt8.lt_iff_toNat_lt]at h1 h2
     omega
    subst h3
    rw [if_neg h2,ih]
    simp [h1]
theorem ZjL (a b:ByteArray):Zjq a b=if sLt a b=true then -1 else if a=b then 0 else 1:=by
 unfold Zjq
 rw [ZiA]
 have h1:Op.bytesLess (toL a) (toL b)=sLt a b:=by unfold sLt toL;rw [Ak,Ak]
 rw [h1]
 by_cases h:a=b
 .subst h;simp
 .rw [if_neg h,if_neg (fun e=>h (Zgu e))]
theorem Zd6:ZoX Zjq where
 eq:=fun a b=>by
  rw [ZjL]
  by_cases h:sLt a b=true
  .simp [h,ZkQ h]
  .rw [if_neg h]
   by_cases h2:a=b<;>simp [h2]
 anti:=fun a b=>by
  rw [ZjL,ZjL]
  by_cases h:sLt a b=true
  .have h2:=ZhZ h
   have h3:=ZkQ h
   rw [if_pos h,if_neg (by simp [h2]),if_neg (fun e=>h3 e.symm)];rfl
  .rw [if_neg h]
   by_cases h2:a=b
   .subst h2;rw [if_neg h];simp
   .rw [if_pos (Zeh (by simpa using h) h2),if_neg h2]
 tr:=fun a b d h1 h2=>by
  have key:∀x y,Zjq x y<0->sLt x y=true:=fun x y h=>by
   rw [ZjL]at h
   by_cases hx:sLt x y=true
   .exact hx
   .rw [if_neg hx]at h;split at h<;>omega
  rw [ZjL,if_pos (ZfM (key _ _ h1) (key _ _ h2))]
  omega
theorem Zke (a b:ByteArray):Zfy a b=some (Zjq a b):=rfl
/- numbers -/
theorem ZoR {u:Nat}{b:UInt8}(h:b∈Lib.decDigits u):48<=b.toNat/\b.toNat<=57:=by
 rw [Lib.decDigits_eq,List.mem_map]at h
 obtain ⟨t,_,rfl⟩:=h
 unfold Lib.dg
 have:u / 10 ^ (Lib.nDigits u - 1 - t) % 10<10:=Nat.mod_lt _ yE
 rw [UInt8.toNat_ofNat']
 omega
def ZbJ (s:ByteArray):Option Nat:=
 if 1<=s.size/\s.size<=4 then (match Lib.decNat (toL s) with|some n=>if ofL (Lib.decDigits n)=s then some n else none|none=>none) else none
def ZgV (s:ByteArray):Int×Bool:=match ZbJ s with|some n=>((n:Int),true)|none=>(0,false)
theorem ZkT {s:ByteArray}{n:Nat}(h:ZbJ s=some n):s=ofL (Lib.decDigits n)/\n<=9999:=by
 unfold ZbJ at h
 split at h
 .rename_i hs
  split at h
  .split at h
   .rename_i m _ he
    obtain rfl:=AI h
    refine ⟨he.symm,?_⟩
    have hl:Lib.nDigits m<=4:=by
     have:=congrArg ByteArray.size he
     rw [Zhs,Lib.decDigits_length]at this
     omega
    have:=Lib.lt_pow_nDigits m
    have h2:10 ^ Lib.nDigits m<=10 ^ 4:=Aa yE hl
    omega
   .simp at h
  .simp at h
 .simp at h
theorem ZAi {a b:ByteArray}{n:Nat}(h1:ZbJ a=some n) (h2:ZbJ b=some n):a=b:=(ZkT h1).1.trans (ZkT h2).1.symm
theorem Zsw {body:Nat->UInt8->Int->Option (Int ⊕ (Int×Bool))}{fin:Int->Option (Int×Bool)}
  (hb:∀i (x:UInt8) n,body i x n=if (decide (((x.toNat:Nat):Int)<48))=true then some (.inr (0,false)) else if (decide (57<((x.toNat:Nat):Int)))=true then some (.inr (0,false)) else some (.inl (IntKind.i64.wrap ((IntKind.i64.wrap (10*n))+IntKind.i64.wrap (IntKind.u8.wrap (((x.toNat:Nat):Int) - 48)))))):
  ∀(l:List UInt8) (i acc:Nat),(acc+1)*10 ^ l.length<=100000->forL body fin l i (acc:Int)=match Lib.decFrom acc l with|some n=>fin (n:Int)|none=>some (0,false)
 | [],i,acc,_=>rfl
 |x::l,i,acc,h=>by
  unfold Lib.decFrom Lib.digitVal
  by_cases h1:48<=x.toNat/\x.toNat<=57
  .have e:body i x (acc:Int)=some (.inl ((acc*10+(x.toNat - 48):Nat):Int)):=by
    have hp:1<=10 ^ (x::l).length:=Nat.one_le_pow _ _ yE
    have h2:acc+1<=100000:=AL (Nat.le_mul_of_pos_right _ hp) h
    rw [hb,if_neg (by simp;omega),if_neg (by simp;omega),Zfd (n:=10*(acc:Int)) yE yE,IntKind.wrap_u8,Zfd (n:=(((x.toNat:Nat):Int) - 48) % 256) yE yE,Zfd yE yE]
    congr 2
    omega
   rw [ZD e,if_pos h1]
   refine Zsw hb l (i+1) _ ?_
   rw [AB,Nat.pow_succ]at h
   refine AL ?_ h
   rw [show (acc+1)*(10 ^ l.length*10)=((acc+1)*10)*10 ^ l.length by rw [Al,Nat.mul_comm 10]]
   exact Nat.mul_le_mul_right _ yE
  .have e:body i x (acc:Int)=some (.inr (0,false)):=by
    rw [hb]
    by_cases h2:x.toNat<48
    .rw [if_pos (by simp;omega)]
    .rw [if_neg (by simp;omega),if_pos (by simp;omega)]
   rw [ZX e,if_neg h1]
theorem Zzv (n a b:Int):Zcv n a b=some (decide (a<=n)&&decide (n<=b)):=by
 unfold Zcv
 by_cases h:a<=n<;>simp [h]
theorem Ziy (s:ByteArray):Zc3 s=some (ZgV s):=by
 unfold Zc3 ZgV ZbJ
 rw [Zzv,A0]
 by_cases hs:1<=s.size/\s.size<=4
 .rw [if_pos (by simp;omega),if_pos hs]
  have hl:s.data.toList.length=s.size:=ZdZ s
  refine (Zsw (fun _ _ _=>rfl) s.data.toList 0 0 (by
   rw [hl,AJ,Nat.one_mul]
   exact AL (Aa yE hs.2) yE)).trans ?_
  have hd:Lib.decNat (toL s)=Lib.decFrom 0 s.data.toList:=by
   unfold Lib.decNat
   rw [if_neg]
   .rfl
   .intro e
    have:=ZdZ s
    rw [List.isEmpty_iff.1 e]at this
    simp at this;omega
  rw [hd]
  cases hv:Lib.decFrom 0 s.data.toList with
  |none=>rfl
  |some n=>
   have hb:n<1000000000000000000:=Lib.decFrom_lt18 hv yE
   show (QQ ((n:Nat):Int)).bind _=_
   rw [Zg1 ⟨yE,yE⟩,A0,Lib.itoa_nonneg]
   by_cases he:ofL (Lib.decDigits n)=s
   .rw [if_pos (ZL.2 he)]
    simp only[he,if_true]
   .rw [if_neg (by rw [ZL];exact he)]
    simp only[he,if_false]
 .rw [if_neg (by simp;omega),if_neg hs]
theorem ZAw {b:UInt8}{r:List UInt8}(h:b=45\/b=43):Lib.decNat (b::r)=none:=by
 rcases h with rfl|rfl<;>simp [Lib.decNat,Lib.decFrom,Lib.digitVal]
theorem Zpx {s:ByteArray}(h:Lib.decNat (toL s)=none):ZbJ s=none:=by
 unfold ZbJ
 rw [h]
 split<;>rfl
theorem Zdj (s:ByteArray):ZaN s=some (ZgV s):=by
 unfold ZaN
 by_cases h1:s.size<1
 .rw [if_pos (by simp;omega)]
  unfold ZgV ZbJ
  rw [if_neg yE]
 by_cases h2:4<s.size
 .rw [if_neg (by simp;omega),if_pos (by simp;omega)]
  unfold ZgV ZbJ
  rw [if_neg yE]
 rw [if_neg (by simp;omega),if_neg (by simp;omega)]
 have hl:=ZdZ s
 have hx:Znm s=some (match Lib.atoi (toL s) with|some n=>(n,true)|none=>(0,false)):=by
  unfold Znm
  exact Zk _ yE
 rw [hx,A0]
 cases hL:toL s with
 |nil=>rw [hL]at hl;simp at hl;omega
 |cons b r=>
  have d:b=45\/b=43->ZgV s=(0,false):=fun h=>by
   unfold ZgV
   rw [Zpx (by rw [hL];exact ZAw h)]
  have f:∀m,(b=45\/b=43)->¬ofL (Lib.decDigits m)=s:=fun m h e=>by
   have hm:b∈Lib.decDigits m:=by
    have:toL s=Lib.decDigits m:=by rw [<-e,Zdi]
    rw [<-this,hL];simp
   have:=ZoR hm
   rcases h with rfl|rfl<;>simp at this
  by_cases a:b=45
  .rw [d (.inl a)]
   cases hd:Lib.decNat r with
   |none=>simp [Lib.atoi,a,hd]
   |some m=>
    have e:Lib.atoi (b::r)=some (-(m:Int)):=by simp [Lib.atoi,a,hd]
    rw [e]
    simp only[if_true]
    by_cases hm:m=0
    .subst hm
     rw [if_neg yG,if_neg yG]
     show (QP ((0:Nat):Int)).bind _=_
     rw [ZcE ⟨yE,yE⟩,A0,Lib.itoa_nonneg,if_neg (by rw [ZL];exact f 0 (.inl a))]
    .rw [if_pos (by simp;omega)]
  .by_cases c:b=43
   .rw [d (.inr c)]
    cases hd:Lib.decNat r with
    |none=>simp [Lib.atoi,c,hd]
    |some m=>
     have e:Lib.atoi (b::r)=some (m:Int):=by simp [Lib.atoi,c,hd]
     rw [e]
     simp only[if_true]
     rw [if_neg yG]
     by_cases hm:9999<m
     .rw [if_pos (by simp;omega)]
     .rw [if_neg (by simp;omega),ZcE ⟨yE,yE⟩,A0,Lib.itoa_nonneg,if_neg (by rw [ZL];exact f m (.inr c))]
   .have e:Lib.atoi (b::r)=(Lib.decNat (b::r)).map fun (m:Nat)=>(m:Int):=by simp [Lib.atoi,a,c]
    rw [e]
    cases hd:Lib.decNat (b::r) with
    |none=>
     unfold ZgV
     rw [Zpx (by rw [hL];exact hd)]
     rfl
    |some m=>
     simp only[Am,if_true]
     rw [if_neg yG]
     have hn:ZbJ s=if ofL (Lib.decDigits m)=s then some m else none:=by
      unfold ZbJ
      rw [if_pos yE,hL,hd]
     by_cases hm:9999<m
     .rw [if_pos (by simp;omega)]
      have:ZbJ s=none:=by
       cases hq:ZbJ s with
       |none=>rfl
       |some n=>
        have h3:=(ZkT hq).2
        rw [hn]at hq
        split at hq
        .obtain rfl:=AI hq;omega
        .simp at hq
      unfold ZgV
      rw [this]
     .rw [if_neg (by simp;omega),ZcE ⟨yE,yE⟩,A0,Lib.itoa_nonneg]
      unfold ZgV
      rw [hn]
      by_cases he:ofL (Lib.decDigits m)=s
      .rw [if_pos (ZL.2 he),if_pos he]
      .rw [if_neg (by rw [ZL];exact he),if_neg he]
def Zre (x y:Nat):Int:=if x<y then -1 else if y<x then 1 else 0
theorem ZqZ:ZoX Zre where
 eq:=fun a b=>by unfold Zre;split<;>(try split)<;>omega
 anti:=fun a b=>by unfold Zre;split<;>(try split)<;>(try split)<;>omega
 tr:=fun a b d h1 h2=>by
  unfold Zre at *
  split at h1
  .split at h2
   .rw [if_pos yE];omega
   .split at h2<;>omega
  .split at h1<;>omega
def ZlU (a b:ByteArray):Int:=
 match ZbJ a,ZbJ b with
 |some x,some y=>Zre x y
 |some _,none=>-1
 |none,some _=>1
 |none,none=>Zjq a b
theorem ZqE:ZoX ZlU where
 eq:=fun a b=>by
  unfold ZlU
  cases ha:ZbJ a with
  |none=>
   cases hb:ZbJ b with
   |none=>exact Zd6.eq a b
   |some y=>simp only;exact ⟨fun h=>by omega,fun h=>by rw [h,hb]at ha;simp at ha⟩
  |some x=>
   cases hb:ZbJ b with
   |none=>simp only;exact ⟨fun h=>by omega,fun h=>by rw [h,hb]at ha;simp at ha⟩
   |some y=>
    simp only
    rw [ZqZ.eq]
    exact ⟨fun h=>ZAi ha (h ▸ hb),fun h=>by rw [h,hb]at ha;exact (AI ha).symm⟩
 anti:=fun a b=>by
  unfold ZlU
  cases ZbJ a<;>cases ZbJ b<;>simp only
  .exact Zd6.anti a b
  .rfl
  .exact ZqZ.anti _ _
 tr:=fun a b d h1 h2=>by
  unfold ZlU at *
  cases ha:ZbJ a<;>cases hb:ZbJ b<;>cases hd:ZbJ d<;>simp only[ha,hb,hd]at h1 h2 ⊢<;>first|omega|exact Zd6.tr a b d h1 h2|exact ZqZ.tr _ _ _ h1 h2
theorem Zdc (x y:Nat):ZT (x:Int) (y:Int)=some (Zre x y):=by
 unfold ZT Zre
 by_cases h1:x<y
 .rw [if_pos (by simpa using h1),if_pos h1]
 .rw [if_neg (by simpa using h1),if_neg h1]
  by_cases h2:y<x
  .rw [if_pos (by simpa using h2),if_pos h2]
  .rw [if_neg (by simpa using h2),if_neg h2]
theorem Zji (a b:ByteArray):ZaH a b=some (ZlU a b):=by
 unfold ZaH ZlU
 rw [Zdj,A0,Zdj,A0]
 unfold ZgV
 cases ZbJ a with
 |none=>
  cases ZbJ b with
  |none=>simp only[AA,if_false];rw [Zke];rfl
  |some y=>rfl
 |some x=>
  cases ZbJ b with
  |none=>rfl
  |some y=>simp only[if_true];rw [Zdc];rfl
def Zhl {α:Type}(c:α->α->Int):List α->List α->Int
 | [],[]=>0
 | [],_::_=>-1
 |_::_,[]=>1
 |x::l,y::r=>if c x y=0 then Zhl c l r else c x y
theorem Zrn {α:Type}{c:α->α->Int}(h:ZoX c):ZoX (Zhl c) where
 eq:=fun a=>by
  induction a with
  |nil=>intro b;cases b<;>simp [Zhl]
  |cons x l ih=>
   intro b
   cases b with
   |nil=>simp [Zhl]
   |cons y r=>
    simp only[Zhl]
    by_cases hx:c x y=0
    .rw [if_pos hx,ih,(h.eq x y).1 hx];simp
    .rw [if_neg hx]
     exact ⟨fun e=>absurd e hx,fun e=>absurd ((h.eq x y).2 (by simp at e;exact e.1)) hx⟩
 anti:=fun a=>by
  induction a with
  |nil=>intro b;cases b<;>simp [Zhl]
  |cons x l ih=>
   intro b
   cases b with
   |nil=>simp [Zhl]
   |cons y r=>
    simp only[Zhl]
    have hy:=h.anti x y
    by_cases hx:c x y=0
    .rw [if_pos hx,if_pos yE,ih]
    .rw [if_neg hx,if_neg yE,hy]
 tr:=fun a=>by
  induction a with
  |nil=>
   intro b d h1 h2
   cases b with
   |nil=>simp [Zhl]at h1
   |cons y r=>cases d with
    |nil=>simp [Zhl]at h2
    |cons z q=>simp [Zhl]
  |cons x l ih=>
   intro b d h1 h2
   cases b with
   |nil=>simp [Zhl]at h1
   |cons y r=>cases d with
    |nil=>simp [Zhl]at h2
    |cons z q=>
     simp only[Zhl]at h1 h2 ⊢
     by_cases hx:c x y=0
     .rw [if_pos hx]at h1
      obtain rfl:=(h.eq x y).1 hx
      by_cases hz:c x z=0
      .rw [if_pos hz]at h2 ⊢;exact ih r q h1 h2
      .rw [if_neg hz]at h2 ⊢;exact h2
     .rw [if_neg hx]at h1
      by_cases hz:c y z=0
      .obtain rfl:=(h.eq y z).1 hz
       rw [if_neg hx];exact h1
      .rw [if_neg hz]at h2
       have:=h.tr x y z h1 h2
       rw [if_neg yE];exact this
def ZcK (a b:Zg):Int:=if Zjq a.rel b.rel=0 then Zhl ZlU a.args b.args else Zjq a.rel b.rel
theorem ZrA {a b:Zg}(h1:a.rel=b.rel) (h2:a.args=b.args):a=b:=by cases a;cases b;simp_all
theorem ZdX:ZoX ZcK where
 eq:=fun a b=>by
  unfold ZcK
  by_cases h:Zjq a.rel b.rel=0
  .rw [if_pos h,(Zrn ZqE).eq]
   exact ⟨fun e=>ZrA ((Zd6.eq _ _).1 h) e,fun e=>by rw [e]⟩
  .rw [if_neg h]
   exact ⟨fun e=>absurd e h,fun e=>absurd ((Zd6.eq _ _).2 (by rw [e])) h⟩
 anti:=fun a b=>by
  unfold ZcK
  have hy:=Zd6.anti a.rel b.rel
  by_cases h:Zjq a.rel b.rel=0
  .rw [if_pos h,if_pos yE,(Zrn ZqE).anti]
  .rw [if_neg h,if_neg yE,hy]
 tr:=fun a b d h1 h2=>by
  unfold ZcK at *
  by_cases hx:Zjq a.rel b.rel=0
  .rw [if_pos hx]at h1
   have e:=(Zd6.eq _ _).1 hx
   rw [e]
   by_cases hz:Zjq b.rel d.rel=0
   .rw [if_pos hz]at h2 ⊢;exact (Zrn ZqE).tr _ _ _ h1 h2
   .rw [if_neg hz]at h2 ⊢;exact h2
  .rw [if_neg hx]at h1
   by_cases hz:Zjq b.rel d.rel=0
   .rw [<-(Zd6.eq _ _).1 hz,if_neg hx];exact h1
   .rw [if_neg hz]at h2
    have:=Zd6.tr _ _ _ h1 h2
    rw [if_neg yE];exact this
theorem YN {α:Type}(l:List α) (i:Nat):atI l (i:Int)=l[i]?:=by unfold atI;rw [if_pos yE,AD]
theorem Zpd {A B:List ByteArray}{body:Nat->ByteArray->Unit->Option (Unit ⊕ Int)}{fin:Unit->Option Int}
  (b:∀i x y,B[i]?=some y->body i x ()=if ZlU x y=0 then some (.inl ()) else some (.inr (ZlU x y))) (c:∀x,B.length<A.length->body B.length x ()=some (.inr 1)) (a:A.length<=B.length->fin ()=some (if A.length<B.length then -1 else 0)):
  ∀(l:List ByteArray) (i:Nat),i+l.length=A.length->i<=B.length->forL body fin l i ()=some (Zhl ZlU l (B.drop i))
 | [],i,h,hi=>by
  simp at h
  rw [Zmo,a yE]
  by_cases hb:A.length<B.length
  .rw [if_pos hb]
   cases hd:B.drop i with
   |nil=>have:=congrArg List.length hd;simp at this;omega
   |cons y r=>rfl
  .rw [if_neg hb,Ac yE]
   rfl
 |x::l,i,h,hi=>by
  simp only[AB]at h
  by_cases hb:i<B.length
  .have hy:B[i]?=some B[i]:=AF hb
   rw [Ad hb]
   simp only[Zhl]
   by_cases hc:ZlU x B[i]=0
   .rw [ZD (by rw [b i x _ hy,if_pos hc]),if_pos hc]
    exact Zpd b c a l (i+1) yE yE
   .rw [ZX (by rw [b i x _ hy,if_neg hc]),if_neg hc]
  .obtain rfl:i=B.length:=by omega
   rw [ZX (c x yE),Ac (AR _)]
   rfl
theorem Y3 (a b:Zg):YH a b=some (ZcK a b):=by
 unfold YH ZcK
 rw [Zke,A0]
 by_cases h:Zjq a.rel b.rel=0
 .rw [if_neg (by simpa using h),if_pos h]
  refine Zpd (A:=a.args) (B:=b.args) (fun i x y hy=>?_) (fun x hx=>?_) (fun hx=>?_) a.args 0 yG (Nat.zero_le _)
  .have hi:=(AK.1 hy).1
   rw [if_pos (by simpa using hi),YN,hy,A0,Zji,A0]
   by_cases hc:ZlU x y=0
   .rw [hc];rfl
   .rw [if_pos (by simpa using hc),if_neg hc]
  .rw [if_neg yG,Zdc]
   unfold Zre
   rw [if_neg yE,if_pos hx]
   rfl
  .rw [Zdc]
   unfold Zre
   by_cases h2:a.args.length<b.args.length
   .rw [if_pos h2,if_pos h2];rfl
   .rw [if_neg h2,if_neg yE,if_neg h2];rfl
 .rw [if_pos (by simpa using h),if_neg h]
section
theorem Zs4 (f:Zg) (h:f.args.length<=1048576):ZhL f=some f:=by
 unfold ZhL
 rw [Zqh _ yE]
 rfl
theorem Ym (f:Zg) (h:f.args.length<=1048576):Yw f=some f:=by
 unfold Yw
 rw [Zay _ yE]
 rfl
theorem Zm4 {B:List ByteArray}{body:Nat->ByteArray->Unit->Option (Unit ⊕ Bool)}(hb:∀i x y,B[i]?=some y->body i x ()=if x=y then some (.inl ()) else some (.inr false)):
  ∀(l:List ByteArray) (i:Nat),i+l.length=B.length->forL body (fun _=>some true) l i ()=some (decide (l=B.drop i))
 | [],i,h=>by
  simp at h
  rw [Zmo,Ac yE]
  simp
 |x::l,i,h=>by
  simp only[AB]at h
  have hi:i<B.length:=by omega
  have hd:(x::l=B.drop i)↔(x=B[i]/\l=B.drop (i+1)):=by rw [Ad hi,List.cons.injEq]
  rw [AC.2 (show decide (x::l=B.drop i)=true↔decide (x=B[i]/\l=B.drop (i+1))=true by rw [decide_eq_true_iff,decide_eq_true_iff];exact hd)]
  by_cases hx:x=B[i]
  .rw [ZD (by rw [hb i x _ (AF hi),if_pos hx]),Zm4 hb l (i+1) yE]
   simp [hx]
  .rw [ZX (by rw [hb i x _ (AF hi),if_neg hx])]
   simp [hx]
theorem ZhD (a b:List ByteArray):ZbX a b=some (decide (a=b)):=by
 unfold ZbX
 by_cases h:a.length=b.length
 .rw [if_neg (by simp;omega)]
  have:=Zm4 (B:=b) (body:=fun i6 x7 _=>(atI b ((i6:Nat):Int)).bind fun x8=>if (sEq x7 x8)=true then some (.inl ()) else some (.inr false)) (fun i x y hy=>by
   show (atI b ((i:Nat):Int)).bind _=_
   rw [YN,hy,A0]
   by_cases hx:x=y
   .rw [if_pos (ZL.2 hx),if_pos hx]
   .rw [if_neg (by rw [ZL];exact hx),if_neg hx]) a 0 yE
  simpa using this
 .rw [if_pos (by simp;omega),decide_eq_false (fun e=>h (by rw [e]))]
open Classical
theorem YS (a b:Zg):Xi a b=some (decide (a=b)):=by
 unfold Xi
 by_cases h:a.rel=b.rel
 .rw [if_pos (ZL.2 h),ZhD,A0]
  congr 1
  rw [AC,decide_eq_true_iff,decide_eq_true_iff]
  exact ⟨fun e=>ZrA h e,fun e=>by rw [e]⟩
 .rw [if_neg (by rw [ZL];exact h),decide_eq_false (fun e=>h (by rw [e]))]
theorem Zok (l:List Zg) (f:Zg):∃z,ZaV l f=some z/\(z<0↔f∉l):=by
 unfold ZaV
 have key:∀(l:List Zg) (i:Nat),∃z,forL (σ:=Unit) (fun (i6:Nat) (x7:Zg) _=>(Xi x7 f).bind fun v8=>if v8=true then some (.inr ((i6:Nat):Int)) else some (.inl ())) (fun _=>some (-1)) l i ()=some z/\(z<0↔f∉l):=by
  intro l
  induction l with
  |nil=>intro i;exact ⟨-1,rfl,yG⟩
  |cons x l ih=>
   intro i
   by_cases hx:x=f
   .refine ⟨(i:Int),ZX (by rw [YS,A0,if_pos (decide_eq_true hx)]),by simp [hx]⟩
   .obtain ⟨z,e,hz⟩:=ih (i+1)
    refine ⟨z,(ZD (by rw [YS,A0,if_neg (by simpa using hx)])).trans e,?_⟩
    rw [hz,A9]
    exact ⟨fun h=>by rintro (h1|h1);exact hx h1.symm;exact h h1,fun h h1=>h (.inr h1)⟩
 exact key l 0
def ZfE:List Zg->Zg->List Zg
 | [],f=>[f]
 |x::l,f=>if ZcK x f<0 then x::ZfE l f else if ZcK x f=0 then x::l else f::x::l
def ZnN (l:List Zg):Prop:=l.Pairwise fun x y=>ZcK x y<0
theorem ZjQ {y f:Zg}:∀{l:List Zg},y∈ZfE l f↔y=f\/y∈l
 | []=>by simp [ZfE]
 |x::l=>by
  simp only[ZfE]
  split
  .rw [A9,ZjQ,A9]
   exact ⟨fun h=>by rcases h with h|h|h<;>simp [h],fun h=>by rcases h with h|h|h<;>simp [h]⟩
  .split
   .rename_i h
    have e:=(ZdX.eq _ _).1 h
    rw [A9,e]
    exact ⟨fun h=>by rcases h with h|h<;>simp [h],fun h=>by rcases h with h|h|h<;>simp [h]⟩
   .rw [A9]
theorem Znh (f:Zg):∀l:List Zg,(ZfE l f).length<=l.length+1
 | []=>by simp [ZfE]
 |x::l=>by
  have:=Znh f l
  simp only[ZfE]
  split
  .simp;omega
  .split<;>simp
theorem Zs9 {f:Zg}:∀{l:List Zg},ZnN l->ZnN (ZfE l f)
 | [],_=>by simp [ZfE,ZnN]
 |x::l,h=>by
  unfold ZnN at *
  rw [AE]at h
  simp only[ZfE]
  split
  .rename_i hx
   rw [AE]
   refine ⟨fun y my=>?_,Zs9 h.2⟩
   rcases ZjQ.1 my with rfl|my
   .exact hx
   .exact h.1 y my
  .rename_i hx
   split
   .rw [AE];exact h
   .rename_i h0
    have a:ZcK f x<0:=by rw [ZdX.anti x f];omega
    rw [AE,AE]
    refine ⟨fun y my=>?_,h⟩
    rcases A9.1 my with rfl|my
    .exact a
    .exact ZdX.tr _ _ _ a (h.1 y my)
theorem Zrf (l:List Zg) (f:Zg) (hn:f∉l) (hl:l.length<=1048576) (ha:∀x∈l,x.args.length<=1048576) (hf:f.args.length<=1048576):ZfN l f=some (ZfE l f):=by
 unfold ZfN
 rw [Zdq (fun l _ s=>some (s.1++(if s.2=true then l else ZfE l f))) (fun l _ s=>s.1.length+2*l.length+1<=4000000/\f∉l/\∀x∈l,x.args.length<=1048576) ?_ ?_ l 0 ([],false) ⟨by simp;omega,hn,ha⟩]
 .simp
 .rintro i ⟨row,a⟩ ⟨h1,_⟩
  cases a with
  |true=>simp
  |false=>
   simp only[AA,if_false]
   simp only[Ae]at h1
   rw [Ym f hf,A0,Zk _ yE]
   rfl
 .rintro x l i ⟨row,a⟩ ⟨h1,h3,h2⟩
  simp only[AB]at h1
  have hx:=h2 x yG
  have b:f∉l:=fun m=>h3 (by simp [m])
  left
  cases a with
  |true=>
   simp only[if_true]
   rw [Ym x hx,A0,Zk _ yE]
   exact ⟨_,rfl,⟨by simp;omega,b,fun y my=>h2 y (by simp [my])⟩,yG⟩
  |false=>
   simp only[AA,if_false]
   rw [Y3,A0]
   have h0:¬ZcK x f=0:=fun e=>h3 (by rw [(ZdX.eq _ _).1 e];simp)
   by_cases c:ZcK x f<0
   .rw [if_neg (by simp;omega),Ym x hx,A0,Zk _ yE]
    exact ⟨_,rfl,⟨by simp;omega,b,fun y my=>h2 y (by simp [my])⟩,by simp [ZfE,c]⟩
   .rw [if_pos (by simp;omega),Ym f hf,A0,Zk _ yE,Ym x hx,A0,Zk _ yE]
    exact ⟨_,rfl,⟨by simp;omega,b,fun y my=>h2 y (by simp [my])⟩,by simp [ZfE,h0,c]⟩
end
def ZZ (p:Zi):Bool:=Xo p.rel&&decide (p.args.length<=3)&&p.args.all Yo
theorem Zcx (p:Zi):XK p=some (ZZ p):=by
 unfold XK ZZ
 rw [X8 (p:=Yo) (r:=false)]
 .simp only[Zlx,A0]
  have:decide (((p.args.length:Nat):Int)<=3)=decide (p.args.length<=3):=by rw [AC];simp only[decide_eq_true_eq];omega
  rw [this]
  cases p.args.all Yo<;>cases Xo p.rel<;>simp
 .intro i x _
  rw [Zlf]
  cases Yo x<;>simp
theorem Zcl (p:Zi):XN p=some (ZZ p):=by
 unfold XN ZZ
 rw [QU,X8 (p:=Yo) (r:=false)]
 .by_cases h:p.args.length<=3
  .have h':¬(3:Int)<((p.args.length:Nat):Int):=by omega
   cases p.args.all Yo<;>cases Xo p.rel<;>simp [h,h']
  .have h':(3:Int)<((p.args.length:Nat):Int):=by omega
   cases Xo p.rel<;>simp [h,h']
 .intro i x _
  rw [Zlj]
  cases Yo x<;>simp
def Y4 (p:Zi):Bool:=sEq p.rel ⟨#[]⟩&&decide (p.args.length=0)
theorem ZAt {α:Type}(l:List α):((((l.length:Nat):Int))==0)=decide (l.length=0):=by
 rw [AC,beq_iff_eq,decide_eq_true_eq];omega
theorem ZfW (p:Zi):XL p=some (Y4 p):=by
 unfold XL Y4
 rw [ZAt]
 cases sEq p.rel ⟨#[]⟩<;>simp
def Yj (x:Zj):Bool:=
 if x.kind=1\/x.kind=2 then ZZ x.pattern&&sEq x.left ⟨#[]⟩&&sEq x.right ⟨#[]⟩
 else if x.kind=3\/x.kind=4\/x.kind=5 then Y4 x.pattern&&Yo x.left&&Yo x.right
 else false
theorem Zfc (x:Zj):ZdM x=some (Yj x):=by
 unfold ZdM Yj
 simp only[Zcx,Zlf,A0,Y4,ZAt,beq_iff_eq]
 by_cases h1:x.kind=1
 .simp only[h1,if_true,true_or];cases ZZ x.pattern<;>cases sEq x.left ⟨#[]⟩<;>simp
 by_cases h2:x.kind=2
 .simp only[h2,if_true,or_true];cases ZZ x.pattern<;>cases sEq x.left ⟨#[]⟩<;>simp
 simp only[h1,h2,if_false,or_self]
 by_cases h3:x.kind=3
 .simp only[h3,if_true,true_or];cases sEq x.pattern.rel ⟨#[]⟩<;>cases decide (x.pattern.args.length=0)<;>cases Yo x.left<;>simp
 by_cases h4:x.kind=4
 .simp only[h4,if_true,true_or,or_true];cases sEq x.pattern.rel ⟨#[]⟩<;>cases decide (x.pattern.args.length=0)<;>cases Yo x.left<;>simp
 by_cases h5:x.kind=5
 .simp only[h5,if_true,or_true];cases sEq x.pattern.rel ⟨#[]⟩<;>cases decide (x.pattern.args.length=0)<;>cases Yo x.left<;>simp
 simp [h3,h4,h5]
theorem ZgX (x:Zj):Zeu x=some (Yj x):=by
 unfold Zeu Yj
 simp only[Zcl,Zlj,ZfW,A0,beq_iff_eq]
 by_cases h1:x.kind=1
 .simp only[h1,if_true,true_or];cases ZZ x.pattern<;>cases sEq x.left ⟨#[]⟩<;>simp
 by_cases h2:x.kind=2
 .simp only[h2,if_true,or_true];cases ZZ x.pattern<;>cases sEq x.left ⟨#[]⟩<;>simp
 simp only[h1,h2,if_false,or_self]
 by_cases h3:x.kind=3
 .simp only[h3,if_true,true_or];cases Y4 x.pattern<;>cases Yo x.left<;>cases Yo x.right<;>simp
 by_cases h4:x.kind=4
 .simp only[h4,if_true,true_or,or_true];cases Y4 x.pattern<;>cases Yo x.left<;>cases Yo x.right<;>simp
 by_cases h5:x.kind=5
 .simp only[h5,if_true,or_true];cases Y4 x.pattern<;>cases Yo x.left<;>cases Yo x.right<;>simp
 simp [h3,h4,h5]
theorem ZqP {x:Zj}(h:Yj x=true):x.kind=1\/x.kind=2\/x.kind=3\/x.kind=4\/x.kind=5:=by
 unfold Yj at h
 split at h
 .rename_i h1;omega
 .split at h
  .rename_i h1;omega
  .simp at h
theorem ZrY (x:Zj):Zer x=some (Yj x&&decide (3<=x.kind)):=by
 unfold Zer
 rw [Zfc]
 cases Yj x<;>simp
def X5 (a:ZB):Bool:=
 if a.kind=1\/a.kind=2 then ZZ a.pattern else if a.kind=3 then Y4 a.pattern else false
theorem Zoz (a:ZB):ZeP a=some (X5 a):=by
 unfold ZeP X5
 simp only[Zcx,A0,Y4,ZAt,beq_iff_eq]
 by_cases h1:a.kind=1
 .simp [h1]
 by_cases h2:a.kind=2
 .simp [h2]
 by_cases h3:a.kind=3
 .simp only[h3,if_true];cases sEq a.pattern.rel ⟨#[]⟩<;>simp
 simp [h1,h2,h3]
theorem Zoe (a:ZB):ZeT a=some (X5 a):=by
 unfold ZeT X5
 simp only[Zcl,ZfW,A0,beq_iff_eq]
 by_cases h1:a.kind=1
 .simp [h1]
 by_cases h2:a.kind=2
 .simp [h2]
 by_cases h3:a.kind=3
 .simp [h3]
 simp [h1,h2,h3]
def Xz (l:List ByteArray):List ByteArray:=l.filter ZS
theorem Zd8 (l:List ByteArray):(Xz l).length<=l.length:=List.length_filter_le _ _
theorem ZcV {x:ByteArray}{l:List ByteArray}:x∈Xz l↔x∈l/\ZS x=true:=by simp [Xz]
theorem Zem (l:List ByteArray) (h:l.length<=1073741824):ZaP l=some (Xz l):=by
 unfold ZaP
 rw [Zlv (p:=ZS)]
 .simp [Xz]
 .intro j x s _ hs
  rw [Zaz,A0]
  split
  .rw [Zk _ (by simp at hs;omega)]
  .rfl
theorem Zlq {p:ByteArray->Bool}:∀(l acc:List ByteArray),l.foldl (fun s x=>if p x=true then ZaC s x else s) acc=(l.filter p).foldl ZaC acc
 | [],_=>rfl
 |x::l,acc=>by
  rw [AS,Zlq l]
  by_cases h:p x=true<;>simp [h]
theorem ZdE (p:Zi) (h:p.args.length<=1073741823):Zcr p=some (YU (Xz p.args)):=by
 unfold Zcr
 rw [ZcR (f:=fun s x=>if ZS x=true then ZaC s x else s) (fun j s=>s.length<=j) yG]
 .rw [Zlq];rfl
 .intro j x s _ _ hl hI
  simp at hl
  have:=Zhz x s
  rw [ZbN,A0]
  split
  .rw [Zex _ _ yE]
   exact ⟨rfl,yE⟩
  .exact ⟨rfl,yE⟩
def YM (x:Zj):List ByteArray:=x.pattern.args++[x.left,x.right]
def Xt (x:Zj):List ByteArray:=YU (Xz (YM x))
theorem Zfq (x:Zj) (h:x.pattern.args.length<=1073741822):ZaO x=some (Xt x):=by
 unfold ZaO Zb2
 rw [Zay _ yE,A0,Zk _ yE,A0,Zem _ (by simp;omega),A0]
 have:=Zd8 (x.pattern.args++[x.left,x.right])
 simp at this
 rw [Zde _ yE]
 rfl
theorem Zfs (x:Zj) (h:x.pattern.args.length<=1073741820):QZ x=some (Xt x):=by
 unfold QZ
 have h1:=Ze5 (Xz x.pattern.args)
 have h2:=Zd8 x.pattern.args
 have h3:=Zhz x.left (YU (Xz x.pattern.args))
 have key:∀l:List ByteArray,(∀y,y∈l↔y∈Xz (YM x))->Asc l->l=Xt x:=fun l hm ha=>Zgg ha hm
 rw [ZdE _ yE,A0,ZbN,A0,ZbN]
 simp only[A0]
 rw [Zex _ _ yE,A0,Zex (ZaC _ _) _ yE,A0,Zex _ x.right yE,A0]
 cases hl:ZS x.left<;>cases hr:ZS x.right<;>simp only[if_true,AA,if_false]<;>congr 1<;>apply key<;>(try intro y)<;>(try simp only[ZjH,Xq,ZcV,YM,AP,A9,An,or_false])
 all_goals first
  |exact Zdr _
  |exact ZhS (Zdr _)
  |exact ZhS (ZhS (Zdr _))
  |skip
 .constructor
  .rintro ⟨a,b⟩;exact ⟨.inl a,b⟩
  .rintro ⟨a|rfl|rfl,b⟩
   .exact ⟨a,b⟩
   .rw [hl]at b;simp at b
   .rw [hr]at b;simp at b
 .constructor
  .rintro (rfl|⟨a,b⟩)
   .exact ⟨yG,hr⟩
   .exact ⟨.inl a,b⟩
  .rintro ⟨a|rfl|rfl,b⟩
   .exact .inr ⟨a,b⟩
   .rw [hl]at b;simp at b
   .exact .inl rfl
 .constructor
  .rintro (rfl|⟨a,b⟩)
   .exact ⟨yG,hl⟩
   .exact ⟨.inl a,b⟩
  .rintro ⟨a|rfl|rfl,b⟩
   .exact .inr ⟨a,b⟩
   .exact .inl rfl
   .rw [hr]at b;simp at b
 .constructor
  .rintro (rfl|rfl|⟨a,b⟩)
   .exact ⟨yG,hr⟩
   .exact ⟨yG,hl⟩
   .exact ⟨.inl a,b⟩
  .rintro ⟨a|rfl|rfl,b⟩
   .exact .inr (.inr ⟨a,b⟩)
   .exact .inr (.inl rfl)
   .exact .inl rfl
theorem Zh1 (x:Zj):(Xt x).length<=x.pattern.args.length+2:=by
 have h1:=Ze5 (Xz (YM x))
 have h2:=Zd8 (YM x)
 have h3:(YM x).length=x.pattern.args.length+2:=by simp [YM]
 unfold Xt
 omega
theorem ZxN {x:Zj}{v:ByteArray}(h:v∈Xt x):ZS v=true:=(ZcV.1 (Xq.1 h)).2
structure YX (r:Zh):Prop where
 cl:r.cond.length<=1048576
 tl:r.thn.length<=1048576
 ca:∀x∈r.cond,x.pattern.args.length<=1048576
 ta:∀a∈r.thn,a.pattern.args.length<=1048576
def XY (l:List Zj):List ByteArray:=l.flatMap fun x=>if x.kind=1 then Xz x.pattern.args else []
def XC (r:Zh) (n:Nat):List ByteArray:=YU (XY (r.cond.take n))
theorem Zhv (r:Zh) (n:Int) (h:YX r) (h4:r.cond.length<=4):ZbS r n=some (XC r n.toNat):=by
 unfold ZbS XC
 refine (Zdq (fun l i (row:List ByteArray)=>some (YU (row++XY (l.take (n.toNat - i))))) (fun l i row=>r.cond.drop i=l/\row.length<=1048576*i/\i<=r.cond.length) ?_ ?_ r.cond 0 [] ⟨yG,yG,yG⟩).trans yG
 .rintro i row ⟨h1,h2,h3⟩
  rw [Zde _ yE]
  simp [XY]
 .rintro x l i row ⟨h1,h2,h3⟩
  left
  have hi:r.cond[i]?=some x:=by have:=congrArg (fun l=>l[0]?) h1;simpa using this
  have hlt:i<r.cond.length:=(AK.1 hi).1
  have hr:r.cond.drop (i+1)=l:=by have:=congrArg AZ h1;simpa using this
  have hx:=h.ca x (AN hi)
  have hv:=Zd8 x.pattern.args
  by_cases hn:((i:Nat):Int)<n
  .have e:n.toNat - i=(n.toNat - (i+1))+1:=by omega
   by_cases hk:x.kind=1
   .refine ⟨row++Xz x.pattern.args,?_,⟨hr,by simp;omega,yE⟩,?_⟩
    .simp only[hn,hk,decide_true,beq_self_eq_true,if_true]
     rw [Zem _ yE,A0,Zk _ yE]
    .rw [e];simp [XY,hk]
   .refine ⟨row,?_,⟨hr,yE,yE⟩,?_⟩
    .simp [hn,hk]
    .rw [e];simp [XY,hk]
  .have e:n.toNat - i=0:=by omega
   have e':n.toNat - (i+1)=0:=by omega
   refine ⟨row,?_,⟨hr,yE,yE⟩,?_⟩
   .simp [hn]
   .rw [e,e'];simp
theorem Zek (r:Zh) (n:Int) (h:YX r) (h4:r.cond.length<=4):QX r n=some (XC r n.toNat):=by
 unfold QX XC
 refine (Zdq (fun l i (row:List ByteArray)=>some ((XY (l.take (n.toNat - i))).foldl ZaC row)) (fun l i row=>r.cond.drop i=l/\row.length<=1048576*i/\i<=r.cond.length/\Asc row) ?_ ?_ r.cond 0 [] ⟨yG,yG,yG,AG⟩).trans (by simp [YU])
 .rintro i row ⟨h1,h2,h3,h5⟩
  simp [XY]
 .rintro x l i row ⟨h1,h2,h3,h5⟩
  have hi:r.cond[i]?=some x:=by have:=congrArg (fun l=>l[0]?) h1;simpa using this
  have hlt:i<r.cond.length:=(AK.1 hi).1
  have hr:r.cond.drop (i+1)=l:=by have:=congrArg AZ h1;simpa using this
  have hx:=h.ca x (AN hi)
  have hv:=Zd8 x.pattern.args
  have hs:=Ze5 (Xz x.pattern.args)
  by_cases hn:((i:Nat):Int)<n
  .left
   have e:n.toNat - i=(n.toNat - (i+1))+1:=by omega
   by_cases hk:x.kind=1
   .obtain ⟨f1,f2,f3⟩:=Qy (YU (Xz x.pattern.args)) row h5
    refine ⟨(YU (Xz x.pattern.args)).foldl ZaC row,?_,⟨hr,yE,yE,f1⟩,?_⟩
    .simp only[hn,hk,decide_true,beq_self_eq_true,if_true]
     rw [ZdE _ yE,A0,Zmx (fun _ _ _=>rfl) yE]
    .rw [e]
     simp only[XY,List.take_succ_cons,AQ,hk,if_true,Ag]
     congr 2
     obtain ⟨g1,g2,_⟩:=Qy (Xz x.pattern.args) row h5
     exact Zrr g1 f1 fun y=>by rw [g2,f2,Xq]
   .refine ⟨row,?_,⟨hr,yE,yE,h5⟩,?_⟩
    .simp [hn,hk]
    .rw [e];simp [XY,hk]
  .right
   have e:n.toNat - i=0:=by omega
   refine ⟨row,by simp [hn],by rw [e];simp [XY]⟩
def Zmp (r:Zh) (i:Int) (v:ByteArray):Bool:=!(ZdO (fun k x=>!(decide ((k:Int)≠i)&&Zaf (Xt x) v)) r.cond 0&&r.thn.all fun a=>!Zaf a.pattern.args v)
theorem Zha {r:Zh}{i:Int}{v:ByteArray}{f:Zj->Option (List ByteArray)}{g:List ByteArray->ByteArray->Option Bool}(hf:∀x∈r.cond,f x=some (Xt x)) (hg:∀l,g l v=some (Zaf l v)) {fin:Unit->Option Bool}(c:fin ()=some (!(r.thn.all fun a=>!Zaf a.pattern.args v))):
  forL (σ:=Unit) (fun (k:Nat) (x:Zj) _=>if (((k:Nat):Int) != i)=true then (f x).bind fun l=>(g l v).bind fun b=>if b=true then some (.inr true) else some (.inl ()) else some (.inl ())) fin r.cond 0 ()=some (Zmp r i v):=by
 rw [Zc5 (p:=fun k x=>!(decide ((k:Int)≠i)&&Zaf (Xt x) v)) (r:=true)]
 .unfold Zmp
  cases ZdO (fun k x=>!(decide ((k:Int)≠i)&&Zaf (Xt x) v)) r.cond 0 with
  |true=>simp only[if_true,c,A6]
  |false=>simp
 .intro j x hj
  rw [hf x (AN hj),A0,hg,A0,AJ]
  by_cases h:(j:Int)=i
  .simp [h]
  .have:((j:Int) != i)=true:=by simpa using h
   simp only[this,if_true]
   cases Zaf (Xt x) v<;>simp [h]
theorem Zg3 (r:Zh) (i:Int) (v:ByteArray) (h:YX r):Qb r i v=some (Zmp r i v):=by
 unfold Qb
 refine Zha (f:=ZaO) (g:=Za1) (fun x mx=>Zfq x (by have:=h.ca x mx;omega)) (fun l=>Zd5 l v) ?_
 rw [Zb7 (p:=fun a=>Zaf a.pattern.args v) (r:=true)]
 .simp only[<-Ao,Aq]
  cases r.thn.any fun a=>Zaf a.pattern.args v<;>rfl
 .intro j a _
  rw [Zd5]
  cases Zaf a.pattern.args v<;>simp
theorem Zkv (r:Zh) (i:Int) (v:ByteArray) (h:YX r) (hv:ZS v=true):Qr r i v=some (Zmp r i v):=by
 unfold Qr
 refine Zha (f:=QZ) (g:=YY) (fun x mx=>Zfs x (by have:=h.ca x mx;omega)) (fun l=>QJ l v) ?_
 rw [Zb7 (p:=fun a=>Zaf a.pattern.args v) (r:=true)]
 .simp only[<-Ao,Aq]
  cases r.thn.any fun a=>Zaf a.pattern.args v<;>rfl
 .intro j a ma
  rw [ZdE _ (by have:=h.ta a ma;omega),A0,QJ,A0]
  have:Zaf (YU (Xz a.pattern.args)) v=Zaf a.pattern.args v:=by
   rw [AC,Zjd,Zjd,Xq,ZcV]
   simp [hv]
  rw [this]
  cases Zaf a.pattern.args v<;>simp
def ZmG (r:Zh) (i:Nat) (x:Zj) (v:ByteArray):Bool:=decide (x.kind=1)||Zaf (XC r i) v||(decide (x.kind=2)&&!Zmp r i v)
def Zhn (r:Zh) (i:Nat) (x:Zj):Bool:=(Xt x).all (ZmG r i x)
theorem ZoU (r:Zh) (i:Nat) (x:Zj) (h:YX r) (h4:r.cond.length<=4) (hx:r.cond[i]?=some x):Zc1 r i=some (Zhn r i x):=by
 unfold Zc1 Zhn
 have ha:atI r.cond (i:Int)=some x:=by unfold atI;rw [if_pos yE,AD];exact hx
 rw [ha,A0,Zhv r _ h h4,A0,Zfq x (by have:=h.ca x (AN hx);omega),A0,AD]
 rw [X8 (p:=ZmG r i x) (r:=false)]
 .cases (Xt x).all (ZmG r i x)<;>rfl
 .intro j v mv
  rw [Zd5,Zg3 r _ v h]
  simp only[A0,ZmG,beq_iff_eq,bne_iff_ne,ne_eq]
  by_cases h1:x.kind=1
  .simp [h1]
  .simp only[h1,if_false,decide_false,Ar]
   cases Zaf (XC r i) v with
   |true=>simp
   |false=>
    by_cases h2:x.kind=2
    .simp only[h2,not_true_eq_false,if_false,AA,decide_true,A6,Ar]
     cases Zmp r i v<;>simp
    .simp [h2]
def Yh (r:Zh):Bool:=
 Xo r.name&&decide (0<=r.priority)&&decide (r.priority<=9)&&decide (1<=r.cond.length)&&decide (r.cond.length<=4)&&decide (1<=r.thn.length)&&decide (r.thn.length<=2)
  && ZdO (fun i x=>Yj x&&(decide (i≠0)||decide (x.kind=1))&&Zhn r i x) r.cond 0
  && r.thn.all (fun a=>X5 a&&(Xz a.pattern.args).all (Zaf (XC r r.cond.length)))
  && decide ((YU (r.cond.flatMap Xt)).length<=6)
theorem Zl2 (l:List Zj) (h:∀x∈l,x.pattern.args.length<=1048576) (h4:l.length<=4):Zcq l=some (l.flatMap Xt):=by
 unfold Zcq
 rw [ZcR (f:=fun s x=>s++Xt x) (fun j s=>s.length<=1048578*j) yG]
 .congr 1
  have:∀(l:List Zj) (acc:List ByteArray),l.foldl (fun s x=>s++Xt x) acc=acc++l.flatMap Xt:=by
   intro l
   induction l with
   |nil=>simp
   |cons x l ih=>intro acc;rw [AS,ih];simp
  simpa using this l []
 .intro j x s mx _ hl hI
  have:=h x mx
  have:=Zh1 x
  rw [Zfq x yE,A0,Zk _ yE]
  exact ⟨rfl,by simp;omega⟩
theorem ZrV (r:Zh) (h:YX r):ZhF r=some (Yh r):=by
 unfold ZhF Yh
 rw [QU,A0]
 cases Xo r.name with
 |false=>simp
 |true=>
 simp only[if_true,decide_eq_true_eq,A6]
 split
 .rw [decide_eq_false (show ¬0<=r.priority by omega)];simp
 split
 .rw [decide_eq_false (show ¬r.priority<=9 by omega)];simp
 split
 .rw [decide_eq_false (show ¬1<=r.cond.length by omega)];simp
 split
 .rw [decide_eq_false (show ¬r.cond.length<=4 by omega)];simp
 split
 .rw [decide_eq_false (show ¬1<=r.thn.length by omega)];simp
 split
 .rw [decide_eq_false (show ¬r.thn.length<=2 by omega)];simp
 rw [decide_eq_true (show 0<=r.priority by omega),decide_eq_true (show r.priority<=9 by omega),decide_eq_true (show 1<=r.cond.length by omega),decide_eq_true (show r.cond.length<=4 by omega),decide_eq_true (show 1<=r.thn.length by omega),decide_eq_true (show r.thn.length<=2 by omega)]
 simp only[A6]
 have h4:r.cond.length<=4:=by omega
 rw [Zc5 (p:=fun i x=>Yj x&&(decide (i≠0)||decide (x.kind=1))&&Zhn r i x) (r:=false)]
 .cases ZdO (fun i x=>Yj x&&(decide (i≠0)||decide (x.kind=1))&&Zhn r i x) r.cond 0 with
  |false=>simp
  |true=>
   simp only[if_true,A6]
   rw [Zhv r _ h h4,A0,AD,X8 (p:=fun a=>X5 a&&(Xz a.pattern.args).all (Zaf (XC r r.cond.length))) (r:=false)]
   .cases r.thn.all fun a=>X5 a&&(Xz a.pattern.args).all (Zaf (XC r r.cond.length)) with
    |false=>simp
    |true=>
     have hl:(r.cond.flatMap Xt).length<=1048578*r.cond.length:=by
      have:∀l:List Zj,(∀x∈l,x.pattern.args.length<=1048576)->(l.flatMap Xt).length<=1048578*l.length:=by
       intro l
       induction l with
       |nil=>simp
       |cons x l ih=>
        intro hl
        have h1:=ih fun y my=>hl y (by simp [my])
        have h2:=hl x yG
        have h3:=Zh1 x
        simp only[AQ,AO,AB]
        omega
      exact this r.cond h.ca
     simp only[if_true,A6]
     rw [Zl2 _ h.ca h4,A0,Zde _ yE,A0]
     congr 1
     rw [AC]
     simp only[decide_eq_true_eq]
     omega
   .intro j a ma
    rw [Zoe,A0]
    cases X5 a with
    |false=>simp
    |true=>
     simp only[if_true,A6]
     rw [Zem _ (by have:=h.ta a ma;omega),A0,X8 (p:=Zaf (XC r r.cond.length)) (r:=.inr false)]
     .cases (Xz a.pattern.args).all (Zaf (XC r r.cond.length))<;>rfl
     .intro k v _
      rw [Zd5,A0]
      cases Zaf (XC r r.cond.length) v<;>simp
 .intro j x hj
  rw [AJ,ZgX,A0,ZoU r j x h h4 hj]
  simp only[A0]
  cases Yj x with
  |false=>simp
  |true=>
   by_cases h0:j=0
   .subst h0
    by_cases hk:x.kind=1
    .simp only[hk];cases Zhn r 0 x<;>simp
    .simp [hk]
   .have:((j:Int)==0)=false:=by rw [beq_eq_false_iff_ne];omega
    simp only[this]
    cases Zhn r j x<;>simp [h0]
theorem ZgE {α:Type}(f:α->List ByteArray):∀(l:List α) (acc:List ByteArray),Asc acc->l.foldl (fun s x=>(f x).foldl ZaC s) acc=(l.flatMap f).foldl ZaC acc
 | [],_,_=>rfl
 |x::l,acc,h=>by rw [AS,ZgE f l _ (Qy (f x) acc h).1,AQ,Ag]
def ZnH (r:Zh):List ByteArray:=YU (r.cond.flatMap Xt++r.thn.flatMap fun a=>Xz a.pattern.args)
theorem ZoM (r:Zh) (h:YX r) (h4:r.cond.length<=4) (h2:r.thn.length<=2):Zep r=some (ZnH r):=by
 unfold Zep ZnH
 rw [ZcR (f:=fun s x=>(Xt x).foldl ZaC s) (fun j s=>s.length<=1048578*j/\Asc s) ⟨yG,AG⟩]
 .have hA:=ZgE Xt r.cond [] AG
  have hB:Asc (r.cond.foldl (fun s x=>(Xt x).foldl ZaC s) []):=by rw [hA];exact (Qy _ [] AG).1
  have hl:(r.cond.foldl (fun s x=>(Xt x).foldl ZaC s) []).length<=1048578*4:=by
   rw [hA]
   have:=(Qy (r.cond.flatMap Xt) [] AG).2.2
   have h3:(r.cond.flatMap Xt).length<=1048578*r.cond.length:=by
    have:∀l:List Zj,(∀x∈l,x.pattern.args.length<=1048576)->(l.flatMap Xt).length<=1048578*l.length:=by
     intro l
     induction l with
     |nil=>simp
     |cons x l ih=>
      intro hl
      have h1:=ih fun y my=>hl y (by simp [my])
      have h2:=hl x yG
      have h3:=Zh1 x
      simp only[AQ,AO,AB]
      omega
    exact this r.cond h.ca
   simp only[Ae,Nat.add_zero]at this
   omega
  rw [ZcR (f:=fun s a=>(YU (Xz a.pattern.args)).foldl ZaC s) (fun j s=>s.length<=1048578*4+1048576*j/\Asc s) ⟨yE,hB⟩]
  .congr 1
   rw [ZgE (fun a:ZB=>YU (Xz a.pattern.args)) r.thn _ hB,hA]
   refine Zgg (Qy _ _ (Qy _ [] AG).1).1 fun y=>?_
   rw [(Qy _ _ (Qy _ [] AG).1).2.1 y,(Qy _ [] AG).2.1 y]
   simp only[AP,AT,Xq,An,or_false]
   exact Or.comm
  .intro j a s ma _ hj hI
   have h5:=h.ta a ma
   have h6:=Zd8 a.pattern.args
   have h7:=Ze5 (Xz a.pattern.args)
   obtain ⟨f1,f2,f3⟩:=Qy (YU (Xz a.pattern.args)) s hI.2
   rw [ZdE _ yE,A0,Zmx (fun _ _ _=>rfl) yE]
   exact ⟨rfl,yE,f1⟩
 .intro j x s mx _ hj hI
  have h5:=h.ca x mx
  have h6:=Zh1 x
  obtain ⟨f1,f2,f3⟩:=Qy (Xt x) s hI.2
  rw [Zfs _ yE,A0,Zmx (fun _ _ _=>rfl) yE]
  exact ⟨rfl,yE,f1⟩
theorem Zr6 {l:List Zj}{y:ByteArray}(h:y∈XY l):y∈l.flatMap Xt:=by
 simp only[XY,AT]at h ⊢
 obtain ⟨x,hx,hy⟩:=h
 refine ⟨x,hx,?_⟩
 split at hy
 .rw [Xt,Xq,ZcV]
  rw [ZcV]at hy
  exact ⟨by simp [YM,hy.1],hy.2⟩
 .simp at hy
theorem ZhI (r:Zh) (h:YX r):Zae r=some (Yh r):=by
 unfold Zae Yh
 rw [Zlx,A0]
 cases Xo r.name with
 |false=>simp
 |true=>
 simp only[if_true,Zia,A0,A6,A5,decide_eq_true_eq]
 split
 rotate_left
 .rename_i hh
  have:(decide (0<=r.priority)&&decide (r.priority<=9))=false:=by simp;omega
  rw [this];simp
 rename_i hp
 rw [decide_eq_true hp.1,decide_eq_true hp.2]
 split
 rotate_left
 .rename_i hh
  have:(decide (1<=r.cond.length)&&decide (r.cond.length<=4))=false:=by simp;omega
  simp only[A6,this,Ah]
 rename_i hc
 rw [decide_eq_true (show 1<=r.cond.length by omega),decide_eq_true (show r.cond.length<=4 by omega)]
 split
 rotate_left
 .rename_i hh
  have:(decide (1<=r.thn.length)&&decide (r.thn.length<=2))=false:=by simp;omega
  simp only[A6,this,Ah]
 rename_i ht
 rw [decide_eq_true (show 1<=r.thn.length by omega),decide_eq_true (show r.thn.length<=2 by omega)]
 simp only[A6]
 have h4:r.cond.length<=4:=by omega
 rw [Zek r _ h h4,A0,AD]
 rw [Zc5 (p:=fun i x=>Yj x&&(decide (i≠0)||decide (x.kind=1))&&Zhn r i x) (r:=false)]
 .cases ZdO (fun i x=>Yj x&&(decide (i≠0)||decide (x.kind=1))&&Zhn r i x) r.cond 0 with
  |false=>simp
  |true=>
   simp only[if_true,A6]
   rw [X8 (p:=fun a=>X5 a&&(Xz a.pattern.args).all (Zaf (XC r r.cond.length))) (r:=false)]
   .cases ha:r.thn.all fun a=>X5 a&&(Xz a.pattern.args).all (Zaf (XC r r.cond.length)) with
    |false=>simp
    |true=>
     simp only[if_true,A6]
     rw [ZoM r h h4 yE,A0]
     have e:ZnH r=YU (r.cond.flatMap Xt):=Zom fun y=>by
      simp only[AP]
      refine ⟨fun hy=>?_,.inl⟩
      rcases hy with hy|hy
      .exact hy
      .obtain ⟨a,ma,hy⟩:=AT.1 hy
       have:=AH.1 ha a ma
       simp only[A5]at this
       have:=AH.1 this.2 y hy
       rw [Zjd,XC,Xq,As]at this
       exact Zr6 this
     rw [e]
     congr 1
     rw [AC]
     simp only[decide_eq_true_eq]
     omega
   .intro j a ma
    rw [Zoz,A0]
    cases X5 a with
    |false=>simp
    |true=>
     simp only[if_true,A6]
     rw [ZdE _ (by have:=h.ta a ma;omega),A0,X8 (p:=Zaf (XC r r.cond.length)) (r:=.inr false)]
     .have:(YU (Xz a.pattern.args)).all (Zaf (XC r r.cond.length))=(Xz a.pattern.args).all (Zaf (XC r r.cond.length)):=by
       rw [AC,AH,AH]
       simp only[Xq]
      rw [this]
      cases (Xz a.pattern.args).all (Zaf (XC r r.cond.length))<;>rfl
     .intro k v _
      rw [QJ,A0]
      cases Zaf (XC r r.cond.length) v<;>simp
 .intro j x hj
  have hxa:=h.ca x (AN hj)
  rw [AJ,Zfc,A0,Zek r _ h h4,Zfs x yE,AD]
  simp only[A0]
  cases hic:Yj x with
  |false=>simp
  |true=>
   have c:∀{fin:Unit->Option (Unit ⊕ Bool)} (d:fin ()=some (.inl ())),forL (σ:=Unit) (ρ:=Unit ⊕ Bool) (fun (_:Nat) (v:ByteArray) _=>(YY (XC r j) v).bind fun b=>(Zer x).bind fun t=>if t=true then (if b=true then (if (x.kind==2)=true then some (.inl ()) else some (.inl ())) else some (.inr (.inr false))) else (if (x.kind==2)=true then (if b=true then some (.inl ()) else (Qr r ((j:Nat):Int) v).bind fun e=>if e=true then some (.inr (.inr false)) else some (.inl ())) else some (.inl ()))) fin (Xt x) 0 ()=some (bif Zhn r j x then .inl () else .inr false):=fun {fin} d=>by
    rw [X8 (p:=ZmG r j x) (r:=.inr false)]
    .unfold Zhn
     cases (Xt x).all (ZmG r j x)<;>simp [d]
    .intro k v mv
     rw [QJ,ZrY,Zkv r _ v h (ZxN mv),hic]
     simp only[A0,A6,decide_eq_true_eq,beq_iff_eq,ZmG]
     rcases ZqP hic with hk|hk|hk|hk|hk<;>rw [hk]<;>cases Zaf (XC r j) v<;>cases Zmp r j v<;>simp
   by_cases h0:j=0
   .subst h0
    by_cases hk:x.kind=1
    .have f:(x.kind != 1)=false:=by simp [hk]
     simp only[if_true,f,show (((0:Nat):Int)==0)=true from rfl,AA,if_false]
     rw [c rfl]
     simp [hk]
    .have f:(x.kind != 1)=true:=by simpa using hk
     simp [f,hk]
   .have:((j:Int)==0)=false:=by rw [beq_eq_false_iff_ne];omega
    simp only[if_true,this,AA,if_false]
    rw [c rfl]
    simp [h0]
theorem Zd3 {v:ByteArray}(h:ZS v=true):ZU v=false:=by
 cases ha:ZU v with
 |false=>rfl
 |true=>
  have h1:=Zkq ha
  rw [Za6]at h1
  unfold ZS at h
  simp only[A5,decide_eq_true_iff]at h
  omega
def ZQ:List Zo->ByteArray->Option ByteArray
 | [],_=>none
 |x::b,v=>if x.var=v then some x.value else ZQ b v
def Xk (b:List Zo) (t:ByteArray):Option ByteArray:=if ZU t=true then some t else if ZS t=true then ZQ b t else none
theorem ZeF {b:List Zo}{v:ByteArray}(h:ZS v=true):Xk b v=ZQ b v:=by
 unfold Xk
 rw [if_neg (by rw [Zd3 h];simp),if_pos h]
def ZeG (x:Zo):Bool:=ZS x.var&&ZU x.value
def ZiI:Option ByteArray->ByteArray->Bool
 |none,_=>true
 |some p,v=>sLt p v
def YQ:Option ByteArray->List Zo->Bool
 |_,[]=>true
 |prev,x::r=>ZeG x&&ZiI prev x.var&&YQ (some x.var) r
def Z8 (b:List Zo):Bool:=decide (b.length<=6)&&YQ none b
theorem ZfJ {a:Option ByteArray}{b:List Zo}(h:YQ a b=true):∀x∈b,ZeG x=true/\∀p,a=some p->sLt p x.var=true:=by
 induction b generalizing a with
 |nil=>simp
 |cons y r ih=>
  simp only[YQ,A5]at h
  obtain ⟨⟨h1,h2⟩,h3⟩:=h
  intro x mx
  rcases A9.1 mx with rfl|mx
  .exact ⟨h1,fun p hp=>by subst hp;exact h2⟩
  .obtain ⟨k1,k2⟩:=ih h3 x mx
   exact ⟨k1,fun p hp=>by subst hp;exact ZfM h2 (k2 _ rfl)⟩
theorem ZkM {b:List Zo}{v:ByteArray}(h:ZQ b v=none):∀x∈b,¬x.var=v:=by
 induction b with
 |nil=>simp
 |cons y r ih=>
  simp only[ZQ]at h
  split at h
  .simp at h
  .rename_i hy
   intro x mx
   rcases A9.1 mx with rfl|mx
   .exact hy
   .exact ih h x mx
theorem ZfV {b:List Zo}{v w:ByteArray}(h:ZQ b v=some w):∃x∈b,x.var=v/\x.value=w:=by
 induction b with
 |nil=>simp [ZQ]at h
 |cons y r ih=>
  simp only[ZQ]at h
  split at h
  .rename_i hy
   exact ⟨y,yG,hy,AI h⟩
  .obtain ⟨x,mx,h1⟩:=ih h
   exact ⟨x,by simp [mx],h1⟩
def ZeW:List Zo->ByteArray->ByteArray->List Zo
 | [],v,w=>[⟨v,w⟩]
 |x::b,v,w=>if sLt v x.var=true then ⟨v,w⟩::x::b else x::ZeW b v w
theorem Zj4 (v w:ByteArray):∀b:List Zo,(ZeW b v w).length=b.length+1
 | []=>rfl
 |x::b=>by
  simp only[ZeW]
  split
  .rfl
  .rw [AB,Zj4 v w b];rfl
theorem ZcP {v w u:ByteArray}:∀{b:List Zo},ZQ b v=none->ZQ (ZeW b v w) u=if v=u then some w else ZQ b u
 | [],_=>by simp [ZeW,ZQ]
 |x::b,h=>by
  simp only[ZQ]at h
  split at h
  .simp at h
  .rename_i hx
   simp only[ZeW]
   split
   .simp [ZQ]
   .simp only[ZQ]
    rw [ZcP h]
    by_cases hu:x.var=u
    .rw [if_pos hu,if_pos hu,if_neg (fun e=>hx (hu.trans e.symm))]
    .rw [if_neg hu,if_neg hu]
theorem Zps {v w:ByteArray}(hv:ZS v=true) (hw:ZU w=true):∀{b:List Zo}{a:Option ByteArray},YQ a b=true->ZQ b v=none->(∀p,a=some p->sLt p v=true)->YQ a (ZeW b v w)=true
 | [],a,_,_,hp=>by
  simp only[ZeW,YQ,ZeG,hv,hw,Bool.and_self,A6,Ai]
  cases a with
  |none=>rfl
  |some p=>exact hp p rfl
 |x::b,a,h,hg,hp=>by
  have hx:=ZkM hg x yG
  simp only[ZQ,hx,if_false]at hg
  simp only[YQ,A5]at h
  obtain ⟨⟨h1,h2⟩,h3⟩:=h
  simp only[ZeW]
  by_cases c:sLt v x.var=true
  .rw [if_pos c]
   have h4:ZiI a v=true:=by
    cases a with
    |none=>rfl
    |some p=>exact hp p rfl
   simp only[YQ,A5]
   exact ⟨⟨by simp [ZeG,hv,hw],h4⟩,⟨⟨h1,c⟩,h3⟩⟩
  .rw [if_neg c]
   simp only[YQ,A5]
   refine ⟨⟨h1,h2⟩,Zps hv hw h3 hg fun p d=>?_⟩
   obtain rfl:=AI d
   exact Zeh (by simpa using c) (fun e=>hx e.symm)
def Zdu (b:List Zo) (v w:ByteArray):Option (List Zo):=
 if Z8 b=true/\ZS v=true/\ZU w=true then
  (match ZQ b v with
  |some old=>if old=w then some b else none
  |none=>if b.length=6 then none else some (ZeW b v w))
 else none
theorem Zkb {b b':List Zo}{v w:ByteArray}(h:Zdu b v w=some b'):Z8 b'=true/\ZQ b' v=some w/\∀u z,ZQ b u=some z->ZQ b' u=some z:=by
 unfold Zdu at h
 split at h
 .rename_i hc
  obtain ⟨h1,h2,h3⟩:=hc
  cases hg:ZQ b v with
  |some old=>
   rw [hg]at h
   simp only at h
   split at h
   .rename_i he
    obtain rfl:=AI h
    exact ⟨h1,by rw [hg,he],fun u z hu=>hu⟩
   .simp at h
  |none=>
   rw [hg]at h
   simp only at h
   split at h
   .simp at h
   .rename_i hl
    obtain rfl:=AI h
    unfold Z8 at h1 ⊢
    rw [A5,decide_eq_true_iff]at h1
    refine ⟨?_,by rw [ZcP hg,if_pos rfl],fun u z hu=>?_⟩
    .rw [A5,decide_eq_true_iff,Zj4]
     exact ⟨yE,Zps h2 h3 h1.2 hg yG⟩
    .rw [ZcP hg,if_neg (fun e=>by rw [<-e,hg]at hu;simp at hu)];exact hu
 .simp at h
def Zao:List ByteArray->List ByteArray->List Zo->Option (List Zo)
 | [],_,b=>some b
 |_::_,[],_=>none
 |a::p,w::f,b=>if ZU a=true then (if a=w then Zao p f b else none) else (Zdu b a w).bind (Zao p f)
theorem ZkI:∀{p f:List ByteArray}{b b':List Zo},Z8 b=true->Zao p f b=some b'->Z8 b'=true/\(∀a∈p,ZS a=true->∃z,ZQ b' a=some z)/\∀u z,ZQ b u=some z->ZQ b' u=some z
 | [],_,b,b',hb,h=>by
  simp only[Zao,Option.some.injEq]at h
  subst h
  exact ⟨hb,yG,fun u z h=>h⟩
 |_::_,[],_,_,_,h=>by simp [Zao]at h
 |a::p,w::f,b,b',hb,h=>by
  simp only[Zao]at h
  by_cases ha:ZU a=true
  .rw [if_pos ha]at h
   split at h
   .obtain ⟨h1,h2,h3⟩:=ZkI hb h
    refine ⟨h1,fun x mx hx=>?_,h3⟩
    rcases A9.1 mx with rfl|mx
    .rw [Zd3 hx]at ha;simp at ha
    .exact h2 x mx hx
   .simp at h
  .rw [if_neg ha]at h
   obtain ⟨b1,e1,h⟩:=Option.bind_eq_some_iff.1 h
   obtain ⟨k1,k2,k3⟩:=Zkb e1
   obtain ⟨h1,h2,h3⟩:=ZkI k1 h
   refine ⟨h1,fun x mx hx=>?_,fun u z hu=>h3 u z (k3 u z hu)⟩
   rcases A9.1 mx with rfl|mx
   .exact ⟨w,h3 _ _ k2⟩
   .exact h2 x mx hx
def ZeL (p:Zi) (f:Zg) (b:List Zo):Bool:=ZZ p&&Yr f&&Z8 b&&decide (p.rel=f.rel)&&decide (p.args.length=f.args.length)
def Xh (p:Zi) (f:Zg) (b:List Zo):Option (List Zo):=if ZeL p f b=true then Zao p.args f.args b else none
theorem ZxB {p:Zi}{f:Zg}{b b':List Zo}(h:Xh p f b=some b'):Z8 b'=true/\(∀a∈p.args,ZS a=true->∃z,ZQ b' a=some z)/\∀u z,ZQ b u=some z->ZQ b' u=some z:=by
 unfold Xh at h
 split at h
 .rename_i hc
  unfold ZeL at hc
  simp only[A5]at hc
  exact ZkI hc.1.1.2 h
 .simp at h
def ZfK:List ByteArray->List Zo->Option (List ByteArray)
 | [],_=>some []
 |a::p,b=>(Xk b a).bind fun v=>(ZfK p b).map fun l=>v::l
theorem Znx {b:List Zo}:∀{p:List ByteArray},p.all Yo=true->(∀a∈p,ZS a=true->∃z,ZQ b a=some z)->∃l,ZfK p b=some l/\l.length=p.length
 | [],_,_=>⟨[],rfl,rfl⟩
 |a::p,h,hv=>by
  simp only[List.all_cons,A5]at h
  obtain ⟨l,e,hl⟩:=Znx h.2 fun x mx=>hv x (by simp [mx])
  have:∃v,Xk b a=some v:=by
   have ht:=h.1
   unfold Yo at ht
   rw [AX]at ht
   rcases ht with ht|ht
   .exact ⟨a,by unfold Xk;rw [if_pos ht]⟩
   .obtain ⟨z,hz⟩:=hv a yG ht
    exact ⟨z,by rw [ZeF ht];exact hz⟩
  obtain ⟨v,hv⟩:=this
  exact ⟨v::l,by simp only[ZfK,hv,e,A0,Am],by simp [hl]⟩
def Zlh (p:Zi) (b:List Zo):Option Zg:=if ZZ p=true/\Z8 b=true then (ZfK p.args b).map fun l=>{ rel:=p.rel,args:=l } else none
def Qz (p:Zi) (b:List Zo) (F:List Zg):List Zg:=F.filter fun f=>(Xh p f b).isSome
def ZCD (l r:ByteArray):Bool:=match ZbJ l,ZbJ r with|some m,some n=>decide (m<n)|_,_=>false
def Zyj (k:Int) (l r:ByteArray):Bool:=if k=3 then decide (l=r) else if k=4 then !decide (l=r) else ZCD l r
def Zrj (x:Zj) (b:List Zo):Bool:=
 if Yj x=true/\3<=x.kind/\Z8 b=true then (match Xk b x.left,Xk b x.right with|some l,some r=>Zyj x.kind l r|_,_=>false) else false
def ZiK (x:Zj) (b:List Zo) (F:List Zg):Bool:=
 if Yj x=true/\Z8 b=true then
  (if x.kind=1 then decide (0<(Qz x.pattern b F).length) else if x.kind=2 then decide ((Qz x.pattern b F).length=0) else Zrj x b)
 else false
def X1 (x:Zj) (F:List Zg) (t:Zs):List Zs:=
 if x.kind=1 then F.filterMap fun f=>(Xh x.pattern f t.binding).map fun b=>{ facts:=t.facts++[f],binding:=b }
 else if ZiK x t.binding F=true then [t] else []
def Zbx (x:Zj) (F:List Zg) (l:List Zs):List Zs:=l.flatMap (X1 x F)
def ZnV:Zs:={ facts:=[],binding:=[] }
def ZN (l:List Zj) (F:List Zg):List Zs:=l.foldl (fun ts x=>Zbx x F ts) [ZnV]
theorem ZdW (p:List Zj) (x:Zj) (F:List Zg):ZN (p++[x]) F=Zbx x F (ZN p F):=by
 unfold ZN
 rw [Ag]
 rfl
structure Zit (p:List Zj) (F:List Zg) (t:Zs):Prop where
 bind:Z8 t.binding=true
 len:t.facts.length<=p.length
 sub:∀f∈t.facts,f∈F
 vars:∀v∈XY p,∃z,ZQ t.binding v=some z
theorem ZBx {p:List Zj}{x:Zj}{F:List Zg}{t u:Zs}(h:Zit p F t) (hu:u∈X1 x F t):Zit (p++[x]) F u:=by
 unfold X1 at hu
 have hv:XY (p++[x])=XY p++(if x.kind=1 then Xz x.pattern.args else []):=by simp [XY]
 by_cases hk:x.kind=1
 .rw [if_pos hk]at hu
  obtain ⟨f,mf,e⟩:=List.mem_filterMap.1 hu
  obtain ⟨b,e2,rfl⟩:=Option.map_eq_some_iff.1 e
  obtain ⟨h1,h2,h3⟩:=ZxB e2
  refine ⟨h1,by have:=h.len;simp;omega,fun g mg=>?_,fun v mv=>?_⟩
  .rcases AP.1 mg with mg|mg
   .exact h.sub g mg
   .simp at mg;subst mg;exact mf
  .rw [hv,if_pos hk]at mv
   rcases AP.1 mv with mv|mv
   .obtain ⟨z,hz⟩:=h.vars v mv
    exact ⟨z,h3 v z hz⟩
   .obtain ⟨m1,m2⟩:=ZcV.1 mv
    exact h2 v m1 m2
 .rw [if_neg hk]at hu
  split at hu
  .simp at hu
   subst hu
   refine ⟨h.bind,by have:=h.len;simp;omega,h.sub,fun v mv=>?_⟩
   rw [hv,if_neg hk,Aj]at mv
   exact h.vars v mv
  .simp at hu
theorem ZBT (F:List Zg):Zit [] F ZnV:=⟨rfl,AR _,by simp [ZnV],by simp [XY]⟩
theorem Zal (F:List Zg) (l:List Zj):∀t∈ZN l F,Zit l F t:=by
 have:∀n (l:List Zj),l.length=n->∀t∈ZN l F,Zit l F t:=by
  intro n
  induction n with
  |zero=>
   intro l h
   rw [List.eq_nil_of_length_eq_zero h]
   intro t mt
   simp [ZN]at mt
   subst mt
   exact ZBT F
  |succ n ih=>
   intro l h
   obtain ⟨p,x,rfl⟩:∃p x,l=p++[x]:=⟨l.dropLast,l.getLast (by intro e;simp [e]at h),(List.dropLast_concat_getLast _).symm⟩
   intro t mt
   rw [ZdW]at mt
   obtain ⟨s,ms,mt⟩:=AT.1 mt
   exact ZBx (ih p (by simpa using h) s ms) mt
 exact this _ l rfl
theorem ZjW (x:Zj) (F:List Zg) (hF:F.length<=24):∀l:List Zs,(Zbx x F l).length<=24*l.length
 | []=>AR _
 |t::l=>by
  have ih:=ZjW x F hF l
  have h1:(X1 x F t).length<=24:=by
   unfold X1
   split
   .exact AL (List.length_filterMap_le _ _) hF
   .split<;>simp
  unfold Zbx at *
  rw [AQ,AO,AB]
  omega
theorem QY (F:List Zg) (hF:F.length<=24) (l:List Zj) (hl:l.length<=4):(ZN l F).length<=331776:=by
 have key:∀(l:List Zj) (ts:List Zs),(l.foldl (fun ts x=>Zbx x F ts) ts).length<=24 ^ l.length*ts.length:=by
  intro l
  induction l with
  |nil=>intro ts;simp
  |cons x l ih=>
   intro ts
   rw [AS,AB,Nat.pow_succ]
   have h1:=ih (Zbx x F ts)
   have h2:=ZjW x F hF ts
   refine AL h1 (AL (Nat.mul_le_mul_left _ h2) ?_)
   rw [<-Al]
   exact AR _
 have h1:=key l [ZnV]
 have h2:24 ^ l.length<=24 ^ 4:=Aa yE hl
 unfold ZN
 simp only[List.length_singleton,Nat.mul_one]at h1
 omega
def Zgb (b:List Zo) (i:Nat):Option ByteArray:=if i=0 then none else (b[i - 1]?).map (·.var)
theorem ZpV {b:List Zo}{body:Nat->Zo->Unit->Option (Unit ⊕ Bool)}{fin:Unit->Option Bool}(hb:∀i x,b[i]?=some x->body i x ()=if (ZeG x&&ZiI (Zgb b i) x.var)=true then some (.inl ()) else some (.inr false)):
  ∀(l:List Zo) (i:Nat),b.drop i=l->forL body fin l i ()=if YQ (Zgb b i) l=true then fin () else some false
 | [],i,_=>by simp [forL,YQ]
 |x::l,i,h=>by
  have hx:b[i]?=some x:=by rw [<-List.head?_drop,h];rfl
  have hd:b.drop (i+1)=l:=by rw [<-List.tail_drop,h];rfl
  have hp:Zgb b (i+1)=some x.var:=by unfold Zgb;rw [if_neg yE,Nat.add_sub_cancel,hx];rfl
  by_cases hc:(ZeG x&&ZiI (Zgb b i) x.var)=true
  .rw [ZD (by rw [hb i x hx,if_pos hc]),ZpV hb l (i+1) hd,hp]
   simp only[YQ,hc,A6]
  .rw [ZX (by rw [hb i x hx,if_neg hc])]
   simp only[YQ,eq_false_of_ne_true hc,Ah,AA,if_false]
theorem Zwj {b:List Zo}(hl:b.length<=1048576) {i:Nat}{x:Zo}(hx:b[i]?=some x):
  (if ZS x.var=true then (if ZU x.value=true then (if (decide (0<((i:Nat):Int)))=true then (atI b (IntKind.i64.wrap (((i:Nat):Int) - 1))).bind fun a=>if (sLt a.var x.var)=true then some (.inl ()) else some (.inr false) else some (.inl ())) else some (.inr false)) else some (.inr false):Option (Unit ⊕ Bool))
   = if (ZeG x&&ZiI (Zgb b i) x.var)=true then some (.inl ()) else some (.inr false):=by
 have hi:=(AK.1 hx).1
 unfold ZeG
 cases ZS x.var with
 |false=>simp
 |true=>
  cases ZU x.value with
  |false=>simp
  |true=>
   rw [if_pos rfl,if_pos rfl]
   by_cases h0:i=0
   .subst h0
    rw [if_neg yG]
    simp [Zgb,ZiI]
   .have hp:Zgb b i=some (b[i - 1]).var:=by unfold Zgb;rw [if_neg h0,AF yE];rfl
    rw [if_pos (by simp;omega),show ((i:Nat):Int) - 1=((i - 1:Nat):Int) by omega,Zfd yE yE,YN,AF yE,A0,hp]
    simp [ZiI]
theorem ZaU (b:List Zo):Qd b=some (Z8 b):=by
 unfold Qd Z8
 by_cases h6:b.length<=6
 .rw [if_neg (by simp;omega),ZpV (b:=b) (fun i x hx=>by
   rw [Zaz,A0,Qf]
   exact Zwj yE hx) b 0 rfl,decide_eq_true h6]
  show (if YQ none b=true then some true else some false)=_
  cases YQ none b<;>rfl
 .rw [if_pos (by simp;omega),decide_eq_false h6]
  rfl
def ZCl (b:List Zo) (t:ByteArray):ByteArray×Bool:=match Xk b t with|some v=>(v,true)|none=>(⟨#[]⟩,false)
def ZBg:Option ByteArray->ByteArray×Bool
 |some v=>(v,true)
 |none=>(⟨#[]⟩,false)
theorem Zjk (b:List Zo) (t:ByteArray):ZCl b t=ZBg (Xk b t):=by unfold ZCl ZBg;cases Xk b t<;>rfl
theorem ZrC {t:ByteArray}{body:Nat->Zo->Unit->Option (Unit ⊕ (ByteArray×Bool))}(hb:∀i x,body i x ()=if x.var=t then some (.inr (x.value,true)) else some (.inl ())):
  ∀(b:List Zo) (i:Nat),forL body (fun _=>some ((⟨#[]⟩),false)) b i ()=some (ZBg (ZQ b t))
 | [],_=>rfl
 |x::b,i=>by
  by_cases hx:x.var=t
  .rw [ZX (by rw [hb,if_pos hx])]
   simp [ZQ,hx,ZBg]
  .rw [ZD (by rw [hb,if_neg hx]),ZrC hb b (i+1)]
   simp [ZQ,hx]
theorem Zcu (b:List Zo) (t:ByteArray):Za0 b t=some (ZCl b t):=by
 unfold Za0
 rw [Zjk,Qf,A0]
 unfold Xk
 by_cases ha:ZU t=true
 .rw [if_pos ha,if_pos ha];rfl
 .rw [if_neg ha,if_neg ha,Zaz,A0]
  by_cases hv:ZS t=true
  .rw [if_pos hv,if_pos hv,ZrC]
   intro i x
   by_cases hx:x.var=t
   .rw [if_pos (ZL.2 hx),if_pos hx]
   .rw [if_neg (by rw [ZL];exact hx),if_neg hx]
  .rw [if_neg hv,if_neg hv];rfl
theorem ZrG {a v:ByteArray}:((sLt a v||sEq a v)=true)↔¬sLt v a=true:=by
 rw [AX,ZL]
 constructor
 .rintro (h|h)
  .rw [ZhZ h];simp
  .rw [h,ZiH];simp
 .intro h
  by_cases e:a=v
  .exact .inr e
  .exact .inl (Zeh (by simpa using h) (fun e2=>e e2.symm))
theorem ZzB {ρ:Type}{v w:ByteArray}{K:List Zo->Option ρ}{body:Nat->Zo->(List Zo×Bool)->Option ((List Zo×Bool) ⊕ ρ)}{fin:(List Zo×Bool)->Option ρ}
  (h1:∀i x row,row.length<=1000->body i x (row,true)=some (.inl (row++[x],true)))
  (h2:∀i x row,row.length<=1000->body i x (row,false)=if (sLt x.var v||sEq x.var v)=true then some (.inl (row++[x],false)) else some (.inl ((row++[{ var:=v,value:=w }])++[x],true)))
  (h3:∀row,row.length<=1000->fin (row,true)=K row) (h4:∀row,row.length<=1000->fin (row,false)=K (row++[{ var:=v,value:=w }])) (b:List Zo) (hb:b.length<=100):forL body fin b 0 ([],false)=K (ZeW b v w):=by
 rw [Zdq (fun l _ s=>K (s.1++(if s.2=true then l else ZeW l v w))) (fun l _ s=>s.1.length+2*l.length<=900) ?_ ?_ b 0 ([],false) (by simp;omega)]
 .simp
 .rintro i ⟨row,a⟩ hI
  simp only[Ae]at hI
  cases a with
  |true=>rw [h3 row yE];simp
  |false=>rw [h4 row yE];simp [ZeW]
 .rintro x l i ⟨row,a⟩ hI
  simp only[AB]at hI
  left
  cases a with
  |true=>exact ⟨_,h1 i x row yE,by simp;omega,yG⟩
  |false=>
   rw [h2 i x row yE]
   by_cases hs:sLt v x.var=true
   .rw [if_neg (by rw [ZrG];simpa using hs)]
    exact ⟨_,rfl,by simp;omega,by simp [ZeW,hs]⟩
   .rw [if_pos (ZrG.2 hs)]
    exact ⟨_,rfl,by simp;omega,by simp [ZeW,hs]⟩
def Znl:Option (List Zo)->List Zo×Bool
 |some b=>(b,true)
 |none=>([],false)
theorem Zqg {b:List Zo}{v w:ByteArray}(h:¬(Z8 b=true/\ZS v=true/\ZU w=true)):Znl (Zdu b v w)=([],false):=by
 unfold Zdu
 rw [if_neg h]
 rfl
theorem Znt {b:List Zo}{v w:ByteArray}(h1:Z8 b=true) (h2:ZS v=true) (h3:ZU w=true):Zdu b v w=match ZQ b v with|some a=>if a=w then some b else none|none=>if b.length=6 then none else some (ZeW b v w):=by
 unfold Zdu
 exact if_pos ⟨h1,h2,h3⟩
theorem ZeY {b:List Zo}(h:Z8 b=true):b.length<=6:=by
 unfold Z8 at h
 rw [A5,decide_eq_true_iff]at h
 exact h.1
theorem Zlb (b:List Zo) (v w:ByteArray):ZfD b v w=some (Znl (Zdu b v w)):=by
 unfold ZfD
 rw [ZaU,A0]
 by_cases h1:Z8 b=true
 .rw [if_pos h1,Zaz,A0]
  by_cases h2:ZS v=true
  .rw [if_pos h2,Qf,A0]
   by_cases h3:ZU w=true
   .have h6:=ZeY h1
    rw [if_pos h3,Zcu,A0,Zjk,ZeF h2]
    cases hg:ZQ b v with
    |some a=>
     have hx:Zdu b v w=if a=w then some b else none:=by rw [Znt h1 h2 h3,hg]
     rw [hx]
     show (if true=true then (if sEq a w=true then _ else _) else _)=_
     rw [if_pos rfl]
     by_cases he:a=w
     .rw [if_pos (ZL.2 he),if_pos he]
      unfold XM
      rw [Zk _ yE]
      rfl
     .rw [if_neg (by rw [ZL];exact he),if_neg he]
      rfl
    |none=>
     have hx:Zdu b v w=if b.length=6 then none else some (ZeW b v w):=by rw [Znt h1 h2 h3,hg]
     rw [hx]
     show (if false=true then _ else _)=_
     rw [if_neg yG]
     by_cases hl:b.length=6
     .rw [if_pos (by simp;omega),if_pos hl]
      rfl
     .rw [if_neg (by simp;omega),if_neg hl]
      refine ZzB (K:=fun r=>some (r,true)) (fun i x row hr=>?_) (fun i x row hr=>?_) (fun row hr=>?_) (fun row hr=>?_) b yE
      .show (if true=true then _ else _)=_
       rw [if_pos rfl,Zk _ yE]
      .show (if false=true then _ else _)=_
       rw [if_neg yG]
       split
       .rw [Zk _ yE]
       .rw [Zk _ yE,Zk _ yE]
      .show (if true=true then _ else _)=_
       rw [if_pos rfl]
      .show (if false=true then _ else _)=_
       rw [if_neg yG,Zk _ yE]
   .rw [if_neg h3,Zqg (fun h=>h3 h.2.2)]
  .rw [if_neg h2,Zqg (fun h=>h2 h.2.1)]
 .rw [if_neg h1,Zqg (fun h=>h1 h.1)]
theorem ZiR {fa:List ByteArray}{body:Nat->ByteArray->List Zo->Option (List Zo ⊕ (List Zo×Bool))}
  (hb:∀i a w row,fa[i]?=some w->Z8 row=true->body i a row=if ZU a=true then (if a=w then some (.inl row) else some (.inr ([],false))) else (match Zdu row a w with|some r=>some (.inl r)|none=>some (.inr ([],false)))):
  ∀(l:List ByteArray) (i:Nat) (row:List Zo),i+l.length=fa.length->Z8 row=true->forL body (fun row=>some (row,true)) l i row=some (Znl (Zao l (fa.drop i) row))
 | [],i,row,_,_=>by simp [forL,Zao,Znl]
 |a::l,i,row,h,hr=>by
  simp only[AB]at h
  have hi:i<fa.length:=by omega
  have hw:fa[i]?=some fa[i]:=AF hi
  rw [Ad hi]
  simp only[Zao]
  have e:=hb i a _ row hw hr
  by_cases ha:ZU a=true
  .rw [if_pos ha]at e ⊢
   by_cases hq:a=fa[i]
   .rw [if_pos hq]at e ⊢
    rw [ZD e]
    exact ZiR hb l (i+1) row yE hr
   .rw [if_neg hq]at e ⊢
    rw [ZX e]
    rfl
  .rw [if_neg ha]at e ⊢
   cases hx:Zdu row a fa[i]with
   |none=>
    rw [hx]at e
    rw [ZX e]
    rfl
   |some r=>
    rw [hx]at e
    rw [ZD e,A0]
    exact ZiR hb l (i+1) r yE (Zkb hx).1
theorem Zau (p:Zi) (f:Zg) (b:List Zo):Qk p f b=some (Znl (Xh p f b)):=by
 unfold Qk Xh ZeL
 rw [Zcl,A0]
 cases h1:ZZ p with
 |false=>rfl
 |true=>
  rw [if_pos rfl,Qj,A0]
  cases h2:Yr f with
  |false=>rfl
  |true=>
   rw [if_pos rfl,ZaU,A0]
   cases h3:Z8 b with
   |false=>rfl
   |true=>
    rw [if_pos rfl]
    by_cases h4:p.rel=f.rel
    .rw [if_pos (ZL.2 h4),decide_eq_true h4]
     by_cases h5:p.args.length=f.args.length
     .have h6:=ZeY h3
      rw [if_neg (by simp;omega),decide_eq_true h5]
      unfold XM
      rw [Zk _ yE,A0]
      rw [ZiR (fa:=f.args) (fun i a w row hw hr=>?_) p.args 0 b yE h3]
      .rfl
      .rw [Qf,A0,YN,hw,A0,A0]
       split
       .by_cases hq:a=w
        .rw [if_pos (ZL.2 hq),if_pos hq]
        .rw [if_neg (by rw [ZL];exact hq),if_neg hq]
       .rw [Zlb,A0]
        cases Zdu row a w<;>rfl
     .rw [if_pos (by simp;omega),decide_eq_false h5]
      rfl
    .rw [if_neg (by rw [ZL];exact h4),decide_eq_false h4]
     rfl
def Zj3:Option Zg->Zg×Bool
 |some f=>(f,true)
 |none=>({ rel:=⟨#[]⟩,args:=[] },false)
theorem ZwF {b:List Zo} {rel:ByteArray} {body:Nat→ByteArray→List ByteArray→Option (List ByteArray ⊕ (Zg × Bool))} (hb:∀i a row,row.length≤1048576→body i a row=match Xk b a with | some v=>some (.inl (row++[v])) | none=>some (.inr ({ rel:=⟨#[]⟩,args:=[] },false))) (l:List ByteArray) (hl:l.length≤1000000):
  forL body (fun row=>some ({ rel:=rel,args:=row },true)) l 0 []=some (Zj3 ((ZfK l b).map fun l=>{ rel:=rel,args:=l })):=by
 rw [Zdq (fun l _ row=>some (Zj3 ((ZfK l b).map fun l=>{ rel:=rel,args:=row++l }))) (fun l _ row=>row.length+l.length≤1048576) ?_ ?_ l 0 [] (by simp;omega)]
 ·simp
 ·intro i row _
  simp [ZfK,Zj3]
 ·intro a l i row hI
  simp only[AB] at hI
  have e:=hb i a row (by omega)
  cases hv:Xk b a with
  | none=>
   rw [hv] at e
   exact .inr ⟨_,e,by simp [ZfK,hv,Zj3]⟩
  | some v=>
   rw [hv] at e
   refine .inl ⟨_,e,by simp;omega,?_⟩
   simp only[ZfK,hv,A0,Option.map_map]
   cases ZfK l b<;>simp
theorem ZoG (p:Zi) (b:List Zo):ZbO p b=some (Zj3 (Zlh p b)):=by
 unfold ZbO Zlh
 rw [Zcl,A0]
 cases h1:ZZ p with
 |false=>rfl
 |true=>
  rw [if_pos rfl,ZaU,A0]
  cases h3:Z8 b with
  |false=>rfl
  |true=>
   have hl:p.args.length<=3:=by unfold ZZ at h1;simp at h1;exact h1.1.2
   rw [if_pos rfl,if_pos ⟨rfl,rfl⟩,ZwF (b:=b) (fun i a row hr=>?_) p.args yE]
   rw [Zcu,A0,Zjk]
   cases Xk b a with
   |none=>rfl
   |some v=>
    show (if true=true then _ else _)=_
    rw [if_pos rfl,Zk _ yE]
    rfl
theorem Zjc (o:Option (List Zo)):(Znl o).2=o.isSome:=by cases o<;>rfl
theorem ZbQ (p:Zi) (b:List Zo) (F:List Zg) (hF:F.length<=1048576) (ha:∀f∈F,f.args.length<=1048576):Xx p b F=some (Qz p b F):=by
 unfold Xx Qz
 rw [Zlv (p:=fun f=>(Xh p f b).isSome)]
 .simp
 .intro j f s mf hs
  rw [Zau,A0,Zjc]
  split
  .rw [Ym f (ha f mf),A0,Zk _ (by simp at hs;omega)]
  .rfl
theorem Zmy (x:Zj) (b:List Zo):Zdo x b=some (Zrj x b):=by
 unfold Zdo Zrj ZjC
 rw [ZgX,A0]
 cases h1:Yj x with
 |false=>rfl
 |true=>
  rw [if_pos rfl,A0]
  by_cases h2:3<=x.kind
  .rw [if_pos (by simpa using h2),ZaU,A0]
   cases h3:Z8 b with
   |false=>simp
   |true=>
    rw [if_pos rfl,if_pos ⟨rfl,h2,rfl⟩,Zcu,A0,Zcu,A0,Zjk,Zjk]
    cases Xk b x.left with
    |none=>rfl
    |some l=>
     cases Xk b x.right with
     |none=>rfl
     |some r=>
      show (if true=true then (if true=true then (if (x.kind==3)=true then some (sEq l r) else _) else _) else _)=some (Zyj x.kind l r)
      rw [if_pos rfl,if_pos rfl]
      unfold Zyj
      by_cases k3:x.kind=3
      .rw [if_pos (by simpa using k3),if_pos k3];rfl
      .rw [if_neg (by simpa using k3),if_neg k3]
       by_cases k4:x.kind=4
       .rw [if_pos (by simpa using k4),if_pos k4];rfl
       .rw [if_neg (by simpa using k4),if_neg k4,Zdj,A0,Zdj,A0]
        show (if (ZgV l).2=true then (if (ZgV r).2=true then some (decide ((ZgV l).1<(ZgV r).1)) else some false) else some false)=_
        unfold ZgV ZCD
        cases ZbJ l<;>cases ZbJ r<;>simp
  .rw [if_neg (by simpa using h2),if_neg (fun h=>h2 h.2.1)]
theorem Zhd (x:Zj) (b:List Zo) (F:List Zg) (hF:F.length<=1048576) (ha:∀f∈F,f.args.length<=1048576):Zdz x b F=some (ZiK x b F):=by
 unfold Zdz ZiK
 rw [ZgX,A0]
 cases h1:Yj x with
 |false=>rfl
 |true=>
  rw [if_pos rfl,ZaU,A0]
  cases h3:Z8 b with
  |false=>rfl
  |true=>
   rw [if_pos rfl,if_pos (show true=true/\true=true from ⟨rfl,rfl⟩)]
   by_cases k1:x.kind=1
   .rw [if_pos (by simpa using k1),if_pos k1,ZbQ _ _ _ hF ha,A0]
    congr 1
    rw [AC];simp
   .rw [if_neg (by simpa using k1),if_neg k1]
    by_cases k2:x.kind=2
    .rw [if_pos (by simpa using k2),if_pos k2,ZbQ _ _ _ hF ha,A0,ZAt]
    .rw [if_neg (by simpa using k2),if_neg k2,Zmy]
     rfl
theorem Zb3 {r:Zh}(h:Yh r=true):r.cond.length<=4/\r.thn.length<=2:=by
 simp only[Yh,A5,decide_eq_true_eq]at h
 omega
section
section
variable {α σ ρ:Type} {body:Nat->α->σ->Option (σ ⊕ ρ)}
theorem ZpJ (I:List α->σ->Prop) (Q:ρ->Prop):∀(l a:List α) (s:σ),I a s->(∀p x s,x∈l->p.length<a.length+l.length->I p s->(∃s',body p.length x s=some (.inl s')/\I (p++[x]) s')\/∃r,body p.length x s=some (.inr r)/\Q r)->
  (∃s',(∀fin:σ->Option ρ,forL body fin l a.length s=fin s')/\I (a++l) s')\/∃r,(∀fin:σ->Option ρ,forL body fin l a.length s=some r)/\Q r
 | [],a,s,h,_=>.inl ⟨s,fun _=>rfl,by simpa using h⟩
 |x::l,a,s,h,hs=>by
  rcases hs a x s yG yG h with ⟨s',e,h'⟩|⟨r,e,h'⟩
  .rcases ZpJ I Q l (a++[x]) s' h' fun p y s m hp hI=>hs p y s (by simp [m]) (by simp at hp ⊢;omega) hI with ⟨s2,e2,h2⟩|⟨r,e2,h2⟩
   .refine .inl ⟨s2,fun fin=>?_,by simpa using h2⟩
    rw [ZD e]
    simpa using e2 fin
   .refine .inr ⟨r,fun fin=>?_,h2⟩
    rw [ZD e]
    simpa using e2 fin
  .exact .inr ⟨r,fun fin=>ZX e,h'⟩
theorem Zo2 (I:List α->σ->Prop) (Q:ρ->Prop) (l:List α) (s:σ) (h:I [] s) (hs:∀p x s,x∈l->p.length<l.length->I p s->(∃s',body p.length x s=some (.inl s')/\I (p++[x]) s')\/∃r,body p.length x s=some (.inr r)/\Q r):
  (∃s',(∀fin:σ->Option ρ,forL body fin l 0 s=fin s')/\I l s')\/∃r,(∀fin:σ->Option ρ,forL body fin l 0 s=some r)/\Q r:=by
 have:=ZpJ I Q l [] s h fun p x s m hp hI=>hs p x s m (by simpa using hp) hI
 simpa using this
theorem Zw6 (I:List α->σ->Prop) (l:List α) (s:σ) (h:I [] s) (hs:∀p x s,x∈l->p.length<l.length->I p s->∃s',body p.length x s=some (.inl s')/\I (p++[x]) s'):∃s',(∀fin:σ->Option ρ,forL body fin l 0 s=fin s')/\I l s':=by
 rcases Zo2 I (fun _=>False) l s h fun p x s m hp hI=>.inl (hs p x s m hp hI) with h|⟨_,_,h⟩
 .exact h
 .exact h.elim
end
theorem Zz9 {m:List (ByteArray×Bool)}{k y:ByteArray}:Zby (ZfG m k true) y false=if y=k then true else Zby m y false:=by
 unfold Zby
 induction m with
 |nil=>
  by_cases h:y=k<;>simp [ZfG,ZeR,h]
 |cons p r ih=>
  simp only[ZfG]
  by_cases h:k=p.1
  .subst h
   rw [if_pos rfl]
   by_cases h2:y=p.1
   .simp [ZeR,h2]
   .simp [ZeR,h2]
  .rw [if_neg h]
   by_cases h2:y=p.1
   .subst h2
    have:¬p.1=k:=fun e=>h e.symm
    simp [ZeR,this]
   .simp only[ZeR,if_neg h2];exact ih
theorem Y6 {σ ρ:Type}{body:σ->Option (σ ⊕ ρ)}{s s':σ}(h:body s=some (.inl s')):iter body s=iter body s':=by rw [ZqU,h]
theorem YE {σ ρ:Type}{body:σ->Option (σ ⊕ ρ)}{s:σ}{r:ρ}(h:body s=some (.inr r)):iter body s=some r:=by rw [ZqU,h]
open Classical
end
section
theorem ZxL (l:List Zh) (n:ByteArray):∃z,XS l n=some z:=by
 unfold XS
 rcases Zo2 (ρ:=Int) (body:=fun (i4:Nat) (x5:Zh) (_:Unit)=>
   if (sEq x5.name n)=true then
    some (.inr ((i4:Nat):Int))
   else
    some (.inl ())) (fun _ _=>True) (fun _=>True) l () trivial (fun p x s mx hp _=>by
  cases h:sEq x.name n with
  |true=>exact .inr ⟨_,by rw [if_pos rfl],trivial⟩
  |false=>exact .inl ⟨(),by rw [if_neg yG],trivial⟩) with ⟨s,e,_⟩|⟨z,e,_⟩
 .exact ⟨-1,e _⟩
 .exact ⟨z,e _⟩
noncomputable def Zfk (l:List Zh) (n:ByteArray):Int:=(XS l n).getD 0
theorem Zbm (l:List Zh) (n:ByteArray):XS l n=some (Zfk l n):=by
 obtain ⟨z,h⟩:=ZxL l n
 unfold Zfk
 rw [h];rfl
noncomputable def Zgj (R:List Zh) (j:Nat) (r:Zh):Bool:=Yh r&&(Zfk R r.name==((j:Nat):Int))
noncomputable def ZH (R:List Zh):Bool:=decide (R.length<=6)&&ZdO (Zgj R) R 0
theorem Zbk {R:List Zh}(h:∀r∈R,YX r):Q6 R=some (ZH R):=by
 unfold Q6 ZH
 by_cases h6:R.length<=6
 .rw [if_neg (by simp;omega),decide_eq_true h6,A6,Zc5 (p:=Zgj R) (r:=false)]
  .cases ZdO (Zgj R) R 0<;>rfl
  .intro j r hj
   rw [ZrV r (h r (AN hj)),A0,Zbm]
   unfold Zgj
   simp only[A0,AJ]
   cases Yh r with
   |false=>rfl
   |true=>
    by_cases hf:Zfk R r.name=((j:Nat):Int)
    .simp [hf]
    .have e:(Zfk R r.name==((j:Nat):Int))=false:=by simpa using hf
     simp [e,hf]
 .rw [if_pos (by simp;omega),decide_eq_false h6];rfl
open Classical
end
section
open Classical
noncomputable def Zfp (F:List Zg) (i:Nat) (x:Zg):Bool:=Yr x&&(if i=0 then true else match F[i - 1]? with|some y=>decide (ZcK y x<0)|none=>true)
noncomputable def Ya (F:List Zg):Bool:=decide (F.length<=24)&&ZdO (Zfp F) F 0
theorem Zjn {α:Type}{p:Nat->α->Bool}{q:α->Bool}(h:∀i x,p i x=true->q x=true):∀{l:List α}{i:Nat},ZdO p l i=true->∀x∈l,q x=true
 | [],_,_=>by simp
 |y::l,i,ha=>by
  simp only[ZdO,A5]at ha
  intro x mx
  rcases A9.1 mx with rfl|mx
  .exact h i _ ha.1
  .exact Zjn h ha.2 x mx
theorem XJ {F:List Zg}(h:Ya F=true):F.length<=24/\∀f∈F,Yr f=true:=by
 unfold Ya at h
 rw [A5,decide_eq_true_iff]at h
 refine ⟨h.1,Zjn (fun i x hx=>?_) h.2⟩
 unfold Zfp at hx
 rw [A5]at hx
 exact hx.1
theorem Za2 {f:Zg}(h:Yr f=true):f.args.length<=3:=by
 unfold Yr at h
 simp only[A5,decide_eq_true_iff]at h
 exact h.1.2
theorem Zxy {F:List Zg}(hl:F.length<=1048576) {i:Nat}{x:Zg}(hx:F[i]?=some x):
  (if Yr x=true then (if (decide (0<((i:Nat):Int)))=true then (atI F (IntKind.i64.wrap (((i:Nat):Int) - 1))).bind fun a=>(some (ZcK a x)).bind fun b=>if (decide (0<=b))=true then some (.inr false) else some (.inl ()) else some (.inl ())) else some (.inr false):Option (Unit ⊕ Bool))
   = some (bif Zfp F i x then .inl () else .inr false):=by
 have hi:=(AK.1 hx).1
 unfold Zfp
 cases Yr x with
 |false=>rfl
 |true=>
  rw [if_pos rfl]
  by_cases h0:i=0
  .subst h0
   rw [if_neg yG]
   simp
  .have hg:F[i - 1]?=some F[i - 1]:=AF yE
   rw [if_pos (by simp;omega),show ((i:Nat):Int) - 1=((i - 1:Nat):Int) by omega,Zfd yE yE,YN,hg,A0,A0,if_neg h0]
   by_cases hc:ZcK F[i - 1] x<0
   .rw [if_neg (by simpa using hc)]
    simp [hc]
   .rw [if_pos (by simpa using hc)]
    simp [hc]
theorem Zdh (F:List Zg):Q3 F=some (Ya F):=by
 unfold Q3 Ya
 by_cases h:F.length<=24
 .rw [if_neg (by simp;omega),decide_eq_true h,Zc5 (p:=Zfp F) (r:=false)]
  .cases ZdO (Zfp F) F 0<;>rfl
  .intro j x hx
   rw [AJ,Qj,A0]
   simp only[Y3]
   exact Zxy yE hx
 .rw [if_pos (by simp;omega),decide_eq_false h]
  rfl
theorem QF (l:List Zg) (hl:l.length<=1048576) (h:∀f∈l,f.args.length<=1048576):Yb l=some l:=by
 unfold Yb
 rw [Xf (g:=fun y=>y)]
 .simp
 .intro j y s my hs
  rw [Ym y (h y my),A0,Zk _ (by simp at hs;omega)]
structure ZAI (F:List Zg) (t:Zs):Prop where
 bind:t.binding.length<=6
 len:t.facts.length<=4
 args:∀f∈t.facts,f.args.length<=3
theorem Zit.s {p:List Zj}{F:List Zg}{t:Zs}(h:Zit p F t) (hp:p.length<=4) (hF:∀f∈F,f.args.length<=3):ZAI F t:=
 ⟨ZeY h.bind,by have:=h.len;omega,fun f mf=>hF f (h.sub f mf)⟩
theorem Zwo {ρ:Type}{x:Zj}{F:List Zg}{body:Nat->Zs->List Zs->Option (List Zs ⊕ ρ)}{fin:List Zs->Option ρ}(hF:F.length<=24) (ts:List Zs) (hts:ts.length<=331776)
  (hb:∀i t row,t∈ts->row.length<=10000000->body i t row=some (.inl (row++X1 x F t))):forL body fin ts 0 []=fin (Zbx x F ts):=by
 have a:Zbx x F []=[]:=rfl
 rw [<-a,Zeb (fun p=>Zbx x F p) ts]
 intro p t q e
 have hl:=ZjW x F hF p
 have hp:p.length<=ts.length:=by rw [e];simp
 rw [hb _ _ _ (by rw [e];simp) yE]
 unfold Zbx
 rw [List.flatMap_append]
 simp
theorem Zdm (l:List Zj) (F:List Zg) (hl:l.length<=4) (hF:F.length<=24) (hA:∀f∈F,f.args.length<=3):Zi9 l F=some (ZN l F):=by
 unfold Zi9
 have h0:ZN [] F=[({ facts:=[],binding:=[] }:Zs)]:=rfl
 rw [<-h0,Zeb (fun p=>ZN p F) l]
 intro p x q e
 have hpl:p.length+(q.length+1)=l.length:=by rw [e,AO,AB]
 rw [ZdW]
 refine Zwo (fin:=fun r=>(some (Sum.inl r):Option (List Zs ⊕ List Zs))) hF (ZN p F) (QY F hF p yE) (fun i t row mt hr=>?_)
 have ht:=(Zal F p t mt).s yE hA
 unfold X1
 by_cases hk:x.kind=1
 .rw [if_neg (by simpa using hk),if_pos hk,Zcw (g:=fun f=>(Xh x.pattern f t.binding).map fun b=>({ facts:=t.facts++[f],binding:=b }:Zs))]
  intro j f s mf hs
  rw [Zau,A0,Zjc]
  cases hm:Xh x.pattern f t.binding with
  |none=>simp
  |some b=>
   simp only[Option.isSome_some,if_true]
   rw [QF _ (by have:=ht.len;omega) (fun g mg=>by have:=ht.args g mg;omega),A0,Ym f (by have:=hA f mf;omega),A0,Zk _ (by have:=ht.len;omega),Zk _ yE]
   rfl
 .rw [if_pos (by simpa using hk),if_neg hk,Zhd _ _ _ yE (fun f mf=>by have:=hA f mf;omega),A0]
  split
  .rw [Zk _ yE]
  .simp
def mkM (r:Zh) (t:Zs):Yk:={ rule:=r.name,facts:=t.facts,binding:=t.binding }
theorem Zms (r:Zh) (F:List Zg) (hl:r.cond.length<=4) (hF:F.length<=24) (hA:∀f∈F,f.args.length<=3):Zds r F=some ((ZN r.cond F).map (mkM r)):=by
 unfold Zds
 have hn:=QY F hF r.cond hl
 first|rw [Zdm _ _ hl hF hA]|rw [show ZbW r.cond F=_ from (if_pos ⟨hl,hF,hA⟩).trans (Zdm _ _ hl hF hA)]
 rw [A0,Xf (g:=mkM r)]
 .simp
 .intro j t s mt hs
  rw [Zk _ (by simp at hs;omega)]
  rfl
theorem Qa {R:List Zh}(h:ZH R=true):R.length<=6/\∀r∈R,Yh r=true:=by
 unfold ZH at h
 rw [A5,decide_eq_true_iff]at h
 refine ⟨h.1,Zjn (fun i x hx=>?_) h.2⟩
 unfold Zgj at hx
 rw [A5]at hx
 exact hx.1
theorem Zxl {r:Zh}(h:Yh r=true):∀a∈r.thn,a.kind=1->ZZ a.pattern=true/\∀v∈a.pattern.args,ZS v=true->v∈XY r.cond:=by
 intro a ma hk
 unfold Yh at h
 simp only[A5]at h
 have ha:=AH.1 h.1.2 a ma
 rw [A5]at ha
 obtain ⟨h1,h2⟩:=ha
 unfold X5 at h1
 rw [if_pos (.inl hk)]at h1
 refine ⟨h1,fun v mv hv=>?_⟩
 have:=AH.1 h2 v (ZcV.2 ⟨mv,hv⟩)
 rw [Zjd]at this
 unfold XC at this
 rw [Xq,As]at this
 exact this
end
section
open Classical
theorem ZzJ {α:Type}{p:Nat->α->Bool}{b:List α}(hp:∀i x,p i x=true↔b[i]?=some x):∀(a:List α),a.length=b.length->(ZdO p a 0=true↔a=b):=by
 intro a hl
 constructor
 .intro ha
  apply List.ext_getElem?
  intro i
  by_cases hi:i<a.length
  .have hx:=AF hi
   have:=Zkh ha i _ hx
   rw [AJ,hp]at this
   rw [hx,this]
  .rw [At yE,At yE]
 .rintro rfl
  have:∀(l c:List α),a=c++l->ZdO p l c.length=true:=by
   intro l
   induction l with
   |nil=>intro c _;rfl
   |cons x l ih=>
    intro c e
    simp only[ZdO,A5]
    refine ⟨(hp _ _).2 (by rw [e];simp),?_⟩
    have:=ih (c++[x]) (by rw [e];simp)
    simpa using this
  exact this a [] rfl
theorem ZBO (a b:Zi):a=b↔a.rel=b.rel/\a.args=b.args:=⟨fun e=>by rw [e];exact ⟨rfl,rfl⟩,fun h=>by cases a;cases b;simp_all⟩
theorem Zyg (a b:Zj):a=b↔a.kind=b.kind/\a.pattern=b.pattern/\a.left=b.left/\a.right=b.right:=⟨fun e=>by rw [e];exact ⟨rfl,rfl,rfl,rfl⟩,fun h=>by cases a;cases b;simp_all⟩
theorem ZBi (a b:ZB):a=b↔a.kind=b.kind/\a.pattern=b.pattern:=⟨fun e=>by rw [e];exact ⟨rfl,rfl⟩,fun h=>by cases a;cases b;simp_all⟩
theorem ZyA (a b:Zh):a=b↔a.name=b.name/\a.priority=b.priority/\a.cond=b.cond/\a.thn=b.thn:=⟨fun e=>by rw [e];exact ⟨rfl,rfl,rfl,rfl⟩,fun h=>by cases a;cases b;simp_all⟩
theorem ZCm (a b:Zs):a=b↔a.facts=b.facts/\a.binding=b.binding:=⟨fun e=>by rw [e];exact ⟨rfl,rfl⟩,fun h=>by cases a;cases b;simp_all⟩
end
end Go.Proofs.YtaafhjecikjhbaaGreatDoor
