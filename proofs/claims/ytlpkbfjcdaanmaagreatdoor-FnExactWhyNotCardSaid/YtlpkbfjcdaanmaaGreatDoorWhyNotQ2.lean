/- Texts of this proof, joined: Df, E1, P1, E2, E3, E15, P5, F3, F4, P14. What each holds is said at its theorems. -/
import Derived.Test.YtlpkbfjcdaanmaaGreatDoorWhyNotQ1
import Derived.Lib.ItoaLen
import Derived.Laws.BitsLemmas
import Derived.Lib.Bytealg
open Bool renaming true_and→A4,and_eq_true→A5,false_eq_true→A6,eq_iff_iff→A8,or_eq_true→AQ,false_or→AU,false_and→Ah,and_true→Ai,not_not→Au,not_true→Av
open ByteArray renaming size→Ak
open Go.ByteArray renaming toList_eq→Ao
open Int renaming toNat→A3,toNat_natCast→AA
open List renaming mem_cons→A7,length_cons→A9,pairwise_cons→AB,set→AD,mem_of_getElem?→AF,getElem?_eq_some_iff→AG,getElem?_eq_getElem→AJ,length_append→AK,all_eq_true→AL,mem_append→AM,flatMap_cons→AN,replicate→AO,map_cons→AP,length_nil→AS,foldl_cons→AT,mem_flatMap→AW,drop→AX,map_nil→AZ,mem_cons_of_mem→Aa,tail→Ab,drop_eq_nil_of_le→Ae,drop_eq_getElem_cons→Af,foldl_append→Ag,append_nil→Aj,map_append→Al,eq_nil_of_length_eq_zero→Am,dropLast_concat_getLast→An,not_mem_nil→As,not_any_eq_all_not→At
open List.Pairwise renaming nil→AC
open Nat renaming le_trans→AH,zero_add→AI,le_refl→AR,zero_le→Ac,pow_le_pow_right→Ad,mul_assoc→Aq
open Option renaming bind_some→A0,map_some→Ar
open Option.some renaming inj→AE
open UInt8 renaming ofNat→AY
set_option linter.unusedSimpArgs false
set_option linter.unusedVariables false
set_option maxRecDepth 1000000
set_option maxHeartbeats 4000000
namespace Go.Proofs.YtlpkbfjcdaanmaaGreatDoor
section
structure XR where
 rule:ByteArray
 token:Zq
structure Za4 where
 rule:ByteArray
 facts:(List Zc)
structure ZwG where
 b:(List Int)
 i:Int
 h:Int
def ZHL (k:Int):ByteArray:=if k=3 then ⟨#[32,61,32]⟩ else if k=4 then ⟨#[32,33,61,32]⟩ else ⟨#[32,60,32]⟩
noncomputable def QS (s_0:ByteArray):Option Bool:=
 if (decide (((s_0.size:Nat):Int)<1))=true then
  some false
 else
  if (decide (8<((s_0.size:Nat):Int)))=true then
   some false
  else
   Zp (σ:=Unit)
    (fun (i4:Nat) (a:UInt8) _=>
     if (decide (((a.toNat:Nat):Int)<97))=true then
      if (decide (((a.toNat:Nat):Int)<48))=true then
       some (.inr false)
      else
       if (decide (57<((a.toNat:Nat):Int)))=true then
        some (.inr false)
       else
        some (.inl ())
     else
      if (decide (122<((a.toNat:Nat):Int)))=true then
       if (decide (((a.toNat:Nat):Int)<48))=true then
        some (.inr false)
       else
        if (decide (57<((a.toNat:Nat):Int)))=true then
         some (.inr false)
        else
         some (.inl ())
      else
       some (.inl ()))
    (fun _=>
     some true)
    s_0.data.toList 0 ()
noncomputable def Zey (s_0:ByteArray):Option Bool:=
 (QS s_0).bind fun a=>
 if a=true then
  (sAt s_0 0).bind fun b=>
  some (decide (97≤((b.toNat:Nat):Int)))
 else
  some false
noncomputable def ZfO (f_0:Zc):Option Bool:=
 (Zey f_0.rel).bind fun a=>
 if a=true then
  if (decide (3<((f_0.args.length:Nat):Int)))=true then
   some false
  else
   Zp (σ:=Unit)
    (fun (i7:Nat) (b:ByteArray) _=>
     (QS b).bind fun c=>
     if c=true then
      some (.inl ())
     else
      some (.inr false))
    (fun _=>
     some true)
    f_0.args 0 ()
 else
  some false
noncomputable def Zdp (a:ByteArray):Option Bool:=
 if (decide (1<((a.size:Nat):Int)))=true then
  (sAt a 0).bind fun b=>
  if (((b.toNat:Nat):Int)==63)=true then
   chk (0≤1∧1≤((a.size:Nat):Int)) <|
   (QS (a.extract (A3 1) a.size)).bind fun c=>
   some c
  else
   some false
 else
  some false
noncomputable def Zab (s_0:ByteArray):Option Bool:=
 (QS s_0).bind fun a=>
 if a=true then
  some true
 else
  (Zdp s_0).bind fun b=>
  some b
noncomputable def Xp (p_0:Zx):Option Bool:=
 (Zey p_0.rel).bind fun a=>
 if a=true then
  if (decide (3<((p_0.args.length:Nat):Int)))=true then
   some false
  else
   Zp (σ:=Unit)
    (fun (i7:Nat) (b:ByteArray) _=>
     (Zab b).bind fun c=>
     if c=true then
      some (.inl ())
     else
      some (.inr false))
    (fun _=>
     some true)
    p_0.args 0 ()
 else
  some false
noncomputable def XS (a:(List Zi)):Option Bool:=
 if (decide (6<((a.length:Nat):Int)))=true then
  some false
 else
  Zp (σ:=Unit)
   (fun (c:Nat) (b:Zi) _=>
    (Zdp b.var).bind fun d=>
    if d=true then
     (QS b.value).bind fun e=>
     if e=true then
      if (decide (0<((c:Nat):Int)))=true then
       (atI a (IntKind.i64.wrap (((c:Nat):Int) - 1))).bind fun f=>
       if (sLt f.var b.var)=true then
        some (.inl ())
       else
        some (.inr false)
      else
       some (.inl ())
     else
      some (.inr false)
    else
     some (.inr false))
   (fun _=>
    some true)
   a 0 ()
noncomputable def Zbn (b_0:(List Zi)):Option (List Zi):=
 chk (b_0.length≤1073741824) <|
 some b_0
noncomputable def Zbt (b_0:(List Zi)) (term_1:ByteArray):Option (ByteArray × Bool):=
 (QS term_1).bind fun b=>
 if b=true then
  some (term_1,true)
 else
  (Zdp term_1).bind fun c=>
  if c=true then
   Zp (σ:=Unit)
    (fun (i6:Nat) (a:Zi) _=>
     if (sEq a.var term_1)=true then
      some (.inr (a.value,true))
     else
      some (.inl ()))
    (fun _=>
     some ((⟨#[]⟩),false))
    b_0 0 ()
  else
   some ((⟨#[]⟩),false)
noncomputable def Zg4 (append_0:(List Zi)) (b:ByteArray) (a_2:ByteArray):Option ((List Zi) × Bool):=
 (XS append_0).bind fun f=>
 if f=true then
  (Zdp b).bind fun g=>
  if g=true then
   (QS a_2).bind fun i=>
   if i=true then
    (Zbt append_0 b).bind fun e=>
    if e.2=true then
     if (sEq e.1 a_2)=true then
      (Zbn append_0).bind fun j=>
      some (j,true)
     else
      some ([],false)
    else
     if (decide (6≤((append_0.length:Nat):Int)))=true then
      some ([],false)
     else
      Zp (σ:=(List Zi) × Bool)
       (fun (i13:Nat) (c:Zi) s=>
        match s with
        | (a,d)=>
        if d=true then
         chk (a.length+1≤1073741824) <|
         some (.inl ((a++[c]),true))
        else
         if (sLt c.var b||sEq c.var b)=true then
          chk (a.length+1≤1073741824) <|
          some (.inl ((a++[c]),false))
         else
          chk (a.length+1≤1073741824) <|
          chk (a.length+1+1≤1073741824) <|
          some (.inl (((a++[({ var:=b,value:=a_2 }:Zi)])++[c]),true)))
       (fun s=>
        match s with
        | (a,d)=>
        if d=true then
         some (a,true)
        else
         chk (a.length+1≤1073741824) <|
         some ((a++[({ var:=b,value:=a_2 }:Zi)]),true))
       append_0 0 ([],false)
   else
    some ([],false)
  else
   some ([],false)
 else
  some ([],false)
noncomputable def QF (append_0:Zx) (a:Zc) (a_2:(List Zi)):Option ((List Zi) × Bool):=
 (Xp append_0).bind fun f=>
 if f=true then
  (ZfO a).bind fun g=>
  if g=true then
   (XS a_2).bind fun i=>
   if i=true then
    if (sEq append_0.rel a.rel)=true then
     if (((append_0.args.length:Nat):Int) != ((a.args.length:Nat):Int))=true then
      some ([],false)
     else
      (Zbn a_2).bind fun j=>
      Zp (σ:=(List Zi))
       (fun (d:Nat) (c:ByteArray) b=>
        (QS c).bind fun k=>
        if k=true then
         (atI a.args ((d:Nat):Int)).bind fun l=>
         if (sEq c l)=true then
          some (.inl b)
         else
          some (.inr ([],false))
        else
         (atI a.args ((d:Nat):Int)).bind fun m=>
         (Zg4 b c m).bind fun e=>
         if e.2=true then
          some (.inl e.1)
         else
          some (.inr ([],false)))
       (fun b=>
        some (b,true))
       append_0.args 0 j
    else
     some ([],false)
   else
    some ([],false)
  else
   some ([],false)
 else
  some ([],false)
noncomputable def Zbx (l_0:(List ByteArray)):Option (List ByteArray):=
 chk (l_0.length≤1073741824) <|
 some l_0
noncomputable def YE (f_0:Zc):Option Zc:=
 (Zbx f_0.args).bind fun a=>
 some ({ rel:=f_0.rel,args:=a }:Zc)
noncomputable def Xt (p_0:Zx):Option Bool:=
 if (sEq p_0.rel ⟨#[]⟩)=true then
  some (((p_0.args.length:Nat):Int)==0)
 else
  some false
noncomputable def Zeh (x_0:Zl):Option Bool:=
 if (x_0.kind==1)=true then
  (Xp x_0.pattern).bind fun a=>
  if a=true then
   if (sEq x_0.left ⟨#[]⟩)=true then
    some (sEq x_0.right ⟨#[]⟩)
   else
    some false
  else
   some false
 else
  if (x_0.kind==2)=true then
   (Xp x_0.pattern).bind fun b=>
   if b=true then
    if (sEq x_0.left ⟨#[]⟩)=true then
     some (sEq x_0.right ⟨#[]⟩)
    else
     some false
   else
    some false
  else
   if (x_0.kind==3)=true then
    (Zab x_0.left).bind fun c=>
    if c=true then
     (Zab x_0.right).bind fun d=>
     if d=true then
      (Xt x_0.pattern).bind fun e=>
      some e
     else
      some false
    else
     some false
   else
    if (x_0.kind==4)=true then
     (Zab x_0.left).bind fun f=>
     if f=true then
      (Zab x_0.right).bind fun g=>
      if g=true then
       (Xt x_0.pattern).bind fun i=>
       some i
      else
       some false
     else
      some false
    else
     if (x_0.kind==5)=true then
      (Zab x_0.left).bind fun j=>
      if j=true then
       (Zab x_0.right).bind fun k=>
       if k=true then
        (Xt x_0.pattern).bind fun l=>
        some l
       else
        some false
      else
       some false
     else
      some false
noncomputable def XO (p_0:Zx) (b_1:(List Zi)) (facts_2:(List Zc)):Option (List Zc):=
 Zp (σ:=(List Zc))
  (fun (i12:Nat) (b:Zc) a=>
   (QF p_0 b b_1).bind fun c=>
   if c.2=true then
    (YE b).bind fun d=>
    chk (a.length+1≤1073741824) <|
    some (.inl (a++[d]))
   else
    some (.inl a))
  (fun a=>
   some a)
  facts_2 0 []
noncomputable def ZjH (x_0:Zl):Option Bool:=
 (Zeh x_0).bind fun a=>
 if a=true then
  some (decide (3≤x_0.kind))
 else
  some false
noncomputable def Zbu (n_0:Int):Option ByteArray:=
 (ZqT n_0).bind fun a=>
 some a
noncomputable def Zae (s_0:ByteArray):Option (Int × Bool):=
 if (decide (((s_0.size:Nat):Int)<1))=true then
  some (0,false)
 else
  if (decide (4<((s_0.size:Nat):Int)))=true then
   some (0,false)
  else
   (ZmK s_0).bind fun a=>
   if a.2=true then
    if (decide (a.1<0))=true then
     some (0,false)
    else
     if (decide (9999<a.1))=true then
      some (0,false)
     else
      (Zbu a.1).bind fun b=>
      if (sEq b s_0)=true then
       some (a.1,true)
      else
       some (0,false)
   else
    some (0,false)
noncomputable def Zc9 (append_0:Zl) (String_1:(List Zi)):Option Bool:=
 (ZjH append_0).bind fun e=>
 if e=true then
  (XS String_1).bind fun f=>
  if f=true then
   (Zbt String_1 append_0.left).bind fun a=>
   (Zbt String_1 append_0.right).bind fun b=>
   if a.2=true then
    if b.2=true then
     if (append_0.kind==3)=true then
      some (sEq a.1 b.1)
     else
      if (append_0.kind==4)=true then
       some (!(sEq a.1 b.1))
      else
       (Zae a.1).bind fun c=>
       (Zae b.1).bind fun d=>
       if c.2=true then
        if d.2=true then
         some (decide (c.1<d.1))
        else
         some false
       else
        some false
    else
     some false
   else
    some false
  else
   some false
 else
  some false
noncomputable def ZcY (x_0:Zl) (a:(List Zi)) (b:(List Zc)):Option Bool:=
 (Zeh x_0).bind fun c=>
 if c=true then
  (XS a).bind fun d=>
  if d=true then
   if (x_0.kind==1)=true then
    (XO x_0.pattern a b).bind fun e=>
    some (decide (0<((e.length:Nat):Int)))
   else
    if (x_0.kind==2)=true then
     (XO x_0.pattern a b).bind fun f=>
     some (((f.length:Nat):Int)==0)
    else
     (Zc9 x_0 a).bind fun g=>
     some g
  else
   some false
 else
  some false
noncomputable def Zad (l_0:(List Zc)):Option (List Zc):=
 Zp (σ:=(List Zc))
  (fun (i9:Nat) (b:Zc) a=>
   (YE b).bind fun c=>
   chk (a.length+1≤1073741824) <|
   some (.inl (a++[c])))
  (fun a=>
   some a)
  l_0 0 []
noncomputable def Zao (append_0:(List Zl)) (String_1:(List Zc)):Option (List Zq):=
 Zp (σ:=(List Zq))
  (fun (i246:Nat) (d:Zl) e=>
   Zp (σ:=(List Zq))
    (fun (i322:Nat) (c:Zq) a=>
     if (d.kind != 1)=true then
      (ZcY d c.binding String_1).bind fun j=>
      if j=true then
       chk (a.length+1≤1073741824) <|
       some (.inl (a++[c]))
      else
       some (.inl a)
     else
      Zp (σ:=(List Zq))
       (fun (i335:Nat) (f:Zc) b=>
        (QF d.pattern f c.binding).bind fun g=>
        if g.2=true then
         (Zad c.facts).bind fun i=>
         (YE f).bind fun k=>
         chk (i.length+1≤1073741824) <|
         chk (b.length+1≤1073741824) <|
         some (.inl (b++[({ facts:=(i++[k]),binding:=g.1 }:Zq)]))
        else
         some (.inl b))
       (fun b=>
        some (.inl b))
       String_1 0 a)
    (fun a=>
     some (.inl a))
    e 0 [])
  (fun e=>
   some e)
  append_0 0 ([({ facts:=[],binding:=[] }:Zq)])
noncomputable def ZcN (a_0:(List ByteArray)) (a:(List ByteArray)):Option Bool:=
 if (((a_0.length:Nat):Int) != ((a.length:Nat):Int))=true then
  some false
 else
  Zp (σ:=Unit)
   (fun (b:Nat) (c:ByteArray) _=>
    (atI a ((b:Nat):Int)).bind fun d=>
    if (sEq c d)=true then
     some (.inl ())
    else
     some (.inr false))
   (fun _=>
    some true)
   a_0 0 ()
noncomputable def Zca (a_0:Zc) (b_1:Zc):Option Bool:=
 if (sEq a_0.rel b_1.rel)=true then
  (ZcN a_0.args b_1.args).bind fun a=>
  some a
 else
  some false
noncomputable def Yl (l_0:(List Zc)) (f_1:Zc):Option Int:=
 Zp (σ:=Unit)
  (fun (i6:Nat) (a:Zc) _=>
   (Zca a f_1).bind fun b=>
   if b=true then
    some (.inr ((i6:Nat):Int))
   else
    some (.inl ()))
  (fun _=>
   some (-1))
  l_0 0 ()
noncomputable def QL (p_0:Zx) (b_1:(List Zi)):Option (Zc × Bool):=
 (Xp p_0).bind fun c=>
 if c=true then
  (XS b_1).bind fun d=>
  if d=true then
   Zp (σ:=(List ByteArray))
    (fun (i11:Nat) (e:ByteArray) a=>
     (Zbt b_1 e).bind fun b=>
     if b.2=true then
      chk (a.length+1≤1073741824) <|
      some (.inl (a++[b.1]))
     else
      some (.inr (({ rel:=(⟨#[]⟩),args:=[] }:Zc),false)))
    (fun a=>
     some (({ rel:=p_0.rel,args:=a }:Zc),true))
    p_0.args 0 []
  else
   some (({ rel:=(⟨#[]⟩),args:=[] }:Zc),false)
 else
  some (({ rel:=(⟨#[]⟩),args:=[] }:Zc),false)
noncomputable def X4 (a_0:Int) (b_1:Int):Option Int:=
 if (decide (a_0<b_1))=true then
  some (-1)
 else
  if (decide (b_1<a_0))=true then
   some 1
  else
   some 0
noncomputable def Q8 (a_0:ByteArray) (b_1:ByteArray):Option Int:=
 (Zae a_0).bind fun b=>
 (Zae b_1).bind fun a=>
 if b.2=true then
  if a.2=true then
   (X4 b.1 a.1).bind fun c=>
   some c
  else
   some (-1)
 else
  if a.2=true then
   some 1
  else
   (ZfS a_0 b_1).bind fun d=>
   some d
noncomputable def Qn (a_0:Zc) (a:Zc):Option Int:=
 (ZfS a_0.rel a.rel).bind fun b=>
 if (b != 0)=true then
  some b
 else
  Zp (σ:=Unit)
   (fun (c:Nat) (e:ByteArray) _=>
    if (decide (((c:Nat):Int)<((a.args.length:Nat):Int)))=true then
     (atI a.args ((c:Nat):Int)).bind fun f=>
     (Q8 e f).bind fun d=>
     if (d != 0)=true then
      some (.inr d)
     else
      some (.inl ())
    else
     (X4 ((a_0.args.length:Nat):Int) ((a.args.length:Nat):Int)).bind fun g=>
     some (.inr g))
   (fun _=>
    (X4 ((a_0.args.length:Nat):Int) ((a.args.length:Nat):Int)).bind fun i=>
    some i)
   a_0.args 0 ()
noncomputable def Qv (l_0:(List Zc)) (f_1:Zc):Option (List Zc):=
 Zp (σ:=(List Zc) × Bool)
  (fun (i21:Nat) (b:Zc) s=>
   match s with
   | (a,c)=>
   if c=true then
    (YE b).bind fun d=>
    chk (a.length+1≤1073741824) <|
    some (.inl ((a++[d]),true))
   else
    (Qn b f_1).bind fun e=>
    if (decide (0<e))=true then
     (YE f_1).bind fun f=>
     chk (a.length+1≤1073741824) <|
     (YE b).bind fun g=>
     chk (a.length+1+1≤1073741824) <|
     some (.inl (((a++[f])++[g]),true))
    else
     (YE b).bind fun i=>
     chk (a.length+1≤1073741824) <|
     some (.inl ((a++[i]),false)))
  (fun s=>
   match s with
   | (a,c)=>
   if c=true then
    some a
   else
    (YE f_1).bind fun j=>
    chk (a.length+1≤1073741824) <|
    some (a++[j]))
  l_0 0 ([],false)
noncomputable def Xb (r_0:Zg):Option (List Zl):=
 Zp (σ:=(List Zl))
  (fun (i7:Nat) (b:Zl) a=>
   if (b.kind != 2)=true then
    chk (a.length+1≤1073741824) <|
    some (.inl (a++[b]))
   else
    some (.inl a))
  (fun a=>
   some a)
  r_0.cond 0 []
noncomputable def Zai (l_0:(List ByteArray)):Option (List ByteArray):=
 Zp (σ:=(List ByteArray))
  (fun (i9:Nat) (b:ByteArray) a=>
   (Zdp b).bind fun c=>
   if c=true then
    chk (a.length+1≤1073741824) <|
    some (.inl (a++[b]))
   else
    some (.inl a))
  (fun a=>
   some a)
  l_0 0 []
noncomputable def Yy (l_0:(List ByteArray)):Option (List ByteArray):=
 chk (l_0.length≤1073741824) <|
 (Zcw l_0).bind fun c=>
 Zp (σ:=(List ByteArray))
  (fun (b:Nat) (d:ByteArray) a=>
   if (((b:Nat):Int)==0)=true then
    chk (a.length+1≤1073741824) <|
    some (.inl (a++[d]))
   else
    chk (0≤(IntKind.i64.wrap (((b:Nat):Int) - 1))∧(IntKind.i64.wrap (((b:Nat):Int) - 1))<((c.length:Nat):Int)) <|
    (c[(A3 (IntKind.i64.wrap (((b:Nat):Int) - 1)))]?).bind fun e=>
    if (sEq e d)=true then
     some (.inl a)
    else
     chk (a.length+1≤1073741824) <|
     some (.inl (a++[d])))
  (fun a=>
   some a)
  c 0 []
noncomputable def Zac (r_0:Zg) (n_1:Int):Option (List ByteArray):=
 Zp (σ:=(List ByteArray))
  (fun (i10:Nat) (b:Zl) a=>
   if (decide (((i10:Nat):Int)<n_1))=true then
    if (b.kind==1)=true then
     (Zai b.pattern.args).bind fun c=>
     chk (a.length+c.length≤1073741824) <|
     some (.inl (a++c))
    else
     some (.inl a)
   else
    some (.inl a))
  (fun a=>
   (Yy a).bind fun d=>
   some d)
  r_0.cond 0 []
noncomputable def Xv (l_0:(List ByteArray)) (s_1:ByteArray):Option Bool:=
 Zp (σ:=Unit)
  (fun (i4:Nat) (a:ByteArray) _=>
   if (sEq a s_1)=true then
    some (.inr true)
   else
    some (.inl ()))
  (fun _=>
   some false)
  l_0 0 ()
noncomputable def ZhS (x_0:Zl):Option (List ByteArray):=
 (Zbx x_0.pattern.args).bind fun a=>
 chk (a.length+2≤1073741824) <|
 some (a++[x_0.left,x_0.right])
noncomputable def QI (x_0:Zl):Option (List ByteArray):=
 (ZhS x_0).bind fun a=>
 (Zai a).bind fun b=>
 (Yy b).bind fun c=>
 some c
noncomputable def XT (r_0:Zg) (k_1:Int) (a:ByteArray):Option Bool:=
 Zp (σ:=Unit)
  (fun (i16:Nat) (b:Zl) _=>
   if (((i16:Nat):Int) != k_1)=true then
    (QI b).bind fun c=>
    (Xv c a).bind fun d=>
    if d=true then
     some (.inr true)
    else
     some (.inl ())
   else
    some (.inl ()))
  (fun _=>
   Zp (σ:=Unit)
    (fun (i25:Nat) (e:Zu) _=>
     (Xv e.pattern.args a).bind fun f=>
     if f=true then
      some (.inr true)
     else
      some (.inl ()))
    (fun _=>
     some false)
    r_0.thn 0 ())
  r_0.cond 0 ()
noncomputable def Zcd (a:Zg) (b:Int):Option Bool:=
 (atI a.cond b).bind fun c=>
 (Zac a b).bind fun e=>
 (QI c).bind fun f=>
 Zp (σ:=Unit)
  (fun (i11:Nat) (d:ByteArray) _=>
   if (c.kind==1)=true then
    some (.inl ())
   else
    (Xv e d).bind fun g=>
    if g=true then
     some (.inl ())
    else
     if (c.kind != 2)=true then
      some (.inr false)
     else
      (XT a b d).bind fun i=>
      if i=true then
       some (.inr false)
      else
       some (.inl ()))
  (fun _=>
   some true)
  f 0 ()
noncomputable def ZeA (a_0:Zu):Option Bool:=
 if (a_0.kind==1)=true then
  (Xp a_0.pattern).bind fun a=>
  some a
 else
  if (a_0.kind==2)=true then
   (Xp a_0.pattern).bind fun b=>
   some b
  else
   if (a_0.kind==3)=true then
    (Xt a_0.pattern).bind fun c=>
    some c
   else
    some false
noncomputable def ZbK (l_0:(List Zl)):Option (List ByteArray):=
 Zp (σ:=(List ByteArray))
  (fun (i9:Nat) (c:Zl) a=>
   (QI c).bind fun b=>
   chk (a.length+b.length≤1073741824) <|
   some (.inl (a++b)))
  (fun a=>
   some a)
  l_0 0 []
noncomputable def Zex (append_0:Zg):Option Bool:=
 (Zey append_0.name).bind fun c=>
 if c=true then
  if (decide (append_0.priority<0))=true then
   some false
  else
   if (decide (9<append_0.priority))=true then
    some false
   else
    if (decide (((append_0.cond.length:Nat):Int)<1))=true then
     some false
    else
     if (decide (4<((append_0.cond.length:Nat):Int)))=true then
      some false
     else
      if (decide (((append_0.thn.length:Nat):Int)<1))=true then
       some false
      else
       if (decide (2<((append_0.thn.length:Nat):Int)))=true then
        some false
       else
        Zp (σ:=Unit)
         (fun (i50:Nat) (a:Zl) _=>
          (Zeh a).bind fun d=>
          if d=true then
           if (((i50:Nat):Int)==0)=true then
            if (a.kind != 1)=true then
             some (.inr false)
            else
             (Zcd append_0 ((i50:Nat):Int)).bind fun e=>
             if e=true then
              some (.inl ())
             else
              some (.inr false)
           else
            (Zcd append_0 ((i50:Nat):Int)).bind fun f=>
            if f=true then
             some (.inl ())
            else
             some (.inr false)
          else
           some (.inr false))
         (fun _=>
          (Zac append_0 ((append_0.cond.length:Nat):Int)).bind fun g=>
          Zp (σ:=Unit)
           (fun (i81:Nat) (b:Zu) _=>
            (ZeA b).bind fun i=>
            if i=true then
             (Zai b.pattern.args).bind fun j=>
             Zp (σ:=Unit)
              (fun (i90:Nat) (k:ByteArray) _=>
               (Xv g k).bind fun l=>
               if l=true then
                some (.inl ())
               else
                some (.inr (.inr false)))
              (fun _=>
               some (.inl ()))
              j 0 ()
            else
             some (.inr false))
           (fun _=>
            (ZbK append_0.cond).bind fun m=>
            (Yy m).bind fun o=>
            some (decide (((o.length:Nat):Int)≤6)))
           append_0.thn 0 ())
         append_0.cond 0 ()
 else
  some false
noncomputable def Zbd (l_0:(List Zg)) (name_1:ByteArray):Option Int:=
 Zp (σ:=Unit)
  (fun (i4:Nat) (a:Zg) _=>
   if (sEq a.name name_1)=true then
    some (.inr ((i4:Nat):Int))
   else
    some (.inl ()))
  (fun _=>
   some (-1))
  l_0 0 ()
noncomputable def Zd7 (l_0:(List Zg)):Option Bool:=
 if (decide (6<((l_0.length:Nat):Int)))=true then
  some false
 else
  Zp (σ:=Unit)
   (fun (i8:Nat) (a:Zg) _=>
    (Zex a).bind fun b=>
    if b=true then
     (Zbd l_0 a.name).bind fun c=>
     if (c != ((i8:Nat):Int))=true then
      some (.inr false)
     else
      some (.inl ())
    else
     some (.inr false))
   (fun _=>
    some true)
   l_0 0 ()
noncomputable def Zeg (r_0:Zg):Option Bool:=
 Zp (σ:=Unit)
  (fun (i4:Nat) (a:Zu) _=>
   if (a.kind != 1)=true then
    some (.inr false)
   else
    some (.inl ()))
  (fun _=>
   some true)
  r_0.thn 0 ()
noncomputable def Zc0 (r_0:Zg):Option Bool:=
 (Zex r_0).bind fun b=>
 if b=true then
  (Zeg r_0).bind fun c=>
  if c=true then
   Zp (σ:=Unit)
    (fun (i26:Nat) (a:Zl) _=>
     if (a.kind != 2)=true then
      some (.inl ())
     else
      (Zac r_0 ((i26:Nat):Int)).bind fun d=>
      (QI a).bind fun e=>
      Zp (σ:=Unit)
       (fun (i35:Nat) (f:ByteArray) _=>
        (Xv d f).bind fun g=>
        if g=true then
         some (.inl ())
        else
         some (.inr (.inr false)))
       (fun _=>
        some (.inl ()))
       e 0 ())
    (fun _=>
     some true)
    r_0.cond 0 ()
  else
   some false
 else
  some false
noncomputable def QR (r_0:Zg):Option (List ByteArray):=
 Zp (σ:=(List ByteArray))
  (fun (i7:Nat) (b:Zu) a=>
   if (b.kind==1)=true then
    chk (a.length+1≤1073741824) <|
    some (.inl (a++[b.pattern.rel]))
   else
    if (b.kind==2)=true then
     chk (a.length+1≤1073741824) <|
     some (.inl (a++[b.pattern.rel]))
    else
     some (.inl a))
  (fun a=>
   (Yy a).bind fun c=>
   some c)
  r_0.thn 0 []
noncomputable def Zcp (r_0:Zg):Option (List ByteArray):=
 Zp (σ:=(List ByteArray))
  (fun (i7:Nat) (b:Zl) a=>
   if (b.kind==1)=true then
    chk (a.length+1≤1073741824) <|
    some (.inl (a++[b.pattern.rel]))
   else
    if (b.kind==2)=true then
     chk (a.length+1≤1073741824) <|
     some (.inl (a++[b.pattern.rel]))
    else
     some (.inl a))
  (fun a=>
   (Yy a).bind fun c=>
   some c)
  r_0.cond 0 []
noncomputable def Zeo (rules_0:(List Zg)) (a_1:ByteArray):Option (List (ByteArray × Bool)):=
 XI (σ:=(List (ByteArray × Bool)) × (List ByteArray))
  (fun s=>
   match s with
   | (g,a)=>
   if (decide (0<((a.length:Nat):Int)))=true then
    chk (0≤0∧0<((a.length:Nat):Int)) <|
    (a[(A3 0)]?).bind fun j=>
    chk (0≤1∧1≤((a.length:Nat):Int)) <|
    Zp (σ:=(List (ByteArray × Bool)) × (List ByteArray))
     (fun (i72:Nat) (i:Zg) s=>
      match s with
      | (d,e)=>
      (QR i).bind fun k=>
      (Xv k j).bind fun l=>
      if l=true then
       (Zcp i).bind fun m=>
       Zp (σ:=(List (ByteArray × Bool)) × (List ByteArray))
        (fun (i83:Nat) (f:ByteArray) s=>
         match s with
         | (b,c)=>
         if (ZaJ b f false)=true then
          some (.inl (b,c))
         else
          chk (c.length+1≤1073741824) <|
          some (.inl ((Zf4 b f true),(c++[f]))))
        (fun s=>
         match s with
         | (b,c)=>
         some (.inl (b,c)))
        m 0 (d,e)
      else
       some (.inl (d,e)))
     (fun s=>
      match s with
      | (d,e)=>
      some (.inl (d,e)))
     rules_0 0 (g,(AX (A3 1) a))
   else
    some (.inr g))
  ([],[a_1])
noncomputable def ZbT (rules_0:(List Zg)):Option Bool:=
 (Zd7 rules_0).bind fun d=>
 if d=true then
  Zp (σ:=Unit)
   (fun (i59:Nat) (a:Zg) _=>
    (Zc0 a).bind fun e=>
    if e=true then
     Zp (σ:=Unit)
      (fun (i79:Nat) (b:Zl) _=>
       if (b.kind != 2)=true then
        some (.inl ())
       else
        (Zeo rules_0 b.pattern.rel).bind fun f=>
        (QR a).bind fun g=>
        Zp (σ:=Unit)
         (fun (i86:Nat) (c:ByteArray) _=>
          if (sEq c b.pattern.rel)=true then
           some (.inr (.inr (.inr false)))
          else
           if (ZaJ f c false)=true then
            some (.inr (.inr (.inr false)))
           else
            some (.inl ()))
         (fun _=>
          some (.inl ()))
         g 0 ())
      (fun _=>
       some (.inl ()))
      a.cond 0 ()
    else
     some (.inr false))
   (fun _=>
    some true)
   rules_0 0 ()
 else
  some false
noncomputable def Zei (a:(List Zc)):Option Bool:=
 if (decide (24<((a.length:Nat):Int)))=true then
  some false
 else
  Zp (σ:=Unit)
   (fun (b:Nat) (c:Zc) _=>
    (ZfO c).bind fun d=>
    if d=true then
     if (decide (0<((b:Nat):Int)))=true then
      (atI a (IntKind.i64.wrap (((b:Nat):Int) - 1))).bind fun e=>
      (Qn e c).bind fun f=>
      if (decide (0≤f))=true then
       some (.inr false)
      else
       some (.inl ())
     else
      some (.inl ())
    else
     some (.inr false))
   (fun _=>
    some true)
   a 0 ()
noncomputable def YB (append_0:(List Zg)) (String_1:(List Zc)):Option ((List Zc) × Bool):=
 (ZbT append_0).bind fun k=>
 if k=true then
  (Zei String_1).bind fun l=>
  if l=true then
   (Zad String_1).bind fun m=>
   XI (σ:=(List Zc) × Bool)
    (fun s=>
     match s with
     | (g,o)=>
     if o=true then
      Zp (σ:=(List Zc) × Bool)
       (fun (i423:Nat) (i:Zg) s=>
        match s with
        | (b,c)=>
        (Xb i).bind fun p=>
        (Zao p b).bind fun q=>
        Zp (σ:=(List Zc) × Bool)
         (fun (i480:Nat) (t:Zq) s=>
          match s with
          | (d,e)=>
          Zp (σ:=(List Zc) × Bool)
           (fun (i501:Nat) (u:Zu) s=>
            match s with
            | (a,f)=>
            (QL u.pattern t.binding).bind fun j=>
            (Yl a j.1).bind fun v=>
            if (decide (0≤v))=true then
             some (.inl (a,f))
            else
             if (decide (24≤((a.length:Nat):Int)))=true then
              some (.inr (.inr (.inr (.inr ([],false)))))
             else
              (Qv a j.1).bind fun w=>
              some (.inl (w,true)))
           (fun s=>
            match s with
            | (a,f)=>
            some (.inl (a,f)))
           i.thn 0 (d,e))
         (fun s=>
          match s with
          | (d,e)=>
          some (.inl (d,e)))
         q 0 (b,c))
       (fun s=>
        match s with
        | (b,c)=>
        some (.inl (b,c)))
       append_0 0 (g,false)
     else
      some (.inr (g,true)))
    (m,true)
  else
   some ([],false)
 else
  some ([],false)
noncomputable def ZgY (l_0:(List Int)) (n_1:Int):Option Bool:=
 Zp (σ:=Unit)
  (fun (i4:Nat) (a:Int) _=>
   if (a==n_1)=true then
    some (.inr true)
   else
    some (.inl ()))
  (fun _=>
   some false)
  l_0 0 ()
noncomputable def ZdB (facts_0:(List Zc)) (l_1:(List Zc)):Option (List Int):=
 Zp (σ:=(List Int))
  (fun (i16:Nat) (c:Zc) a=>
   (Yl facts_0 c).bind fun b=>
   if (decide (0≤b))=true then
    (ZgY a b).bind fun d=>
    if d=true then
     some (.inl a)
    else
     chk (a.length+1≤1073741824) <|
     some (.inl (a++[b]))
   else
    some (.inl a))
  (fun a=>
   (Zf8 a).bind fun e=>
   some e)
  l_1 0 []
noncomputable def Zcj (a_0:(List Int)) (a:(List Int)):Option Bool:=
 if (((a_0.length:Nat):Int) != ((a.length:Nat):Int))=true then
  some false
 else
  Zp (σ:=Unit)
   (fun (b:Nat) (c:Int) _=>
    (atI a ((b:Nat):Int)).bind fun d=>
    if (c != d)=true then
     some (.inr false)
    else
     some (.inl ()))
   (fun _=>
    some true)
   a_0 0 ()
noncomputable def Zb1 (a_0:Zf) (b_1:Zf):Option Bool:=
 if (a_0.for_==b_1.for_)=true then
  (Zcj a_0.inn b_1.inn).bind fun a=>
  if a=true then
   (Zcj a_0.outs b_1.outs).bind fun b=>
   some b
  else
   some false
 else
  some false
noncomputable def Zbr (l_0:(List Zf)) (r_1:Zf):Option Bool:=
 Zp (σ:=Unit)
  (fun (i6:Nat) (a:Zf) _=>
   (Zb1 a r_1).bind fun b=>
   if b=true then
    some (.inr true)
   else
    some (.inl ()))
  (fun _=>
   some false)
  l_0 0 ()
noncomputable def ZbJ (append_0:(List Zg)) (String_1:(List Zc)):Option ((List Zc) × Zt × (List Za4) × Bool):=
 (YB append_0 String_1).bind fun a=>
 if a.2=true then
  Zp (σ:=(List Zf) × (List Za4))
   (fun (i941:Nat) (u:Zc) s=>
    match s with
    | (e,f)=>
    (Yl a.1 u).bind fun v=>
    chk (e.length+1≤1073741824) <|
    chk (f.length+1≤1073741824) <|
    some (.inl ((e++[({ for_:=v,inn:=[],outs:=[] }:Zf)]),(f++[({ rule:=(⟨#[]⟩),facts:=[] }:Za4)]))))
   (fun s=>
    match s with
    | (e,f)=>
    Zp (σ:=(List Zf) × (List Za4))
     (fun (i1660:Nat) (g:Zg) s=>
      match s with
      | (i,k)=>
      (Xb g).bind fun w=>
      (Zao w a.1).bind fun x=>
      Zp (σ:=(List Zf) × (List Za4))
       (fun (i1803:Nat) (j:Zq) s=>
        match s with
        | (l,m)=>
        Zp (σ:=(List Zc))
         (fun (i1841:Nat) (o:Zl) c=>
          if (o.kind==2)=true then
           (QL o.pattern j.binding).bind fun y=>
           chk (c.length+1≤1073741824) <|
           some (.inl (c++[y.1]))
          else
           some (.inl c))
         (fun c=>
          Zp (σ:=(List Zf) × (List Za4))
           (fun (i1865:Nat) (z:Zu) s=>
            match s with
            | (b,d)=>
            (QL z.pattern j.binding).bind fun A=>
            (Yl a.1 A.1).bind fun p=>
            (ZdB a.1 j.facts).bind fun q=>
            (ZdB a.1 c).bind fun t=>
            (Zbr b ({ for_:=p,inn:=q,outs:=t }:Zf)).bind fun B=>
            if B=true then
             some (.inl (b,d))
            else
             chk (b.length+1≤1073741824) <|
             chk (d.length+1≤1073741824) <|
             some (.inl ((b++[({ for_:=p,inn:=q,outs:=t }:Zf)]),(d++[({ rule:=g.name,facts:=j.facts }:Za4)]))))
           (fun s=>
            match s with
            | (b,d)=>
            some (.inl (b,d)))
           g.thn 0 (l,m))
         g.cond 0 [])
       (fun s=>
        match s with
        | (l,m)=>
        some (.inl (l,m)))
       x 0 (i,k))
     (fun s=>
      match s with
      | (i,k)=>
      if (decide (60<((i.length:Nat):Int)))=true then
       some ([],({ nodes:=0,reasons:=[] }:Zt),[],false)
      else
       some (a.1,({ nodes:=((a.1.length:Nat):Int),reasons:=i }:Zt),k,true))
     append_0 0 (e,f))
   String_1 0 ([],[])
 else
  some ([],({ nodes:=0,reasons:=[] }:Zt),[],false)
noncomputable def QV (rules_0:(List Zg)) (base_1:(List Zc)):Option ((List Zc) × Zt × Bool):=
 (ZbJ rules_0 base_1).bind fun a=>
 some (a.1,a.2.1,a.2.2.2)
noncomputable def ZgM (d:Zt):Option (List Int):=
 chk (0≤d.nodes∧d.nodes≤1073741824) <|
 XI (σ:=(List Int) × Bool)
  (fun s=>
   match s with
   | (j,o)=>
   if o=true then
    Zp (σ:=(List Int) × Bool)
     (fun (i155:Nat) (b:Zf) s=>
      match s with
      | (a,f)=>
      chk (0≤b.for_∧b.for_<((a.length:Nat):Int)) <|
      (a[(A3 b.for_)]?).bind fun k=>
      Zp (σ:=Int)
       (fun (i173:Nat) (g:Int) e=>
        chk (0≤g∧g<((a.length:Nat):Int)) <|
        (a[(A3 g)]?).bind fun l=>
        some (.inl (if e<l then l else e)))
       (fun e=>
        Zp (σ:=Int)
         (fun (i182:Nat) (i:Int) c=>
          chk (0≤i∧i<((a.length:Nat):Int)) <|
          (a[(A3 i)]?).bind fun m=>
          some (.inl (if c<(IntKind.i64.wrap (m+1)) then (IntKind.i64.wrap (m+1)) else c)))
         (fun c=>
          if (decide (k<c))=true then
           some (.inl ((AD a (A3 b.for_) c),true))
          else
           some (.inl (a,f)))
         b.outs 0 e)
       b.inn 0 k)
     (fun s=>
      match s with
      | (a,f)=>
      some (.inl (a,f)))
     d.reasons 0 (j,false)
   else
    some (.inr j))
  ((AO (A3 d.nodes) 0),true)
noncomputable def Zbq (r_0:Zf) (a:(List Int)) (before_2:Int):Option Bool:=
 Zp (σ:=Unit)
  (fun (i14:Nat) (c:Int) _=>
   (atI a c).bind fun b=>
   if (decide (b<0))=true then
    some (.inr false)
   else
    if (decide (before_2≤b))=true then
     some (.inr false)
    else
     some (.inl ()))
  (fun _=>
   Zp (σ:=Unit)
    (fun (i22:Nat) (d:Int) _=>
     (atI a d).bind fun e=>
     if (decide (0≤e))=true then
      some (.inr false)
     else
      some (.inl ()))
    (fun _=>
     some true)
    r_0.outs 0 ())
  r_0.inn 0 ()
noncomputable def ZhI (d:Zt):Option (List Int):=
 (ZgM d).bind fun g=>
 chk (0≤d.nodes∧d.nodes≤1073741824) <|
 XI (σ:=(List Int) × Int × Int)
  (fun s=>
   match s with
   | (i,a,m)=>
   if (decide (a<((A3 d.nodes:Nat):Int)))=true then
    chk (0≤a∧a<((i.length:Nat):Int)) <|
    (i[(A3 a)]?).bind fun u=>
    chk (a<((g.length:Nat):Int)) <|
    (g[(A3 a)]?).bind fun o=>
    some (.inl ((AD i (A3 a) (-1)),(IntKind.i64.wrap (a+1)),(if m<o then o else m)))
   else
    XI (σ:=(List Int) × Int × Int)
     (fun s=>
      match s with
      | (e,j,k)=>
      if (decide (k≤m))=true then
       Zp (σ:=(List Int))
        (fun (i109:Nat) (c:Zf) b=>
         chk (0≤c.for_∧c.for_<((g.length:Nat):Int)) <|
         (g[(A3 c.for_)]?).bind fun p=>
         if (p==k)=true then
          chk (c.for_<((e.length:Nat):Int)) <|
          (e[(A3 c.for_)]?).bind fun q=>
          if (decide (q<0))=true then
           (Zbq c e j).bind fun t=>
           if t=true then
            chk (b.length+1≤1073741824) <|
            some (.inl (b++[c.for_]))
           else
            some (.inl b)
          else
           some (.inl b)
         else
          some (.inl b))
        (fun b=>
         if (((b.length:Nat):Int)==0)=true then
          some (.inl (e,j,(IntKind.i64.wrap (k+1))))
         else
          Zp (σ:=(List Int))
           (fun (i120:Nat) (l:Int) f=>
            chk (0≤l∧l<((f.length:Nat):Int)) <|
            (f[(A3 l)]?).bind fun v=>
            some (.inl (AD f (A3 l) j)))
           (fun f=>
            some (.inl (f,(IntKind.i64.wrap (j+1)),k)))
           b 0 e)
        d.reasons 0 []
      else
       some (.inr (.inr e)))
     (i,0,0))
  ((AO (A3 d.nodes) 0),0,0)
noncomputable def Zhs (b_0:Zt):Option (List Bool):=
 (ZhI b_0).bind fun b=>
 Zp (σ:=(List Bool))
  (fun (i7:Nat) (c:Int) a=>
   chk (a.length+1≤1073741824) <|
   some (.inl (a++[(decide (0≤c))])))
  (fun a=>
   some a)
  b 0 []
noncomputable def Zec (b:(List Zc)) (b_1:Zt):Option (List Zc):=
 (Zhs b_1).bind fun c=>
 Zp (σ:=(List Zc))
  (fun (d:Nat) (e:Bool) a=>
   if e=true then
    (atI b ((d:Nat):Int)).bind fun f=>
    (YE f).bind fun g=>
    chk (a.length+1≤1073741824) <|
    some (.inl (a++[g]))
   else
    some (.inl a))
  (fun a=>
   some a)
  c 0 []
noncomputable def Zbi (rules_0:(List Zg)) (base_1:(List Zc)):Option ((List Zc) × Bool):=
 (QV rules_0 base_1).bind fun a=>
 if a.2.2=true then
  (Zec a.1 a.2.1).bind fun b=>
  some (b,true)
 else
  some ([],false)
noncomputable def ZHj (b_0:(List Zi)) (aim_1:(List Zi)):Option Bool:=
 Zp (σ:=Unit)
  (fun (i6:Nat) (a:Zi) _=>
   (Zbt aim_1 a.var).bind fun b=>
   if b.2=true then
    if (sEq b.1 a.value)=true then
     some (.inl ())
    else
     some (.inr false)
   else
    some (.inl ()))
  (fun _=>
   some true)
  b_0 0 ()
noncomputable def ZHb (b:Zg) (d:(List Zc)) (aim_2:(List Zi)):Option Int:=
 XI (σ:=Int × Int)
  (fun s=>
   match s with
   | (c,a)=>
   if (decide (a≤((b.cond.length:Nat):Int)))=true then
    chk (0≤a∧a≤((b.cond.length:Nat):Int)) <|
    (Zao (AX 0 (List.take (A3 a) b.cond)) d).bind fun e=>
    Zp (σ:=Unit)
     (fun (i27:Nat) (f:Zq) _=>
      (ZHj f.binding aim_2).bind fun g=>
      if g=true then
       some (.inr (.inl (a,(IntKind.i64.wrap (a+1)))))
      else
       some (.inl ()))
     (fun _=>
      some (.inl (c,(IntKind.i64.wrap (a+1)))))
     e 0 ()
   else
    some (.inr c))
  (0,0)
noncomputable def ZHV (l_0:(List ByteArray)) (sep_1:ByteArray):Option ByteArray:=
 (ZIa l_0 sep_1).bind fun a=>
 some a
noncomputable def ZGZ (p_0:Zx):Option ByteArray:=
 (Xp p_0).bind fun b=>
 if b=true then
  chk (p_0.rel.size+(⟨#[40]⟩:ByteArray).size≤9223372036854775807) <|
  (ZHV p_0.args (⟨#[44]⟩)).bind fun a=>
  chk ((p_0.rel++(⟨#[40]⟩:ByteArray)).size+a.size≤9223372036854775807) <|
  chk (((p_0.rel++(⟨#[40]⟩:ByteArray))++a).size+(⟨#[41]⟩:ByteArray).size≤9223372036854775807) <|
  some (((p_0.rel++(⟨#[40]⟩:ByteArray))++a)++(⟨#[41]⟩:ByteArray))
 else
  some (⟨#[]⟩)
noncomputable def ZG3 (x_0:Zl):Option ByteArray:=
 (Zeh x_0).bind fun b=>
 if b=true then
  if x_0.kind=1 then ZGZ x_0.pattern
  else if x_0.kind=2 then (ZGZ x_0.pattern).bind fun a=>if a.size≤1048576 then some ((⟨#[110,111,116,32]⟩:ByteArray)++a) else none
  else if 3≤x_0.kind∧x_0.kind≤5∧x_0.left.size≤1048576∧x_0.right.size≤1048576 then some ((x_0.left++ZHL x_0.kind)++x_0.right) else none
 else some ⟨#[]⟩
noncomputable def ZHk (append_0:(List Zg)) (String_1:(List Zc)) (d:Zc):Option ((List Zwt) × Bool):=
 (Zbi append_0 String_1).bind fun e=>
 if e.2=true then
  (ZfO d).bind fun i=>
  if i=true then
   (Yl e.1 d).bind fun j=>
   if (decide (0≤j))=true then
    some ([],false)
   else
    Zp (σ:=(List Zwt))
     (fun (i68:Nat) (b:Zg) f=>
      Zp (σ:=(List Zwt))
       (fun (i82:Nat) (k:Zu) a=>
        (QF k.pattern d []).bind fun g=>
        if g.2=true then
         (ZHb b e.1 g.1).bind fun c=>
         if (decide (c<((b.cond.length:Nat):Int)))=true then
          (atI b.cond c).bind fun l=>
          (ZG3 l).bind fun m=>
          chk (a.length+1≤1073741824) <|
          some (.inl (a++[({ rule:=b.name,done:=c,cond:=m }:Zwt)]))
         else
          chk (a.length+1≤1073741824) <|
          some (.inl (a++[({ rule:=b.name,done:=c,cond:=(⟨#[]⟩) }:Zwt)]))
        else
         some (.inl a))
       (fun a=>
        some (.inl a))
       b.thn 0 f)
     (fun f=>
      some (f,true))
     append_0 0 []
  else
   some ([],false)
 else
  some ([],false)
noncomputable def ZaQ (n_0:Int):Option ByteArray:=
 if (n_0==(-9223372036854775808))=true then
  some (⟨#[45,57,50,50,51,51,55,50,48,51,54,56,53,52,55,55,53,56,48,56]⟩)
 else
  if (decide (n_0<0))=true then
   none
  else
   XI (σ:=Int × ByteArray)
    (fun s=>
     match s with
     | (a,b)=>
     chk ((Xn [(IntKind.u8.wrap (IntKind.i64.wrap (48+(Int.tmod a 10))))]).size+b.size≤9223372036854775807) <|
     if ((IntKind.i64.wrap (Int.tdiv a 10))==0)=true then
      some (.inr ((Xn [(IntKind.u8.wrap (IntKind.i64.wrap (48+(Int.tmod a 10))))])++b))
     else
      some (.inl ((IntKind.i64.wrap (Int.tdiv a 10)),((Xn [(IntKind.u8.wrap (IntKind.i64.wrap (48+(Int.tmod a 10))))])++b))))
    (n_0,⟨#[]⟩)
noncomputable def Zbl (n_0:Int):Option ByteArray:=
 if (n_0==(-9223372036854775808))=true then
  some (⟨#[45,57,50,50,51,51,55,50,48,51,54,56,53,52,55,55,53,56,48,56]⟩)
 else
  if (decide (n_0<0))=true then
   (ZaQ (IntKind.i64.wrap (0 - n_0))).bind fun c=>
   chk ((⟨#[45]⟩:ByteArray).size+c.size≤9223372036854775807) <|
   some ((⟨#[45]⟩:ByteArray)++c)
  else
   XI (σ:=Int × ByteArray)
    (fun s=>
     match s with
     | (a,b)=>
     chk ((Xn [(IntKind.u8.wrap (IntKind.i64.wrap (48+(Int.tmod a 10))))]).size+b.size≤9223372036854775807) <|
     if ((IntKind.i64.wrap (Int.tdiv a 10))==0)=true then
      some (.inr ((Xn [(IntKind.u8.wrap (IntKind.i64.wrap (48+(Int.tmod a 10))))])++b))
     else
      some (.inl ((IntKind.i64.wrap (Int.tdiv a 10)),((Xn [(IntKind.u8.wrap (IntKind.i64.wrap (48+(Int.tmod a 10))))])++b))))
    (n_0,⟨#[]⟩)
noncomputable def Qr (x_0:Int) (least_1:Int) (most_2:Int):Option Bool:=
 if (decide (least_1≤x_0))=true then
  some (decide (x_0≤most_2))
 else
  some false
noncomputable def Zag (s_0:ByteArray):Option (Int × Bool):=
 (Qr ((s_0.size:Nat):Int) 1 4).bind fun c=>
 if c=true then
  Zp (σ:=Int)
   (fun (i7:Nat) (b:UInt8) a=>
    if (decide (((b.toNat:Nat):Int)<48))=true then
     some (.inr (0,false))
    else
     if (decide (57<((b.toNat:Nat):Int)))=true then
      some (.inr (0,false))
     else
      some (.inl (IntKind.i64.wrap ((IntKind.i64.wrap (10 * a))+IntKind.i64.wrap (IntKind.u8.wrap (((b.toNat:Nat):Int) - 48))))))
   (fun a=>
    (Zbl a).bind fun d=>
    if (sEq d s_0)=true then
     some (a,true)
    else
     some (0,false))
   s_0.data.toList 0 0
 else
  some (0,false)
noncomputable def QT (s_0:ByteArray):Option Bool:=
 Zp (σ:=Unit)
  (fun (i9:Nat) (a:UInt8) _=>
   (Qr (IntKind.i64.wrap ((a.toNat:Nat):Int)) 97 122).bind fun b=>
   if b=true then
    some (.inl ())
   else
    (Qr (IntKind.i64.wrap ((a.toNat:Nat):Int)) 48 57).bind fun c=>
    if c=true then
     some (.inl ())
    else
     some (.inr false))
  (fun _=>
   (Qr ((s_0.size:Nat):Int) 1 8).bind fun d=>
   some d)
  s_0.data.toList 0 ()
noncomputable def ZdM (s_0:ByteArray):Option Bool:=
 (QT s_0).bind fun a=>
 if a=true then
  (sAt s_0 0).bind fun b=>
  (Qr (IntKind.i64.wrap ((b.toNat:Nat):Int)) 97 122).bind fun c=>
  some c
 else
  some false
noncomputable def Za3 (a:ByteArray):Option Bool:=
 if (decide (1<((a.size:Nat):Int)))=true then
  (sAt a 0).bind fun b=>
  if (((b.toNat:Nat):Int)==63)=true then
   chk (0≤1∧1≤((a.size:Nat):Int)) <|
   (QT (a.extract (A3 1) a.size)).bind fun c=>
   some c
  else
   some false
 else
  some false
noncomputable def Zaq (s_0:ByteArray):Option Bool:=
 (QT s_0).bind fun a=>
 if a=true then
  some true
 else
  (Za3 s_0).bind fun b=>
  some b
noncomputable def Xq (p_0:Zx):Option Bool:=
 Zp (σ:=Unit)
  (fun (i7:Nat) (a:ByteArray) _=>
   (Zaq a).bind fun b=>
   if b=true then
    some (.inl ())
   else
    some (.inr false))
  (fun _=>
   (ZdM p_0.rel).bind fun c=>
   if c=true then
    some (decide (((p_0.args.length:Nat):Int)≤3))
   else
    some false)
  p_0.args 0 ()
noncomputable def Zej (x_0:Zl):Option Bool:=
 if (x_0.kind==1)=true then
  (Xq x_0.pattern).bind fun a=>
  if a=true then
   if (sEq x_0.left ⟨#[]⟩)=true then
    some (sEq x_0.right ⟨#[]⟩)
   else
    some false
  else
   some false
 else
  if (x_0.kind==2)=true then
   (Xq x_0.pattern).bind fun b=>
   if b=true then
    if (sEq x_0.left ⟨#[]⟩)=true then
     some (sEq x_0.right ⟨#[]⟩)
    else
     some false
   else
    some false
  else
   if (x_0.kind==3)=true then
    if (sEq x_0.pattern.rel ⟨#[]⟩)=true then
     if (((x_0.pattern.args.length:Nat):Int)==0)=true then
      (Zaq x_0.left).bind fun c=>
      if c=true then
       (Zaq x_0.right).bind fun d=>
       some d
      else
       some false
     else
      some false
    else
     some false
   else
    if (x_0.kind==4)=true then
     if (sEq x_0.pattern.rel ⟨#[]⟩)=true then
      if (((x_0.pattern.args.length:Nat):Int)==0)=true then
       (Zaq x_0.left).bind fun e=>
       if e=true then
        (Zaq x_0.right).bind fun f=>
        some f
       else
        some false
      else
       some false
     else
      some false
    else
     if (x_0.kind==5)=true then
      if (sEq x_0.pattern.rel ⟨#[]⟩)=true then
       if (((x_0.pattern.args.length:Nat):Int)==0)=true then
        (Zaq x_0.left).bind fun g=>
        if g=true then
         (Zaq x_0.right).bind fun i=>
         some i
        else
         some false
       else
        some false
      else
       some false
     else
      some false
noncomputable def Qd (l_0:(List ByteArray)) (s_1:ByteArray):Option (List ByteArray):=
 Zp (σ:=(List ByteArray) × Bool)
  (fun (i8:Nat) (b:ByteArray) s=>
   match s with
   | (a,c)=>
   if c=true then
    chk (a.length+1≤1073741824) <|
    some (.inl ((a++[b]),true))
   else
    if (sLt b s_1)=true then
     chk (a.length+1≤1073741824) <|
     some (.inl ((a++[b]),false))
    else
     if (sEq b s_1)=true then
      chk (a.length+1≤1073741824) <|
      some (.inl ((a++[b]),true))
     else
      chk (a.length+1≤1073741824) <|
      chk (a.length+1+1≤1073741824) <|
      some (.inl (((a++[s_1])++[b]),true)))
  (fun s=>
   match s with
   | (a,c)=>
   if c=true then
    some a
   else
    chk (a.length+1≤1073741824) <|
    some (a++[s_1]))
  l_0 0 ([],false)
noncomputable def Zb5 (p_0:Zx):Option (List ByteArray):=
 Zp (σ:=(List ByteArray))
  (fun (i9:Nat) (b:ByteArray) a=>
   (Za3 b).bind fun c=>
   if c=true then
    (Qd a b).bind fun d=>
    some (.inl d)
   else
    some (.inl a))
  (fun a=>
   some a)
  p_0.args 0 []
noncomputable def QH (r_0:Zg) (n_1:Int):Option (List ByteArray):=
 Zp (σ:=(List ByteArray))
  (fun (i25:Nat) (c:Zl) a=>
   if (decide (((i25:Nat):Int)<n_1))=true then
    if (c.kind==1)=true then
     (Zb5 c.pattern).bind fun d=>
     Zp (σ:=(List ByteArray))
      (fun (i34:Nat) (e:ByteArray) b=>
       (Qd b e).bind fun f=>
       some (.inl f))
      (fun b=>
       some (.inl b))
      d 0 a
    else
     some (.inl a)
   else
    some (.inr a))
  (fun a=>
   some a)
  r_0.cond 0 []
noncomputable def X3 (x_0:Zl):Option (List ByteArray):=
 (Zb5 x_0.pattern).bind fun a=>
 (Za3 x_0.left).bind fun c=>
 if c=true then
  (Qd a x_0.left).bind fun b=>
  (Za3 x_0.right).bind fun d=>
  if d=true then
   (Qd b x_0.right).bind fun e=>
   some e
  else
   some b
 else
  (Za3 x_0.right).bind fun f=>
  if f=true then
   (Qd a x_0.right).bind fun g=>
   some g
  else
   some a
noncomputable def ZW (l_0:(List ByteArray)) (s_1:ByteArray):Option Bool:=
 Zp (σ:=Unit)
  (fun (i4:Nat) (a:ByteArray) _=>
   if (sEq a s_1)=true then
    some (.inr true)
   else
    some (.inl ()))
  (fun _=>
   some false)
  l_0 0 ()
noncomputable def ZbV (x_0:Zl):Option Bool:=
 (Zej x_0).bind fun a=>
 if a=true then
  some (decide (3≤x_0.kind))
 else
  some false
noncomputable def X5 (r_0:Zg) (i_1:Int) (v_2:ByteArray):Option Bool:=
 Zp (σ:=Unit)
  (fun (i19:Nat) (a:Zl) _=>
   if (((i19:Nat):Int) != i_1)=true then
    (X3 a).bind fun b=>
    (ZW b v_2).bind fun c=>
    if c=true then
     some (.inr true)
    else
     some (.inl ())
   else
    some (.inl ()))
  (fun _=>
   Zp (σ:=Unit)
    (fun (i30:Nat) (d:Zu) _=>
     (Zb5 d.pattern).bind fun e=>
     (ZW e v_2).bind fun f=>
     if f=true then
      some (.inr true)
     else
      some (.inl ()))
    (fun _=>
     some false)
    r_0.thn 0 ())
  r_0.cond 0 ()
noncomputable def Zer (a_0:Zu):Option Bool:=
 if (a_0.kind==1)=true then
  (Xq a_0.pattern).bind fun a=>
  some a
 else
  if (a_0.kind==2)=true then
   (Xq a_0.pattern).bind fun b=>
   some b
  else
   if (a_0.kind==3)=true then
    if (sEq a_0.pattern.rel ⟨#[]⟩)=true then
     some (((a_0.pattern.args.length:Nat):Int)==0)
    else
     some false
   else
    some false
noncomputable def Zed (r_0:Zg):Option (List ByteArray):=
 Zp (σ:=(List ByteArray))
  (fun (i61:Nat) (e:Zl) a=>
   (X3 e).bind fun f=>
   Zp (σ:=(List ByteArray))
    (fun (i70:Nat) (g:ByteArray) b=>
     (Qd b g).bind fun i=>
     some (.inl i))
    (fun b=>
     some (.inl b))
    f 0 a)
  (fun a=>
   Zp (σ:=(List ByteArray))
    (fun (i97:Nat) (j:Zu) c=>
     (Zb5 j.pattern).bind fun k=>
     Zp (σ:=(List ByteArray))
      (fun (i106:Nat) (l:ByteArray) d=>
       (Qd d l).bind fun m=>
       some (.inl m))
      (fun d=>
       some (.inl d))
      k 0 c)
    (fun c=>
     some c)
    r_0.thn 0 a)
  r_0.cond 0 []
noncomputable def ZcZ (append_0:Zg):Option Bool:=
 (ZdM append_0.name).bind fun g=>
 if g=true then
  (Qr append_0.priority 0 9).bind fun i=>
  if i=true then
   (Qr ((append_0.cond.length:Nat):Int) 1 4).bind fun j=>
   if j=true then
    (Qr ((append_0.thn.length:Nat):Int) 1 2).bind fun k=>
    if k=true then
     (QH append_0 ((append_0.cond.length:Nat):Int)).bind fun l=>
     Zp (σ:=Unit)
      (fun (i96:Nat) (a:Zl) _=>
       (Zej a).bind fun m=>
       if m=true then
        if (((i96:Nat):Int)==0)=true then
         if (a.kind != 1)=true then
          some (.inr false)
         else
          (QH append_0 ((i96:Nat):Int)).bind fun o=>
          (X3 a).bind fun p=>
          Zp (σ:=Unit)
           (fun (i110:Nat) (b:ByteArray) _=>
            (ZW o b).bind fun c=>
            (ZbV a).bind fun q=>
            if q=true then
             if c=true then
              if (a.kind==2)=true then
               some (.inl ())
              else
               some (.inl ())
             else
              some (.inr (.inr false))
            else
             if (a.kind==2)=true then
              if c=true then
               some (.inl ())
              else
               (X5 append_0 ((i96:Nat):Int) b).bind fun t=>
               if t=true then
                some (.inr (.inr false))
               else
                some (.inl ())
             else
              some (.inl ()))
           (fun _=>
            some (.inl ()))
           p 0 ()
        else
         (QH append_0 ((i96:Nat):Int)).bind fun u=>
         (X3 a).bind fun v=>
         Zp (σ:=Unit)
          (fun (i126:Nat) (d:ByteArray) _=>
           (ZW u d).bind fun e=>
           (ZbV a).bind fun w=>
           if w=true then
            if e=true then
             if (a.kind==2)=true then
              some (.inl ())
             else
              some (.inl ())
            else
             some (.inr (.inr false))
           else
            if (a.kind==2)=true then
             if e=true then
              some (.inl ())
             else
              (X5 append_0 ((i96:Nat):Int) d).bind fun x=>
              if x=true then
               some (.inr (.inr false))
              else
               some (.inl ())
            else
             some (.inl ()))
          (fun _=>
           some (.inl ()))
          v 0 ()
       else
        some (.inr false))
      (fun _=>
       Zp (σ:=Unit)
        (fun (i155:Nat) (f:Zu) _=>
         (Zer f).bind fun y=>
         if y=true then
          (Zb5 f.pattern).bind fun z=>
          Zp (σ:=Unit)
           (fun (i164:Nat) (A:ByteArray) _=>
            (ZW l A).bind fun B=>
            if B=true then
             some (.inl ())
            else
             some (.inr (.inr false)))
           (fun _=>
            some (.inl ()))
           z 0 ()
         else
          some (.inr false))
        (fun _=>
         (Zed append_0).bind fun C=>
         some (decide (((C.length:Nat):Int)≤6)))
        append_0.thn 0 ())
      append_0.cond 0 ()
    else
     some false
   else
    some false
  else
   some false
 else
  some false
noncomputable def ZHq (kind_0:Int):Option ByteArray:=
 if (kind_0==3)=true then
  some (⟨#[32,61,32]⟩)
 else
  if (kind_0==4)=true then
   some (⟨#[32,33,61,32]⟩)
  else
   some (⟨#[32,60,32]⟩)
noncomputable def Zh8 (a:ByteArray) (b:ByteArray):Option Int:=
 if (sLt a b)=true then
  some (-1)
 else
  if (sLt a b||sEq a b)=true then
   some 0
  else
   some 1
noncomputable def Xz (a_0:ByteArray) (b_1:ByteArray):Option Int:=
 (Zag a_0).bind fun b=>
 (Zag b_1).bind fun a=>
 if b.2=true then
  if a.2=true then
   if (decide (b.1<a.1))=true then
    some (-1)
   else
    if (decide (a.1<b.1))=true then
     some 1
    else
     some 0
  else
   some (-1)
 else
  if a.2=true then
   some 1
  else
   (Zh8 a_0 b_1).bind fun c=>
   some c
noncomputable def Xw (a_0:Zc) (a:Zc):Option Int:=
 if (sEq a_0.rel a.rel)=true then
  Zp (σ:=Unit)
   (fun (b:Nat) (d:ByteArray) _=>
    if (decide (((b:Nat):Int)<((a.args.length:Nat):Int)))=true then
     (atI a.args ((b:Nat):Int)).bind fun e=>
     (Xz d e).bind fun c=>
     if (c != 0)=true then
      some (.inr c)
     else
      some (.inl ())
    else
     if (decide (((a_0.args.length:Nat):Int)<((a.args.length:Nat):Int)))=true then
      some (.inr (-1))
     else
      if (decide (((a.args.length:Nat):Int)<((a_0.args.length:Nat):Int)))=true then
       some (.inr 1)
      else
       some (.inr 0))
   (fun _=>
    if (decide (((a_0.args.length:Nat):Int)<((a.args.length:Nat):Int)))=true then
     some (-1)
    else
     if (decide (((a.args.length:Nat):Int)<((a_0.args.length:Nat):Int)))=true then
      some 1
     else
      some 0)
   a_0.args 0 ()
 else
  (Zh8 a_0.rel a.rel).bind fun f=>
  some f
noncomputable def ZfK (l_0:(List ByteArray)):Option (List ByteArray):=
 chk (l_0.length≤1073741824) <|
 some l_0
noncomputable def XE (f_0:Zc):Option Zc:=
 (ZfK f_0.args).bind fun a=>
 some ({ rel:=f_0.rel,args:=a }:Zc)
noncomputable def ZcF (l_0:(List Zc)) (f_1:Zc):Option (List Zc):=
 Zp (σ:=(List Zc) × Bool)
  (fun (i21:Nat) (b:Zc) s=>
   match s with
   | (a,c)=>
   if c=true then
    (XE b).bind fun d=>
    chk (a.length+1≤1073741824) <|
    some (.inl ((a++[d]),true))
   else
    (Xw b f_1).bind fun e=>
    if (decide (0≤e))=true then
     (Xw b f_1).bind fun f=>
     if (decide (0<f))=true then
      (XE f_1).bind fun g=>
      chk (a.length+1≤1073741824) <|
      (XE b).bind fun i=>
      chk (a.length+1+1≤1073741824) <|
      some (.inl (((a++[g])++[i]),true))
     else
      (XE b).bind fun j=>
      chk (a.length+1≤1073741824) <|
      some (.inl ((a++[j]),true))
    else
     (XE b).bind fun k=>
     chk (a.length+1≤1073741824) <|
     some (.inl ((a++[k]),false)))
  (fun s=>
   match s with
   | (a,c)=>
   if c=true then
    some a
   else
    (XE f_1).bind fun l=>
    chk (a.length+1≤1073741824) <|
    some (a++[l]))
  l_0 0 ([],false)
noncomputable def ZfR (f_0:Zc):Option Bool:=
 Zp (σ:=Unit)
  (fun (i7:Nat) (a:ByteArray) _=>
   (QT a).bind fun b=>
   if b=true then
    some (.inl ())
   else
    some (.inr false))
  (fun _=>
   (ZdM f_0.rel).bind fun c=>
   if c=true then
    some (decide (((f_0.args.length:Nat):Int)≤3))
   else
    some false)
  f_0.args 0 ()
noncomputable def Zcb (a:(List Zc)):Option Bool:=
 Zp (σ:=Unit)
  (fun (b:Nat) (c:Zc) _=>
   (ZfR c).bind fun d=>
   if d=true then
    if (decide (0<((b:Nat):Int)))=true then
     (atI a (IntKind.i64.wrap (((b:Nat):Int) - 1))).bind fun e=>
     (Xw e c).bind fun f=>
     if (decide (0≤f))=true then
      some (.inr false)
     else
      some (.inl ())
    else
     some (.inl ())
   else
    some (.inr false))
  (fun _=>
   some (decide (((a.length:Nat):Int)≤24)))
  a 0 ()
noncomputable def ZaS (b_0:(List Zi)):Option (List Zi):=
 chk (b_0.length≤1073741824) <|
 some b_0
noncomputable def XU (a:(List Zi)):Option Bool:=
 Zp (σ:=Unit)
  (fun (c:Nat) (b:Zi) _=>
   (Za3 b.var).bind fun d=>
   if d=true then
    (QT b.value).bind fun e=>
    if e=true then
     if (decide (0<((c:Nat):Int)))=true then
      (atI a (IntKind.i64.wrap (((c:Nat):Int) - 1))).bind fun f=>
      if (sLt f.var b.var)=true then
       some (.inl ())
      else
       some (.inr false)
     else
      some (.inl ())
    else
     some (.inr false)
   else
    some (.inr false))
  (fun _=>
   some (decide (((a.length:Nat):Int)≤6)))
  a 0 ()
noncomputable def Zbj (b_0:(List Zi)) (term_1:ByteArray):Option (ByteArray × Bool):=
 (QT term_1).bind fun b=>
 if b=true then
  some (term_1,true)
 else
  Zp (σ:=Unit)
   (fun (i7:Nat) (a:Zi) _=>
    if (sEq a.var term_1)=true then
     (Za3 term_1).bind fun c=>
     if c=true then
      some (.inr (a.value,true))
     else
      some (.inl ())
    else
     some (.inl ()))
   (fun _=>
    some ((⟨#[]⟩),false))
   b_0 0 ()
noncomputable def ZjO (b_0:(List Zi)) (c:ByteArray) (value_2:ByteArray):Option (List Zi):=
 Zp (σ:=(List Zi) × Bool)
  (fun (i8:Nat) (b:Zi) s=>
   match s with
   | (a,d)=>
   if d=true then
    chk (a.length+1≤1073741824) <|
    some (.inl ((a++[b]),true))
   else
    if (sLt b.var c||sEq b.var c)=true then
     chk (a.length+1≤1073741824) <|
     some (.inl ((a++[b]),false))
    else
     chk (a.length+1≤1073741824) <|
     chk (a.length+1+1≤1073741824) <|
     some (.inl (((a++[({ var:=c,value:=value_2 }:Zi)])++[b]),true)))
  (fun s=>
   match s with
   | (a,d)=>
   if d=true then
    some a
   else
    chk (a.length+1≤1073741824) <|
    some (a++[({ var:=c,value:=value_2 }:Zi)]))
  b_0 0 ([],false)
noncomputable def Zhm (b_0:(List Zi)) (v_1:ByteArray) (value_2:ByteArray):Option ((List Zi) × Bool):=
 (XU b_0).bind fun b=>
 if b=true then
  (Za3 v_1).bind fun c=>
  if c=true then
   (QT value_2).bind fun d=>
   if d=true then
    (Zbj b_0 v_1).bind fun a=>
    if a.2=true then
     if (sEq a.1 value_2)=true then
      (ZaS b_0).bind fun e=>
      some (e,true)
     else
      some ([],false)
    else
     if (((b_0.length:Nat):Int)==6)=true then
      some ([],false)
     else
      (ZjO b_0 v_1 value_2).bind fun f=>
      some (f,true)
   else
    some ([],false)
  else
   some ([],false)
 else
  some ([],false)
noncomputable def Zbp (append_0:Zx) (a:Zc) (a_2:(List Zi)):Option ((List Zi) × Bool):=
 (Xq append_0).bind fun f=>
 if f=true then
  (ZfR a).bind fun g=>
  if g=true then
   (XU a_2).bind fun i=>
   if i=true then
    if (sEq append_0.rel a.rel)=true then
     if (((append_0.args.length:Nat):Int) != ((a.args.length:Nat):Int))=true then
      some ([],false)
     else
      (ZaS a_2).bind fun j=>
      Zp (σ:=(List Zi))
       (fun (d:Nat) (c:ByteArray) b=>
        (QT c).bind fun k=>
        if k=true then
         (atI a.args ((d:Nat):Int)).bind fun l=>
         if (sEq c l)=true then
          some (.inl b)
         else
          some (.inr ([],false))
        else
         (atI a.args ((d:Nat):Int)).bind fun m=>
         (Zhm b c m).bind fun e=>
         if e.2=true then
          some (.inl e.1)
         else
          some (.inr ([],false)))
       (fun b=>
        some (b,true))
       append_0.args 0 j
    else
     some ([],false)
   else
    some ([],false)
  else
   some ([],false)
 else
  some ([],false)
noncomputable def Zbg (l_0:(List Zc)):Option (List Zc):=
 Zp (σ:=(List Zc))
  (fun (i7:Nat) (b:Zc) a=>
   (XE b).bind fun c=>
   chk (a.length+1≤1073741824) <|
   some (.inl (a++[c])))
  (fun a=>
   some a)
  l_0 0 []
noncomputable def XQ (p_0:Zx) (b_1:(List Zi)) (facts_2:(List Zc)):Option (List Zc):=
 Zp (σ:=(List Zc))
  (fun (i9:Nat) (b:Zc) a=>
   (Zbp p_0 b b_1).bind fun c=>
   if c.2=true then
    (XE b).bind fun d=>
    chk (a.length+1≤1073741824) <|
    some (.inl (a++[d]))
   else
    some (.inl a))
  (fun a=>
   some a)
  facts_2 0 []
noncomputable def Zd3 (s_0:ByteArray):Option Bool:=
 (Zag s_0).bind fun a=>
 some a.2
noncomputable def ZcI (x_0:Zl) (b_1:(List Zi)):Option Bool:=
 (ZbV x_0).bind fun c=>
 if c=true then
  (XU b_1).bind fun d=>
  if d=true then
   (Zbj b_1 x_0.left).bind fun a=>
   (Zbj b_1 x_0.right).bind fun b=>
   if a.2=true then
    if b.2=true then
     if (x_0.kind==3)=true then
      some (sEq a.1 b.1)
     else
      if (x_0.kind==4)=true then
       some (!(sEq a.1 b.1))
      else
       (Zd3 a.1).bind fun e=>
       if e=true then
        (Zd3 b.1).bind fun f=>
        if f=true then
         (Xz a.1 b.1).bind fun g=>
         some (decide (g<0))
        else
         some false
       else
        some false
    else
     some false
   else
    some false
  else
   some false
 else
  some false
noncomputable def ZcP (x_0:Zl) (a:(List Zi)) (b:(List Zc)):Option Bool:=
 (Zej x_0).bind fun c=>
 if c=true then
  (XU a).bind fun d=>
  if d=true then
   if (x_0.kind==1)=true then
    (XQ x_0.pattern a b).bind fun e=>
    some (decide (0<((e.length:Nat):Int)))
   else
    if (x_0.kind==2)=true then
     (XQ x_0.pattern a b).bind fun f=>
     some (((f.length:Nat):Int)==0)
    else
     (ZcI x_0 a).bind fun g=>
     some g
  else
   some false
 else
  some false
noncomputable def ZgP (t_0:Zq):Option Zq:=
 (Zbg t_0.facts).bind fun a=>
 (ZaS t_0.binding).bind fun b=>
 some ({ facts:=a,binding:=b }:Zq)
noncomputable def Zhz (append_0:(List Zq)) (String_1:Zl) (a_2:(List Zc)):Option (List Zq):=
 Zp (σ:=(List Zq))
  (fun (i45:Nat) (c:Zq) a=>
   if (String_1.kind != 1)=true then
    (ZcP String_1 c.binding a_2).bind fun g=>
    if g=true then
     (ZgP c).bind fun i=>
     chk (a.length+1≤1073741824) <|
     some (.inl (a++[i]))
    else
     some (.inl a)
   else
    Zp (σ:=(List Zq))
     (fun (i59:Nat) (d:Zc) b=>
      (Zbp String_1.pattern d c.binding).bind fun e=>
      if e.2=true then
       (Zbg c.facts).bind fun f=>
       (XE d).bind fun j=>
       chk (f.length+1≤1073741824) <|
       chk (b.length+1≤1073741824) <|
       some (.inl (b++[({ facts:=(f++[j]),binding:=e.1 }:Zq)]))
      else
       some (.inl b))
     (fun b=>
      some (.inl b))
     a_2 0 a)
  (fun a=>
   some a)
  append_0 0 []
noncomputable def Zaa (l_0:(List Zl)) (facts_1:(List Zc)):Option (List Zq):=
 Zp (σ:=(List Zq))
  (fun (i7:Nat) (b:Zl) a=>
   (Zhz a b facts_1).bind fun c=>
   some (.inl c))
  (fun a=>
   some a)
  l_0 0 ([({ facts:=[],binding:=[] }:Zq)])
noncomputable def XA (p_0:Zx) (b_1:(List Zi)):Option (Zc × Bool):=
 (Xq p_0).bind fun c=>
 if c=true then
  (XU b_1).bind fun d=>
  if d=true then
   Zp (σ:=(List ByteArray))
    (fun (i11:Nat) (e:ByteArray) a=>
     (Zbj b_1 e).bind fun b=>
     if b.2=true then
      chk (a.length+1≤1073741824) <|
      some (.inl (a++[b.1]))
     else
      some (.inr (({ rel:=(⟨#[]⟩),args:=[] }:Zc),false)))
    (fun a=>
     some (({ rel:=p_0.rel,args:=a }:Zc),true))
    p_0.args 0 []
  else
   some (({ rel:=(⟨#[]⟩),args:=[] }:Zc),false)
 else
  some (({ rel:=(⟨#[]⟩),args:=[] }:Zc),false)
noncomputable def X8 (r_0:Zg):Option (List Zl):=
 Zp (σ:=(List Zl))
  (fun (i6:Nat) (b:Zl) a=>
   if (b.kind != 2)=true then
    chk (a.length+1≤1073741824) <|
    some (.inl (a++[b]))
   else
    some (.inl a))
  (fun a=>
   some a)
  r_0.cond 0 []
noncomputable def Zd6 (a_0:(List ByteArray)) (b_1:(List ByteArray)):Option Bool:=
 Zp (σ:=Unit)
  (fun (i6:Nat) (a:ByteArray) _=>
   (ZW b_1 a).bind fun b=>
   if b=true then
    some (.inl ())
   else
    some (.inr false))
  (fun _=>
   some true)
  a_0 0 ()
noncomputable def Zc1 (r_0:Zg):Option Bool:=
 (ZcZ r_0).bind fun b=>
 if b=true then
  Zp (σ:=Unit)
   (fun (i16:Nat) (a:Zl) _=>
    if (a.kind==2)=true then
     (X3 a).bind fun c=>
     (QH r_0 ((i16:Nat):Int)).bind fun d=>
     (Zd6 c d).bind fun e=>
     if e=true then
      some (.inl ())
     else
      some (.inr false)
    else
     some (.inl ()))
   (fun _=>
    Zp (σ:=Unit)
     (fun (i24:Nat) (f:Zu) _=>
      if (f.kind != 1)=true then
       some (.inr false)
      else
       some (.inl ()))
     (fun _=>
      some true)
     r_0.thn 0 ())
   r_0.cond 0 ()
 else
  some false
noncomputable def Q9 (r_0:Zg):Option (List ByteArray):=
 Zp (σ:=(List ByteArray))
  (fun (i9:Nat) (b:Zu) a=>
   if (b.kind==1)=true then
    (Qd a b.pattern.rel).bind fun c=>
    some (.inl c)
   else
    if (b.kind==2)=true then
     (Qd a b.pattern.rel).bind fun d=>
     some (.inl d)
    else
     some (.inl a))
  (fun a=>
   some a)
  r_0.thn 0 []
noncomputable def Zct (r_0:Zg):Option (List ByteArray):=
 Zp (σ:=(List ByteArray))
  (fun (i9:Nat) (b:Zl) a=>
   if (b.kind==1)=true then
    (Qd a b.pattern.rel).bind fun c=>
    some (.inl c)
   else
    if (b.kind==2)=true then
     (Qd a b.pattern.rel).bind fun d=>
     some (.inl d)
    else
     some (.inl a))
  (fun a=>
   some a)
  r_0.cond 0 []
noncomputable def Zb2 (append_0:(List Zg)) (String_1:ByteArray) (a_2:ByteArray):Option Bool:=
 XI (σ:=(List ByteArray) × Int)
  (fun s=>
   match s with
   | (d,c)=>
   if (decide (c<((d.length:Nat):Int)))=true then
    Zp (σ:=(List ByteArray))
     (fun (i93:Nat) (e:Zg) a=>
      (Q9 e).bind fun i=>
      chk (0≤c∧c<((a.length:Nat):Int)) <|
      (a[(A3 c)]?).bind fun j=>
      (ZW i j).bind fun k=>
      if k=true then
       (Zct e).bind fun f=>
       (ZW f a_2).bind fun l=>
       if l=true then
        some (.inr (.inr true))
       else
        Zp (σ:=(List ByteArray))
         (fun (i108:Nat) (g:ByteArray) b=>
          (ZW b g).bind fun m=>
          if m=true then
           some (.inl b)
          else
           chk (b.length+1≤1073741824) <|
           some (.inl (b++[g])))
         (fun b=>
          some (.inl b))
         f 0 a
      else
       some (.inl a))
     (fun a=>
      some (.inl (a,(IntKind.i64.wrap (c+1)))))
     append_0 0 d
   else
    some (.inr false))
  ([String_1],0)
noncomputable def Zga (l_0:(List Zg)) (name_1:ByteArray):Option Int:=
 Zp (σ:=Unit)
  (fun (i4:Nat) (a:Zg) _=>
   if (sEq a.name name_1)=true then
    some (.inr ((i4:Nat):Int))
   else
    some (.inl ()))
  (fun _=>
   some (-1))
  l_0 0 ()
noncomputable def Zd4 (l_0:(List Zg)):Option Bool:=
 Zp (σ:=Unit)
  (fun (i8:Nat) (a:Zg) _=>
   (ZcZ a).bind fun b=>
   if b=true then
    (Zga l_0 a.name).bind fun c=>
    if (c != ((i8:Nat):Int))=true then
     some (.inr false)
    else
     some (.inl ())
   else
    some (.inr false))
  (fun _=>
   some (decide (((l_0.length:Nat):Int)≤6)))
  l_0 0 ()
noncomputable def Zb0 (append_0:(List Zg)):Option Bool:=
 Zp (σ:=Unit)
  (fun (i67:Nat) (a:Zg) _=>
   (Zc1 a).bind fun d=>
   if d=true then
    (Q9 a).bind fun e=>
    Zp (σ:=Unit)
     (fun (i90:Nat) (b:Zl) _=>
      Zp (σ:=Unit)
       (fun (i97:Nat) (c:ByteArray) _=>
        if (b.kind==2)=true then
         if (sEq b.pattern.rel c)=true then
          some (.inr (.inr (.inr false)))
         else
          (Zb2 append_0 b.pattern.rel c).bind fun f=>
          if f=true then
           some (.inr (.inr (.inr false)))
          else
           some (.inl ())
        else
         some (.inr (.inl ())))
       (fun _=>
        some (.inl ()))
       e 0 ())
     (fun _=>
      some (.inl ()))
     a.cond 0 ()
   else
    some (.inr false))
  (fun _=>
   (Zd4 append_0).bind fun g=>
   some g)
  append_0 0 ()
noncomputable def YA (append_0:(List Zg)) (String_1:(List Zc)):Option ((List Zc) × Bool):=
 (Zb0 append_0).bind fun f=>
 if f=true then
  (Zcb String_1).bind fun g=>
  if g=true then
   (Zbg String_1).bind fun i=>
   XI (σ:=(List Zc) × Bool)
    (fun s=>
     match s with
     | (a,j)=>
     if j=true then
      Zp (σ:=(List Zc))
       (fun (i311:Nat) (e:Zg) b=>
        (X8 e).bind fun k=>
        (Zaa k a).bind fun l=>
        Zp (σ:=(List Zc))
         (fun (i355:Nat) (m:Zq) c=>
          Zp (σ:=(List Zc))
           (fun (i368:Nat) (o:Zu) d=>
            (XA o.pattern m.binding).bind fun p=>
            (ZcF d p.1).bind fun q=>
            some (.inl q))
           (fun d=>
            some (.inl d))
           e.thn 0 c)
         (fun c=>
          if (decide (24<((c.length:Nat):Int)))=true then
           some (.inr (.inr ([],false)))
          else
           some (.inl c))
         l 0 b)
       (fun b=>
        some (.inl (b,(decide (((a.length:Nat):Int)<((b.length:Nat):Int))))))
       append_0 0 a
     else
      some (.inr (a,true)))
    (i,true)
  else
   some ([],false)
 else
  some ([],false)
noncomputable def Ze7 (a_0:(List ByteArray)) (a:(List ByteArray)):Option Bool:=
 if (((a_0.length:Nat):Int) != ((a.length:Nat):Int))=true then
  some false
 else
  Zp (σ:=Unit)
   (fun (b:Nat) (c:ByteArray) _=>
    (atI a ((b:Nat):Int)).bind fun d=>
    if (sEq c d)=true then
     some (.inl ())
    else
     some (.inr false))
   (fun _=>
    some true)
   a_0 0 ()
noncomputable def Zm2 (a_0:Zc) (b_1:Zc):Option Bool:=
 if (sEq a_0.rel b_1.rel)=true then
  (Ze7 a_0.args b_1.args).bind fun a=>
  some a
 else
  some false
noncomputable def Zbb (l_0:(List Zc)) (f_1:Zc):Option Int:=
 Zp (σ:=Unit)
  (fun (i6:Nat) (a:Zc) _=>
   (Zm2 a f_1).bind fun b=>
   if b=true then
    some (.inr ((i6:Nat):Int))
   else
    some (.inl ()))
  (fun _=>
   some (-1))
  l_0 0 ()
noncomputable def ZhE (l_0:(List Int)) (x_1:Int):Option (List Int):=
 Zp (σ:=(List Int) × Bool)
  (fun (i7:Nat) (b:Int) s=>
   match s with
   | (a,c)=>
   if c=true then
    chk (a.length+1≤1073741824) <|
    some (.inl ((a++[b]),true))
   else
    if (decide (x_1≤b))=true then
     if (b != x_1)=true then
      chk (a.length+1≤1073741824) <|
      chk (a.length+1+1≤1073741824) <|
      some (.inl (((a++[x_1])++[b]),true))
     else
      chk (a.length+1≤1073741824) <|
      some (.inl ((a++[b]),true))
    else
     chk (a.length+1≤1073741824) <|
     some (.inl ((a++[b]),false)))
  (fun s=>
   match s with
   | (a,c)=>
   if c=true then
    some a
   else
    chk (a.length+1≤1073741824) <|
    some (a++[x_1]))
  l_0 0 ([],false)
noncomputable def Zcn (l_0:(List Zc)) (facts_1:(List Zc)):Option (List Int):=
 Zp (σ:=(List Int))
  (fun (i9:Nat) (c:Zc) a=>
   (Zbb l_0 c).bind fun b=>
   if (decide (0≤b))=true then
    (ZhE a b).bind fun d=>
    some (.inl d)
   else
    some (.inl a))
  (fun a=>
   some a)
  facts_1 0 []
noncomputable def ZbA (c:Zg) (e:Int) (b:Zq) (a_3:(List Zc)):Option Zf:=
 (atI c.thn e).bind fun f=>
 (XA f.pattern b.binding).bind fun g=>
 Zp (σ:=(List Zc))
  (fun (i12:Nat) (d:Zl) a=>
   if (d.kind==2)=true then
    (XA d.pattern b.binding).bind fun i=>
    chk (a.length+1≤1073741824) <|
    some (.inl (a++[i.1]))
   else
    some (.inl a))
  (fun a=>
   (Zbb a_3 g.1).bind fun j=>
   (Zcn a_3 b.facts).bind fun k=>
   (Zcn a_3 a).bind fun l=>
   some ({ for_:=j,inn:=k,outs:=l }:Zf))
  c.cond 0 []
noncomputable def Zb3 (a_0:(List Int)) (a:(List Int)):Option Bool:=
 if (((a_0.length:Nat):Int) != ((a.length:Nat):Int))=true then
  some false
 else
  Zp (σ:=Unit)
   (fun (b:Nat) (c:Int) _=>
    (atI a ((b:Nat):Int)).bind fun d=>
    if (c != d)=true then
     some (.inr false)
    else
     some (.inl ()))
   (fun _=>
    some true)
   a_0 0 ()
noncomputable def Zfz (l_0:(List Zf)) (r_1:Zf):Option Int:=
 Zp (σ:=Unit)
  (fun (i8:Nat) (a:Zf) _=>
   if (a.for_==r_1.for_)=true then
    (Zb3 a.inn r_1.inn).bind fun b=>
    if b=true then
     (Zb3 a.outs r_1.outs).bind fun c=>
     if c=true then
      some (.inr ((i8:Nat):Int))
     else
      some (.inl ())
    else
     some (.inl ())
   else
    some (.inl ()))
  (fun _=>
   some (-1))
  l_0 0 ()
noncomputable def XZ (append_0:(List Zg)) (String_1:(List Zc)):Option ((List Zc) × Zt × (List XR) × Bool):=
 (YA append_0 String_1).bind fun b=>
 if b.2=true then
  Zp (σ:=(List Zf) × (List XR))
   (fun (i255:Nat) (o:Zc) s=>
    match s with
    | (d,e)=>
    (Zbb b.1 o).bind fun p=>
    chk (d.length+1≤1073741824) <|
    chk (e.length+1≤1073741824) <|
    some (.inl ((d++[({ for_:=p,inn:=[],outs:=[] }:Zf)]),(e++[({ rule:=(⟨#[]⟩),token:=({ facts:=[],binding:=[] }:Zq) }:XR)]))))
   (fun s=>
    match s with
    | (d,e)=>
    Zp (σ:=(List Zf) × (List XR))
     (fun (i446:Nat) (f:Zg) s=>
      match s with
      | (g,i)=>
      (X8 f).bind fun q=>
      (Zaa q b.1).bind fun t=>
      Zp (σ:=(List Zf) × (List XR))
       (fun (i487:Nat) (l:Zq) s=>
        match s with
        | (j,k)=>
        Zp (σ:=(List Zf) × (List XR))
         (fun (i498:Nat) (v:Zu) s=>
          match s with
          | (a,c)=>
          (ZbA f ((i498:Nat):Int) l b.1).bind fun m=>
          (Zfz a m).bind fun u=>
          if (decide (0≤u))=true then
           some (.inl (a,c))
          else
           if (decide (60≤((a.length:Nat):Int)))=true then
            some (.inr (.inr (.inr ([],({ nodes:=0,reasons:=[] }:Zt),[],false))))
           else
            chk (a.length+1≤1073741824) <|
            chk (c.length+1≤1073741824) <|
            some (.inl ((a++[m]),(c++[({ rule:=f.name,token:=l }:XR)]))))
         (fun s=>
          match s with
          | (a,c)=>
          some (.inl (a,c)))
         f.thn 0 (j,k))
       (fun s=>
        match s with
        | (j,k)=>
        some (.inl (j,k)))
       t 0 (g,i))
     (fun s=>
      match s with
      | (g,i)=>
      some (b.1,({ nodes:=((b.1.length:Nat):Int),reasons:=g }:Zt),i,true))
     append_0 0 (d,e))
   String_1 0 ([],[])
 else
  some ([],({ nodes:=0,reasons:=[] }:Zt),[],false)
noncomputable def QX (rules_0:(List Zg)) (base_1:(List Zc)):Option ((List Zc) × Zt × Bool):=
 (XZ rules_0 base_1).bind fun a=>
 if a.2.2.2=true then
  some (a.1,a.2.1,true)
 else
  some ([],({ nodes:=0,reasons:=[] }:Zt),false)
noncomputable def Zci (a:(List Int)) (n_1:Int):Option Bool:=
 Zp (σ:=Unit)
  (fun (b:Nat) (c:Int) _=>
   (Qr c 0 (IntKind.i64.wrap (n_1 - 1))).bind fun d=>
   if d=true then
    if (decide (0<((b:Nat):Int)))=true then
     (atI a (IntKind.i64.wrap (((b:Nat):Int) - 1))).bind fun e=>
     if (decide (c≤e))=true then
      some (.inr false)
     else
      some (.inl ())
    else
     some (.inl ())
   else
    some (.inr false))
  (fun _=>
   some true)
  a 0 ()
noncomputable def ZcJ (b_0:Zt):Option Bool:=
 Zp (σ:=Unit)
  (fun (i11:Nat) (a:Zf) _=>
   (Qr a.for_ 0 (IntKind.i64.wrap (b_0.nodes - 1))).bind fun b=>
   if b=true then
    (Zci a.inn b_0.nodes).bind fun c=>
    if c=true then
     (Zci a.outs b_0.nodes).bind fun d=>
     if d=true then
      some (.inl ())
     else
      some (.inr false)
    else
     some (.inr false)
   else
    some (.inr false))
  (fun _=>
   (Qr b_0.nodes 0 24).bind fun e=>
   if e=true then
    some (decide (((b_0.reasons.length:Nat):Int)≤60))
   else
    some false)
  b_0.reasons 0 ()
noncomputable def Zjo (l_0:(List Int)):Option (List Int):=
 chk (l_0.length≤1073741824) <|
 some l_0
noncomputable def ZdN (g:Zt) (o:Int):Option (List Bool):=
 chk (0≤g.nodes∧g.nodes≤1073741824) <|
 XI (σ:=(List Bool) × (List Int) × Int)
  (fun s=>
   match s with
   | (l,m,d)=>
   if (decide (d<((m.length:Nat):Int)))=true then
    Zp (σ:=(List Bool) × (List Int))
     (fun (i95:Nat) (a:Zf) s=>
      match s with
      | (i,b)=>
      chk (0≤d∧d<((b.length:Nat):Int)) <|
      (b[(A3 d)]?).bind fun p=>
      if (a.for_ != p)=true then
       some (.inl (i,b))
      else
       (Zjo a.inn).bind fun j=>
       chk (j.length+a.outs.length≤1073741824) <|
       XI (σ:=(List Bool) × (List Int) × Int)
        (fun s=>
         match s with
         | (e,k,c)=>
         if (decide (c<((j.length+a.outs.length:Nat):Int)))=true then
          chk (0≤c∧c<((j.length+a.outs.length:Nat):Int)) <|
          ((j++a.outs)[(A3 c)]?).bind fun f=>
          chk (0≤f∧f<((e.length:Nat):Int)) <|
          (e[(A3 f)]?).bind fun q=>
          if q=true then
           some (.inl (e,k,(IntKind.i64.wrap (c+1))))
          else
           chk (k.length+1≤1073741824) <|
           some (.inl ((AD e (A3 f) true),(k++[f]),(IntKind.i64.wrap (c+1))))
         else
          some (.inr (.inl (e,k))))
        (i,b,0))
     (fun s=>
      match s with
      | (i,b)=>
      some (.inl (i,b,(IntKind.i64.wrap (d+1)))))
     g.reasons 0 (l,m)
   else
    some (.inr l))
  ((AO (A3 g.nodes) false),[o],0)
noncomputable def Qx (b_0:Zt):Option Bool:=
 (ZcJ b_0).bind fun d=>
 if d=true then
  Zp (σ:=Unit)
   (fun (i27:Nat) (a:Zf) _=>
    Zp (σ:=Unit)
     (fun (i36:Nat) (b:Int) _=>
      if (b==a.for_)=true then
       some (.inr (.inr false))
      else
       (ZdN b_0 b).bind fun c=>
       chk (0≤a.for_∧a.for_<((c.length:Nat):Int)) <|
       (c[(A3 a.for_)]?).bind fun e=>
       if e=true then
        some (.inr (.inr false))
       else
        some (.inl ()))
     (fun _=>
      some (.inl ()))
     a.outs 0 ())
   (fun _=>
    some true)
   b_0.reasons 0 ()
 else
  some false
noncomputable def Zeb (d:Zt):Option (List Int):=
 (Qx d).bind fun p=>
 if p=true then
  chk (0≤d.nodes∧d.nodes≤1073741824) <|
  XI (σ:=(List Int) × Int)
   (fun s=>
    match s with
    | (i,j)=>
    if (decide (j≤d.nodes))=true then
     Zp (σ:=(List Int))
      (fun (i194:Nat) (a:Zf) e=>
       Zp (σ:=(List Int))
        (fun (i216:Nat) (f:Int) b=>
         chk (0≤a.for_∧a.for_<((b.length:Nat):Int)) <|
         (b[(A3 a.for_)]?).bind fun k=>
         chk (0≤f∧f<((b.length:Nat):Int)) <|
         (b[(A3 f)]?).bind fun l=>
         some (.inl (AD b (A3 a.for_) (if k<l then l else k))))
        (fun b=>
         Zp (σ:=(List Int))
          (fun (i228:Nat) (g:Int) c=>
           chk (0≤a.for_∧a.for_<((c.length:Nat):Int)) <|
           (c[(A3 a.for_)]?).bind fun m=>
           chk (0≤g∧g<((c.length:Nat):Int)) <|
           (c[(A3 g)]?).bind fun o=>
           some (.inl (AD c (A3 a.for_) (if m<(IntKind.i64.wrap (o+1)) then (IntKind.i64.wrap (o+1)) else m))))
          (fun c=>
           some (.inl c))
          a.outs 0 b)
        a.inn 0 e)
      (fun e=>
       some (.inl (e,(IntKind.i64.wrap (j+1)))))
      d.reasons 0 i
    else
     some (.inr i))
   ((AO (A3 d.nodes) 0),0)
 else
  some []
noncomputable def Zc5 (l_0:(List Int)) (b:(List Int)) (round_2:Int):Option Bool:=
 Zp (σ:=Unit)
  (fun (i6:Nat) (c:Int) _=>
   (atI b c).bind fun a=>
   if (decide (a<0))=true then
    some (.inr false)
   else
    if (decide (round_2≤a))=true then
     some (.inr false)
    else
     some (.inl ()))
  (fun _=>
   some true)
  l_0 0 ()
noncomputable def ZfV (l_0:(List Int)) (a:(List Int)):Option Bool:=
 Zp (σ:=Unit)
  (fun (i6:Nat) (b:Int) _=>
   (atI a b).bind fun c=>
   if (decide (0≤c))=true then
    some (.inr false)
   else
    some (.inl ()))
  (fun _=>
   some true)
  l_0 0 ()
noncomputable def Zce (append_0:Zt) (e:(List Int)) (a_2:Int) (c:(List Int)) (a_4:Int):Option (List Int):=
 XI (σ:=(List Int) × Int)
  (fun s=>
   match s with
   | (b,a)=>
   if (decide (a<append_0.nodes))=true then
    (atI e a).bind fun f=>
    if (f != a_2)=true then
     some (.inl (b,(IntKind.i64.wrap (a+1))))
    else
     (atI c a).bind fun g=>
     if (decide (0≤g))=true then
      some (.inl (b,(IntKind.i64.wrap (a+1))))
     else
      Zp (σ:=Unit)
       (fun (i38:Nat) (d:Zf) _=>
        if (d.for_==a)=true then
         (Zc5 d.inn c a_4).bind fun i=>
         if i=true then
          (ZfV d.outs c).bind fun j=>
          if j=true then
           chk (b.length+1≤1073741824) <|
           some (.inr (.inl ((b++[a]),(IntKind.i64.wrap (a+1)))))
          else
           some (.inl ())
         else
          some (.inl ())
        else
         some (.inl ()))
       (fun _=>
        some (.inl (b,(IntKind.i64.wrap (a+1)))))
       append_0.reasons 0 ()
   else
    some (.inr b))
  ([],0)
noncomputable def Zee (b_0:Zt):Option (List Int):=
 (Qx b_0).bind fun m=>
 if m=true then
  (Zeb b_0).bind fun g=>
  XI (σ:=(List Int) × Int)
   (fun s=>
    match s with
    | (e,i)=>
    if (decide (i<b_0.nodes))=true then
     chk (e.length+1≤1073741824) <|
     some (.inl ((e++[(-1)]),(IntKind.i64.wrap (i+1))))
    else
     XI (σ:=(List Int) × Int × Int)
      (fun s=>
       match s with
       | (f,j,b)=>
       if (decide (b<b_0.nodes))=true then
        (Zce b_0 g b f j).bind fun o=>
        XI (σ:=(List Int) × (List Int) × Int)
         (fun s=>
          match s with
          | (k,l,c)=>
          if (decide (0<((l.length:Nat):Int)))=true then
           Zp (σ:=(List Int))
            (fun (i56:Nat) (d:Int) a=>
             chk (0≤d∧d<((a.length:Nat):Int)) <|
             (a[(A3 d)]?).bind fun q=>
             some (.inl (AD a (A3 d) c)))
            (fun a=>
             (Zce b_0 g b a (IntKind.i64.wrap (c+1))).bind fun p=>
             some (.inl (a,p,(IntKind.i64.wrap (c+1)))))
            l 0 k
          else
           some (.inr (.inl (k,c,(IntKind.i64.wrap (b+1))))))
         (f,o,j)
       else
        some (.inr (.inr f)))
      (e,0,0))
   ([],0)
 else
  some []
noncomputable def Zeu (b_0:Zt):Option (List Bool):=
 (Zee b_0).bind fun b=>
 Zp (σ:=(List Bool))
  (fun (i6:Nat) (c:Int) a=>
   chk (a.length+1≤1073741824) <|
   some (.inl (a++[(decide (0≤c))])))
  (fun a=>
   some a)
  b 0 []
noncomputable def ZjI (l_0:(List Zc)) (b_1:Zt):Option (List Zc):=
 (Zeu b_1).bind fun b=>
 Zp (σ:=(List Zc))
  (fun (i10:Nat) (c:Zc) a=>
   if (decide (((i10:Nat):Int)<((b.length:Nat):Int)))=true then
    chk (0≤((i10:Nat):Int)∧((i10:Nat):Int)<((b.length:Nat):Int)) <|
    (b[i10]?).bind fun d=>
    if d=true then
     (XE c).bind fun e=>
     chk (a.length+1≤1073741824) <|
     some (.inl (a++[e]))
    else
     some (.inl a)
   else
    some (.inr a))
  (fun a=>
   some a)
  l_0 0 []
noncomputable def ZfH (rules_0:(List Zg)) (base_1:(List Zc)):Option ((List Zc) × Bool):=
 (QX rules_0 base_1).bind fun a=>
 if a.2.2=true then
  (ZjI a.1 a.2.1).bind fun b=>
  some (b,true)
 else
  some ([],false)
noncomputable def ZHX (l_0:(List ByteArray)) (sep_1:ByteArray):Option ByteArray:=
 Zp (σ:=ByteArray)
  (fun (i6:Nat) (b:ByteArray) a=>
   if (decide (0<((i6:Nat):Int)))=true then
    chk (a.size+sep_1.size≤9223372036854775807) <|
    chk ((a++sep_1).size+b.size≤9223372036854775807) <|
    some (.inl ((a++sep_1)++b))
   else
    chk (a.size+b.size≤9223372036854775807) <|
    some (.inl (a++b)))
  (fun a=>
   some a)
  l_0 0 (⟨#[]⟩)
noncomputable def ZG1 (p_0:Zx):Option ByteArray:=
 (Xq p_0).bind fun b=>
 if b=true then
  chk (p_0.rel.size+(⟨#[40]⟩:ByteArray).size≤9223372036854775807) <|
  (ZHX p_0.args (⟨#[44]⟩)).bind fun a=>
  chk ((p_0.rel++(⟨#[40]⟩:ByteArray)).size+a.size≤9223372036854775807) <|
  chk (((p_0.rel++(⟨#[40]⟩:ByteArray))++a).size+(⟨#[41]⟩:ByteArray).size≤9223372036854775807) <|
  some (((p_0.rel++(⟨#[40]⟩:ByteArray))++a)++(⟨#[41]⟩:ByteArray))
 else
  some (⟨#[]⟩)
noncomputable def ZG7 (x_0:Zl):Option ByteArray:=
 (Zej x_0).bind fun c=>
 if c=true then
  if (x_0.kind==1)=true then
   (ZG1 x_0.pattern).bind fun d=>
   some d
  else
   if (x_0.kind==2)=true then
    (ZG1 x_0.pattern).bind fun b=>
    chk ((⟨#[110,111,116,32]⟩:ByteArray).size+b.size≤9223372036854775807) <|
    some ((⟨#[110,111,116,32]⟩:ByteArray)++b)
   else
    (ZHq x_0.kind).bind fun a=>
    chk (x_0.left.size+a.size≤9223372036854775807) <|
    chk ((x_0.left++a).size+x_0.right.size≤9223372036854775807) <|
    some ((x_0.left++a)++x_0.right)
 else
  some (⟨#[]⟩)
noncomputable def Zck (a:Zg) (b:Int) (c:(List Zc)):Option (List Zq):=
 (ZcZ a).bind fun d=>
 if d=true then
  (Zcb c).bind fun e=>
  if e=true then
   (Qr b 0 ((a.cond.length:Nat):Int)).bind fun f=>
   if f=true then
    chk (0≤b∧b≤((a.cond.length:Nat):Int)) <|
    (Zaa (AX 0 (List.take (A3 b) a.cond)) c).bind fun g=>
    some g
   else
    some []
  else
   some []
 else
  some []
noncomputable def ZHm (b_0:(List Zi)) (aim_1:(List Zi)):Option Bool:=
 Zp (σ:=Unit)
  (fun (i6:Nat) (a:Zi) _=>
   (Zbj aim_1 a.var).bind fun b=>
   if b.2=true then
    if (sEq b.1 a.value)=true then
     some (.inl ())
    else
     some (.inr false)
   else
    some (.inl ()))
  (fun _=>
   some true)
  b_0 0 ()
noncomputable def ZHs (r_0:Zg) (model_1:(List Zc)) (aim_2:(List Zi)):Option Int:=
 XI (σ:=Int × Int)
  (fun s=>
   match s with
   | (c,a)=>
   if (decide (a≤((r_0.cond.length:Nat):Int)))=true then
    (Zck r_0 a model_1).bind fun d=>
    Zp (σ:=Int)
     (fun (i29:Nat) (e:Zq) b=>
      (ZHm e.binding aim_2).bind fun f=>
      if f=true then
       some (.inl a)
      else
       some (.inl b))
     (fun b=>
      some (.inl (b,(IntKind.i64.wrap (a+1)))))
     d 0 c
   else
    some (.inr c))
  (0,0)
noncomputable def ZHi (append_0:(List Zg)) (String_1:(List Zc)) (d:Zc):Option ((List Zwt) × Bool):=
 (ZfH append_0 String_1).bind fun e=>
 if e.2=true then
  (ZfR d).bind fun i=>
  if i=true then
   (Zbb e.1 d).bind fun j=>
   if (decide (0≤j))=true then
    some ([],false)
   else
    Zp (σ:=(List Zwt))
     (fun (i34:Nat) (b:Zg) f=>
      Zp (σ:=(List Zwt))
       (fun (i48:Nat) (k:Zu) a=>
        (Zbp k.pattern d []).bind fun g=>
        if g.2=true then
         (ZHs b e.1 g.1).bind fun c=>
         if (decide (c<((b.cond.length:Nat):Int)))=true then
          (atI b.cond c).bind fun l=>
          (ZG7 l).bind fun m=>
          chk (a.length+1≤1073741824) <|
          some (.inl (a++[({ rule:=b.name,done:=c,cond:=m }:Zwt)]))
         else
          chk (a.length+1≤1073741824) <|
          some (.inl (a++[({ rule:=b.name,done:=c,cond:=(⟨#[]⟩) }:Zwt)]))
        else
         some (.inl a))
       (fun a=>
        some (.inl a))
       b.thn 0 f)
     (fun f=>
      some (f,true))
     append_0 0 []
  else
   some ([],false)
 else
  some ([],false)
end
theorem ZdQ (a b:ByteArray):toL (a++b)=toL a++toL b:=by simp [toL]
theorem Zto (a b:List UInt8):ofL (a++b)=ofL a++ofL b:=Zf2 (by rw [ZdQ,Zcu,Zcu,Zcu])
theorem Zj6 (a:List UInt8):(ofL a).size=a.length:=by rw [←Zds,Zcu]
theorem ZxC (a b c:ByteArray):(a++b)++c=a++(b++c):=Zf2 (by simp only[ZdQ,List.append_assoc])
theorem ZyE (a b:ByteArray):(a++b).size=a.size+b.size:=by rw [←Zds,←Zds,←Zds,ZdQ,AK]
theorem ZeV {n:Int} (h0:-9223372036854775808≤n) (h1:n≤9223372036854775807):IntKind.i64.wrap n=n:=by rw [IntKind.wrap_i64];omega
theorem ZxS (u:Nat) (hu:u<9223372036854775808):Xn [IntKind.u8.wrap (IntKind.i64.wrap (48+Int.tmod (u:Int) 10))]=ofL [AY (48+u % 10)]:=by
 have h1:Int.tmod (u:Int) 10=((u % 10:Nat):Int):=by rw [Int.tmod_eq_emod_of_nonneg yE];omega
 rw [h1,ZeV yE yE,IntKind.wrap_u8,show (48+((u % 10:Nat):Int)) % 256=((48+u % 10:Nat):Int) by omega]
 apply Zf2
 rw [Zcu]
 simp only[Xn,AP,AZ,toL,AA]
theorem ZyU (u:Nat) (hu:u<9223372036854775808):IntKind.i64.wrap (Int.tdiv (u:Int) 10)=((u / 10:Nat):Int):=by
 rw [Int.tdiv_eq_ediv_of_nonneg yE,ZeV yE yE]
 omega
theorem Zxq {body:Int × ByteArray→Option ((Int × ByteArray) ⊕ ByteArray)} (hb:∀n t,body (n,t)=chk ((Xn [IntKind.u8.wrap (IntKind.i64.wrap (48+Int.tmod n 10))]).size+t.size≤9223372036854775807)
   (if (IntKind.i64.wrap (Int.tdiv n 10)==0)=true then some (.inr (Xn [IntKind.u8.wrap (IntKind.i64.wrap (48+Int.tmod n 10))]++t)) else some (.inl (IntKind.i64.wrap (Int.tdiv n 10),Xn [IntKind.u8.wrap (IntKind.i64.wrap (48+Int.tmod n 10))]++t)))):
  ∀(u:Nat) (t:ByteArray),u<9223372036854775808→t.size+Lib.nDigits u≤1000→XI body ((u:Int),t)=some (ofL (Lib.decDigits u)++t):=by
 intro u
 induction u using Nat.strongRecOn with
 | ind u ih=>
  intro t hu ht
  rw [ZjL,hb,ZxS u hu,ZyU u hu]
  have hp:=Lib.nDigits_pos u
  rw [Zj _ (by rw [Zj6];simp;omega)]
  by_cases h:u<10
  ·have h0:u / 10=0:=by omega
   rw [h0,Lib.decDigits_one h,show u % 10=u by omega]
   rfl
  ·have h0:¬(((u / 10:Nat):Int)==0)=true:=by simp;omega
   rw [if_neg h0]
   have hd:=Lib.nDigits_big h
   show XI body (((u / 10:Nat):Int),ofL [AY (48+u % 10)]++t)=_
   rw [ih (u / 10) yE _ yE (by rw [ZyE,Zj6];simp;omega),←ZxC,←Zto]
   congr 2
   rw [show Lib.decDigits u=Lib.decDigits (u / 10)++[AY (48+u % 10)] by rw [Lib.decDigits,dif_neg h]]
theorem ZCn (t:ByteArray):t++(⟨#[]⟩:ByteArray)=t:=Zf2 (by rw [ZdQ];simp [toL])
theorem ZoU {body:Int × ByteArray→Option ((Int × ByteArray) ⊕ ByteArray)} (hb:∀n t,body (n,t)=chk ((Xn [IntKind.u8.wrap (IntKind.i64.wrap (48+Int.tmod n 10))]).size+t.size≤9223372036854775807)
   (if (IntKind.i64.wrap (Int.tdiv n 10)==0)=true then some (.inr (Xn [IntKind.u8.wrap (IntKind.i64.wrap (48+Int.tmod n 10))]++t)) else some (.inl (IntKind.i64.wrap (Int.tdiv n 10),Xn [IntKind.u8.wrap (IntKind.i64.wrap (48+Int.tmod n 10))]++t))))
  {n:Int} (h0:0≤n) (h1:n≤9223372036854775807):XI body (n,⟨#[]⟩)=some (ofL (Lib.itoa n)):=by
 obtain ⟨u,rfl⟩:∃u:Nat,n=(u:Int):=⟨n.toNat,yE⟩
 have:=Lib.nDigits_le20 u yE
 rw [Zxq hb u _ yE (by show 0+_≤_;omega),ZCn,Lib.itoa_nonneg]
theorem Zt2:ofL (Lib.itoa (-9223372036854775808))=(⟨#[45,57,50,50,51,51,55,50,48,51,54,56,53,52,55,55,53,56,48,56]⟩:ByteArray):=by
 rw [show (-9223372036854775808:Int)=-((9223372036854775808:Nat):Int) by rfl,Lib.itoa_neg _ yE,Lib.decDigits_eq,Lib.nDigits_unique 18 _ yF yF]
 decide +kernel
theorem ZkH {n:Int} (h0:0≤n) (h1:n≤9223372036854775807):ZaQ n=some (ofL (Lib.itoa n)):=by
 unfold ZaQ
 rw [if_neg (by simp;omega),if_neg (by simp;omega)]
 exact ZoU (fun _ _=>rfl) h0 h1
theorem ZmZ {n:Int} (h:Zlp n):Zbl n=some (ofL (Lib.itoa n)):=by
 unfold Zbl
 by_cases hm:n=-9223372036854775808
 ·subst hm
  rw [if_pos yF,Zt2]
 ·rw [if_neg (by simpa using hm)]
  by_cases hn:n<0
  ·have h2:Zlp n:=h
   unfold Zlp at h2
   rw [if_pos (by simpa using hn),ZeV yE yE,ZkH yE yE,A0]
   obtain ⟨u,rfl⟩:∃u:Nat,n=-(u:Int):=⟨n.natAbs,yE⟩
   rw [show (0 - -(u:Int))=(u:Int) by omega,Lib.itoa_nonneg,Lib.itoa_neg u yE]
   have:=Lib.nDigits_le20 u yE
   rw [Zj _ (by rw [Zj6,Lib.decDigits_length];show 1+_≤_;omega)]
   exact congrArg some (Zf2 (by rw [ZdQ,Zcu,Zcu];rfl))
  ·rw [if_neg (by simpa using hn)]
   exact ZoU (fun _ _=>rfl) yE h.2
theorem Zd5 {n:Int} (h:Zlp n):Zbu n=some (ofL (Lib.itoa n)):=by
 have h2:-9223372036854775808≤n∧n≤9223372036854775807:=h
 unfold Zbu ZqT
 rw [Zj _ h2]
 rfl
def ZbP (b:UInt8):Bool:=(decide (97≤b.toNat)&&decide (b.toNat≤122))||(decide (48≤b.toNat)&&decide (b.toNat≤57))
def ZT (s:ByteArray):Bool:=decide (1≤s.size)&&decide (s.size≤8)&&(toL s).all ZbP
theorem Zh0 (x a b:Int):Qr x a b=some (decide (a≤x)&&decide (x≤b)):=by
 unfold Qr
 by_cases h:a≤x<;>simp [h]
theorem Zpa (b:UInt8):IntKind.i64.wrap ((b.toNat:Nat):Int)=((b.toNat:Nat):Int):=ZeT yE (by have:=b.toNat_lt;omega)
theorem Zax {b:UInt8}:ZbP b=true↔(97≤b.toNat∧b.toNat≤122)∨(48≤b.toNat∧b.toNat≤57):=by
 simp only[ZbP,AQ,A5,decide_eq_true_eq]
theorem QB (s:ByteArray):QT s=some (ZT s):=by
 unfold QT ZT
 rw [show s.data.toList=toL s from rfl,Z0 (p:=ZbP) (r:=false)]
 ·simp only[Zh0,A0]
  cases (toL s).all ZbP with
  | true=>
   simp only[if_true,Ai]
   congr 1
   rw [A8]
   simp only[A5,decide_eq_true_eq]
   omega
  | false=>simp
 ·intro i x _
  simp only[Zh0,A0,Zpa,A5,decide_eq_true_eq]
  cases hp:ZbP x with
  | true=>
   have:=Zax.1 hp
   repeat' split
   all_goals first | rfl | (exfalso;omega) | (exfalso;simp_all;done)
  | false=>
   have:=mt (Zax (b:=x)).2 (by simp [hp])
   repeat' split
   all_goals first | rfl | (exfalso;omega) | (exfalso;simp_all;done)
theorem QC (s:ByteArray):QS s=some (ZT s):=by
 unfold QS ZT
 simp only[decide_eq_true_eq]
 rw [show s.data.toList=toL s from rfl,Z0 (p:=ZbP) (r:=false)]
 ·repeat' split
  ·rw [decide_eq_false (show ¬1≤s.size by omega)];rfl
  ·rw [decide_eq_false (show ¬s.size≤8 by omega)];simp
  ·rename_i h;rw [h,decide_eq_true (show 1≤s.size by omega),decide_eq_true (show s.size≤8 by omega)];rfl
  ·rename_i h;rw [eq_false_of_ne_true h];simp
 ·intro i x _
  cases hp:ZbP x with
  | true=>
   have:=Zax.1 hp
   repeat' split
   all_goals first | rfl | (exfalso;omega) | (exfalso;simp_all;done)
  | false=>
   have:=mt (Zax (b:=x)).2 (by simp [hp])
   repeat' split
   all_goals first | rfl | (exfalso;omega) | (exfalso;simp_all;done)
def Zih (s:ByteArray):UInt8:=(toL s).headD 0
theorem Zj1 {s:ByteArray} (h:1≤s.size):sAt s 0=some (Zih s):=by
 unfold sAt Zih
 have hl:0<(toL s).length:=by rw [Zds];omega
 have:(toL s)[0]?=some ((toL s).headD 0):=by
  cases hh:toL s with
  | nil=>rw [hh] at hl;simp at hl
  | cons a r=>simp
 rw [if_pos yE]
 exact Zp3 this
def XG (s:ByteArray):Bool:=ZT s&&decide (97≤(Zih s).toNat)
theorem ZbW {s:ByteArray} (h:ZT s=true):1≤s.size∧s.size≤8:=by
 simp only[ZT,A5,decide_eq_true_eq] at h
 exact h.1
theorem ZjK {s:ByteArray} (h:ZT s=true):ZbP (Zih s)=true:=by
 have hs:=ZbW h
 simp only[ZT,A5] at h
 have hl:0<(toL s).length:=by rw [Zds];omega
 refine AL.1 h.2 _ ?_
 unfold Zih
 cases hh:toL s with
 | nil=>rw [hh] at hl;simp at hl
 | cons a r=>simp
theorem Zhp (s:ByteArray):ZdM s=some (XG s):=by
 unfold ZdM XG
 rw [QB,A0]
 cases h:ZT s with
 | false=>simp
 | true=>
  simp only[if_true,Zj1 (ZbW h).1,A0,Zh0,Zpa,A4]
  have hb:=Zax.1 (ZjK h)
  congr 1
  rw [A8]
  simp only[A5,decide_eq_true_eq]
  omega
theorem Zg9 (s:ByteArray):Zey s=some (XG s):=by
 unfold Zey XG
 rw [QC,A0]
 cases h:ZT s with
 | false=>simp
 | true=>
  simp only[if_true,Zj1 (ZbW h).1,A0,A4]
  congr 1
  rw [A8]
  simp only[decide_eq_true_eq]
  omega
def ZuN (s:ByteArray):ByteArray:=s.extract 1 s.size
def Yr (s:ByteArray):Bool:=decide (1<s.size)&&decide ((Zih s).toNat=63)&&ZT (ZuN s)
theorem Zaj (s:ByteArray):Za3 s=some (Yr s):=by
 unfold Za3 Yr ZuN
 by_cases h:1<s.size
 ·have h':(1:Int)<((s.size:Nat):Int):=by omega
  simp only[h',h,decide_true,if_true,Zj1 (show 1≤s.size by omega),A0,A4]
  rw [Zj _ ⟨yE,yE⟩,show A3 1=1 from rfl,QB,A0]
  by_cases h2:(Zih s).toNat=63
  ·simp [h2]
  ·have:¬((Zih s).toNat:Int)=63:=by omega
   simp [h2,this]
 ·have h':¬(1:Int)<((s.size:Nat):Int):=by omega
  simp [h',h]
theorem ZdO (s:ByteArray):Zdp s=some (Yr s):=by
 unfold Zdp Yr ZuN
 by_cases h:1<s.size
 ·have h':(1:Int)<((s.size:Nat):Int):=by omega
  simp only[h',h,decide_true,if_true,Zj1 (show 1≤s.size by omega),A0,A4]
  rw [Zj _ ⟨yE,yE⟩,show A3 1=1 from rfl,QC,A0]
  by_cases h2:(Zih s).toNat=63
  ·simp [h2]
  ·have:¬((Zih s).toNat:Int)=63:=by omega
   simp [h2,this]
 ·have h':¬(1:Int)<((s.size:Nat):Int):=by omega
  simp [h',h]
def YJ (s:ByteArray):Bool:=ZT s||Yr s
theorem Zk6 (s:ByteArray):Zaq s=some (YJ s):=by
 unfold Zaq YJ
 rw [QB,Zaj]
 cases ZT s<;>simp
theorem ZkY (s:ByteArray):Zab s=some (YJ s):=by
 unfold Zab YJ
 rw [QC,ZdO]
 cases ZT s<;>simp
theorem Xc (l:List ByteArray) (s:ByteArray):ZW l s=some (YM l s):=by
 unfold ZW YM
 rw [ZcX (p:=fun x=>sEq x s) (r:=true)]
 ·cases l.any fun x=>sEq x s<;>simp
 ·intro i x _
  cases sEq x s<;>simp
theorem Zay (l:List ByteArray) (s:ByteArray):Xv l s=some (YM l s):=by
 unfold Xv YM
 rw [ZcX (p:=fun x=>sEq x s) (r:=true)]
 ·cases l.any fun x=>sEq x s<;>simp
 ·intro i x _
  cases sEq x s<;>simp
theorem QM (l:List ByteArray) (s:ByteArray) (h:l.length+1≤1073741824):Qd l s=some (QO l s):=by
 unfold Qd
 refine (ZaV (fun l _ (st:List ByteArray × Bool)=>some (if st.2=true then st.1++l else st.1++QO l s)) (fun l _ (st:List ByteArray × Bool)=>st.1.length+l.length+(if st.2=true then 0 else 1)≤1073741824) ?_ ?_ l 0 ([],false) (by simpa using h)).trans yG
 ·rintro i ⟨row,d⟩ hI
  cases d with
  | true=>simp
  | false=>simp only[A6,if_false,QO];simp at hI;rw [Zj _ yE]
 ·rintro x l i ⟨row,d⟩ hI
  left
  cases d with
  | true=>
   simp at hI
   exact ⟨(row++[x],true),by simp only[if_true];rw [Zj _ yE],by simp;omega,yG⟩
  | false=>
   simp at hI
   cases h1:sLt x s with
   | true=>exact ⟨(row++[x],false),by simp only[A6,if_false,if_true];rw [Zj _ yE],by simp;omega,by simp [QO,h1]⟩
   | false=>
    cases h2:sEq x s with
    | true=>exact ⟨(row++[x],true),by simp only[A6,if_false,if_true];rw [Zj _ yE],by simp;omega,by simp [QO,h1,h2]⟩
    | false=>exact ⟨(row++[s]++[x],true),by simp only[A6,if_false];rw [Zj _ yE,Zj _ yE],by simp;omega,by simp [QO,h1,h2]⟩
def XC:ByteArray→List ByteArray→List ByteArray
 | _,[]=>[]
 | y,x::r=>if sEq y x=true then XC x r else x::XC x r
def ZmO:List ByteArray→List ByteArray
 | []=>[]
 | x::r=>x::XC x r
theorem Zgf {z:ByteArray}:∀{l:List ByteArray} {y:ByteArray},z∈XC y l→z∈l
 | [],_,h=>by simp [XC] at h
 | x::r,y,h=>by
  simp only[XC] at h
  split at h
  ·exact Aa _ (Zgf h)
  ·rcases A7.1 h with rfl | h
   ·simp
   ·exact Aa _ (Zgf h)
theorem ZjR {z:ByteArray}:∀{l:List ByteArray} {y:ByteArray},z∈l→z=y∨z∈XC y l
 | [],_,h=>by simp at h
 | x::r,y,h=>by
  simp only[XC]
  rcases A7.1 h with rfl | h
  ·split
   ·rename_i e;exact .inl (ZQ.1 e).symm
   ·simp
  ·rcases ZjR (y:=x) h with rfl | h'
   ·split
    ·rename_i e;exact .inl (ZQ.1 e).symm
    ·simp
   ·split
    ·exact .inr h'
    ·exact .inr (Aa _ h')
theorem ZjN:∀{l:List ByteArray} {y:ByteArray},(y::l).Pairwise (fun a b=>sLt b a=false)→Asc (y::XC y l)
 | [],_,_=>by simp [XC,Asc]
 | x::r,y,h=>by
  rw [AB] at h
  have ih:=ZjN h.2
  simp only[XC]
  split
  ·rename_i e
   have e':=ZQ.1 e
   subst e'
   exact ih
  ·rename_i e
   have c:sLt y x=true:=ZfB (h.1 x yG) (fun h=>e (ZQ.2 h.symm))
   refine AB.2 ⟨fun z mz=>?_,ih⟩
   rcases A7.1 mz with rfl | mz
   ·exact c
   ·exact ZfL c ((AB.1 ih).1 z mz)
theorem Zqf (l:List ByteArray):ZmO (ZfD l)=ZV l:=by
 have hs:=ZxL l
 refine Zgd ?_ fun x=>?_
 ·cases h:ZfD l with
  | nil=>simp [ZmO,Asc]
  | cons y r=>rw [h] at hs;exact ZjN hs
 ·rw [←ZvO (l:=l)]
  cases h:ZfD l with
  | nil=>simp [ZmO]
  | cons y r=>
   simp only[ZmO,A7]
   constructor
   ·rintro (rfl | h)
    ·exact .inl rfl
    ·exact .inr (Zgf h)
   ·rintro (rfl | h)
    ·exact .inl rfl
    ·exact ZjR h
theorem Qi (l:List ByteArray) (h:l.length≤1073741824):Yy l=some (ZV l):=by
 unfold Yy
 rw [Zj _ h,Zcw,Zj _ yE,A0]
 have hl:=Zvw l
 rw [←Zqf]
 generalize ZfD l=v at hl
 refine (ZaV (fun r i (row:List ByteArray)=>some (row++match i with | 0=>ZmO r | i+1=>(match v[i]? with | some y=>XC y r | none=>[]))) (fun r i row=>v.drop i=r∧row.length≤i∧i≤v.length) ?_ ?_ v 0 [] ⟨yG,yG,yG⟩).trans yG
 ·rintro i row ⟨h1,h2,h3⟩
  cases i with
  | zero=>simp [ZmO]
  | succ i=>cases hv:v[i]?<;>simp [XC,hv]
 ·rintro x r i row ⟨h1,h2,h3⟩
  left
  have hi:v[i]?=some x:=by have:=congrArg (fun l=>l[0]?) h1;simpa using this
  have hlt:i<v.length:=(AG.1 hi).1
  have hr:v.drop (i+1)=r:=by have:=congrArg Ab h1;simpa using this
  cases i with
  | zero=>
   refine ⟨row++[x],?_,⟨hr,by simp at h2 ⊢;simp [h2],yE⟩,?_⟩
   ·simp only[Int.natCast_zero,beq_self_eq_true,if_true]
    rw [Zj _ yE]
   ·simp [ZmO,hi]
  | succ i=>
   have hw:IntKind.i64.wrap (((i+1:Nat):Int) - 1)=((i:Nat):Int):=by rw [ZeT yE yE];omega
   have a:((((i+1:Nat):Int))==0)=false:=by rw [beq_eq_false_iff_ne];omega
   obtain ⟨y,hy⟩:∃y,v[i]?=some y:=⟨v[i],yG⟩
   simp only[a,A6,if_false,hw,AA,hy,A0]
   cases he:sEq y x with
   | true=>
    refine ⟨row,?_,⟨hr,yE,yE⟩,?_⟩
    ·rw [Zj _ ⟨yE,yE⟩];rfl
    ·simp [XC,he,hi]
   | false=>
    refine ⟨row++[x],?_,⟨hr,by simp;omega,yE⟩,?_⟩
    ·rw [Zj _ ⟨yE,yE⟩]
     simp only[A6,if_false]
     rw [Zj _ yE]
    ·simp [XC,he,hi]
theorem Zg2 (l:List ByteArray) (h:l.length≤1073741824):Zbx l=some l:=by
 unfold Zbx
 rw [Zj _ h]
theorem ZqO (l:List ByteArray) (h:l.length≤1073741824):ZfK l=some l:=by
 unfold ZfK
 rw [Zj _ h]
theorem Zm0 {ρ:Type} {fin:List ByteArray→Option ρ} {body:Nat→ByteArray→List ByteArray→Option (List ByteArray ⊕ ρ)} (hb:∀j x s,body j x s=(Qd s x).bind fun v=>some (.inl v)) {l a:List ByteArray} (h:a.length+l.length≤1073741824):Zp body fin l 0 a=fin (l.foldl QO a):=by
 refine Y9 (f:=QO) (fun j s=>s.length≤a.length+j) yE fun j x s mx hj hl hI=>?_
 have hp:=Zen x s
 exact ⟨by rw [hb,QM _ _ yE];rfl,yE⟩
theorem ZaC {α σ ρ:Type} {body:Nat→α→σ→Option (σ ⊕ ρ)} {fin:σ→Option ρ} (st:List α→σ) (l:List α) (h:∀p x q,l=p++x::q→body p.length x (st p)=some (.inl (st (p++[x])))):Zp body fin l 0 (st [])=fin (st l):=by
 have key:∀(q p:List α),l=p++q→Zp body fin q p.length (st p)=fin (st l):=by
  intro q
  induction q with
  | nil=>intro p e;rw [ZnV,e,Aj]
  | cons x q ih=>
   intro p e
   rw [Z4 (h p x q e)]
   have:=ih (p++[x]) (by rw [e];simp)
   simpa using this
 exact key l [] rfl
def ZHg (l:List ByteArray) (sep:ByteArray):ByteArray:=ofL (Lib.join (l.map toL) (toL sep))
def ZHh (l:List ByteArray) (sep:ByteArray):Nat:=(l.map Ak).sum+l.length * sep.size
theorem ZIF (p:List (List UInt8)) (hp:p≠[]) (x a:List UInt8):Lib.join (p++[x]) a=(Lib.join p a++a)++x:=by
 cases p with
 | nil=>exact absurd rfl hp
 | cons y r=>rw [List.cons_append,Lib.join_cons,Lib.join_cons];simp [Lib.joinTail]
theorem ZH2 (a:ByteArray):ZHg [] a=⟨#[]⟩:=rfl
theorem ZHR {p:List ByteArray} (hp:p≠[]) (x a:ByteArray):ZHg (p++[x]) a=(ZHg p a++a)++x:=by
 unfold ZHg
 rw [Al,AP,AZ,ZIF _ (by simpa using hp)]
 exact Zf2 (by simp only[ZdQ,Zcu])
theorem ZH4 (x a:ByteArray):ZHg [x] a=x:=by
 unfold ZHg
 rw [AP,AZ,Lib.join_one,Zj7]
theorem ZHE (p q:List ByteArray) (a:ByteArray):ZHh (p++q) a=ZHh p a+ZHh q a:=by
 unfold ZHh
 rw [Al,List.sum_append,AK,Nat.add_mul]
 omega
theorem ZHA (x:ByteArray) (q:List ByteArray) (a:ByteArray):ZHh (x::q) a=x.size+a.size+ZHh q a:=by
 unfold ZHh
 rw [AP,List.sum_cons,A9,Nat.add_mul]
 omega
theorem ZHf (a:ByteArray) (l:List ByteArray):(ZHg l a).size≤ZHh l a:=by
 have:∀n (l:List ByteArray),l.length=n→(ZHg l a).size≤ZHh l a:=by
  intro n
  induction n with
  | zero=>intro l h;rw [Am h];exact Ac _
  | succ n ih=>
   intro l h
   obtain ⟨p,x,rfl⟩:∃p x,l=p++[x]:=⟨l.dropLast,l.getLast (by intro e;simp [e] at h),(An _).symm⟩
   rw [ZHE,ZHA]
   by_cases hp:p=[]
   ·subst hp
    rw [List.nil_append,ZH4];omega
   ·have:=ih p (by simpa using h)
    rw [ZHR hp,ZyE,ZyE];omega
 exact this _ l rfl
theorem ZIO (l:List ByteArray) (a:ByteArray) (h:ZHh l a≤1099511627776):ZHX l a=some (ZHg l a):=by
 unfold ZHX
 rw [←ZH2 a]
 rw [ZaC (fun p=>ZHg p a) l]
 intro p x q e
 have h1:=ZHf a p
 rw [e,ZHE,ZHA] at h
 by_cases hp:p=[]
 ·subst hp
  rw [if_neg yG,Zj _ yE]
  show some (Sum.inl (ZHg [] a++x))=some (Sum.inl (ZHg [x] a))
  rw [ZH4,ZH2]
  exact congrArg (fun t=>some (Sum.inl t)) (Zf2 (by rw [ZdQ];simp [toL]))
 ·have:0<p.length:=List.length_pos_iff.2 hp
  rw [if_pos (by simpa using this),Zj _ yE,Zj _ (by rw [ZyE];omega),ZHR hp]
theorem ZIM (l:List ByteArray) (a:ByteArray) (h:ZHh l a≤1099511627776) (hl:l.length≤1099511627776):ZHV l a=some (ZHg l a):=by
 unfold ZHV ZIa
 have h1:=ZHf a l
 unfold ZHg at h1
 rw [Zj6] at h1
 rw [Zj _ ⟨yE,yE⟩]
 rfl
def Y3 (f:Zc):Bool:=XG f.rel&&decide (f.args.length≤3)&&f.args.all ZT
theorem Zli (f:Zc):ZfR f=some (Y3 f):=by
 unfold ZfR Y3
 rw [Z0 (p:=ZT) (r:=false)]
 ·rw [Zhp,A0]
  cases XG f.rel<;>cases h:f.args.all ZT<;>simp<;>omega
 ·intro i x _
  rw [QB,A0]
  cases ZT x<;>rfl
theorem Zlu (f:Zc):ZfO f=some (Y3 f):=by
 unfold ZfO Y3
 rw [Zg9,A0]
 cases XG f.rel with
 | false=>rfl
 | true=>
  rw [if_pos rfl]
  by_cases h:f.args.length≤3
  ·rw [if_neg (by simp;omega),Z0 (p:=ZT) (r:=false)]
   ·cases h2:f.args.all ZT<;>simp [h]
   ·intro i x _
    rw [QC,A0]
    cases ZT x<;>rfl
  ·rw [if_pos (by simp;omega)]
   simp [h]
structure Zpu {α:Type} (c:α→α→Int):Prop where
 eq:∀a b,c a b=0↔a=b
 anti:∀a b,c b a=- c a b
 tr:∀a b d,c a b<0→c b d<0→c a d<0
def Zjd (a b:ByteArray):Int:=Lib.compareBytes (toL a) (toL b)
theorem ZiH:∀(x y:List UInt8),Lib.compareBytes x y=if Op.bytesLess x y=true then -1 else if x=y then 0 else 1
 | [],[]=>by simp [Lib.compareBytes,Op.bytesLess]
 | [],_::_=>by simp [Lib.compareBytes,Op.bytesLess]
 | _::_,[]=>by simp [Lib.compareBytes,Op.bytesLess]
 | a::x,b::y=>by
  have ih:=ZiH x y
  unfold Lib.compareBytes Op.bytesLess
  by_cases h1:a<b
  ·simp [h1]
  ·rw [if_neg h1]
   by_cases h2:b<a
   ·have h3:¬a=b:=fun e=>by rw [e] at h2;exact absurd h2 (UInt8.lt_irrefl _)
    rw [if_pos h2]
    simp [h1,h3]
   ·have h3:a=b:=by
     apply UInt8.toNat_inj.1
     rw [UInt8.lt_iff_toNat_lt] at h1 h2
     omega
    subst h3
    rw [if_neg h2,ih]
    simp [h1]
theorem ZhQ (a b:ByteArray):Zjd a b=if sLt a b=true then -1 else if a=b then 0 else 1:=by
 unfold Zjd
 rw [ZiH]
 have h1:Op.bytesLess (toL a) (toL b)=sLt a b:=by unfold sLt toL;rw [Ao,Ao]
 rw [h1]
 by_cases h:a=b
 ·subst h;simp
 ·rw [if_neg h,if_neg (fun e=>h (Zf2 e))]
theorem ZbN:Zpu Zjd where
 eq:=fun a b=>by
  rw [ZhQ]
  by_cases h:sLt a b=true
  ·simp [h,Zqp h]
  ·rw [if_neg h]
   by_cases h2:a=b<;>simp [h2]
 anti:=fun a b=>by
  rw [ZhQ,ZhQ]
  by_cases h:sLt a b=true
  ·have h2:=ZkU h
   have h3:=Zqp h
   rw [if_pos h,if_neg (by simp [h2]),if_neg (fun e=>h3 e.symm)];rfl
  ·rw [if_neg h]
   by_cases h2:a=b
   ·subst h2;rw [if_neg h];simp
   ·rw [if_pos (ZfB (by simpa using h) h2),if_neg h2]
 tr:=fun a b d h1 h2=>by
  have key:∀x y,Zjd x y<0→sLt x y=true:=fun x y h=>by
   rw [ZhQ] at h
   by_cases hx:sLt x y=true
   ·exact hx
   ·rw [if_neg hx] at h;split at h<;>omega
  rw [ZhQ,if_pos (ZfL (key _ _ h1) (key _ _ h2))]
  omega
theorem ZmS (a b:ByteArray):Zh8 a b=some (Zjd a b):=by
 unfold Zh8
 rw [ZhQ]
 by_cases h:sLt a b=true
 ·rw [if_pos h,if_pos h]
 ·rw [if_neg h,if_neg h]
  by_cases h2:a=b
  ·subst h2;rw [if_pos (by rw [ZxA];simp),if_pos rfl]
  ·rw [if_neg (by simp only[AQ,ZQ];rintro (h3 | h3);exact h h3;exact h2 h3),if_neg h2]
theorem Zjq (a b:ByteArray):ZfS a b=some (Zjd a b):=rfl
/- numbers -/
theorem Zn3 {u:Nat} {b:UInt8} (h:b∈Lib.decDigits u):48≤b.toNat∧b.toNat≤57:=by
 rw [Lib.decDigits_eq,List.mem_map] at h
 obtain ⟨t,_,rfl⟩:=h
 unfold Lib.dg
 have:u / 10 ^ (Lib.nDigits u - 1 - t) % 10<10:=Nat.mod_lt _ yE
 rw [UInt8.toNat_ofNat']
 omega
def Q3 (s:ByteArray):Option Nat:=
 if 1≤s.size∧s.size≤4 then (match Lib.decNat (toL s) with | some n=>if ofL (Lib.decDigits n)=s then some n else none | none=>none) else none
def ZeB (s:ByteArray):Int × Bool:=match Q3 s with | some n=>((n:Int),true) | none=>(0,false)
theorem ZkA {s:ByteArray} {n:Nat} (h:Q3 s=some n):s=ofL (Lib.decDigits n)∧n≤9999:=by
 unfold Q3 at h
 split at h
 ·rename_i hs
  split at h
  ·split at h
   ·rename_i m _ he
    obtain rfl:=AE h
    refine ⟨he.symm,?_⟩
    have hl:Lib.nDigits m≤4:=by
     have:=congrArg Ak he
     rw [Zj6,Lib.decDigits_length] at this
     omega
    have:=Lib.lt_pow_nDigits m
    have h2:10 ^ Lib.nDigits m≤10 ^ 4:=Ad yE hl
    omega
   ·simp at h
  ·simp at h
 ·simp at h
theorem Zwy {a b:ByteArray} {n:Nat} (h1:Q3 a=some n) (h2:Q3 b=some n):a=b:=(ZkA h1).1.trans (ZkA h2).1.symm
theorem Zsn {body:Nat→UInt8→Int→Option (Int ⊕ (Int × Bool))} {fin:Int→Option (Int × Bool)}
  (hb:∀i (x:UInt8) n,body i x n=if (decide (((x.toNat:Nat):Int)<48))=true then some (.inr (0,false)) else if (decide (57<((x.toNat:Nat):Int)))=true then some (.inr (0,false)) else some (.inl (IntKind.i64.wrap ((IntKind.i64.wrap (10 * n))+IntKind.i64.wrap (IntKind.u8.wrap (((x.toNat:Nat):Int) - 48)))))):
  ∀(l:List UInt8) (i a:Nat),(a+1) * 10 ^ l.length≤100000→Zp body fin l i (a:Int)=match Lib.decFrom a l with | some n=>fin (n:Int) | none=>some (0,false)
 | [],i,a,_=>rfl
 | x::l,i,a,h=>by
  unfold Lib.decFrom Lib.digitVal
  by_cases h1:48≤x.toNat∧x.toNat≤57
  ·have e:body i x (a:Int)=some (.inl ((a * 10+(x.toNat - 48):Nat):Int)):=by
    have hp:1≤10 ^ (x::l).length:=Nat.one_le_pow _ _ yE
    have h2:a+1≤100000:=AH (Nat.le_mul_of_pos_right _ hp) h
    rw [hb,if_neg (by simp;omega),if_neg (by simp;omega),ZeV (n:=10 * (a:Int)) yE yE,IntKind.wrap_u8,ZeV (n:=(((x.toNat:Nat):Int) - 48) % 256) yE yE,ZeV yE yE]
    congr 2
    omega
   rw [Z4 e,if_pos h1]
   refine Zsn hb l (i+1) _ ?_
   rw [A9,Nat.pow_succ] at h
   refine AH ?_ h
   rw [show (a+1) * (10 ^ l.length * 10)=((a+1) * 10) * 10 ^ l.length by rw [Aq,Nat.mul_comm 10]]
   exact Nat.mul_le_mul_right _ yE
  ·have e:body i x (a:Int)=some (.inr (0,false)):=by
    rw [hb]
    by_cases h2:x.toNat<48
    ·rw [if_pos (by simp;omega)]
    ·rw [if_neg (by simp;omega),if_pos (by simp;omega)]
   rw [YF e,if_neg h1]
theorem Ztb (n a b:Int):Qr n a b=some (decide (a≤n)&&decide (n≤b)):=by
 unfold Qr
 by_cases h:a≤n<;>simp [h]
theorem ZcH (s:ByteArray):Zag s=some (ZeB s):=by
 unfold Zag ZeB Q3
 rw [Ztb,A0]
 by_cases hs:1≤s.size∧s.size≤4
 ·rw [if_pos (by simp;omega),if_pos hs]
  have hl:s.data.toList.length=s.size:=Zds s
  refine (Zsn (fun _ _ _=>rfl) s.data.toList 0 0 (by
   rw [hl,AI,Nat.one_mul]
   exact AH (Ad yE hs.2) yE)).trans ?_
  have hd:Lib.decNat (toL s)=Lib.decFrom 0 s.data.toList:=by
   unfold Lib.decNat
   rw [if_neg]
   ·rfl
   ·intro e
    have:=Zds s
    rw [List.isEmpty_iff.1 e] at this
    simp at this;omega
  rw [hd]
  cases hv:Lib.decFrom 0 s.data.toList with
  | none=>rfl
  | some n=>
   have hb:n<1000000000000000000:=Lib.decFrom_lt18 hv yE
   show (Zbl ((n:Nat):Int)).bind _=_
   rw [ZmZ ⟨yE,yE⟩,A0,Lib.itoa_nonneg]
   by_cases he:ofL (Lib.decDigits n)=s
   ·rw [if_pos (ZQ.2 he)]
    simp only[he,if_true]
   ·rw [if_neg (by rw [ZQ];exact he)]
    simp only[he,if_false]
 ·rw [if_neg (by simp;omega),if_neg hs]
theorem ZwT {b:UInt8} {r:List UInt8} (h:b=45∨b=43):Lib.decNat (b::r)=none:=by
 rcases h with rfl | rfl<;>simp [Lib.decNat,Lib.decFrom,Lib.digitVal]
theorem Zpi {s:ByteArray} (h:Lib.decNat (toL s)=none):Q3 s=none:=by
 unfold Q3
 rw [h]
 split<;>rfl
theorem ZcC (s:ByteArray):Zae s=some (ZeB s):=by
 unfold Zae
 by_cases h1:s.size<1
 ·rw [if_pos (by simp;omega)]
  unfold ZeB Q3
  rw [if_neg yE]
 by_cases h2:4<s.size
 ·rw [if_neg (by simp;omega),if_pos (by simp;omega)]
  unfold ZeB Q3
  rw [if_neg yE]
 rw [if_neg (by simp;omega),if_neg (by simp;omega)]
 have hl:=Zds s
 have hx:ZmK s=some (match Lib.atoi (toL s) with | some n=>(n,true) | none=>(0,false)):=by
  unfold ZmK
  exact Zj _ yE
 rw [hx,A0]
 cases hL:toL s with
 | nil=>rw [hL] at hl;simp at hl;omega
 | cons b r=>
  have d:b=45∨b=43→ZeB s=(0,false):=fun h=>by
   unfold ZeB
   rw [Zpi (by rw [hL];exact ZwT h)]
  have f:∀m,(b=45∨b=43)→¬ofL (Lib.decDigits m)=s:=fun m h e=>by
   have hm:b∈Lib.decDigits m:=by
    have:toL s=Lib.decDigits m:=by rw [←e,Zcu]
    rw [←this,hL];simp
   have:=Zn3 hm
   rcases h with rfl | rfl<;>simp at this
  by_cases a:b=45
  ·rw [d (.inl a)]
   cases hd:Lib.decNat r with
   | none=>simp [Lib.atoi,a,hd]
   | some m=>
    have e:Lib.atoi (b::r)=some (-(m:Int)):=by simp [Lib.atoi,a,hd]
    rw [e]
    simp only[if_true]
    by_cases hm:m=0
    ·subst hm
     rw [if_neg yG,if_neg yG]
     show (Zbu ((0:Nat):Int)).bind _=_
     rw [Zd5 ⟨yE,yE⟩,A0,Lib.itoa_nonneg,if_neg (by rw [ZQ];exact f 0 (.inl a))]
    ·rw [if_pos (by simp;omega)]
  ·by_cases c:b=43
   ·rw [d (.inr c)]
    cases hd:Lib.decNat r with
    | none=>simp [Lib.atoi,c,hd]
    | some m=>
     have e:Lib.atoi (b::r)=some (m:Int):=by simp [Lib.atoi,c,hd]
     rw [e]
     simp only[if_true]
     rw [if_neg yG]
     by_cases hm:9999<m
     ·rw [if_pos (by simp;omega)]
     ·rw [if_neg (by simp;omega),Zd5 ⟨yE,yE⟩,A0,Lib.itoa_nonneg,if_neg (by rw [ZQ];exact f m (.inr c))]
   ·have e:Lib.atoi (b::r)=(Lib.decNat (b::r)).map fun (m:Nat)=>(m:Int):=by simp [Lib.atoi,a,c]
    rw [e]
    cases hd:Lib.decNat (b::r) with
    | none=>
     unfold ZeB
     rw [Zpi (by rw [hL];exact hd)]
     rfl
    | some m=>
     simp only[Ar,if_true]
     rw [if_neg yG]
     have hn:Q3 s=if ofL (Lib.decDigits m)=s then some m else none:=by
      unfold Q3
      rw [if_pos yE,hL,hd]
     by_cases hm:9999<m
     ·rw [if_pos (by simp;omega)]
      have:Q3 s=none:=by
       cases hq:Q3 s with
       | none=>rfl
       | some n=>
        have h3:=(ZkA hq).2
        rw [hn] at hq
        split at hq
        ·obtain rfl:=AE hq;omega
        ·simp at hq
      unfold ZeB
      rw [this]
     ·rw [if_neg (by simp;omega),Zd5 ⟨yE,yE⟩,A0,Lib.itoa_nonneg]
      unfold ZeB
      rw [hn]
      by_cases he:ofL (Lib.decDigits m)=s
      ·rw [if_pos (ZQ.2 he),if_pos he]
      ·rw [if_neg (by rw [ZQ];exact he),if_neg he]
def ZlE (x y:Nat):Int:=if x<y then -1 else if y<x then 1 else 0
theorem Zp9:Zpu ZlE where
 eq:=fun a b=>by unfold ZlE;split<;>(try split)<;>omega
 anti:=fun a b=>by unfold ZlE;split<;>(try split)<;>(try split)<;>omega
 tr:=fun a b d h1 h2=>by
  unfold ZlE at *
  split at h1
  ·split at h2
   ·rw [if_pos yE];omega
   ·split at h2<;>omega
  ·split at h1<;>omega
def ZgI (a b:ByteArray):Int:=
 match Q3 a,Q3 b with
 | some x,some y=>ZlE x y
 | some _,none=>-1
 | none,some _=>1
 | none,none=>Zjd a b
theorem Zqe:Zpu ZgI where
 eq:=fun a b=>by
  unfold ZgI
  cases ha:Q3 a with
  | none=>
   cases hb:Q3 b with
   | none=>exact ZbN.eq a b
   | some y=>simp only;exact ⟨fun h=>by omega,fun h=>by rw [h,hb] at ha;simp at ha⟩
  | some x=>
   cases hb:Q3 b with
   | none=>simp only;exact ⟨fun h=>by omega,fun h=>by rw [h,hb] at ha;simp at ha⟩
   | some y=>
    simp only
    rw [Zp9.eq]
    exact ⟨fun h=>Zwy ha (h ▸ hb),fun h=>by rw [h,hb] at ha;exact (AE ha).symm⟩
 anti:=fun a b=>by
  unfold ZgI
  cases Q3 a<;>cases Q3 b<;>simp only
  ·exact ZbN.anti a b
  ·rfl
  ·exact Zp9.anti _ _
 tr:=fun a b d h1 h2=>by
  unfold ZgI at *
  cases ha:Q3 a<;>cases hb:Q3 b<;>cases hd:Q3 d<;>simp only[ha,hb,hd] at h1 h2 ⊢<;>first | omega | exact ZbN.tr a b d h1 h2 | exact Zp9.tr _ _ _ h1 h2
theorem Zco (x y:Nat):X4 (x:Int) (y:Int)=some (ZlE x y):=by
 unfold X4 ZlE
 by_cases h1:x<y
 ·rw [if_pos (by simpa using h1),if_pos h1]
 ·rw [if_neg (by simpa using h1),if_neg h1]
  by_cases h2:y<x
  ·rw [if_pos (by simpa using h2),if_pos h2]
  ·rw [if_neg (by simpa using h2),if_neg h2]
theorem ZeW (a b:ByteArray):Xz a b=some (ZgI a b):=by
 unfold Xz ZgI
 rw [ZcH,A0,ZcH,A0]
 unfold ZeB
 cases Q3 a with
 | none=>
  cases Q3 b with
  | none=>simp only[A6,if_false];rw [ZmS];rfl
  | some y=>rfl
 | some x=>
  cases Q3 b with
  | none=>rfl
  | some y=>
   simp only[if_true]
   unfold ZlE
   by_cases h1:x<y
   ·rw [if_pos (by simpa using h1),if_pos h1]
   ·rw [if_neg (by simpa using h1),if_neg h1]
    by_cases h2:y<x
    ·rw [if_pos (by simpa using h2),if_pos h2]
    ·rw [if_neg (by simpa using h2),if_neg h2]
theorem ZjQ (a b:ByteArray):Q8 a b=some (ZgI a b):=by
 unfold Q8 ZgI
 rw [ZcC,A0,ZcC,A0]
 unfold ZeB
 cases Q3 a with
 | none=>
  cases Q3 b with
  | none=>simp only[A6,if_false];rw [Zjq];rfl
  | some y=>rfl
 | some x=>
  cases Q3 b with
  | none=>rfl
  | some y=>simp only[if_true];rw [Zco];rfl
def ZgT {α:Type} (c:α→α→Int):List α→List α→Int
 | [],[]=>0
 | [],_::_=>-1
 | _::_,[]=>1
 | x::l,y::r=>if c x y=0 then ZgT c l r else c x y
theorem ZqZ {α:Type} {c:α→α→Int} (h:Zpu c):Zpu (ZgT c) where
 eq:=fun a=>by
  induction a with
  | nil=>intro b;cases b<;>simp [ZgT]
  | cons x l ih=>
   intro b
   cases b with
   | nil=>simp [ZgT]
   | cons y r=>
    simp only[ZgT]
    by_cases hx:c x y=0
    ·rw [if_pos hx,ih,(h.eq x y).1 hx];simp
    ·rw [if_neg hx]
     exact ⟨fun e=>absurd e hx,fun e=>absurd ((h.eq x y).2 (by simp at e;exact e.1)) hx⟩
 anti:=fun a=>by
  induction a with
  | nil=>intro b;cases b<;>simp [ZgT]
  | cons x l ih=>
   intro b
   cases b with
   | nil=>simp [ZgT]
   | cons y r=>
    simp only[ZgT]
    have hy:=h.anti x y
    by_cases hx:c x y=0
    ·rw [if_pos hx,if_pos yE,ih]
    ·rw [if_neg hx,if_neg yE,hy]
 tr:=fun a=>by
  induction a with
  | nil=>
   intro b d h1 h2
   cases b with
   | nil=>simp [ZgT] at h1
   | cons y r=>cases d with
    | nil=>simp [ZgT] at h2
    | cons z q=>simp [ZgT]
  | cons x l ih=>
   intro b d h1 h2
   cases b with
   | nil=>simp [ZgT] at h1
   | cons y r=>cases d with
    | nil=>simp [ZgT] at h2
    | cons z q=>
     simp only[ZgT] at h1 h2 ⊢
     by_cases hx:c x y=0
     ·rw [if_pos hx] at h1
      obtain rfl:=(h.eq x y).1 hx
      by_cases hz:c x z=0
      ·rw [if_pos hz] at h2 ⊢;exact ih r q h1 h2
      ·rw [if_neg hz] at h2 ⊢;exact h2
     ·rw [if_neg hx] at h1
      by_cases hz:c y z=0
      ·obtain rfl:=(h.eq y z).1 hz
       rw [if_neg hx];exact h1
      ·rw [if_neg hz] at h2
       have:=h.tr x y z h1 h2
       rw [if_neg yE];exact this
def ZeE (a b:Zc):Int:=if Zjd a.rel b.rel=0 then ZgT ZgI a.args b.args else Zjd a.rel b.rel
theorem Zq1 {a b:Zc} (h1:a.rel=b.rel) (h2:a.args=b.args):a=b:=by cases a;cases b;simp_all
theorem ZeR:Zpu ZeE where
 eq:=fun a b=>by
  unfold ZeE
  by_cases h:Zjd a.rel b.rel=0
  ·rw [if_pos h,(ZqZ Zqe).eq]
   exact ⟨fun e=>Zq1 ((ZbN.eq _ _).1 h) e,fun e=>by rw [e]⟩
  ·rw [if_neg h]
   exact ⟨fun e=>absurd e h,fun e=>absurd ((ZbN.eq _ _).2 (by rw [e])) h⟩
 anti:=fun a b=>by
  unfold ZeE
  have hy:=ZbN.anti a.rel b.rel
  by_cases h:Zjd a.rel b.rel=0
  ·rw [if_pos h,if_pos yE,(ZqZ Zqe).anti]
  ·rw [if_neg h,if_neg yE,hy]
 tr:=fun a b d h1 h2=>by
  unfold ZeE at *
  by_cases hx:Zjd a.rel b.rel=0
  ·rw [if_pos hx] at h1
   have e:=(ZbN.eq _ _).1 hx
   rw [e]
   by_cases hz:Zjd b.rel d.rel=0
   ·rw [if_pos hz] at h2 ⊢;exact (ZqZ Zqe).tr _ _ _ h1 h2
   ·rw [if_neg hz] at h2 ⊢;exact h2
  ·rw [if_neg hx] at h1
   by_cases hz:Zjd b.rel d.rel=0
   ·rw [←(ZbN.eq _ _).1 hz,if_neg hx];exact h1
   ·rw [if_neg hz] at h2
    have:=ZbN.tr _ _ _ h1 h2
    rw [if_neg yE];exact this
theorem Za1 {α:Type} (l:List α) (i:Nat):atI l (i:Int)=l[i]?:=by unfold atI;rw [if_pos yE,AA]
theorem ZkG {A B:List ByteArray} {body:Nat→ByteArray→Unit→Option (Unit ⊕ Int)} {fin:Unit→Option Int}
  (b:∀i x y,B[i]?=some y→body i x ()=if ZgI x y=0 then some (.inl ()) else some (.inr (ZgI x y))) (c:∀x,B.length<A.length→body B.length x ()=some (.inr 1)) (a:A.length≤B.length→fin ()=some (if A.length<B.length then -1 else 0)):
  ∀(l:List ByteArray) (i:Nat),i+l.length=A.length→i≤B.length→Zp body fin l i ()=some (ZgT ZgI l (B.drop i))
 | [],i,h,hi=>by
  simp at h
  rw [ZnV,a yE]
  by_cases hb:A.length<B.length
  ·rw [if_pos hb]
   cases hd:B.drop i with
   | nil=>have:=congrArg List.length hd;simp at this;omega
   | cons y r=>rfl
  ·rw [if_neg hb,Ae yE]
   rfl
 | x::l,i,h,hi=>by
  simp only[A9] at h
  by_cases hb:i<B.length
  ·have hy:B[i]?=some B[i]:=AJ hb
   rw [Af hb]
   simp only[ZgT]
   by_cases hc:ZgI x B[i]=0
   ·rw [Z4 (by rw [b i x _ hy,if_pos hc]),if_pos hc]
    exact ZkG b c a l (i+1) yE yE
   ·rw [YF (by rw [b i x _ hy,if_neg hc]),if_neg hc]
  ·obtain rfl:i=B.length:=by omega
   rw [YF (c x yE),Ae (AR _)]
   rfl
theorem ZeP (a b:Zc):Xw a b=some (ZeE a b):=by
 unfold Xw ZeE
 by_cases h:a.rel=b.rel
 ·rw [if_pos (ZQ.2 h),if_pos ((ZbN.eq _ _).2 h)]
  refine ZkG (A:=a.args) (B:=b.args) (fun i x y hy=>?_) (fun x hx=>?_) (fun hx=>?_) a.args 0 yG (Ac _)
  ·have hi:=(AG.1 hy).1
   rw [if_pos (by simpa using hi),Za1,hy,A0,ZeW,A0]
   by_cases hc:ZgI x y=0
   ·rw [hc];rfl
   ·rw [if_pos (by simpa using hc),if_neg hc]
  ·rw [if_neg yG,if_neg (by simp;omega),if_pos (by simpa using hx)]
  ·by_cases h2:a.args.length<b.args.length
   ·rw [if_pos (by simpa using h2),if_pos h2]
   ·rw [if_neg (by simpa using h2),if_neg (by simp;omega),if_neg h2]
 ·rw [if_neg (by rw [ZQ];exact h),if_neg (fun e=>h ((ZbN.eq _ _).1 e)),ZmS]
  rfl
theorem ZeU (a b:Zc):Qn a b=some (ZeE a b):=by
 unfold Qn ZeE
 rw [Zjq,A0]
 by_cases h:Zjd a.rel b.rel=0
 ·rw [if_neg (by simpa using h),if_pos h]
  refine ZkG (A:=a.args) (B:=b.args) (fun i x y hy=>?_) (fun x hx=>?_) (fun hx=>?_) a.args 0 yG (Ac _)
  ·have hi:=(AG.1 hy).1
   rw [if_pos (by simpa using hi),Za1,hy,A0,ZjQ,A0]
   by_cases hc:ZgI x y=0
   ·rw [hc];rfl
   ·rw [if_pos (by simpa using hc),if_neg hc]
  ·rw [if_neg yG,Zco]
   unfold ZlE
   rw [if_neg yE,if_pos hx]
   rfl
  ·rw [Zco]
   unfold ZlE
   by_cases h2:a.args.length<b.args.length
   ·rw [if_pos h2,if_pos h2];rfl
   ·rw [if_neg h2,if_neg yE,if_neg h2];rfl
 ·rw [if_pos (by simpa using h),if_neg h]
section
theorem Xs (f:Zc) (h:f.args.length≤1048576):XE f=some f:=by
 unfold XE
 rw [ZqO _ yE]
 rfl
theorem YN (f:Zc) (h:f.args.length≤1048576):YE f=some f:=by
 unfold YE
 rw [Zg2 _ yE]
 rfl
theorem ZmY {B:List ByteArray} {body:Nat→ByteArray→Unit→Option (Unit ⊕ Bool)} (hb:∀i x y,B[i]?=some y→body i x ()=if x=y then some (.inl ()) else some (.inr false)):
  ∀(l:List ByteArray) (i:Nat),i+l.length=B.length→Zp body (fun _=>some true) l i ()=some (decide (l=B.drop i))
 | [],i,h=>by
  simp at h
  rw [ZnV,Ae yE]
  simp
 | x::l,i,h=>by
  simp only[A9] at h
  have hi:i<B.length:=by omega
  have hd:(x::l=B.drop i)↔(x=B[i]∧l=B.drop (i+1)):=by rw [Af hi,List.cons.injEq]
  rw [A8.2 (show decide (x::l=B.drop i)=true↔decide (x=B[i]∧l=B.drop (i+1))=true by rw [decide_eq_true_iff,decide_eq_true_iff];exact hd)]
  by_cases hx:x=B[i]
  ·rw [Z4 (by rw [hb i x _ (AJ hi),if_pos hx]),ZmY hb l (i+1) yE]
   simp [hx]
  ·rw [YF (by rw [hb i x _ (AJ hi),if_neg hx])]
   simp [hx]
theorem ZmH (a b:List ByteArray):ZcN a b=some (decide (a=b)):=by
 unfold ZcN
 by_cases h:a.length=b.length
 ·rw [if_neg (by simp;omega)]
  have:=ZmY (B:=b) (body:=fun i6 x7 _=>(atI b ((i6:Nat):Int)).bind fun x8=>if (sEq x7 x8)=true then some (.inl ()) else some (.inr false)) (fun i x y hy=>by
   show (atI b ((i:Nat):Int)).bind _=_
   rw [Za1,hy,A0]
   by_cases hx:x=y
   ·rw [if_pos (ZQ.2 hx),if_pos hx]
   ·rw [if_neg (by rw [ZQ];exact hx),if_neg hx]) a 0 yE
  simpa using this
 ·rw [if_pos (by simp;omega),decide_eq_false (fun e=>h (by rw [e]))]
open Classical
theorem Zcv (a b:Zc):Zca a b=some (decide (a=b)):=by
 unfold Zca
 by_cases h:a.rel=b.rel
 ·rw [if_pos (ZQ.2 h),ZmH,A0]
  congr 1
  rw [A8,decide_eq_true_iff,decide_eq_true_iff]
  exact ⟨fun e=>Zq1 h e,fun e=>by rw [e]⟩
 ·rw [if_neg (by rw [ZQ];exact h),decide_eq_false (fun e=>h (by rw [e]))]
theorem ZoH (l:List Zc) (f:Zc):∃z,Yl l f=some z∧(z<0↔f∉l):=by
 unfold Yl
 have key:∀(l:List Zc) (i:Nat),∃z,Zp (σ:=Unit) (fun (i6:Nat) (x7:Zc) _=>(Zca x7 f).bind fun v8=>if v8=true then some (.inr ((i6:Nat):Int)) else some (.inl ())) (fun _=>some (-1)) l i ()=some z∧(z<0↔f∉l):=by
  intro l
  induction l with
  | nil=>intro i;exact ⟨-1,rfl,yG⟩
  | cons x l ih=>
   intro i
   by_cases hx:x=f
   ·refine ⟨(i:Int),YF (by rw [Zcv,A0,if_pos (decide_eq_true hx)]),by simp [hx]⟩
   ·obtain ⟨z,e,hz⟩:=ih (i+1)
    refine ⟨z,(Z4 (by rw [Zcv,A0,if_neg (by simpa using hx)])).trans e,?_⟩
    rw [hz,A7]
    exact ⟨fun h=>by rintro (h1 | h1);exact hx h1.symm;exact h h1,fun h h1=>h (.inr h1)⟩
 exact key l 0
def ZeF:List Zc→Zc→List Zc
 | [],f=>[f]
 | x::l,f=>if ZeE x f<0 then x::ZeF l f else if ZeE x f=0 then x::l else f::x::l
def Zg7 (l:List Zc):Prop:=l.Pairwise fun x y=>ZeE x y<0
theorem ZaT {y f:Zc}:∀{l:List Zc},y∈ZeF l f↔y=f∨y∈l
 | []=>by simp [ZeF]
 | x::l=>by
  simp only[ZeF]
  split
  ·rw [A7,ZaT,A7]
   exact ⟨fun h=>by rcases h with h | h | h<;>simp [h],fun h=>by rcases h with h | h | h<;>simp [h]⟩
  ·split
   ·rename_i h
    have e:=(ZeR.eq _ _).1 h
    rw [A7,e]
    exact ⟨fun h=>by rcases h with h | h<;>simp [h],fun h=>by rcases h with h | h | h<;>simp [h]⟩
   ·rw [A7]
theorem Zsd (f:Zc):∀l:List Zc,(ZeF l f).length≤l.length+1
 | []=>by simp [ZeF]
 | x::l=>by
  have:=Zsd f l
  simp only[ZeF]
  split
  ·simp;omega
  ·split<;>simp
theorem Zq9 {f:Zc}:∀{l:List Zc},Zg7 l→Zg7 (ZeF l f)
 | [],_=>by simp [ZeF,Zg7]
 | x::l,h=>by
  unfold Zg7 at *
  rw [AB] at h
  simp only[ZeF]
  split
  ·rename_i hx
   rw [AB]
   refine ⟨fun y my=>?_,Zq9 h.2⟩
   rcases ZaT.1 my with rfl | my
   ·exact hx
   ·exact h.1 y my
  ·rename_i hx
   split
   ·rw [AB];exact h
   ·rename_i h0
    have a:ZeE f x<0:=by rw [ZeR.anti x f];omega
    rw [AB,AB]
    refine ⟨fun y my=>?_,h⟩
    rcases A7.1 my with rfl | my
    ·exact a
    ·exact ZeR.tr _ _ _ a (h.1 y my)
theorem Zt4 (l:List Zc) (f:Zc) (hl:l.length≤1048576) (ha:∀x∈l,x.args.length≤1048576) (hf:f.args.length≤1048576):ZcF l f=some (ZeF l f):=by
 unfold ZcF
 rw [ZaV (fun l _ s=>some (s.1++(if s.2=true then l else ZeF l f))) (fun l _ s=>s.1.length+2 * l.length+1≤4000000∧∀x∈l,x.args.length≤1048576) ?_ ?_ l 0 ([],false) ⟨by simp;omega,ha⟩]
 ·simp
 ·rintro i ⟨row,a⟩ ⟨h1,_⟩
  cases a with
  | true=>simp
  | false=>
   simp only[A6,if_false]
   simp only[AS] at h1
   rw [Xs f hf,A0,Zj _ yE]
   rfl
 ·rintro x l i ⟨row,a⟩ ⟨h1,h2⟩
  simp only[A9] at h1
  have hx:=h2 x yG
  left
  cases a with
  | true=>
   simp only[if_true]
   rw [Xs x hx,A0,Zj _ yE]
   exact ⟨_,rfl,⟨by simp;omega,fun y my=>h2 y (by simp [my])⟩,yG⟩
  | false=>
   simp only[A6,if_false]
   rw [ZeP,A0]
   by_cases b:ZeE x f<0
   ·rw [if_neg (by simp;omega),Xs x hx,A0,Zj _ yE]
    exact ⟨_,rfl,⟨by simp;omega,fun y my=>h2 y (by simp [my])⟩,by simp [ZeF,b]⟩
   ·rw [if_pos (by simp;omega),A0]
    by_cases h0:ZeE x f=0
    ·rw [if_neg (by simp;omega),Xs x hx,A0,Zj _ yE]
     exact ⟨_,rfl,⟨by simp;omega,fun y my=>h2 y (by simp [my])⟩,by simp [ZeF,h0]⟩
    ·rw [if_pos (by simp;omega),Xs f hf,A0,Zj _ yE,Xs x hx,A0,Zj _ yE]
     exact ⟨_,rfl,⟨by simp;omega,fun y my=>h2 y (by simp [my])⟩,by simp [ZeF,h0,b]⟩
theorem ZqG (l:List Zc) (f:Zc) (hn:f∉l) (hl:l.length≤1048576) (ha:∀x∈l,x.args.length≤1048576) (hf:f.args.length≤1048576):Qv l f=some (ZeF l f):=by
 unfold Qv
 rw [ZaV (fun l _ s=>some (s.1++(if s.2=true then l else ZeF l f))) (fun l _ s=>s.1.length+2 * l.length+1≤4000000∧f∉l∧∀x∈l,x.args.length≤1048576) ?_ ?_ l 0 ([],false) ⟨by simp;omega,hn,ha⟩]
 ·simp
 ·rintro i ⟨row,a⟩ ⟨h1,_⟩
  cases a with
  | true=>simp
  | false=>
   simp only[A6,if_false]
   simp only[AS] at h1
   rw [YN f hf,A0,Zj _ yE]
   rfl
 ·rintro x l i ⟨row,a⟩ ⟨h1,h3,h2⟩
  simp only[A9] at h1
  have hx:=h2 x yG
  have b:f∉l:=fun m=>h3 (by simp [m])
  left
  cases a with
  | true=>
   simp only[if_true]
   rw [YN x hx,A0,Zj _ yE]
   exact ⟨_,rfl,⟨by simp;omega,b,fun y my=>h2 y (by simp [my])⟩,yG⟩
  | false=>
   simp only[A6,if_false]
   rw [ZeU,A0]
   have h0:¬ZeE x f=0:=fun e=>h3 (by rw [(ZeR.eq _ _).1 e];simp)
   by_cases c:ZeE x f<0
   ·rw [if_neg (by simp;omega),YN x hx,A0,Zj _ yE]
    exact ⟨_,rfl,⟨by simp;omega,b,fun y my=>h2 y (by simp [my])⟩,by simp [ZeF,c]⟩
   ·rw [if_pos (by simp;omega),YN f hf,A0,Zj _ yE,YN x hx,A0,Zj _ yE]
    exact ⟨_,rfl,⟨by simp;omega,b,fun y my=>h2 y (by simp [my])⟩,by simp [ZeF,h0,c]⟩
end
def Z9 (p:Zx):Bool:=XG p.rel&&decide (p.args.length≤3)&&p.args.all YJ
theorem ZbD (p:Zx):Xq p=some (Z9 p):=by
 unfold Xq Z9
 rw [Z0 (p:=YJ) (r:=false)]
 ·simp only[Zhp,A0]
  have:decide (((p.args.length:Nat):Int)≤3)=decide (p.args.length≤3):=by rw [A8];simp only[decide_eq_true_eq];omega
  rw [this]
  cases p.args.all YJ<;>cases XG p.rel<;>simp
 ·intro i x _
  rw [Zk6]
  cases YJ x<;>simp
theorem ZbE (p:Zx):Xp p=some (Z9 p):=by
 unfold Xp Z9
 rw [Zg9,Z0 (p:=YJ) (r:=false)]
 ·by_cases h:p.args.length≤3
  ·have h':¬(3:Int)<((p.args.length:Nat):Int):=by omega
   cases p.args.all YJ<;>cases XG p.rel<;>simp [h,h']
  ·have h':(3:Int)<((p.args.length:Nat):Int):=by omega
   cases XG p.rel<;>simp [h,h']
 ·intro i x _
  rw [ZkY]
  cases YJ x<;>simp
def Xm (p:Zx):Bool:=sEq p.rel ⟨#[]⟩&&decide (p.args.length=0)
theorem Zvc {α:Type} (l:List α):((((l.length:Nat):Int))==0)=decide (l.length=0):=by
 rw [A8,beq_iff_eq,decide_eq_true_eq];omega
theorem Zfv (p:Zx):Xt p=some (Xm p):=by
 unfold Xt Xm
 rw [Zvc]
 cases sEq p.rel ⟨#[]⟩<;>simp
def Y1 (x:Zl):Bool:=
 if x.kind=1∨x.kind=2 then Z9 x.pattern&&sEq x.left ⟨#[]⟩&&sEq x.right ⟨#[]⟩
 else if x.kind=3∨x.kind=4∨x.kind=5 then Xm x.pattern&&YJ x.left&&YJ x.right
 else false
theorem ZeH (x:Zl):Zej x=some (Y1 x):=by
 unfold Zej Y1
 simp only[ZbD,Zk6,A0,Xm,Zvc,beq_iff_eq]
 by_cases h1:x.kind=1
 ·simp only[h1,if_true,true_or];cases Z9 x.pattern<;>cases sEq x.left ⟨#[]⟩<;>simp
 by_cases h2:x.kind=2
 ·simp only[h2,if_true,or_true];cases Z9 x.pattern<;>cases sEq x.left ⟨#[]⟩<;>simp
 simp only[h1,h2,if_false,or_self]
 by_cases h3:x.kind=3
 ·simp only[h3,if_true,true_or];cases sEq x.pattern.rel ⟨#[]⟩<;>cases decide (x.pattern.args.length=0)<;>cases YJ x.left<;>simp
 by_cases h4:x.kind=4
 ·simp only[h4,if_true,true_or,or_true];cases sEq x.pattern.rel ⟨#[]⟩<;>cases decide (x.pattern.args.length=0)<;>cases YJ x.left<;>simp
 by_cases h5:x.kind=5
 ·simp only[h5,if_true,or_true];cases sEq x.pattern.rel ⟨#[]⟩<;>cases decide (x.pattern.args.length=0)<;>cases YJ x.left<;>simp
 simp [h3,h4,h5]
theorem Zhy (x:Zl):Zeh x=some (Y1 x):=by
 unfold Zeh Y1
 simp only[ZbE,ZkY,Zfv,A0,beq_iff_eq]
 by_cases h1:x.kind=1
 ·simp only[h1,if_true,true_or];cases Z9 x.pattern<;>cases sEq x.left ⟨#[]⟩<;>simp
 by_cases h2:x.kind=2
 ·simp only[h2,if_true,or_true];cases Z9 x.pattern<;>cases sEq x.left ⟨#[]⟩<;>simp
 simp only[h1,h2,if_false,or_self]
 by_cases h3:x.kind=3
 ·simp only[h3,if_true,true_or];cases Xm x.pattern<;>cases YJ x.left<;>cases YJ x.right<;>simp
 by_cases h4:x.kind=4
 ·simp only[h4,if_true,true_or,or_true];cases Xm x.pattern<;>cases YJ x.left<;>cases YJ x.right<;>simp
 by_cases h5:x.kind=5
 ·simp only[h5,if_true,or_true];cases Xm x.pattern<;>cases YJ x.left<;>cases YJ x.right<;>simp
 simp [h3,h4,h5]
theorem Zqk {x:Zl} (h:Y1 x=true):x.kind=1∨x.kind=2∨x.kind=3∨x.kind=4∨x.kind=5:=by
 unfold Y1 at h
 split at h
 ·rename_i h1;omega
 ·split at h
  ·rename_i h1;omega
  ·simp at h
theorem Zs4 (x:Zl):ZbV x=some (Y1 x&&decide (3≤x.kind)):=by
 unfold ZbV
 rw [ZeH]
 cases Y1 x<;>simp
def XP (a:Zu):Bool:=
 if a.kind=1∨a.kind=2 then Z9 a.pattern else if a.kind=3 then Xm a.pattern else false
theorem Zon (a:Zu):Zer a=some (XP a):=by
 unfold Zer XP
 simp only[ZbD,A0,Xm,Zvc,beq_iff_eq]
 by_cases h1:a.kind=1
 ·simp [h1]
 by_cases h2:a.kind=2
 ·simp [h2]
 by_cases h3:a.kind=3
 ·simp only[h3,if_true];cases sEq a.pattern.rel ⟨#[]⟩<;>simp
 simp [h1,h2,h3]
theorem Zoz (a:Zu):ZeA a=some (XP a):=by
 unfold ZeA XP
 simp only[ZbE,Zfv,A0,beq_iff_eq]
 by_cases h1:a.kind=1
 ·simp [h1]
 by_cases h2:a.kind=2
 ·simp [h2]
 by_cases h3:a.kind=3
 ·simp [h3]
 simp [h1,h2,h3]
def Xk (l:List ByteArray):List ByteArray:=l.filter Yr
theorem ZdE (l:List ByteArray):(Xk l).length≤l.length:=List.length_filter_le _ _
theorem Zcf {x:ByteArray} {l:List ByteArray}:x∈Xk l↔x∈l∧Yr x=true:=by simp [Xk]
theorem Zel (l:List ByteArray) (h:l.length≤1073741824):Zai l=some (Xk l):=by
 unfold Zai
 rw [Ze1 (p:=Yr)]
 ·simp [Xk]
 ·intro j x s _ hs
  rw [ZdO,A0]
  split
  ·rw [Zj _ (by simp at hs;omega)]
  ·rfl
theorem Zle {p:ByteArray→Bool}:∀(l a:List ByteArray),l.foldl (fun s x=>if p x=true then QO s x else s) a=(l.filter p).foldl QO a
 | [],_=>rfl
 | x::l,a=>by
  rw [AT,Zle l]
  by_cases h:p x=true<;>simp [h]
theorem ZcT (p:Zx) (h:p.args.length≤1073741823):Zb5 p=some (ZV (Xk p.args)):=by
 unfold Zb5
 rw [Y9 (f:=fun s x=>if Yr x=true then QO s x else s) (fun j s=>s.length≤j) yG]
 ·rw [Zle];rfl
 ·intro j x s _ _ hl hI
  simp at hl
  have:=Zen x s
  rw [Zaj,A0]
  split
  ·rw [QM _ _ yE]
   exact ⟨rfl,yE⟩
  ·exact ⟨rfl,yE⟩
def ZgL (x:Zl):List ByteArray:=x.pattern.args++[x.left,x.right]
def Y5 (x:Zl):List ByteArray:=ZV (Xk (ZgL x))
theorem ZcE (x:Zl) (h:x.pattern.args.length≤1073741822):QI x=some (Y5 x):=by
 unfold QI ZhS
 rw [Zg2 _ yE,A0,Zj _ yE,A0,Zel _ (by simp;omega),A0]
 have:=ZdE (x.pattern.args++[x.left,x.right])
 simp at this
 rw [Qi _ yE]
 rfl
theorem Zcz (x:Zl) (h:x.pattern.args.length≤1073741820):X3 x=some (Y5 x):=by
 unfold X3
 have h1:=Ze0 (Xk x.pattern.args)
 have h2:=ZdE x.pattern.args
 have h3:=Zen x.left (ZV (Xk x.pattern.args))
 have key:∀l:List ByteArray,(∀y,y∈l↔y∈Xk (ZgL x))→Asc l→l=Y5 x:=fun l hm ha=>Zgd ha hm
 rw [ZcT _ yE,A0,Zaj,A0,Zaj]
 simp only[A0]
 rw [QM _ _ yE,A0,QM (QO _ _) _ yE,A0,QM _ x.right yE,A0]
 cases hl:Yr x.left<;>cases hr:Yr x.right<;>simp only[if_true,A6,if_false]<;>congr 1<;>apply key<;>(try intro y)<;>(try simp only[Zkd,ZX,Zcf,ZgL,AM,A7,As,or_false])
 all_goals first
  | exact Zda _
  | exact Zhx (Zda _)
  | exact Zhx (Zhx (Zda _))
  | skip
 ·constructor
  ·rintro ⟨a,b⟩;exact ⟨.inl a,b⟩
  ·rintro ⟨a | rfl | rfl,b⟩
   ·exact ⟨a,b⟩
   ·rw [hl] at b;simp at b
   ·rw [hr] at b;simp at b
 ·constructor
  ·rintro (rfl | ⟨a,b⟩)
   ·exact ⟨yG,hr⟩
   ·exact ⟨.inl a,b⟩
  ·rintro ⟨a | rfl | rfl,b⟩
   ·exact .inr ⟨a,b⟩
   ·rw [hl] at b;simp at b
   ·exact .inl rfl
 ·constructor
  ·rintro (rfl | ⟨a,b⟩)
   ·exact ⟨yG,hl⟩
   ·exact ⟨.inl a,b⟩
  ·rintro ⟨a | rfl | rfl,b⟩
   ·exact .inr ⟨a,b⟩
   ·exact .inl rfl
   ·rw [hr] at b;simp at b
 ·constructor
  ·rintro (rfl | rfl | ⟨a,b⟩)
   ·exact ⟨yG,hr⟩
   ·exact ⟨yG,hl⟩
   ·exact ⟨.inl a,b⟩
  ·rintro ⟨a | rfl | rfl,b⟩
   ·exact .inr (.inr ⟨a,b⟩)
   ·exact .inr (.inl rfl)
   ·exact .inl rfl
theorem ZhX (x:Zl):(Y5 x).length≤x.pattern.args.length+2:=by
 have h1:=Ze0 (Xk (ZgL x))
 have h2:=ZdE (ZgL x)
 have h3:(ZgL x).length=x.pattern.args.length+2:=by simp [ZgL]
 unfold Y5
 omega
theorem Zvk {x:Zl} {v:ByteArray} (h:v∈Y5 x):Yr v=true:=(Zcf.1 (ZX.1 h)).2
structure ZaL (r:Zg):Prop where
 cl:r.cond.length≤1048576
 tl:r.thn.length≤1048576
 ca:∀x∈r.cond,x.pattern.args.length≤1048576
 ta:∀a∈r.thn,a.pattern.args.length≤1048576
def Y2 (l:List Zl):List ByteArray:=l.flatMap fun x=>if x.kind=1 then Xk x.pattern.args else []
def YY (r:Zg) (n:Nat):List ByteArray:=ZV (Y2 (r.cond.take n))
theorem Zet (r:Zg) (n:Int) (h:ZaL r) (h4:r.cond.length≤4):Zac r n=some (YY r n.toNat):=by
 unfold Zac YY
 refine (ZaV (fun l i (row:List ByteArray)=>some (ZV (row++Y2 (l.take (n.toNat - i))))) (fun l i row=>r.cond.drop i=l∧row.length≤1048576 * i∧i≤r.cond.length) ?_ ?_ r.cond 0 [] ⟨yG,yG,yG⟩).trans yG
 ·rintro i row ⟨h1,h2,h3⟩
  rw [Qi _ yE]
  simp [Y2]
 ·rintro x l i row ⟨h1,h2,h3⟩
  left
  have hi:r.cond[i]?=some x:=by have:=congrArg (fun l=>l[0]?) h1;simpa using this
  have hlt:i<r.cond.length:=(AG.1 hi).1
  have hr:r.cond.drop (i+1)=l:=by have:=congrArg Ab h1;simpa using this
  have hx:=h.ca x (AF hi)
  have hv:=ZdE x.pattern.args
  by_cases hn:((i:Nat):Int)<n
  ·have e:n.toNat - i=(n.toNat - (i+1))+1:=by omega
   by_cases hk:x.kind=1
   ·refine ⟨row++Xk x.pattern.args,?_,⟨hr,by simp;omega,yE⟩,?_⟩
    ·simp only[hn,hk,decide_true,beq_self_eq_true,if_true]
     rw [Zel _ yE,A0,Zj _ yE]
    ·rw [e];simp [Y2,hk]
   ·refine ⟨row,?_,⟨hr,yE,yE⟩,?_⟩
    ·simp [hn,hk]
    ·rw [e];simp [Y2,hk]
  ·have e:n.toNat - i=0:=by omega
   have e':n.toNat - (i+1)=0:=by omega
   refine ⟨row,?_,⟨hr,yE,yE⟩,?_⟩
   ·simp [hn]
   ·rw [e,e'];simp
theorem Zek (r:Zg) (n:Int) (h:ZaL r) (h4:r.cond.length≤4):QH r n=some (YY r n.toNat):=by
 unfold QH YY
 refine (ZaV (fun l i (row:List ByteArray)=>some ((Y2 (l.take (n.toNat - i))).foldl QO row)) (fun l i row=>r.cond.drop i=l∧row.length≤1048576 * i∧i≤r.cond.length∧Asc row) ?_ ?_ r.cond 0 [] ⟨yG,yG,yG,AC⟩).trans (by simp [ZV])
 ·rintro i row ⟨h1,h2,h3,h5⟩
  simp [Y2]
 ·rintro x l i row ⟨h1,h2,h3,h5⟩
  have hi:r.cond[i]?=some x:=by have:=congrArg (fun l=>l[0]?) h1;simpa using this
  have hlt:i<r.cond.length:=(AG.1 hi).1
  have hr:r.cond.drop (i+1)=l:=by have:=congrArg Ab h1;simpa using this
  have hx:=h.ca x (AF hi)
  have hv:=ZdE x.pattern.args
  have hs:=Ze0 (Xk x.pattern.args)
  by_cases hn:((i:Nat):Int)<n
  ·left
   have e:n.toNat - i=(n.toNat - (i+1))+1:=by omega
   by_cases hk:x.kind=1
   ·obtain ⟨f1,f2,f3⟩:=Qc (ZV (Xk x.pattern.args)) row h5
    refine ⟨(ZV (Xk x.pattern.args)).foldl QO row,?_,⟨hr,yE,yE,f1⟩,?_⟩
    ·simp only[hn,hk,decide_true,beq_self_eq_true,if_true]
     rw [ZcT _ yE,A0,Zm0 (fun _ _ _=>rfl) yE]
    ·rw [e]
     simp only[Y2,List.take_succ_cons,AN,hk,if_true,Ag]
     congr 2
     obtain ⟨g1,g2,_⟩:=Qc (Xk x.pattern.args) row h5
     exact Zqn g1 f1 fun y=>by rw [g2,f2,ZX]
   ·refine ⟨row,?_,⟨hr,yE,yE,h5⟩,?_⟩
    ·simp [hn,hk]
    ·rw [e];simp [Y2,hk]
  ·right
   have e:n.toNat - i=0:=by omega
   refine ⟨row,by simp [hn],by rw [e];simp [Y2]⟩
def Znv (r:Zg) (i:Int) (v:ByteArray):Bool:=!(Q5 (fun k x=>!(decide ((k:Int)≠i)&&YM (Y5 x) v)) r.cond 0&&r.thn.all fun a=>!YM a.pattern.args v)
theorem Zhu {r:Zg} {i:Int} {v:ByteArray} {f:Zl→Option (List ByteArray)} {g:List ByteArray→ByteArray→Option Bool} (hf:∀x∈r.cond,f x=some (Y5 x)) (hg:∀l,g l v=some (YM l v)) {fin:Unit→Option Bool} (c:fin ()=some (!(r.thn.all fun a=>!YM a.pattern.args v))):
  Zp (σ:=Unit) (fun (k:Nat) (x:Zl) _=>if (((k:Nat):Int) != i)=true then (f x).bind fun l=>(g l v).bind fun b=>if b=true then some (.inr true) else some (.inl ()) else some (.inl ())) fin r.cond 0 ()=some (Znv r i v):=by
 rw [Xu (p:=fun k x=>!(decide ((k:Int)≠i)&&YM (Y5 x) v)) (r:=true)]
 ·unfold Znv
  cases Q5 (fun k x=>!(decide ((k:Int)≠i)&&YM (Y5 x) v)) r.cond 0 with
  | true=>simp only[if_true,c,A4]
  | false=>simp
 ·intro j x hj
  rw [hf x (AF hj),A0,hg,A0,AI]
  by_cases h:(j:Int)=i
  ·simp [h]
  ·have:((j:Int) != i)=true:=by simpa using h
   simp only[this,if_true]
   cases YM (Y5 x) v<;>simp [h]
theorem ZgX (r:Zg) (i:Int) (v:ByteArray) (h:ZaL r):XT r i v=some (Znv r i v):=by
 unfold XT
 refine Zhu (f:=QI) (g:=Xv) (fun x mx=>ZcE x (by have:=h.ca x mx;omega)) (fun l=>Zay l v) ?_
 rw [ZcX (p:=fun a=>YM a.pattern.args v) (r:=true)]
 ·simp only[←At,Au]
  cases r.thn.any fun a=>YM a.pattern.args v<;>rfl
 ·intro j a _
  rw [Zay]
  cases YM a.pattern.args v<;>simp
theorem ZkP (r:Zg) (i:Int) (v:ByteArray) (h:ZaL r) (hv:Yr v=true):X5 r i v=some (Znv r i v):=by
 unfold X5
 refine Zhu (f:=X3) (g:=ZW) (fun x mx=>Zcz x (by have:=h.ca x mx;omega)) (fun l=>Xc l v) ?_
 rw [ZcX (p:=fun a=>YM a.pattern.args v) (r:=true)]
 ·simp only[←At,Au]
  cases r.thn.any fun a=>YM a.pattern.args v<;>rfl
 ·intro j a ma
  rw [ZcT _ (by have:=h.ta a ma;omega),A0,Xc,A0]
  have:YM (ZV (Xk a.pattern.args)) v=YM a.pattern.args v:=by
   rw [A8,Qo,Qo,ZX,Zcf]
   simp [hv]
  rw [this]
  cases YM a.pattern.args v<;>simp
def Zmu (r:Zg) (i:Nat) (x:Zl) (v:ByteArray):Bool:=decide (x.kind=1)||YM (YY r i) v||(decide (x.kind=2)&&!Znv r i v)
def ZfG (r:Zg) (i:Nat) (x:Zl):Bool:=(Y5 x).all (Zmu r i x)
theorem Zn0 (r:Zg) (i:Nat) (x:Zl) (h:ZaL r) (h4:r.cond.length≤4) (hx:r.cond[i]?=some x):Zcd r i=some (ZfG r i x):=by
 unfold Zcd ZfG
 have ha:atI r.cond (i:Int)=some x:=by unfold atI;rw [if_pos yE,AA];exact hx
 rw [ha,A0,Zet r _ h h4,A0,ZcE x (by have:=h.ca x (AF hx);omega),A0,AA]
 rw [Z0 (p:=Zmu r i x) (r:=false)]
 ·cases (Y5 x).all (Zmu r i x)<;>rfl
 ·intro j v mv
  rw [Zay,ZgX r _ v h]
  simp only[A0,Zmu,beq_iff_eq,bne_iff_ne,ne_eq]
  by_cases h1:x.kind=1
  ·simp [h1]
  ·simp only[h1,if_false,decide_false,AU]
   cases YM (YY r i) v with
   | true=>simp
   | false=>
    by_cases h2:x.kind=2
    ·simp only[h2,not_true_eq_false,if_false,A6,decide_true,A4,AU]
     cases Znv r i v<;>simp
    ·simp [h2]
def YP (r:Zg):Bool:=
 XG r.name&&decide (0≤r.priority)&&decide (r.priority≤9)&&decide (1≤r.cond.length)&&decide (r.cond.length≤4)&&decide (1≤r.thn.length)&&decide (r.thn.length≤2)
  && Q5 (fun i x=>Y1 x&&(decide (i≠0)||decide (x.kind=1))&&ZfG r i x) r.cond 0
  && r.thn.all (fun a=>XP a&&(Xk a.pattern.args).all (YM (YY r r.cond.length)))
  && decide ((ZV (r.cond.flatMap Y5)).length≤6)
theorem ZlQ (l:List Zl) (h:∀x∈l,x.pattern.args.length≤1048576) (h4:l.length≤4):ZbK l=some (l.flatMap Y5):=by
 unfold ZbK
 rw [Y9 (f:=fun s x=>s++Y5 x) (fun j s=>s.length≤1048578 * j) yG]
 ·congr 1
  have:∀(l:List Zl) (a:List ByteArray),l.foldl (fun s x=>s++Y5 x) a=a++l.flatMap Y5:=by
   intro l
   induction l with
   | nil=>simp
   | cons x l ih=>intro a;rw [AT,ih];simp
  simpa using this l []
 ·intro j x s mx _ hl hI
  have:=h x mx
  have:=ZhX x
  rw [ZcE x yE,A0,Zj _ yE]
  exact ⟨rfl,by simp;omega⟩
theorem ZhC (r:Zg) (h:ZaL r):Zex r=some (YP r):=by
 unfold Zex YP
 rw [Zg9,A0]
 cases XG r.name with
 | false=>simp
 | true=>
 simp only[if_true,decide_eq_true_eq,A4]
 split
 ·rw [decide_eq_false (show ¬0≤r.priority by omega)];simp
 split
 ·rw [decide_eq_false (show ¬r.priority≤9 by omega)];simp
 split
 ·rw [decide_eq_false (show ¬1≤r.cond.length by omega)];simp
 split
 ·rw [decide_eq_false (show ¬r.cond.length≤4 by omega)];simp
 split
 ·rw [decide_eq_false (show ¬1≤r.thn.length by omega)];simp
 split
 ·rw [decide_eq_false (show ¬r.thn.length≤2 by omega)];simp
 rw [decide_eq_true (show 0≤r.priority by omega),decide_eq_true (show r.priority≤9 by omega),decide_eq_true (show 1≤r.cond.length by omega),decide_eq_true (show r.cond.length≤4 by omega),decide_eq_true (show 1≤r.thn.length by omega),decide_eq_true (show r.thn.length≤2 by omega)]
 simp only[A4]
 have h4:r.cond.length≤4:=by omega
 rw [Xu (p:=fun i x=>Y1 x&&(decide (i≠0)||decide (x.kind=1))&&ZfG r i x) (r:=false)]
 ·cases Q5 (fun i x=>Y1 x&&(decide (i≠0)||decide (x.kind=1))&&ZfG r i x) r.cond 0 with
  | false=>simp
  | true=>
   simp only[if_true,A4]
   rw [Zet r _ h h4,A0,AA,Z0 (p:=fun a=>XP a&&(Xk a.pattern.args).all (YM (YY r r.cond.length))) (r:=false)]
   ·cases r.thn.all fun a=>XP a&&(Xk a.pattern.args).all (YM (YY r r.cond.length)) with
    | false=>simp
    | true=>
     have hl:(r.cond.flatMap Y5).length≤1048578 * r.cond.length:=by
      have:∀l:List Zl,(∀x∈l,x.pattern.args.length≤1048576)→(l.flatMap Y5).length≤1048578 * l.length:=by
       intro l
       induction l with
       | nil=>simp
       | cons x l ih=>
        intro hl
        have h1:=ih fun y my=>hl y (by simp [my])
        have h2:=hl x yG
        have h3:=ZhX x
        simp only[AN,AK,A9]
        omega
      exact this r.cond h.ca
     simp only[if_true,A4]
     rw [ZlQ _ h.ca h4,A0,Qi _ yE,A0]
     congr 1
     rw [A8]
     simp only[decide_eq_true_eq]
     omega
   ·intro j a ma
    rw [Zoz,A0]
    cases XP a with
    | false=>simp
    | true=>
     simp only[if_true,A4]
     rw [Zel _ (by have:=h.ta a ma;omega),A0,Z0 (p:=YM (YY r r.cond.length)) (r:=.inr false)]
     ·cases (Xk a.pattern.args).all (YM (YY r r.cond.length))<;>rfl
     ·intro k v _
      rw [Zay,A0]
      cases YM (YY r r.cond.length) v<;>simp
 ·intro j x hj
  rw [AI,Zhy,A0,Zn0 r j x h h4 hj]
  simp only[A0]
  cases Y1 x with
  | false=>simp
  | true=>
   by_cases h0:j=0
   ·subst h0
    by_cases hk:x.kind=1
    ·simp only[hk];cases ZfG r 0 x<;>simp
    ·simp [hk]
   ·have:((j:Int)==0)=false:=by rw [beq_eq_false_iff_ne];omega
    simp only[this]
    cases ZfG r j x<;>simp [h0]
theorem Zf0 {α:Type} (f:α→List ByteArray):∀(l:List α) (a:List ByteArray),Asc a→l.foldl (fun s x=>(f x).foldl QO s) a=(l.flatMap f).foldl QO a
 | [],_,_=>rfl
 | x::l,a,h=>by rw [AT,Zf0 f l _ (Qc (f x) a h).1,AN,Ag]
def Znm (r:Zg):List ByteArray:=ZV (r.cond.flatMap Y5++r.thn.flatMap fun a=>Xk a.pattern.args)
theorem Zn2 (r:Zg) (h:ZaL r) (h4:r.cond.length≤4) (h2:r.thn.length≤2):Zed r=some (Znm r):=by
 unfold Zed Znm
 rw [Y9 (f:=fun s x=>(Y5 x).foldl QO s) (fun j s=>s.length≤1048578 * j∧Asc s) ⟨yG,AC⟩]
 ·have hA:=Zf0 Y5 r.cond [] AC
  have hB:Asc (r.cond.foldl (fun s x=>(Y5 x).foldl QO s) []):=by rw [hA];exact (Qc _ [] AC).1
  have hl:(r.cond.foldl (fun s x=>(Y5 x).foldl QO s) []).length≤1048578 * 4:=by
   rw [hA]
   have:=(Qc (r.cond.flatMap Y5) [] AC).2.2
   have h3:(r.cond.flatMap Y5).length≤1048578 * r.cond.length:=by
    have:∀l:List Zl,(∀x∈l,x.pattern.args.length≤1048576)→(l.flatMap Y5).length≤1048578 * l.length:=by
     intro l
     induction l with
     | nil=>simp
     | cons x l ih=>
      intro hl
      have h1:=ih fun y my=>hl y (by simp [my])
      have h2:=hl x yG
      have h3:=ZhX x
      simp only[AN,AK,A9]
      omega
    exact this r.cond h.ca
   simp only[AS,Nat.add_zero] at this
   omega
  rw [Y9 (f:=fun s a=>(ZV (Xk a.pattern.args)).foldl QO s) (fun j s=>s.length≤1048578 * 4+1048576 * j∧Asc s) ⟨yE,hB⟩]
  ·congr 1
   rw [Zf0 (fun a:Zu=>ZV (Xk a.pattern.args)) r.thn _ hB,hA]
   refine Zgd (Qc _ _ (Qc _ [] AC).1).1 fun y=>?_
   rw [(Qc _ _ (Qc _ [] AC).1).2.1 y,(Qc _ [] AC).2.1 y]
   simp only[AM,AW,ZX,As,or_false]
   exact Or.comm
  ·intro j a s ma _ hj hI
   have h5:=h.ta a ma
   have h6:=ZdE a.pattern.args
   have h7:=Ze0 (Xk a.pattern.args)
   obtain ⟨f1,f2,f3⟩:=Qc (ZV (Xk a.pattern.args)) s hI.2
   rw [ZcT _ yE,A0,Zm0 (fun _ _ _=>rfl) yE]
   exact ⟨rfl,yE,f1⟩
 ·intro j x s mx _ hj hI
  have h5:=h.ca x mx
  have h6:=ZhX x
  obtain ⟨f1,f2,f3⟩:=Qc (Y5 x) s hI.2
  rw [Zcz _ yE,A0,Zm0 (fun _ _ _=>rfl) yE]
  exact ⟨rfl,yE,f1⟩
theorem Zsk {l:List Zl} {y:ByteArray} (h:y∈Y2 l):y∈l.flatMap Y5:=by
 simp only[Y2,AW] at h ⊢
 obtain ⟨x,hx,hy⟩:=h
 refine ⟨x,hx,?_⟩
 split at hy
 ·rw [Y5,ZX,Zcf]
  rw [Zcf] at hy
  exact ⟨by simp [ZgL,hy.1],hy.2⟩
 ·simp at hy
theorem ZeJ (r:Zg) (h:ZaL r):ZcZ r=some (YP r):=by
 unfold ZcZ YP
 rw [Zhp,A0]
 cases XG r.name with
 | false=>simp
 | true=>
 simp only[if_true,Zh0,A0,A4,A5,decide_eq_true_eq]
 split
 rotate_left
 ·rename_i hh
  have:(decide (0≤r.priority)&&decide (r.priority≤9))=false:=by simp;omega
  rw [this];simp
 rename_i hp
 rw [decide_eq_true hp.1,decide_eq_true hp.2]
 split
 rotate_left
 ·rename_i hh
  have:(decide (1≤r.cond.length)&&decide (r.cond.length≤4))=false:=by simp;omega
  simp only[A4,this,Ah]
 rename_i hc
 rw [decide_eq_true (show 1≤r.cond.length by omega),decide_eq_true (show r.cond.length≤4 by omega)]
 split
 rotate_left
 ·rename_i hh
  have:(decide (1≤r.thn.length)&&decide (r.thn.length≤2))=false:=by simp;omega
  simp only[A4,this,Ah]
 rename_i ht
 rw [decide_eq_true (show 1≤r.thn.length by omega),decide_eq_true (show r.thn.length≤2 by omega)]
 simp only[A4]
 have h4:r.cond.length≤4:=by omega
 rw [Zek r _ h h4,A0,AA]
 rw [Xu (p:=fun i x=>Y1 x&&(decide (i≠0)||decide (x.kind=1))&&ZfG r i x) (r:=false)]
 ·cases Q5 (fun i x=>Y1 x&&(decide (i≠0)||decide (x.kind=1))&&ZfG r i x) r.cond 0 with
  | false=>simp
  | true=>
   simp only[if_true,A4]
   rw [Z0 (p:=fun a=>XP a&&(Xk a.pattern.args).all (YM (YY r r.cond.length))) (r:=false)]
   ·cases ha:r.thn.all fun a=>XP a&&(Xk a.pattern.args).all (YM (YY r r.cond.length)) with
    | false=>simp
    | true=>
     simp only[if_true,A4]
     rw [Zn2 r h h4 yE,A0]
     have e:Znm r=ZV (r.cond.flatMap Y5):=Zow fun y=>by
      simp only[AM]
      refine ⟨fun hy=>?_,.inl⟩
      rcases hy with hy | hy
      ·exact hy
      ·obtain ⟨a,ma,hy⟩:=AW.1 hy
       have:=AL.1 ha a ma
       simp only[A5] at this
       have:=AL.1 this.2 y hy
       rw [Qo,YY,ZX,List.take_length] at this
       exact Zsk this
     rw [e]
     congr 1
     rw [A8]
     simp only[decide_eq_true_eq]
     omega
   ·intro j a ma
    rw [Zon,A0]
    cases XP a with
    | false=>simp
    | true=>
     simp only[if_true,A4]
     rw [ZcT _ (by have:=h.ta a ma;omega),A0,Z0 (p:=YM (YY r r.cond.length)) (r:=.inr false)]
     ·have:(ZV (Xk a.pattern.args)).all (YM (YY r r.cond.length))=(Xk a.pattern.args).all (YM (YY r r.cond.length)):=by
       rw [A8,AL,AL]
       simp only[ZX]
      rw [this]
      cases (Xk a.pattern.args).all (YM (YY r r.cond.length))<;>rfl
     ·intro k v _
      rw [Xc,A0]
      cases YM (YY r r.cond.length) v<;>simp
 ·intro j x hj
  have hxa:=h.ca x (AF hj)
  rw [AI,ZeH,A0,Zek r _ h h4,Zcz x yE,AA]
  simp only[A0]
  cases hic:Y1 x with
  | false=>simp
  | true=>
   have c:∀{fin:Unit→Option (Unit ⊕ Bool)} (d:fin ()=some (.inl ())),Zp (σ:=Unit) (ρ:=Unit ⊕ Bool) (fun (_:Nat) (v:ByteArray) _=>(ZW (YY r j) v).bind fun b=>(ZbV x).bind fun t=>if t=true then (if b=true then (if (x.kind==2)=true then some (.inl ()) else some (.inl ())) else some (.inr (.inr false))) else (if (x.kind==2)=true then (if b=true then some (.inl ()) else (X5 r ((j:Nat):Int) v).bind fun e=>if e=true then some (.inr (.inr false)) else some (.inl ())) else some (.inl ()))) fin (Y5 x) 0 ()=some (bif ZfG r j x then .inl () else .inr false):=fun {fin} d=>by
    rw [Z0 (p:=Zmu r j x) (r:=.inr false)]
    ·unfold ZfG
     cases (Y5 x).all (Zmu r j x)<;>simp [d]
    ·intro k v mv
     rw [Xc,Zs4,ZkP r _ v h (Zvk mv),hic]
     simp only[A0,A4,decide_eq_true_eq,beq_iff_eq,Zmu]
     rcases Zqk hic with hk | hk | hk | hk | hk<;>rw [hk]<;>cases YM (YY r j) v<;>cases Znv r j v<;>simp
   by_cases h0:j=0
   ·subst h0
    by_cases hk:x.kind=1
    ·have f:(x.kind != 1)=false:=by simp [hk]
     simp only[if_true,f,show (((0:Nat):Int)==0)=true from rfl,A6,if_false]
     rw [c rfl]
     simp [hk]
    ·have f:(x.kind != 1)=true:=by simpa using hk
     simp [f,hk]
   ·have:((j:Int)==0)=false:=by rw [beq_eq_false_iff_ne];omega
    simp only[if_true,this,A6,if_false]
    rw [c rfl]
    simp [h0]
theorem Zkg {v:ByteArray} (h:Yr v=true):ZT v=false:=by
 cases ha:ZT v with
 | false=>rfl
 | true=>
  have h1:=ZjK ha
  rw [Zax] at h1
  unfold Yr at h
  simp only[A5,decide_eq_true_iff] at h
  omega
def Q6:List Zi→ByteArray→Option ByteArray
 | [],_=>none
 | x::b,v=>if x.var=v then some x.value else Q6 b v
def X9 (b:List Zi) (t:ByteArray):Option ByteArray:=if ZT t=true then some t else if Yr t=true then Q6 b t else none
theorem Zi0 {b:List Zi} {v:ByteArray} (h:Yr v=true):X9 b v=Q6 b v:=by
 unfold X9
 rw [if_neg (by rw [Zkg h];simp),if_pos h]
def Zfp (x:Zi):Bool:=Yr x.var&&ZT x.value
def Zjf:Option ByteArray→ByteArray→Bool
 | none,_=>true
 | some p,v=>sLt p v
def Y4:Option ByteArray→List Zi→Bool
 | _,[]=>true
 | prev,x::r=>Zfp x&&Zjf prev x.var&&Y4 (some x.var) r
def ZY (b:List Zi):Bool:=decide (b.length≤6)&&Y4 none b
theorem Zpm {a:Option ByteArray} {b:List Zi} (h:Y4 a b=true):∀x∈b,Zfp x=true∧∀p,a=some p→sLt p x.var=true:=by
 induction b generalizing a with
 | nil=>simp
 | cons y r ih=>
  simp only[Y4,A5] at h
  obtain ⟨⟨h1,h2⟩,h3⟩:=h
  intro x mx
  rcases A7.1 mx with rfl | mx
  ·exact ⟨h1,fun p hp=>by subst hp;exact h2⟩
  ·obtain ⟨k1,k2⟩:=ih h3 x mx
   exact ⟨k1,fun p hp=>by subst hp;exact ZfL h2 (k2 _ rfl)⟩
theorem Zwa {b:List Zi} {v:ByteArray} (h:Q6 b v=none):∀x∈b,¬x.var=v:=by
 induction b with
 | nil=>simp
 | cons y r ih=>
  simp only[Q6] at h
  split at h
  ·simp at h
  ·rename_i hy
   intro x mx
   rcases A7.1 mx with rfl | mx
   ·exact hy
   ·exact ih h x mx
theorem Zvy {b:List Zi} {v w:ByteArray} (h:Q6 b v=some w):∃x∈b,x.var=v∧x.value=w:=by
 induction b with
 | nil=>simp [Q6] at h
 | cons y r ih=>
  simp only[Q6] at h
  split at h
  ·rename_i hy
   exact ⟨y,yG,hy,AE h⟩
  ·obtain ⟨x,mx,h1⟩:=ih h
   exact ⟨x,by simp [mx],h1⟩
def Zgb:List Zi→ByteArray→ByteArray→List Zi
 | [],v,w=>[⟨v,w⟩]
 | x::b,v,w=>if sLt v x.var=true then ⟨v,w⟩::x::b else x::Zgb b v w
theorem Zrf (v w:ByteArray):∀b:List Zi,(Zgb b v w).length=b.length+1
 | []=>rfl
 | x::b=>by
  simp only[Zgb]
  split
  ·rfl
  ·rw [A9,Zrf v w b];rfl
theorem ZkO {v w u:ByteArray}:∀{b:List Zi},Q6 b v=none→Q6 (Zgb b v w) u=if v=u then some w else Q6 b u
 | [],_=>by simp [Zgb,Q6]
 | x::b,h=>by
  simp only[Q6] at h
  split at h
  ·simp at h
  ·rename_i hx
   simp only[Zgb]
   split
   ·simp [Q6]
   ·simp only[Q6]
    rw [ZkO h]
    by_cases hu:x.var=u
    ·rw [if_pos hu,if_pos hu,if_neg (fun e=>hx (hu.trans e.symm))]
    ·rw [if_neg hu,if_neg hu]
theorem ZpX {v w:ByteArray} (hv:Yr v=true) (hw:ZT w=true):∀{b:List Zi} {a:Option ByteArray},Y4 a b=true→Q6 b v=none→(∀p,a=some p→sLt p v=true)→Y4 a (Zgb b v w)=true
 | [],a,_,_,hp=>by
  simp only[Zgb,Y4,Zfp,hv,hw,Bool.and_self,A4,Ai]
  cases a with
  | none=>rfl
  | some p=>exact hp p rfl
 | x::b,a,h,hg,hp=>by
  have hx:=Zwa hg x yG
  simp only[Q6,hx,if_false] at hg
  simp only[Y4,A5] at h
  obtain ⟨⟨h1,h2⟩,h3⟩:=h
  simp only[Zgb]
  by_cases c:sLt v x.var=true
  ·rw [if_pos c]
   have h4:Zjf a v=true:=by
    cases a with
    | none=>rfl
    | some p=>exact hp p rfl
   simp only[Y4,A5]
   exact ⟨⟨by simp [Zfp,hv,hw],h4⟩,⟨⟨h1,c⟩,h3⟩⟩
  ·rw [if_neg c]
   simp only[Y4,A5]
   refine ⟨⟨h1,h2⟩,ZpX hv hw h3 hg fun p d=>?_⟩
   obtain rfl:=AE d
   exact ZfB (by simpa using c) (fun e=>hx e.symm)
def Zhw (b:List Zi) (v w:ByteArray):Option (List Zi):=
 if ZY b=true∧Yr v=true∧ZT w=true then
  (match Q6 b v with
  | some old=>if old=w then some b else none
  | none=>if b.length=6 then none else some (Zgb b v w))
 else none
theorem ZuS {b b':List Zi} {v w:ByteArray} (h:Zhw b v w=some b'):ZY b'=true∧Q6 b' v=some w∧∀u z,Q6 b u=some z→Q6 b' u=some z:=by
 unfold Zhw at h
 split at h
 ·rename_i hc
  obtain ⟨h1,h2,h3⟩:=hc
  cases hg:Q6 b v with
  | some old=>
   rw [hg] at h
   simp only at h
   split at h
   ·rename_i he
    obtain rfl:=AE h
    exact ⟨h1,by rw [hg,he],fun u z hu=>hu⟩
   ·simp at h
  | none=>
   rw [hg] at h
   simp only at h
   split at h
   ·simp at h
   ·rename_i hl
    obtain rfl:=AE h
    unfold ZY at h1 ⊢
    rw [A5,decide_eq_true_iff] at h1
    refine ⟨?_,by rw [ZkO hg,if_pos rfl],fun u z hu=>?_⟩
    ·rw [A5,decide_eq_true_iff,Zrf]
     exact ⟨yE,ZpX h2 h3 h1.2 hg yG⟩
    ·rw [ZkO hg,if_neg (fun e=>by rw [←e,hg] at hu;simp at hu)];exact hu
 ·simp at h
def Ze9:List ByteArray→List ByteArray→List Zi→Option (List Zi)
 | [],_,b=>some b
 | _::_,[],_=>none
 | a::p,w::f,b=>if ZT a=true then (if a=w then Ze9 p f b else none) else (Zhw b a w).bind (Ze9 p f)
theorem Zkr:∀{p f:List ByteArray} {b b':List Zi},ZY b=true→Ze9 p f b=some b'→ZY b'=true∧(∀a∈p,Yr a=true→∃z,Q6 b' a=some z)∧∀u z,Q6 b u=some z→Q6 b' u=some z
 | [],_,b,b',hb,h=>by
  simp only[Ze9,Option.some.injEq] at h
  subst h
  exact ⟨hb,yG,fun u z h=>h⟩
 | _::_,[],_,_,_,h=>by simp [Ze9] at h
 | a::p,w::f,b,b',hb,h=>by
  simp only[Ze9] at h
  by_cases ha:ZT a=true
  ·rw [if_pos ha] at h
   split at h
   ·obtain ⟨h1,h2,h3⟩:=Zkr hb h
    refine ⟨h1,fun x mx hx=>?_,h3⟩
    rcases A7.1 mx with rfl | mx
    ·rw [Zkg hx] at ha;simp at ha
    ·exact h2 x mx hx
   ·simp at h
  ·rw [if_neg ha] at h
   obtain ⟨b1,e1,h⟩:=Option.bind_eq_some_iff.1 h
   obtain ⟨k1,k2,k3⟩:=ZuS e1
   obtain ⟨h1,h2,h3⟩:=Zkr k1 h
   refine ⟨h1,fun x mx hx=>?_,fun u z hu=>h3 u z (k3 u z hu)⟩
   rcases A7.1 mx with rfl | mx
   ·exact ⟨w,h3 _ _ k2⟩
   ·exact h2 x mx hx
def ZhA (p:Zx) (f:Zc) (b:List Zi):Bool:=Z9 p&&Y3 f&&ZY b&&decide (p.rel=f.rel)&&decide (p.args.length=f.args.length)
def XL (p:Zx) (f:Zc) (b:List Zi):Option (List Zi):=if ZhA p f b=true then Ze9 p.args f.args b else none
theorem ZvH {p:Zx} {f:Zc} {b b':List Zi} (h:XL p f b=some b'):ZY b'=true∧(∀a∈p.args,Yr a=true→∃z,Q6 b' a=some z)∧∀u z,Q6 b u=some z→Q6 b' u=some z:=by
 unfold XL at h
 split at h
 ·rename_i hc
  unfold ZhA at hc
  simp only[A5] at hc
  exact Zkr hc.1.1.2 h
 ·simp at h
def Zfy:List ByteArray→List Zi→Option (List ByteArray)
 | [],_=>some []
 | a::p,b=>(X9 b a).bind fun v=>(Zfy p b).map fun l=>v::l
theorem Znw {b:List Zi}:∀{p:List ByteArray},p.all YJ=true→(∀a∈p,Yr a=true→∃z,Q6 b a=some z)→∃l,Zfy p b=some l∧l.length=p.length
 | [],_,_=>⟨[],rfl,rfl⟩
 | a::p,h,hv=>by
  simp only[List.all_cons,A5] at h
  obtain ⟨l,e,hl⟩:=Znw h.2 fun x mx=>hv x (by simp [mx])
  have:∃v,X9 b a=some v:=by
   have ht:=h.1
   unfold YJ at ht
   rw [AQ] at ht
   rcases ht with ht | ht
   ·exact ⟨a,by unfold X9;rw [if_pos ht]⟩
   ·obtain ⟨z,hz⟩:=hv a yG ht
    exact ⟨z,by rw [Zi0 ht];exact hz⟩
  obtain ⟨v,hv⟩:=this
  exact ⟨v::l,by simp only[Zfy,hv,e,A0,Ar],by simp [hl]⟩
def Zb8 (p:Zx) (b:List Zi):Option Zc:=if Z9 p=true∧ZY b=true then (Zfy p.args b).map fun l=>{ rel:=p.rel,args:=l } else none
def ZdF (p:Zx) (b:List Zi) (F:List Zc):List Zc:=F.filter fun f=>(XL p f b).isSome
def ZxY (l r:ByteArray):Bool:=match Q3 l,Q3 r with | some m,some n=>decide (m<n) | _,_=>false
def Zq4 (k:Int) (l r:ByteArray):Bool:=if k=3 then decide (l=r) else if k=4 then !decide (l=r) else ZxY l r
def ZnK (x:Zl) (b:List Zi):Bool:=
 if Y1 x=true∧3≤x.kind∧ZY b=true then (match X9 b x.left,X9 b x.right with | some l,some r=>Zq4 x.kind l r | _,_=>false) else false
def Zgo (x:Zl) (b:List Zi) (F:List Zc):Bool:=
 if Y1 x=true∧ZY b=true then
  (if x.kind=1 then decide (0<(ZdF x.pattern b F).length) else if x.kind=2 then decide ((ZdF x.pattern b F).length=0) else ZnK x b)
 else false
def QD (x:Zl) (F:List Zc) (t:Zq):List Zq:=
 if x.kind=1 then F.filterMap fun f=>(XL x.pattern f t.binding).map fun b=>{ facts:=t.facts++[f],binding:=b }
 else if Zgo x t.binding F=true then [t] else []
def ZfE (x:Zl) (F:List Zc) (l:List Zq):List Zq:=l.flatMap (QD x F)
def ZvF:Zq:={ facts:=[],binding:=[] }
def Zz (l:List Zl) (F:List Zc):List Zq:=l.foldl (fun ts x=>ZfE x F ts) [ZvF]
theorem Zaw (p:List Zl) (x:Zl) (F:List Zc):Zz (p++[x]) F=ZfE x F (Zz p F):=by
 unfold Zz
 rw [Ag]
 rfl
structure ZmI (p:List Zl) (F:List Zc) (t:Zq):Prop where
 bind:ZY t.binding=true
 len:t.facts.length≤p.length
 sub:∀f∈t.facts,f∈F
 vars:∀v∈Y2 p,∃z,Q6 t.binding v=some z
theorem ZyL {p:List Zl} {x:Zl} {F:List Zc} {t u:Zq} (h:ZmI p F t) (hu:u∈QD x F t):ZmI (p++[x]) F u:=by
 unfold QD at hu
 have hv:Y2 (p++[x])=Y2 p++(if x.kind=1 then Xk x.pattern.args else []):=by simp [Y2]
 by_cases hk:x.kind=1
 ·rw [if_pos hk] at hu
  obtain ⟨f,mf,e⟩:=List.mem_filterMap.1 hu
  obtain ⟨b,e2,rfl⟩:=Option.map_eq_some_iff.1 e
  obtain ⟨h1,h2,h3⟩:=ZvH e2
  refine ⟨h1,by have:=h.len;simp;omega,fun g mg=>?_,fun v mv=>?_⟩
  ·rcases AM.1 mg with mg | mg
   ·exact h.sub g mg
   ·simp at mg;subst mg;exact mf
  ·rw [hv,if_pos hk] at mv
   rcases AM.1 mv with mv | mv
   ·obtain ⟨z,hz⟩:=h.vars v mv
    exact ⟨z,h3 v z hz⟩
   ·obtain ⟨m1,m2⟩:=Zcf.1 mv
    exact h2 v m1 m2
 ·rw [if_neg hk] at hu
  split at hu
  ·simp at hu
   subst hu
   refine ⟨h.bind,by have:=h.len;simp;omega,h.sub,fun v mv=>?_⟩
   rw [hv,if_neg hk,Aj] at mv
   exact h.vars v mv
  ·simp at hu
theorem Zym (F:List Zc):ZmI [] F ZvF:=⟨rfl,AR _,by simp [ZvF],by simp [Y2]⟩
theorem Zbw (F:List Zc) (l:List Zl):∀t∈Zz l F,ZmI l F t:=by
 have:∀n (l:List Zl),l.length=n→∀t∈Zz l F,ZmI l F t:=by
  intro n
  induction n with
  | zero=>
   intro l h
   rw [Am h]
   intro t mt
   simp [Zz] at mt
   subst mt
   exact Zym F
  | succ n ih=>
   intro l h
   obtain ⟨p,x,rfl⟩:∃p x,l=p++[x]:=⟨l.dropLast,l.getLast (by intro e;simp [e] at h),(An _).symm⟩
   intro t mt
   rw [Zaw] at mt
   obtain ⟨s,ms,mt⟩:=AW.1 mt
   exact ZyL (ih p (by simpa using h) s ms) mt
 exact this _ l rfl
theorem ZjU (x:Zl) (F:List Zc) (hF:F.length≤24):∀l:List Zq,(ZfE x F l).length≤24 * l.length
 | []=>AR _
 | t::l=>by
  have ih:=ZjU x F hF l
  have h1:(QD x F t).length≤24:=by
   unfold QD
   split
   ·exact AH (List.length_filterMap_le _ _) hF
   ·split<;>simp
  unfold ZfE at *
  rw [AN,AK,A9]
  omega
theorem Q7 (F:List Zc) (hF:F.length≤24) (l:List Zl) (hl:l.length≤4):(Zz l F).length≤331776:=by
 have key:∀(l:List Zl) (ts:List Zq),(l.foldl (fun ts x=>ZfE x F ts) ts).length≤24 ^ l.length * ts.length:=by
  intro l
  induction l with
  | nil=>intro ts;simp
  | cons x l ih=>
   intro ts
   rw [AT,A9,Nat.pow_succ]
   have h1:=ih (ZfE x F ts)
   have h2:=ZjU x F hF ts
   refine AH h1 (AH (Nat.mul_le_mul_left _ h2) ?_)
   rw [←Aq]
   exact AR _
 have h1:=key l [ZvF]
 have h2:24 ^ l.length≤24 ^ 4:=Ad yE hl
 unfold Zz
 simp only[List.length_singleton,Nat.mul_one] at h1
 omega
def Zgq (b:List Zi) (i:Nat):Option ByteArray:=if i=0 then none else (b[i - 1]?).map (·.var)
theorem ZkM {b:List Zi} {body:Nat→Zi→Unit→Option (Unit ⊕ Bool)} {fin:Unit→Option Bool} (hb:∀i x,b[i]?=some x→body i x ()=if (Zfp x&&Zjf (Zgq b i) x.var)=true then some (.inl ()) else some (.inr false)):
  ∀(l:List Zi) (i:Nat),b.drop i=l→Zp body fin l i ()=if Y4 (Zgq b i) l=true then fin () else some false
 | [],i,_=>by simp [Zp,Y4]
 | x::l,i,h=>by
  have hx:b[i]?=some x:=by rw [←List.head?_drop,h];rfl
  have hd:b.drop (i+1)=l:=by rw [←List.tail_drop,h];rfl
  have hp:Zgq b (i+1)=some x.var:=by unfold Zgq;rw [if_neg yE,Nat.add_sub_cancel,hx];rfl
  by_cases hc:(Zfp x&&Zjf (Zgq b i) x.var)=true
  ·rw [Z4 (by rw [hb i x hx,if_pos hc]),ZkM hb l (i+1) hd,hp]
   simp only[Y4,hc,A4]
  ·rw [YF (by rw [hb i x hx,if_neg hc])]
   simp only[Y4,eq_false_of_ne_true hc,Ah,A6,if_false]
theorem ZoT {b:List Zi} (hl:b.length≤1048576) {i:Nat} {x:Zi} (hx:b[i]?=some x):
  (if Yr x.var=true then (if ZT x.value=true then (if (decide (0<((i:Nat):Int)))=true then (atI b (IntKind.i64.wrap (((i:Nat):Int) - 1))).bind fun a=>if (sLt a.var x.var)=true then some (.inl ()) else some (.inr false) else some (.inl ())) else some (.inr false)) else some (.inr false):Option (Unit ⊕ Bool))
   = if (Zfp x&&Zjf (Zgq b i) x.var)=true then some (.inl ()) else some (.inr false):=by
 have hi:=(AG.1 hx).1
 unfold Zfp
 cases Yr x.var with
 | false=>simp
 | true=>
  cases ZT x.value with
  | false=>simp
  | true=>
   rw [if_pos rfl,if_pos rfl]
   by_cases h0:i=0
   ·subst h0
    rw [if_neg yG]
    simp [Zgq,Zjf]
   ·have hp:Zgq b i=some (b[i - 1]).var:=by unfold Zgq;rw [if_neg h0,AJ yE];rfl
    rw [if_pos (by simp;omega),show ((i:Nat):Int) - 1=((i - 1:Nat):Int) by omega,ZeV yE yE,Za1,AJ yE,A0,hp]
    simp [Zjf]
theorem Zam (b:List Zi):XS b=some (ZY b):=by
 unfold XS ZY
 by_cases h6:b.length≤6
 ·rw [if_neg (by simp;omega),ZkM (b:=b) (fun i x hx=>by
   rw [ZdO,A0,QC]
   exact ZoT yE hx) b 0 rfl,decide_eq_true h6]
  show (if Y4 none b=true then some true else some false)=_
  cases Y4 none b<;>rfl
 ·rw [if_pos (by simp;omega),decide_eq_false h6]
  rfl
theorem Zat (b:List Zi) (hl:b.length≤1048576):XU b=some (ZY b):=by
 unfold XU ZY
 rw [ZkM (b:=b) (fun i x hx=>by
   rw [Zaj,A0,QB]
   exact ZoT hl hx) b 0 rfl]
 show (if Y4 none b=true then some (decide (((b.length:Nat):Int)≤6)) else some false)=_
 have:decide (((b.length:Nat):Int)≤6)=decide (b.length≤6):=by rw [A8];simp;omega
 rw [this]
 cases Y4 none b<;>simp
def Zzp (b:List Zi) (t:ByteArray):ByteArray × Bool:=match X9 b t with | some v=>(v,true) | none=>(⟨#[]⟩,false)
def Zxo:Option ByteArray→ByteArray × Bool
 | some v=>(v,true)
 | none=>(⟨#[]⟩,false)
theorem Zcy (b:List Zi) (t:ByteArray):Zzp b t=Zxo (X9 b t):=by unfold Zzp Zxo;cases X9 b t<;>rfl
theorem Zny {t:ByteArray} {body:Nat→Zi→Unit→Option (Unit ⊕ (ByteArray × Bool))} (hb:∀i x,body i x ()=if x.var=t then some (.inr (x.value,true)) else some (.inl ())):
  ∀(b:List Zi) (i:Nat),Zp body (fun _=>some ((⟨#[]⟩),false)) b i ()=some (Zxo (Q6 b t))
 | [],_=>rfl
 | x::b,i=>by
  by_cases hx:x.var=t
  ·rw [YF (by rw [hb,if_pos hx])]
   simp [Q6,hx,Zxo]
  ·rw [Z4 (by rw [hb,if_neg hx]),Zny hb b (i+1)]
   simp [Q6,hx]
theorem Zdq (b:List Zi) (t:ByteArray):Zbt b t=some (Zzp b t):=by
 unfold Zbt
 rw [Zcy,QC,A0]
 unfold X9
 by_cases ha:ZT t=true
 ·rw [if_pos ha,if_pos ha];rfl
 ·rw [if_neg ha,if_neg ha,ZdO,A0]
  by_cases hv:Yr t=true
  ·rw [if_pos hv,if_pos hv,Zny]
   intro i x
   by_cases hx:x.var=t
   ·rw [if_pos (ZQ.2 hx),if_pos hx]
   ·rw [if_neg (by rw [ZQ];exact hx),if_neg hx]
  ·rw [if_neg hv,if_neg hv];rfl
theorem Zdm (b:List Zi) (t:ByteArray):Zbj b t=some (Zzp b t):=by
 unfold Zbj
 rw [Zcy,QB,A0]
 unfold X9
 by_cases ha:ZT t=true
 ·rw [if_pos ha,if_pos ha];rfl
 ·rw [if_neg ha,if_neg ha]
  by_cases hv:Yr t=true
  ·rw [if_pos hv,Zny]
   intro i x
   by_cases hx:x.var=t
   ·rw [if_pos (ZQ.2 hx),if_pos hx,Zaj,A0,if_pos hv]
   ·rw [if_neg (by rw [ZQ];exact hx),if_neg hx]
  ·rw [if_neg hv,Z0 (p:=fun _=>true) (r:=((⟨#[]⟩:ByteArray),false))]
   ·simp [Zxo]
   ·intro i x _
    rw [Zaj,A0,if_neg hv]
    split<;>rfl
theorem ZsC {a v:ByteArray}:((sLt a v||sEq a v)=true)↔¬sLt v a=true:=by
 rw [AQ,ZQ]
 constructor
 ·rintro (h | h)
  ·rw [ZkU h];simp
  ·rw [h,ZiT];simp
 ·intro h
  by_cases e:a=v
  ·exact .inr e
  ·exact .inl (ZfB (by simpa using h) (fun e2=>e e2.symm))
theorem Zsf {ρ:Type} {v w:ByteArray} {K:List Zi→Option ρ} {body:Nat→Zi→(List Zi × Bool)→Option ((List Zi × Bool) ⊕ ρ)} {fin:(List Zi × Bool)→Option ρ}
  (h1:∀i x row,row.length≤1000→body i x (row,true)=some (.inl (row++[x],true)))
  (h2:∀i x row,row.length≤1000→body i x (row,false)=if (sLt x.var v||sEq x.var v)=true then some (.inl (row++[x],false)) else some (.inl ((row++[{ var:=v,value:=w }])++[x],true)))
  (h3:∀row,row.length≤1000→fin (row,true)=K row) (h4:∀row,row.length≤1000→fin (row,false)=K (row++[{ var:=v,value:=w }])) (b:List Zi) (hb:b.length≤100):Zp body fin b 0 ([],false)=K (Zgb b v w):=by
 rw [ZaV (fun l _ s=>K (s.1++(if s.2=true then l else Zgb l v w))) (fun l _ s=>s.1.length+2 * l.length≤900) ?_ ?_ b 0 ([],false) (by simp;omega)]
 ·simp
 ·rintro i ⟨row,a⟩ hI
  simp only[AS] at hI
  cases a with
  | true=>rw [h3 row yE];simp
  | false=>rw [h4 row yE];simp [Zgb]
 ·rintro x l i ⟨row,a⟩ hI
  simp only[A9] at hI
  left
  cases a with
  | true=>exact ⟨_,h1 i x row yE,by simp;omega,yG⟩
  | false=>
   rw [h2 i x row yE]
   by_cases hs:sLt v x.var=true
   ·rw [if_neg (by rw [ZsC];simpa using hs)]
    exact ⟨_,rfl,by simp;omega,by simp [Zgb,hs]⟩
   ·rw [if_pos (ZsC.2 hs)]
    exact ⟨_,rfl,by simp;omega,by simp [Zgb,hs]⟩
def Zlw:Option (List Zi)→List Zi × Bool
 | some b=>(b,true)
 | none=>([],false)
theorem Zh7 {b:List Zi} {v w:ByteArray} (h:¬(ZY b=true∧Yr v=true∧ZT w=true)):Zlw (Zhw b v w)=([],false):=by
 unfold Zhw
 rw [if_neg h]
 rfl
theorem Zj9 {b:List Zi} {v w:ByteArray} (h1:ZY b=true) (h2:Yr v=true) (h3:ZT w=true):Zhw b v w=match Q6 b v with | some a=>if a=w then some b else none | none=>if b.length=6 then none else some (Zgb b v w):=by
 unfold Zhw
 exact if_pos ⟨h1,h2,h3⟩
theorem QE {b:List Zi} (h:ZY b=true):b.length≤6:=by
 unfold ZY at h
 rw [A5,decide_eq_true_iff] at h
 exact h.1
theorem ZrB (b:List Zi) (v w:ByteArray):Zg4 b v w=some (Zlw (Zhw b v w)):=by
 unfold Zg4
 rw [Zam,A0]
 by_cases h1:ZY b=true
 ·rw [if_pos h1,ZdO,A0]
  by_cases h2:Yr v=true
  ·rw [if_pos h2,QC,A0]
   by_cases h3:ZT w=true
   ·have h6:=QE h1
    rw [if_pos h3,Zdq,A0,Zcy,Zi0 h2]
    cases hg:Q6 b v with
    | some a=>
     have hx:Zhw b v w=if a=w then some b else none:=by rw [Zj9 h1 h2 h3,hg]
     rw [hx]
     show (if true=true then (if sEq a w=true then _ else _) else _)=_
     rw [if_pos rfl]
     by_cases he:a=w
     ·rw [if_pos (ZQ.2 he),if_pos he]
      unfold Zbn
      rw [Zj _ yE]
      rfl
     ·rw [if_neg (by rw [ZQ];exact he),if_neg he]
      rfl
    | none=>
     have hx:Zhw b v w=if b.length=6 then none else some (Zgb b v w):=by rw [Zj9 h1 h2 h3,hg]
     rw [hx]
     show (if false=true then _ else _)=_
     rw [if_neg yG]
     by_cases hl:b.length=6
     ·rw [if_pos (by simp;omega),if_pos hl]
      rfl
     ·rw [if_neg (by simp;omega),if_neg hl]
      refine Zsf (K:=fun r=>some (r,true)) (fun i x row hr=>?_) (fun i x row hr=>?_) (fun row hr=>?_) (fun row hr=>?_) b yE
      ·show (if true=true then _ else _)=_
       rw [if_pos rfl,Zj _ yE]
      ·show (if false=true then _ else _)=_
       rw [if_neg yG]
       split
       ·rw [Zj _ yE]
       ·rw [Zj _ yE,Zj _ yE]
      ·show (if true=true then _ else _)=_
       rw [if_pos rfl]
      ·show (if false=true then _ else _)=_
       rw [if_neg yG,Zj _ yE]
   ·rw [if_neg h3,Zh7 (fun h=>h3 h.2.2)]
  ·rw [if_neg h2,Zh7 (fun h=>h2 h.2.1)]
 ·rw [if_neg h1,Zh7 (fun h=>h1 h.1)]
theorem Zt9 (b:List Zi) (v w:ByteArray) (hb:b.length≤100):ZjO b v w=some (Zgb b v w):=by
 unfold ZjO
 refine Zsf (K:=fun r=>some r) (fun i x row hr=>?_) (fun i x row hr=>?_) (fun row hr=>?_) (fun row hr=>?_) b hb
 ·show (if true=true then _ else _)=_
  rw [if_pos rfl,Zj _ yE]
 ·show (if false=true then _ else _)=_
  rw [if_neg yG]
  split
  ·rw [Zj _ yE]
  ·rw [Zj _ yE,Zj _ yE]
 ·show (if true=true then _ else _)=_
  rw [if_pos rfl]
 ·show (if false=true then _ else _)=_
  rw [if_neg yG,Zj _ yE]
theorem Zsr (b:List Zi) (v w:ByteArray) (hb:b.length≤1048576):Zhm b v w=some (Zlw (Zhw b v w)):=by
 unfold Zhm
 rw [Zat b hb,A0]
 by_cases h1:ZY b=true
 ·rw [if_pos h1,Zaj,A0]
  by_cases h2:Yr v=true
  ·rw [if_pos h2,QB,A0]
   by_cases h3:ZT w=true
   ·have h6:=QE h1
    rw [if_pos h3,Zdm,A0,Zcy,Zi0 h2]
    cases hg:Q6 b v with
    | some a=>
     have hx:Zhw b v w=if a=w then some b else none:=by rw [Zj9 h1 h2 h3,hg]
     rw [hx]
     show (if true=true then (if sEq a w=true then _ else _) else _)=_
     rw [if_pos rfl]
     by_cases he:a=w
     ·rw [if_pos (ZQ.2 he),if_pos he]
      unfold ZaS
      rw [Zj _ yE]
      rfl
     ·rw [if_neg (by rw [ZQ];exact he),if_neg he]
      rfl
    | none=>
     have hx:Zhw b v w=if b.length=6 then none else some (Zgb b v w):=by rw [Zj9 h1 h2 h3,hg]
     rw [hx]
     show (if false=true then _ else _)=_
     rw [if_neg yG]
     by_cases hl:b.length=6
     ·rw [if_pos (by simp;omega),if_pos hl]
      rfl
     ·rw [if_neg (by simp;omega),if_neg hl,Zt9 _ _ _ yE]
      rfl
   ·rw [if_neg h3,Zh7 (fun h=>h3 h.2.2)]
  ·rw [if_neg h2,Zh7 (fun h=>h2 h.2.1)]
 ·rw [if_neg h1,Zh7 (fun h=>h1 h.1)]
theorem Zgs {fa:List ByteArray} {body:Nat→ByteArray→List Zi→Option (List Zi ⊕ (List Zi × Bool))}
  (hb:∀i a w row,fa[i]?=some w→ZY row=true→body i a row=if ZT a=true then (if a=w then some (.inl row) else some (.inr ([],false))) else (match Zhw row a w with | some r=>some (.inl r) | none=>some (.inr ([],false)))):
  ∀(l:List ByteArray) (i:Nat) (row:List Zi),i+l.length=fa.length→ZY row=true→Zp body (fun row=>some (row,true)) l i row=some (Zlw (Ze9 l (fa.drop i) row))
 | [],i,row,_,_=>by simp [Zp,Ze9,Zlw]
 | a::l,i,row,h,hr=>by
  simp only[A9] at h
  have hi:i<fa.length:=by omega
  have hw:fa[i]?=some fa[i]:=AJ hi
  rw [Af hi]
  simp only[Ze9]
  have e:=hb i a _ row hw hr
  by_cases ha:ZT a=true
  ·rw [if_pos ha] at e ⊢
   by_cases hq:a=fa[i]
   ·rw [if_pos hq] at e ⊢
    rw [Z4 e]
    exact Zgs hb l (i+1) row yE hr
   ·rw [if_neg hq] at e ⊢
    rw [YF e]
    rfl
  ·rw [if_neg ha] at e ⊢
   cases hx:Zhw row a fa[i] with
   | none=>
    rw [hx] at e
    rw [YF e]
    rfl
   | some r=>
    rw [hx] at e
    rw [Z4 e,A0]
    exact Zgs hb l (i+1) r yE (ZuS hx).1
theorem ZbF (p:Zx) (f:Zc) (b:List Zi):QF p f b=some (Zlw (XL p f b)):=by
 unfold QF XL ZhA
 rw [ZbE,A0]
 cases h1:Z9 p with
 | false=>rfl
 | true=>
  rw [if_pos rfl,Zlu,A0]
  cases h2:Y3 f with
  | false=>rfl
  | true=>
   rw [if_pos rfl,Zam,A0]
   cases h3:ZY b with
   | false=>rfl
   | true=>
    rw [if_pos rfl]
    by_cases h4:p.rel=f.rel
    ·rw [if_pos (ZQ.2 h4),decide_eq_true h4]
     by_cases h5:p.args.length=f.args.length
     ·have h6:=QE h3
      rw [if_neg (by simp;omega),decide_eq_true h5]
      unfold Zbn
      rw [Zj _ yE,A0]
      rw [Zgs (fa:=f.args) (fun i a w row hw hr=>?_) p.args 0 b yE h3]
      ·rfl
      ·rw [QC,A0,Za1,hw,A0,A0]
       split
       ·by_cases hq:a=w
        ·rw [if_pos (ZQ.2 hq),if_pos hq]
        ·rw [if_neg (by rw [ZQ];exact hq),if_neg hq]
       ·rw [ZrB,A0]
        cases Zhw row a w<;>rfl
     ·rw [if_pos (by simp;omega),decide_eq_false h5]
      rfl
    ·rw [if_neg (by rw [ZQ];exact h4),decide_eq_false h4]
     rfl
theorem ZgV (p:Zx) (f:Zc) (b:List Zi) (hb:b.length≤1048576):Zbp p f b=some (Zlw (XL p f b)):=by
 unfold Zbp XL ZhA
 rw [ZbD,A0]
 cases h1:Z9 p with
 | false=>rfl
 | true=>
  rw [if_pos rfl,Zli,A0]
  cases h2:Y3 f with
  | false=>rfl
  | true=>
   rw [if_pos rfl,Zat b hb,A0]
   cases h3:ZY b with
   | false=>rfl
   | true=>
    rw [if_pos rfl]
    by_cases h4:p.rel=f.rel
    ·rw [if_pos (ZQ.2 h4),decide_eq_true h4]
     by_cases h5:p.args.length=f.args.length
     ·have h6:=QE h3
      rw [if_neg (by simp;omega),decide_eq_true h5]
      unfold ZaS
      rw [Zj _ yE,A0]
      rw [Zgs (fa:=f.args) (fun i a w row hw hr=>?_) p.args 0 b yE h3]
      ·rfl
      ·have hr6:=QE hr
       rw [QB,A0,Za1,hw,A0,A0]
       split
       ·by_cases hq:a=w
        ·rw [if_pos (ZQ.2 hq),if_pos hq]
        ·rw [if_neg (by rw [ZQ];exact hq),if_neg hq]
       ·rw [Zsr _ _ _ yE,A0]
        cases Zhw row a w<;>rfl
     ·rw [if_pos (by simp;omega),decide_eq_false h5]
      rfl
    ·rw [if_neg (by rw [ZQ];exact h4),decide_eq_false h4]
     rfl
def Zdk:Option Zc→Zc × Bool
 | some f=>(f,true)
 | none=>({ rel:=⟨#[]⟩,args:=[] },false)
theorem ZoW {b:List Zi} {rel:ByteArray} {body:Nat→ByteArray→List ByteArray→Option (List ByteArray ⊕ (Zc × Bool))} (hb:∀i a row,row.length≤1048576→body i a row=match X9 b a with | some v=>some (.inl (row++[v])) | none=>some (.inr ({ rel:=⟨#[]⟩,args:=[] },false))) (l:List ByteArray) (hl:l.length≤1000000):
  Zp body (fun row=>some ({ rel:=rel,args:=row },true)) l 0 []=some (Zdk ((Zfy l b).map fun l=>{ rel:=rel,args:=l })):=by
 rw [ZaV (fun l _ row=>some (Zdk ((Zfy l b).map fun l=>{ rel:=rel,args:=row++l }))) (fun l _ row=>row.length+l.length≤1048576) ?_ ?_ l 0 [] (by simp;omega)]
 ·simp
 ·intro i row _
  simp [Zfy,Zdk]
 ·intro a l i row hI
  simp only[A9] at hI
  have e:=hb i a row (by omega)
  cases hv:X9 b a with
  | none=>
   rw [hv] at e
   exact .inr ⟨_,e,by simp [Zfy,hv,Zdk]⟩
  | some v=>
   rw [hv] at e
   refine .inl ⟨_,e,by simp;omega,?_⟩
   simp only[Zfy,hv,A0,Option.map_map]
   cases Zfy l b<;>simp
theorem Ze8 (p:Zx) (b:List Zi):QL p b=some (Zdk (Zb8 p b)):=by
 unfold QL Zb8
 rw [ZbE,A0]
 cases h1:Z9 p with
 | false=>rfl
 | true=>
  rw [if_pos rfl,Zam,A0]
  cases h3:ZY b with
  | false=>rfl
  | true=>
   have hl:p.args.length≤3:=by unfold Z9 at h1;simp at h1;exact h1.1.2
   rw [if_pos rfl,if_pos ⟨rfl,rfl⟩,ZoW (b:=b) (fun i a row hr=>?_) p.args yE]
   rw [Zdq,A0,Zcy]
   cases X9 b a with
   | none=>rfl
   | some v=>
    show (if true=true then _ else _)=_
    rw [if_pos rfl,Zj _ yE]
    rfl
theorem Zir (p:Zx) (b:List Zi) (hb:b.length≤1048576):XA p b=some (Zdk (Zb8 p b)):=by
 unfold XA Zb8
 rw [ZbD,A0]
 cases h1:Z9 p with
 | false=>rfl
 | true=>
  rw [if_pos rfl,Zat b hb,A0]
  cases h3:ZY b with
  | false=>rfl
  | true=>
   have hl:p.args.length≤3:=by unfold Z9 at h1;simp at h1;exact h1.1.2
   rw [if_pos rfl,if_pos ⟨rfl,rfl⟩,ZoW (b:=b) (fun i a row hr=>?_) p.args yE]
   rw [Zdm,A0,Zcy]
   cases X9 b a with
   | none=>rfl
   | some v=>
    show (if true=true then _ else _)=_
    rw [if_pos rfl,Zj _ yE]
    rfl
theorem Zgu (o:Option (List Zi)):(Zlw o).2=o.isSome:=by cases o<;>rfl
theorem Zem (p:Zx) (b:List Zi) (F:List Zc) (hF:F.length≤1048576) (ha:∀f∈F,f.args.length≤1048576):XO p b F=some (ZdF p b F):=by
 unfold XO ZdF
 rw [Ze1 (p:=fun f=>(XL p f b).isSome)]
 ·simp
 ·intro j f s mf hs
  rw [ZbF,A0,Zgu]
  split
  ·rw [YN f (ha f mf),A0,Zj _ (by simp at hs;omega)]
  ·rfl
theorem Zd0 (p:Zx) (b:List Zi) (F:List Zc) (hb:b.length≤1048576) (hF:F.length≤1048576) (ha:∀f∈F,f.args.length≤1048576):XQ p b F=some (ZdF p b F):=by
 unfold XQ ZdF
 rw [Ze1 (p:=fun f=>(XL p f b).isSome)]
 ·simp
 ·intro j f s mf hs
  rw [ZgV _ _ _ hb,A0,Zgu]
  split
  ·rw [Xs f (ha f mf),A0,Zj _ (by simp at hs;omega)]
  ·rfl
theorem Zmd (x:Zl) (b:List Zi):Zc9 x b=some (ZnK x b):=by
 unfold Zc9 ZnK ZjH
 rw [Zhy,A0]
 cases h1:Y1 x with
 | false=>rfl
 | true=>
  rw [if_pos rfl,A0]
  by_cases h2:3≤x.kind
  ·rw [if_pos (by simpa using h2),Zam,A0]
   cases h3:ZY b with
   | false=>simp
   | true=>
    rw [if_pos rfl,if_pos ⟨rfl,h2,rfl⟩,Zdq,A0,Zdq,A0,Zcy,Zcy]
    cases X9 b x.left with
    | none=>rfl
    | some l=>
     cases X9 b x.right with
     | none=>rfl
     | some r=>
      show (if true=true then (if true=true then (if (x.kind==3)=true then some (sEq l r) else _) else _) else _)=some (Zq4 x.kind l r)
      rw [if_pos rfl,if_pos rfl]
      unfold Zq4
      by_cases k3:x.kind=3
      ·rw [if_pos (by simpa using k3),if_pos k3];rfl
      ·rw [if_neg (by simpa using k3),if_neg k3]
       by_cases k4:x.kind=4
       ·rw [if_pos (by simpa using k4),if_pos k4];rfl
       ·rw [if_neg (by simpa using k4),if_neg k4,ZcC,A0,ZcC,A0]
        show (if (ZeB l).2=true then (if (ZeB r).2=true then some (decide ((ZeB l).1<(ZeB r).1)) else some false) else some false)=_
        unfold ZeB ZxY
        cases Q3 l<;>cases Q3 r<;>simp
  ·rw [if_neg (by simpa using h2),if_neg (fun h=>h2 h.2.1)]
theorem Zm5 (x:Zl) (b:List Zi) (hb:b.length≤1048576):ZcI x b=some (ZnK x b):=by
 unfold ZcI ZnK ZbV
 rw [ZeH,A0]
 cases h1:Y1 x with
 | false=>rfl
 | true=>
  rw [if_pos rfl,A0]
  by_cases h2:3≤x.kind
  ·rw [if_pos (by simpa using h2),Zat b hb,A0]
   cases h3:ZY b with
   | false=>simp
   | true=>
    rw [if_pos rfl,if_pos ⟨rfl,h2,rfl⟩,Zdm,A0,Zdm,A0,Zcy,Zcy]
    cases X9 b x.left with
    | none=>rfl
    | some l=>
     cases X9 b x.right with
     | none=>rfl
     | some r=>
      show (if true=true then (if true=true then (if (x.kind==3)=true then some (sEq l r) else _) else _) else _)=some (Zq4 x.kind l r)
      rw [if_pos rfl,if_pos rfl]
      unfold Zq4
      by_cases k3:x.kind=3
      ·rw [if_pos (by simpa using k3),if_pos k3];rfl
      ·rw [if_neg (by simpa using k3),if_neg k3]
       by_cases k4:x.kind=4
       ·rw [if_pos (by simpa using k4),if_pos k4];rfl
       ·rw [if_neg (by simpa using k4),if_neg k4]
        unfold Zd3
        rw [ZcH,A0,A0]
        show (if (ZeB l).2=true then ((Zag r).bind fun v1=>some v1.2).bind (fun v6=>if v6=true then (Xz l r).bind fun v7=>some (decide (v7<0)) else some false) else some false)=_
        unfold ZxY
        cases hl:Q3 l with
        | none=>simp [ZeB,hl]
        | some m=>
         rw [if_pos (by simp [ZeB,hl]),ZcH,A0,A0]
         cases hr:Q3 r with
         | none=>simp [ZeB,hr]
         | some n=>
          have hd:decide (ZgI l r<0)=decide (m<n):=by
           have hc:ZgI l r=ZlE m n:=by unfold ZgI;rw [hl,hr]
           rw [hc,A8,decide_eq_true_iff,decide_eq_true_iff]
           unfold ZlE
           split
           ·omega
           ·split<;>omega
          rw [if_pos (by simp [ZeB,hr]),ZeW,A0,hd]
  ·rw [if_neg (by simpa using h2),if_neg (fun h=>h2 h.2.1)]
theorem ZhL (x:Zl) (b:List Zi) (F:List Zc) (hF:F.length≤1048576) (ha:∀f∈F,f.args.length≤1048576):ZcY x b F=some (Zgo x b F):=by
 unfold ZcY Zgo
 rw [Zhy,A0]
 cases h1:Y1 x with
 | false=>rfl
 | true=>
  rw [if_pos rfl,Zam,A0]
  cases h3:ZY b with
  | false=>rfl
  | true=>
   rw [if_pos rfl,if_pos (show true=true∧true=true from ⟨rfl,rfl⟩)]
   by_cases k1:x.kind=1
   ·rw [if_pos (by simpa using k1),if_pos k1,Zem _ _ _ hF ha,A0]
    congr 1
    rw [A8];simp
   ·rw [if_neg (by simpa using k1),if_neg k1]
    by_cases k2:x.kind=2
    ·rw [if_pos (by simpa using k2),if_pos k2,Zem _ _ _ hF ha,A0,Zvc]
    ·rw [if_neg (by simpa using k2),if_neg k2,Zmd]
     rfl
theorem Zmj (x:Zl) (b:List Zi) (F:List Zc) (hb:b.length≤1048576) (hF:F.length≤1048576) (ha:∀f∈F,f.args.length≤1048576):ZcP x b F=some (Zgo x b F):=by
 unfold ZcP Zgo
 rw [ZeH,A0]
 cases h1:Y1 x with
 | false=>rfl
 | true=>
  rw [if_pos rfl,Zat b hb,A0]
  cases h3:ZY b with
  | false=>rfl
  | true=>
   rw [if_pos rfl,if_pos (show true=true∧true=true from ⟨rfl,rfl⟩)]
   by_cases k1:x.kind=1
   ·rw [if_pos (by simpa using k1),if_pos k1,Zd0 _ _ _ hb hF ha,A0]
    congr 1
    rw [A8];simp
   ·rw [if_neg (by simpa using k1),if_neg k1]
    by_cases k2:x.kind=2
    ·rw [if_pos (by simpa using k2),if_pos k2,Zd0 _ _ _ hb hF ha,A0,Zvc]
    ·rw [if_neg (by simpa using k2),if_neg k2,Zm5 _ _ hb]
     rfl
theorem Zbk {r:Zg} (h:YP r=true):r.cond.length≤4∧r.thn.length≤2:=by
 simp only[YP,A5,decide_eq_true_eq] at h
 omega
def Zse (r:Zg):Bool:=r.thn.all fun a=>decide (a.kind=1)
def ZiX (r:Zg) (i:Nat) (x:Zl):Bool:=!decide (x.kind=2)||(Y5 x).all (YM (YY r i))
def Z2 (r:Zg):Bool:=YP r&&Q5 (ZiX r) r.cond 0&&Zse r
theorem ZoG (a b:List ByteArray):Zd6 a b=some (a.all (YM b)):=by
 unfold Zd6
 rw [Z0 (p:=YM b) (r:=false)]
 ·cases a.all (YM b)<;>rfl
 ·intro i x _
  rw [Xc,A0]
  cases YM b x<;>simp
theorem Zpv {fin:Unit→Option Bool} {l:List Zu}:Zp (σ:=Unit) (fun (_:Nat) (x:Zu) _=>if (x.kind != 1)=true then some (.inr false) else some (.inl ())) fin l 0 ()=if (l.all fun a=>decide (a.kind=1))=true then fin () else some false:=by
 refine Z0 fun i x _=>?_
 by_cases h:x.kind=1
 ·simp [h]
 ·have:(x.kind != 1)=true:=by simpa using h
  simp [this,h]
theorem Zol (r:Zg):Zeg r=some (Zse r):=by
 unfold Zeg Zse
 rw [Zpv]
 cases r.thn.all fun a=>decide (a.kind=1)<;>rfl
theorem Zl6 (r:Zg) (h:ZaL r):Zc1 r=some (Z2 r):=by
 unfold Zc1 Z2
 rw [ZeJ r h,A0]
 cases hr:YP r with
 | false=>simp
 | true=>
  have h4:=(Zbk hr).1
  simp only[if_true,A4]
  rw [Xu (p:=ZiX r) (r:=false),Zpv]
  ·unfold Zse
   cases Q5 (ZiX r) r.cond 0<;>cases r.thn.all fun a=>decide (a.kind=1)<;>simp
  ·intro j x hj
   rw [AI,Zcz x (by have:=h.ca x (AF hj);omega),Zek r _ h h4,AA]
   simp only[A0,ZoG,ZiX]
   by_cases hk:x.kind=2
   ·simp only[hk,beq_self_eq_true,if_true,decide_true,Av,AU]
    cases (Y5 x).all (YM (YY r j))<;>simp
   ·simp [hk]
theorem ZmJ (r:Zg) (h:ZaL r):Zc0 r=some (Z2 r):=by
 unfold Zc0 Z2
 rw [ZhC r h,A0,Zol]
 cases hr:YP r with
 | false=>simp
 | true=>
  have h4:=(Zbk hr).1
  simp only[if_true,A4,A0]
  rw [Xu (p:=ZiX r) (r:=false)]
  ·cases Q5 (ZiX r) r.cond 0<;>cases Zse r<;>simp
  ·intro j x hj
   rw [AI,ZcE x (by have:=h.ca x (AF hj);omega),Zet r _ h h4,AA]
   simp only[A0,ZiX]
   by_cases hk:x.kind=2
   ·simp only[hk,bne_self_eq_false,A6,if_false,decide_true,Av,AU]
    rw [Z0 (p:=YM (YY r j)) (r:=.inr false)]
    ·cases (Y5 x).all (YM (YY r j))<;>simp
    ·intro k v _
     rw [Zay,A0]
     cases YM (YY r j) v<;>simp
   ·have:(x.kind != 2)=true:=by simpa using hk
    simp [hk,this]
/- bounds out of the size of an argument -/
theorem ZyZ {l:List Nat} {x:Nat} (h:x∈l):x≤l.sum:=by
 induction l with
 | nil=>simp at h
 | cons a r ih=>
  rcases A7.1 h with h | h
  ·subst h;simp
  ·have:=ih h;simp;omega
theorem ZnN {α:Type} {f:α→Nat} {l:List α} {n:Nat} (h:l.length+(l.map f).sum≤n) {x:α} (hx:x∈l):f x≤n:=by
 have:=ZyZ (List.mem_map_of_mem (f:=f) hx)
 omega
theorem Zte {l:List Zl} (h:Z3 l≤1048576):l.length≤1048576∧∀x∈l,x.pattern.args.length≤1048576:=by
 unfold Z3 at h
 refine ⟨yE,fun x mx=>?_⟩
 have:=ZnN (f:=Ys) h mx
 simp only[Ys,Z6,XD] at this
 omega
theorem ZtV {r:Zg} (h:Yv r≤1048576):ZaL r:=by
 simp only[Yv] at h
 have h1:Z3 r.cond≤1048576:=by omega
 have h2:Ym r.thn≤1048576:=by omega
 obtain ⟨a,b⟩:=Zte h1
 refine ⟨a,?_,b,fun x mx=>?_⟩
 ·unfold Ym at h2;omega
 ·unfold Ym at h2
  have:=ZnN (f:=Yt) h2 mx
  simp only[Yt,Z6,XD] at this
  omega
end Go.Proofs.YtlpkbfjcdaanmaaGreatDoor
