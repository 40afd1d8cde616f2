/- Texts of this proof, joined: Df, PL, E1, P1, E2, E3, E15, P5. What each holds is said at its theorems. -/
import Derived.Test.YtekbmedphidcgaaGreatDoorAskedQ1
import Derived.Lib.ItoaLen
import Derived.Laws.BitsLemmas
import Derived.Lib.Bytealg
set_option linter.unusedSimpArgs false
set_option linter.unusedVariables false
open Bool renaming true_and→A4,false_eq_true→A6,eq_iff_iff→A9,and_eq_true→AA,or_eq_true→Ac,not_not→Ai,false_or→Aj,false_and→Ak
open ByteArray renaming size→Aa
open Go.ByteArray renaming toList_eq→AL
open Int renaming toNat→A3,toNat_natCast→AE
open List renaming mem_cons→A5,pairwise_cons→A7,drop→AB,set→AC,length_cons→AD,foldl_cons→AF,all_eq_true→AG,getElem?_eq_some_iff→AH,mem_of_getElem?→AI,replicate→AJ,take→AK,flatMap_cons→AN,length_append→AO,mem_cons_of_mem→AQ,tail→AR,drop_eq_nil_of_le→AU,getElem?_eq_getElem→AW,length_nil→AX,mem_append→AY,mem_flatMap→AZ,mem_map→Ab,drop_eq_getElem_cons→Ae,not_mem_nil→Af,foldl_append→Ag,not_any_eq_all_not→Ah
open List.Pairwise renaming nil→A8
open Nat renaming zero_add→AM,le_trans→AT,pow_le_pow_right→Ad
open Option renaming bind_some→A0
open Option.some renaming inj→AS
open UInt8 renaming ofNat→AP
namespace Go.Proofs.YtekbmedphidcgaaGreatDoor
section
set_option linter.unusedVariables false
structure Xd where
 rule:ByteArray
 token:Zt
structure Zac where
 rule:ByteArray
 facts:(List Zd)
structure ZF where
 b:(List Int)
 i:Int
 h:Int
noncomputable def Zb4 (a_0:(List ByteArray)) (a:(List ByteArray)):Option Bool:=
 if (((a_0.length:Nat):Int) != ((a.length:Nat):Int))=true then
  some false
 else
  forL (σ:=Unit)
   (fun (b:Nat) (c:ByteArray) _=>
    (atI a ((b:Nat):Int)).bind fun d=>
    if (sEq c d)=true then
     some (.inl ())
    else
     some (.inr false))
   (fun _=>
    some true)
   a_0 0 ()
noncomputable def Zbe (a_0:Zd) (b_1:Zd):Option Bool:=
 if (sEq a_0.rel b_1.rel)=true then
  (Zb4 a_0.args b_1.args).bind fun a=>
  some a
 else
  some false
noncomputable def Z8 (l_0:(List Zd)) (f_1:Zd):Option Int:=
 forL (σ:=Unit)
  (fun (i6:Nat) (a:Zd) _=>
   (Zbe a f_1).bind fun b=>
   if b=true then
    some (.inr ((i6:Nat):Int))
   else
    some (.inl ()))
  (fun _=>
   some (-1))
  l_0 0 ()
noncomputable def Zaw (l_0:(List ByteArray)):Option (List ByteArray):=
 chk (l_0.length≤1073741824) <|
 some l_0
noncomputable def Yl (f_0:Zd):Option Zd:=
 (Zaw f_0.args).bind fun a=>
 some ({ rel:=f_0.rel,args:=a }:Zd)
noncomputable def X5 (s_0:ByteArray):Option Bool:=
 if (decide (((s_0.size:Nat):Int)<1))=true then
  some false
 else
  if (decide (8<((s_0.size:Nat):Int)))=true then
   some false
  else
   forL (σ:=Unit)
    (fun (i4:Nat) (a:UInt8) _=>
     if (decide (((a.toNat:Nat):Int)<97))=true then
      if (decide (((a.toNat:Nat):Int)<48))=true then
       some (.inr false)
      else
       if (decide (57<((a.toNat:Nat):Int)))=true then
        some (.inr false)
       else
        some (.inl ())
     else
      if (decide (122<((a.toNat:Nat):Int)))=true then
       if (decide (((a.toNat:Nat):Int)<48))=true then
        some (.inr false)
       else
        if (decide (57<((a.toNat:Nat):Int)))=true then
         some (.inr false)
        else
         some (.inl ())
      else
       some (.inl ()))
    (fun _=>
     some true)
    s_0.data.toList 0 ()
noncomputable def Zdg (s_0:ByteArray):Option Bool:=
 (X5 s_0).bind fun a=>
 if a=true then
  (sAt s_0 0).bind fun b=>
  some (decide (97≤((b.toNat:Nat):Int)))
 else
  some false
noncomputable def Zcp (a:ByteArray):Option Bool:=
 if (decide (1<((a.size:Nat):Int)))=true then
  (sAt a 0).bind fun b=>
  if (((b.toNat:Nat):Int)==63)=true then
   chk (0≤1∧1≤((a.size:Nat):Int)) <|
   (X5 (a.extract (A3 1) a.size)).bind fun c=>
   some c
  else
   some false
 else
  some false
noncomputable def Qx (s_0:ByteArray):Option Bool:=
 (X5 s_0).bind fun a=>
 if a=true then
  some true
 else
  (Zcp s_0).bind fun b=>
  some b
noncomputable def YR (p_0:Zv):Option Bool:=
 (Zdg p_0.rel).bind fun a=>
 if a=true then
  if (decide (3<((p_0.args.length:Nat):Int)))=true then
   some false
  else
   forL (σ:=Unit)
    (fun (i7:Nat) (b:ByteArray) _=>
     (Qx b).bind fun c=>
     if c=true then
      some (.inl ())
     else
      some (.inr false))
    (fun _=>
     some true)
    p_0.args 0 ()
 else
  some false
noncomputable def Xq (a:(List Zp)):Option Bool:=
 if (decide (6<((a.length:Nat):Int)))=true then
  some false
 else
  forL (σ:=Unit)
   (fun (c:Nat) (b:Zp) _=>
    (Zcp b.var).bind fun d=>
    if d=true then
     (X5 b.value).bind fun e=>
     if e=true then
      if (decide (0<((c:Nat):Int)))=true then
       (atI a (IntKind.i64.wrap (((c:Nat):Int) - 1))).bind fun f=>
       if (sLt f.var b.var)=true then
        some (.inl ())
       else
        some (.inr false)
      else
       some (.inl ())
     else
      some (.inr false)
    else
     some (.inr false))
   (fun _=>
    some true)
   a 0 ()
noncomputable def Zej (f_0:Zd):Option Bool:=
 (Zdg f_0.rel).bind fun a=>
 if a=true then
  if (decide (3<((f_0.args.length:Nat):Int)))=true then
   some false
  else
   forL (σ:=Unit)
    (fun (i7:Nat) (b:ByteArray) _=>
     (X5 b).bind fun c=>
     if c=true then
      some (.inl ())
     else
      some (.inr false))
    (fun _=>
     some true)
    f_0.args 0 ()
 else
  some false
noncomputable def ZaB (b_0:(List Zp)):Option (List Zp):=
 chk (b_0.length≤1073741824) <|
 some b_0
noncomputable def ZaC (b_0:(List Zp)) (term_1:ByteArray):Option (ByteArray × Bool):=
 (X5 term_1).bind fun b=>
 if b=true then
  some (term_1,true)
 else
  (Zcp term_1).bind fun c=>
  if c=true then
   forL (σ:=Unit)
    (fun (i6:Nat) (a:Zp) _=>
     if (sEq a.var term_1)=true then
      some (.inr (a.value,true))
     else
      some (.inl ()))
    (fun _=>
     some ((⟨#[]⟩),false))
    b_0 0 ()
  else
   some ((⟨#[]⟩),false)
noncomputable def Zf0 (append_0:(List Zp)) (b:ByteArray) (a_2:ByteArray):Option ((List Zp) × Bool):=
 (Xq append_0).bind fun f=>
 if f=true then
  (Zcp b).bind fun g=>
  if g=true then
   (X5 a_2).bind fun i=>
   if i=true then
    (ZaC append_0 b).bind fun e=>
    if e.2=true then
     if (sEq e.1 a_2)=true then
      (ZaB append_0).bind fun j=>
      some (j,true)
     else
      some ([],false)
    else
     if (decide (6≤((append_0.length:Nat):Int)))=true then
      some ([],false)
     else
      forL (σ:=(List Zp) × Bool)
       (fun (i13:Nat) (c:Zp) s=>
        match s with
        | (a,d)=>
        if d=true then
         chk (a.length+1≤1073741824) <|
         some (.inl ((a++[c]),true))
        else
         if (sLt c.var b||sEq c.var b)=true then
          chk (a.length+1≤1073741824) <|
          some (.inl ((a++[c]),false))
         else
          chk (a.length+1≤1073741824) <|
          chk (a.length+1+1≤1073741824) <|
          some (.inl (((a++[({ var:=b,value:=a_2 }:Zp)])++[c]),true)))
       (fun s=>
        match s with
        | (a,d)=>
        if d=true then
         some (a,true)
        else
         chk (a.length+1≤1073741824) <|
         some ((a++[({ var:=b,value:=a_2 }:Zp)]),true))
       append_0 0 ([],false)
   else
    some ([],false)
  else
   some ([],false)
 else
  some ([],false)
noncomputable def ZaF (append_0:Zv) (a:Zd) (a_2:(List Zp)):Option ((List Zp) × Bool):=
 (YR append_0).bind fun f=>
 if f=true then
  (Zej a).bind fun g=>
  if g=true then
   (Xq a_2).bind fun i=>
   if i=true then
    if (sEq append_0.rel a.rel)=true then
     if (((append_0.args.length:Nat):Int) != ((a.args.length:Nat):Int))=true then
      some ([],false)
     else
      (ZaB a_2).bind fun j=>
      forL (σ:=(List Zp))
       (fun (d:Nat) (c:ByteArray) b=>
        (X5 c).bind fun k=>
        if k=true then
         (atI a.args ((d:Nat):Int)).bind fun l=>
         if (sEq c l)=true then
          some (.inl b)
         else
          some (.inr ([],false))
        else
         (atI a.args ((d:Nat):Int)).bind fun m=>
         (Zf0 b c m).bind fun e=>
         if e.2=true then
          some (.inl e.1)
         else
          some (.inr ([],false)))
       (fun b=>
        some (b,true))
       append_0.args 0 j
    else
     some ([],false)
   else
    some ([],false)
  else
   some ([],false)
 else
  some ([],false)
noncomputable def Xc (p_0:Zv) (b_1:(List Zp)) (facts_2:(List Zd)):Option (List Zd):=
 forL (σ:=(List Zd))
  (fun (i12:Nat) (b:Zd) a=>
   (ZaF p_0 b b_1).bind fun c=>
   if c.2=true then
    (Yl b).bind fun d=>
    chk (a.length+1≤1073741824) <|
    some (.inl (a++[d]))
   else
    some (.inl a))
  (fun a=>
   some a)
  facts_2 0 []
noncomputable def YS (p_0:Zv):Option Bool:=
 if (sEq p_0.rel ⟨#[]⟩)=true then
  some (((p_0.args.length:Nat):Int)==0)
 else
  some false
noncomputable def Zdj (x_0:Zr):Option Bool:=
 if (x_0.kind==1)=true then
  (YR x_0.pattern).bind fun a=>
  if a=true then
   if (sEq x_0.left ⟨#[]⟩)=true then
    some (sEq x_0.right ⟨#[]⟩)
   else
    some false
  else
   some false
 else
  if (x_0.kind==2)=true then
   (YR x_0.pattern).bind fun b=>
   if b=true then
    if (sEq x_0.left ⟨#[]⟩)=true then
     some (sEq x_0.right ⟨#[]⟩)
    else
     some false
   else
    some false
  else
   if (x_0.kind==3)=true then
    (Qx x_0.left).bind fun c=>
    if c=true then
     (Qx x_0.right).bind fun d=>
     if d=true then
      (YS x_0.pattern).bind fun e=>
      some e
     else
      some false
    else
     some false
   else
    if (x_0.kind==4)=true then
     (Qx x_0.left).bind fun f=>
     if f=true then
      (Qx x_0.right).bind fun g=>
      if g=true then
       (YS x_0.pattern).bind fun i=>
       some i
      else
       some false
     else
      some false
    else
     if (x_0.kind==5)=true then
      (Qx x_0.left).bind fun j=>
      if j=true then
       (Qx x_0.right).bind fun k=>
       if k=true then
        (YS x_0.pattern).bind fun l=>
        some l
       else
        some false
      else
       some false
     else
      some false
noncomputable def Zhs (x_0:Zr):Option Bool:=
 (Zdj x_0).bind fun a=>
 if a=true then
  some (decide (3≤x_0.kind))
 else
  some false
noncomputable def Zav (n_0:Int):Option ByteArray:=
 (Zno n_0).bind fun a=>
 some a
noncomputable def QD (s_0:ByteArray):Option (Int × Bool):=
 if (decide (((s_0.size:Nat):Int)<1))=true then
  some (0,false)
 else
  if (decide (4<((s_0.size:Nat):Int)))=true then
   some (0,false)
  else
   (Zkj s_0).bind fun a=>
   if a.2=true then
    if (decide (a.1<0))=true then
     some (0,false)
    else
     if (decide (9999<a.1))=true then
      some (0,false)
     else
      (Zav a.1).bind fun b=>
      if (sEq b s_0)=true then
       some (a.1,true)
      else
       some (0,false)
   else
    some (0,false)
noncomputable def ZbM (append_0:Zr) (String_1:(List Zp)):Option Bool:=
 (Zhs append_0).bind fun e=>
 if e=true then
  (Xq String_1).bind fun f=>
  if f=true then
   (ZaC String_1 append_0.left).bind fun a=>
   (ZaC String_1 append_0.right).bind fun b=>
   if a.2=true then
    if b.2=true then
     if (append_0.kind==3)=true then
      some (sEq a.1 b.1)
     else
      if (append_0.kind==4)=true then
       some (!(sEq a.1 b.1))
      else
       (QD a.1).bind fun c=>
       (QD b.1).bind fun d=>
       if c.2=true then
        if d.2=true then
         some (decide (c.1<d.1))
        else
         some false
       else
        some false
    else
     some false
   else
    some false
  else
   some false
 else
  some false
noncomputable def Zb5 (x_0:Zr) (a:(List Zp)) (b:(List Zd)):Option Bool:=
 (Zdj x_0).bind fun c=>
 if c=true then
  (Xq a).bind fun d=>
  if d=true then
   if (x_0.kind==1)=true then
    (Xc x_0.pattern a b).bind fun e=>
    some (decide (0<((e.length:Nat):Int)))
   else
    if (x_0.kind==2)=true then
     (Xc x_0.pattern a b).bind fun f=>
     some (((f.length:Nat):Int)==0)
    else
     (ZbM x_0 a).bind fun g=>
     some g
  else
   some false
 else
  some false
noncomputable def ZaG (l_0:(List Zd)):Option (List Zd):=
 forL (σ:=(List Zd))
  (fun (i9:Nat) (b:Zd) a=>
   (Yl b).bind fun c=>
   chk (a.length+1≤1073741824) <|
   some (.inl (a++[c])))
  (fun a=>
   some a)
  l_0 0 []
noncomputable def Zam (append_0:(List Zr)) (String_1:(List Zd)):Option (List Zt):=
 forL (σ:=(List Zt))
  (fun (i246:Nat) (d:Zr) e=>
   forL (σ:=(List Zt))
    (fun (i322:Nat) (c:Zt) a=>
     if (d.kind != 1)=true then
      (Zb5 d c.binding String_1).bind fun j=>
      if j=true then
       chk (a.length+1≤1073741824) <|
       some (.inl (a++[c]))
      else
       some (.inl a)
     else
      forL (σ:=(List Zt))
       (fun (i335:Nat) (f:Zd) b=>
        (ZaF d.pattern f c.binding).bind fun g=>
        if g.2=true then
         (ZaG c.facts).bind fun i=>
         (Yl f).bind fun k=>
         chk (i.length+1≤1073741824) <|
         chk (b.length+1≤1073741824) <|
         some (.inl (b++[({ facts:=(i++[k]),binding:=g.1 }:Zt)]))
        else
         some (.inl b))
       (fun b=>
        some (.inl b))
       String_1 0 a)
    (fun a=>
     some (.inl a))
    e 0 [])
  (fun e=>
   some e)
  append_0 0 ([({ facts:=[],binding:=[] }:Zt)])
noncomputable def Xw (a_0:Int) (b_1:Int):Option Int:=
 if (decide (a_0<b_1))=true then
  some (-1)
 else
  if (decide (b_1<a_0))=true then
   some 1
  else
   some 0
noncomputable def Qj (a_0:ByteArray) (b_1:ByteArray):Option Int:=
 (QD a_0).bind fun b=>
 (QD b_1).bind fun a=>
 if b.2=true then
  if a.2=true then
   (Xw b.1 a.1).bind fun c=>
   some c
  else
   some (-1)
 else
  if a.2=true then
   some 1
  else
   (Zd1 a_0 b_1).bind fun d=>
   some d
noncomputable def XJ (a_0:Zd) (a:Zd):Option Int:=
 (Zd1 a_0.rel a.rel).bind fun b=>
 if (b != 0)=true then
  some b
 else
  forL (σ:=Unit)
   (fun (c:Nat) (e:ByteArray) _=>
    if (decide (((c:Nat):Int)<((a.args.length:Nat):Int)))=true then
     (atI a.args ((c:Nat):Int)).bind fun f=>
     (Qj e f).bind fun d=>
     if (d != 0)=true then
      some (.inr d)
     else
      some (.inl ())
    else
     (Xw ((a_0.args.length:Nat):Int) ((a.args.length:Nat):Int)).bind fun g=>
     some (.inr g))
   (fun _=>
    (Xw ((a_0.args.length:Nat):Int) ((a.args.length:Nat):Int)).bind fun i=>
    some i)
   a_0.args 0 ()
noncomputable def XF (l_0:(List Zd)) (f_1:Zd):Option (List Zd):=
 forL (σ:=(List Zd) × Bool)
  (fun (i21:Nat) (b:Zd) s=>
   match s with
   | (a,c)=>
   if c=true then
    (Yl b).bind fun d=>
    chk (a.length+1≤1073741824) <|
    some (.inl ((a++[d]),true))
   else
    (XJ b f_1).bind fun e=>
    if (decide (0<e))=true then
     (Yl f_1).bind fun f=>
     chk (a.length+1≤1073741824) <|
     (Yl b).bind fun g=>
     chk (a.length+1+1≤1073741824) <|
     some (.inl (((a++[f])++[g]),true))
    else
     (Yl b).bind fun i=>
     chk (a.length+1≤1073741824) <|
     some (.inl ((a++[i]),false)))
  (fun s=>
   match s with
   | (a,c)=>
   if c=true then
    some a
   else
    (Yl f_1).bind fun j=>
    chk (a.length+1≤1073741824) <|
    some (a++[j]))
  l_0 0 ([],false)
noncomputable def YA (r_0:Zf):Option (List Zr):=
 forL (σ:=(List Zr))
  (fun (i7:Nat) (b:Zr) a=>
   if (b.kind != 2)=true then
    chk (a.length+1≤1073741824) <|
    some (.inl (a++[b]))
   else
    some (.inl a))
  (fun a=>
   some a)
  r_0.cond 0 []
noncomputable def XZ (p_0:Zv) (b_1:(List Zp)):Option (Zd × Bool):=
 (YR p_0).bind fun c=>
 if c=true then
  (Xq b_1).bind fun d=>
  if d=true then
   forL (σ:=(List ByteArray))
    (fun (i11:Nat) (e:ByteArray) a=>
     (ZaC b_1 e).bind fun b=>
     if b.2=true then
      chk (a.length+1≤1073741824) <|
      some (.inl (a++[b.1]))
     else
      some (.inr (({ rel:=(⟨#[]⟩),args:=[] }:Zd),false)))
    (fun a=>
     some (({ rel:=p_0.rel,args:=a }:Zd),true))
    p_0.args 0 []
  else
   some (({ rel:=(⟨#[]⟩),args:=[] }:Zd),false)
 else
  some (({ rel:=(⟨#[]⟩),args:=[] }:Zd),false)
noncomputable def Qn (l_0:(List ByteArray)):Option (List ByteArray):=
 forL (σ:=(List ByteArray))
  (fun (i9:Nat) (b:ByteArray) a=>
   (Zcp b).bind fun c=>
   if c=true then
    chk (a.length+1≤1073741824) <|
    some (.inl (a++[b]))
   else
    some (.inl a))
  (fun a=>
   some a)
  l_0 0 []
noncomputable def Yb (l_0:(List ByteArray)):Option (List ByteArray):=
 chk (l_0.length≤1073741824) <|
 (ZbK l_0).bind fun c=>
 forL (σ:=(List ByteArray))
  (fun (b:Nat) (d:ByteArray) a=>
   if (((b:Nat):Int)==0)=true then
    chk (a.length+1≤1073741824) <|
    some (.inl (a++[d]))
   else
    chk (0≤(IntKind.i64.wrap (((b:Nat):Int) - 1))∧(IntKind.i64.wrap (((b:Nat):Int) - 1))<((c.length:Nat):Int)) <|
    (c[(A3 (IntKind.i64.wrap (((b:Nat):Int) - 1)))]?).bind fun e=>
    if (sEq e d)=true then
     some (.inl a)
    else
     chk (a.length+1≤1073741824) <|
     some (.inl (a++[d])))
  (fun a=>
   some a)
  c 0 []
noncomputable def Qu (r_0:Zf) (n_1:Int):Option (List ByteArray):=
 forL (σ:=(List ByteArray))
  (fun (i10:Nat) (b:Zr) a=>
   if (decide (((i10:Nat):Int)<n_1))=true then
    if (b.kind==1)=true then
     (Qn b.pattern.args).bind fun c=>
     chk (a.length+c.length≤1073741824) <|
     some (.inl (a++c))
    else
     some (.inl a)
   else
    some (.inl a))
  (fun a=>
   (Yb a).bind fun d=>
   some d)
  r_0.cond 0 []
noncomputable def YV (l_0:(List ByteArray)) (s_1:ByteArray):Option Bool:=
 forL (σ:=Unit)
  (fun (i4:Nat) (a:ByteArray) _=>
   if (sEq a s_1)=true then
    some (.inr true)
   else
    some (.inl ()))
  (fun _=>
   some false)
  l_0 0 ()
noncomputable def Zgs (x_0:Zr):Option (List ByteArray):=
 (Zaw x_0.pattern.args).bind fun a=>
 chk (a.length+2≤1073741824) <|
 some (a++[x_0.left,x_0.right])
noncomputable def X1 (x_0:Zr):Option (List ByteArray):=
 (Zgs x_0).bind fun a=>
 (Qn a).bind fun b=>
 (Yb b).bind fun c=>
 some c
noncomputable def Xm (r_0:Zf) (k_1:Int) (a:ByteArray):Option Bool:=
 forL (σ:=Unit)
  (fun (i16:Nat) (b:Zr) _=>
   if (((i16:Nat):Int) != k_1)=true then
    (X1 b).bind fun c=>
    (YV c a).bind fun d=>
    if d=true then
     some (.inr true)
    else
     some (.inl ())
   else
    some (.inl ()))
  (fun _=>
   forL (σ:=Unit)
    (fun (i25:Nat) (e:Zx) _=>
     (YV e.pattern.args a).bind fun f=>
     if f=true then
      some (.inr true)
     else
      some (.inl ()))
    (fun _=>
     some false)
    r_0.thn 0 ())
  r_0.cond 0 ()
noncomputable def Zbs (a:Zf) (b:Int):Option Bool:=
 (atI a.cond b).bind fun c=>
 (Qu a b).bind fun e=>
 (X1 c).bind fun f=>
 forL (σ:=Unit)
  (fun (i11:Nat) (d:ByteArray) _=>
   if (c.kind==1)=true then
    some (.inl ())
   else
    (YV e d).bind fun g=>
    if g=true then
     some (.inl ())
    else
     if (c.kind != 2)=true then
      some (.inr false)
     else
      (Xm a b d).bind fun i=>
      if i=true then
       some (.inr false)
      else
       some (.inl ()))
  (fun _=>
   some true)
  f 0 ()
noncomputable def Zc5 (a_0:Zx):Option Bool:=
 if (a_0.kind==1)=true then
  (YR a_0.pattern).bind fun a=>
  some a
 else
  if (a_0.kind==2)=true then
   (YR a_0.pattern).bind fun b=>
   some b
  else
   if (a_0.kind==3)=true then
    (YS a_0.pattern).bind fun c=>
    some c
   else
    some false
noncomputable def Za4 (l_0:(List Zr)):Option (List ByteArray):=
 forL (σ:=(List ByteArray))
  (fun (i9:Nat) (c:Zr) a=>
   (X1 c).bind fun b=>
   chk (a.length+b.length≤1073741824) <|
   some (.inl (a++b)))
  (fun a=>
   some a)
  l_0 0 []
noncomputable def ZdT (append_0:Zf):Option Bool:=
 (Zdg append_0.name).bind fun c=>
 if c=true then
  if (decide (append_0.priority<0))=true then
   some false
  else
   if (decide (9<append_0.priority))=true then
    some false
   else
    if (decide (((append_0.cond.length:Nat):Int)<1))=true then
     some false
    else
     if (decide (4<((append_0.cond.length:Nat):Int)))=true then
      some false
     else
      if (decide (((append_0.thn.length:Nat):Int)<1))=true then
       some false
      else
       if (decide (2<((append_0.thn.length:Nat):Int)))=true then
        some false
       else
        forL (σ:=Unit)
         (fun (i50:Nat) (a:Zr) _=>
          (Zdj a).bind fun d=>
          if d=true then
           if (((i50:Nat):Int)==0)=true then
            if (a.kind != 1)=true then
             some (.inr false)
            else
             (Zbs append_0 ((i50:Nat):Int)).bind fun e=>
             if e=true then
              some (.inl ())
             else
              some (.inr false)
           else
            (Zbs append_0 ((i50:Nat):Int)).bind fun f=>
            if f=true then
             some (.inl ())
            else
             some (.inr false)
          else
           some (.inr false))
         (fun _=>
          (Qu append_0 ((append_0.cond.length:Nat):Int)).bind fun g=>
          forL (σ:=Unit)
           (fun (i81:Nat) (b:Zx) _=>
            (Zc5 b).bind fun i=>
            if i=true then
             (Qn b.pattern.args).bind fun j=>
             forL (σ:=Unit)
              (fun (i90:Nat) (k:ByteArray) _=>
               (YV g k).bind fun l=>
               if l=true then
                some (.inl ())
               else
                some (.inr (.inr false)))
              (fun _=>
               some (.inl ()))
              j 0 ()
            else
             some (.inr false))
           (fun _=>
            (Za4 append_0.cond).bind fun m=>
            (Yb m).bind fun o=>
            some (decide (((o.length:Nat):Int)≤6)))
           append_0.thn 0 ())
         append_0.cond 0 ()
 else
  some false
noncomputable def Zao (l_0:(List Zf)) (name_1:ByteArray):Option Int:=
 forL (σ:=Unit)
  (fun (i4:Nat) (a:Zf) _=>
   if (sEq a.name name_1)=true then
    some (.inr ((i4:Nat):Int))
   else
    some (.inl ()))
  (fun _=>
   some (-1))
  l_0 0 ()
noncomputable def ZcN (l_0:(List Zf)):Option Bool:=
 if (decide (6<((l_0.length:Nat):Int)))=true then
  some false
 else
  forL (σ:=Unit)
   (fun (i8:Nat) (a:Zf) _=>
    (ZdT a).bind fun b=>
    if b=true then
     (Zao l_0 a.name).bind fun c=>
     if (c != ((i8:Nat):Int))=true then
      some (.inr false)
     else
      some (.inl ())
    else
     some (.inr false))
   (fun _=>
    some true)
   l_0 0 ()
noncomputable def Zc0 (r_0:Zf):Option Bool:=
 forL (σ:=Unit)
  (fun (i4:Nat) (a:Zx) _=>
   if (a.kind != 1)=true then
    some (.inr false)
   else
    some (.inl ()))
  (fun _=>
   some true)
  r_0.thn 0 ()
noncomputable def ZbU (r_0:Zf):Option Bool:=
 (ZdT r_0).bind fun b=>
 if b=true then
  (Zc0 r_0).bind fun c=>
  if c=true then
   forL (σ:=Unit)
    (fun (i26:Nat) (a:Zr) _=>
     if (a.kind != 2)=true then
      some (.inl ())
     else
      (Qu r_0 ((i26:Nat):Int)).bind fun d=>
      (X1 a).bind fun e=>
      forL (σ:=Unit)
       (fun (i35:Nat) (f:ByteArray) _=>
        (YV d f).bind fun g=>
        if g=true then
         some (.inl ())
        else
         some (.inr (.inr false)))
       (fun _=>
        some (.inl ()))
       e 0 ())
    (fun _=>
     some true)
    r_0.cond 0 ()
  else
   some false
 else
  some false
noncomputable def XY (r_0:Zf):Option (List ByteArray):=
 forL (σ:=(List ByteArray))
  (fun (i7:Nat) (b:Zx) a=>
   if (b.kind==1)=true then
    chk (a.length+1≤1073741824) <|
    some (.inl (a++[b.pattern.rel]))
   else
    if (b.kind==2)=true then
     chk (a.length+1≤1073741824) <|
     some (.inl (a++[b.pattern.rel]))
    else
     some (.inl a))
  (fun a=>
   (Yb a).bind fun c=>
   some c)
  r_0.thn 0 []
noncomputable def Zbm (r_0:Zf):Option (List ByteArray):=
 forL (σ:=(List ByteArray))
  (fun (i7:Nat) (b:Zr) a=>
   if (b.kind==1)=true then
    chk (a.length+1≤1073741824) <|
    some (.inl (a++[b.pattern.rel]))
   else
    if (b.kind==2)=true then
     chk (a.length+1≤1073741824) <|
     some (.inl (a++[b.pattern.rel]))
    else
     some (.inl a))
  (fun a=>
   (Yb a).bind fun c=>
   some c)
  r_0.cond 0 []
noncomputable def ZcF (rules_0:(List Zf)) (a_1:ByteArray):Option (List (ByteArray × Bool)):=
 iter (σ:=(List (ByteArray × Bool)) × (List ByteArray))
  (fun s=>
   match s with
   | (g,a)=>
   if (decide (0<((a.length:Nat):Int)))=true then
    chk (0≤0∧0<((a.length:Nat):Int)) <|
    (a[(A3 0)]?).bind fun j=>
    chk (0≤1∧1≤((a.length:Nat):Int)) <|
    forL (σ:=(List (ByteArray × Bool)) × (List ByteArray))
     (fun (i72:Nat) (i:Zf) s=>
      match s with
      | (d,e)=>
      (XY i).bind fun k=>
      (YV k j).bind fun l=>
      if l=true then
       (Zbm i).bind fun m=>
       forL (σ:=(List (ByteArray × Bool)) × (List ByteArray))
        (fun (i83:Nat) (f:ByteArray) s=>
         match s with
         | (b,c)=>
         if (QU b f false)=true then
          some (.inl (b,c))
         else
          chk (c.length+1≤1073741824) <|
          some (.inl ((Zeu b f true),(c++[f]))))
        (fun s=>
         match s with
         | (b,c)=>
         some (.inl (b,c)))
        m 0 (d,e)
      else
       some (.inl (d,e)))
     (fun s=>
      match s with
      | (d,e)=>
      some (.inl (d,e)))
     rules_0 0 (g,(AB (A3 1) a))
   else
    some (.inr g))
  ([],[a_1])
noncomputable def ZaP (rules_0:(List Zf)):Option Bool:=
 (ZcN rules_0).bind fun d=>
 if d=true then
  forL (σ:=Unit)
   (fun (i59:Nat) (a:Zf) _=>
    (ZbU a).bind fun e=>
    if e=true then
     forL (σ:=Unit)
      (fun (i79:Nat) (b:Zr) _=>
       if (b.kind != 2)=true then
        some (.inl ())
       else
        (ZcF rules_0 b.pattern.rel).bind fun f=>
        (XY a).bind fun g=>
        forL (σ:=Unit)
         (fun (i86:Nat) (c:ByteArray) _=>
          if (sEq c b.pattern.rel)=true then
           some (.inr (.inr (.inr false)))
          else
           if (QU f c false)=true then
            some (.inr (.inr (.inr false)))
           else
            some (.inl ()))
         (fun _=>
          some (.inl ()))
         g 0 ())
      (fun _=>
       some (.inl ()))
      a.cond 0 ()
    else
     some (.inr false))
   (fun _=>
    some true)
   rules_0 0 ()
 else
  some false
noncomputable def ZcA (a:(List Zd)):Option Bool:=
 if (decide (24<((a.length:Nat):Int)))=true then
  some false
 else
  forL (σ:=Unit)
   (fun (b:Nat) (c:Zd) _=>
    (Zej c).bind fun d=>
    if d=true then
     if (decide (0<((b:Nat):Int)))=true then
      (atI a (IntKind.i64.wrap (((b:Nat):Int) - 1))).bind fun e=>
      (XJ e c).bind fun f=>
      if (decide (0≤f))=true then
       some (.inr false)
      else
       some (.inl ())
     else
      some (.inl ())
    else
     some (.inr false))
   (fun _=>
    some true)
   a 0 ()
noncomputable def Yf (append_0:(List Zf)) (String_1:(List Zd)):Option ((List Zd) × Bool):=
 (ZaP append_0).bind fun k=>
 if k=true then
  (ZcA String_1).bind fun l=>
  if l=true then
   (ZaG String_1).bind fun m=>
   iter (σ:=(List Zd) × Bool)
    (fun s=>
     match s with
     | (g,o)=>
     if o=true then
      forL (σ:=(List Zd) × Bool)
       (fun (i423:Nat) (i:Zf) s=>
        match s with
        | (b,c)=>
        (YA i).bind fun p=>
        (Zam p b).bind fun q=>
        forL (σ:=(List Zd) × Bool)
         (fun (i480:Nat) (t:Zt) s=>
          match s with
          | (d,e)=>
          forL (σ:=(List Zd) × Bool)
           (fun (i501:Nat) (u:Zx) s=>
            match s with
            | (a,f)=>
            (XZ u.pattern t.binding).bind fun j=>
            (Z8 a j.1).bind fun v=>
            if (decide (0≤v))=true then
             some (.inl (a,f))
            else
             if (decide (24≤((a.length:Nat):Int)))=true then
              some (.inr (.inr (.inr (.inr ([],false)))))
             else
              (XF a j.1).bind fun w=>
              some (.inl (w,true)))
           (fun s=>
            match s with
            | (a,f)=>
            some (.inl (a,f)))
           i.thn 0 (d,e))
         (fun s=>
          match s with
          | (d,e)=>
          some (.inl (d,e)))
         q 0 (b,c))
       (fun s=>
        match s with
        | (b,c)=>
        some (.inl (b,c)))
       append_0 0 (g,false)
     else
      some (.inr (g,true)))
    (m,true)
  else
   some ([],false)
 else
  some ([],false)
noncomputable def ZfM (l_0:(List Int)) (n_1:Int):Option Bool:=
 forL (σ:=Unit)
  (fun (i4:Nat) (a:Int) _=>
   if (a==n_1)=true then
    some (.inr true)
   else
    some (.inl ()))
  (fun _=>
   some false)
  l_0 0 ()
noncomputable def Zcr (facts_0:(List Zd)) (l_1:(List Zd)):Option (List Int):=
 forL (σ:=(List Int))
  (fun (i16:Nat) (c:Zd) a=>
   (Z8 facts_0 c).bind fun b=>
   if (decide (0≤b))=true then
    (ZfM a b).bind fun d=>
    if d=true then
     some (.inl a)
    else
     chk (a.length+1≤1073741824) <|
     some (.inl (a++[b]))
   else
    some (.inl a))
  (fun a=>
   (ZeC a).bind fun e=>
   some e)
  l_1 0 []
noncomputable def Zbh (a_0:(List Int)) (a:(List Int)):Option Bool:=
 if (((a_0.length:Nat):Int) != ((a.length:Nat):Int))=true then
  some false
 else
  forL (σ:=Unit)
   (fun (b:Nat) (c:Int) _=>
    (atI a ((b:Nat):Int)).bind fun d=>
    if (c != d)=true then
     some (.inr false)
    else
     some (.inl ()))
   (fun _=>
    some true)
   a_0 0 ()
noncomputable def ZaK (a_0:Zg) (b_1:Zg):Option Bool:=
 if (a_0.for_==b_1.for_)=true then
  (Zbh a_0.inn b_1.inn).bind fun a=>
  if a=true then
   (Zbh a_0.outs b_1.outs).bind fun b=>
   some b
  else
   some false
 else
  some false
noncomputable def ZaA (l_0:(List Zg)) (r_1:Zg):Option Bool:=
 forL (σ:=Unit)
  (fun (i6:Nat) (a:Zg) _=>
   (ZaK a r_1).bind fun b=>
   if b=true then
    some (.inr true)
   else
    some (.inl ()))
  (fun _=>
   some false)
  l_0 0 ()
noncomputable def ZaJ (append_0:(List Zf)) (String_1:(List Zd)):Option ((List Zd) × Zu × (List Zac) × Bool):=
 (Yf append_0 String_1).bind fun a=>
 if a.2=true then
  forL (σ:=(List Zg) × (List Zac))
   (fun (i941:Nat) (u:Zd) s=>
    match s with
    | (e,f)=>
    (Z8 a.1 u).bind fun v=>
    chk (e.length+1≤1073741824) <|
    chk (f.length+1≤1073741824) <|
    some (.inl ((e++[({ for_:=v,inn:=[],outs:=[] }:Zg)]),(f++[({ rule:=(⟨#[]⟩),facts:=[] }:Zac)]))))
   (fun s=>
    match s with
    | (e,f)=>
    forL (σ:=(List Zg) × (List Zac))
     (fun (i1660:Nat) (g:Zf) s=>
      match s with
      | (i,k)=>
      (YA g).bind fun w=>
      (Zam w a.1).bind fun x=>
      forL (σ:=(List Zg) × (List Zac))
       (fun (i1803:Nat) (j:Zt) s=>
        match s with
        | (l,m)=>
        forL (σ:=(List Zd))
         (fun (i1841:Nat) (o:Zr) c=>
          if (o.kind==2)=true then
           (XZ o.pattern j.binding).bind fun y=>
           chk (c.length+1≤1073741824) <|
           some (.inl (c++[y.1]))
          else
           some (.inl c))
         (fun c=>
          forL (σ:=(List Zg) × (List Zac))
           (fun (i1865:Nat) (z:Zx) s=>
            match s with
            | (b,d)=>
            (XZ z.pattern j.binding).bind fun A=>
            (Z8 a.1 A.1).bind fun p=>
            (Zcr a.1 j.facts).bind fun q=>
            (Zcr a.1 c).bind fun t=>
            (ZaA b ({ for_:=p,inn:=q,outs:=t }:Zg)).bind fun B=>
            if B=true then
             some (.inl (b,d))
            else
             chk (b.length+1≤1073741824) <|
             chk (d.length+1≤1073741824) <|
             some (.inl ((b++[({ for_:=p,inn:=q,outs:=t }:Zg)]),(d++[({ rule:=g.name,facts:=j.facts }:Zac)]))))
           (fun s=>
            match s with
            | (b,d)=>
            some (.inl (b,d)))
           g.thn 0 (l,m))
         g.cond 0 [])
       (fun s=>
        match s with
        | (l,m)=>
        some (.inl (l,m)))
       x 0 (i,k))
     (fun s=>
      match s with
      | (i,k)=>
      if (decide (60<((i.length:Nat):Int)))=true then
       some ([],({ nodes:=0,reasons:=[] }:Zu),[],false)
      else
       some (a.1,({ nodes:=((a.1.length:Nat):Int),reasons:=i }:Zu),k,true))
     append_0 0 (e,f))
   String_1 0 ([],[])
 else
  some ([],({ nodes:=0,reasons:=[] }:Zu),[],false)
noncomputable def Xe (rules_0:(List Zf)) (base_1:(List Zd)):Option ((List Zd) × Zu × Bool):=
 (ZaJ rules_0 base_1).bind fun a=>
 some (a.1,a.2.1,a.2.2.2)
noncomputable def ZfS (d:Zu):Option (List Int):=
 chk (0≤d.nodes∧d.nodes≤1073741824) <|
 iter (σ:=(List Int) × Bool)
  (fun s=>
   match s with
   | (j,o)=>
   if o=true then
    forL (σ:=(List Int) × Bool)
     (fun (i155:Nat) (b:Zg) s=>
      match s with
      | (a,f)=>
      chk (0≤b.for_∧b.for_<((a.length:Nat):Int)) <|
      (a[(A3 b.for_)]?).bind fun k=>
      forL (σ:=Int)
       (fun (i173:Nat) (g:Int) e=>
        chk (0≤g∧g<((a.length:Nat):Int)) <|
        (a[(A3 g)]?).bind fun l=>
        some (.inl (if e<l then l else e)))
       (fun e=>
        forL (σ:=Int)
         (fun (i182:Nat) (i:Int) c=>
          chk (0≤i∧i<((a.length:Nat):Int)) <|
          (a[(A3 i)]?).bind fun m=>
          some (.inl (if c<(IntKind.i64.wrap (m+1)) then (IntKind.i64.wrap (m+1)) else c)))
         (fun c=>
          if (decide (k<c))=true then
           some (.inl ((AC a (A3 b.for_) c),true))
          else
           some (.inl (a,f)))
         b.outs 0 e)
       b.inn 0 k)
     (fun s=>
      match s with
      | (a,f)=>
      some (.inl (a,f)))
     d.reasons 0 (j,false)
   else
    some (.inr j))
  ((AJ (A3 d.nodes) 0),true)
noncomputable def Zas (r_0:Zg) (a:(List Int)) (before_2:Int):Option Bool:=
 forL (σ:=Unit)
  (fun (i14:Nat) (c:Int) _=>
   (atI a c).bind fun b=>
   if (decide (b<0))=true then
    some (.inr false)
   else
    if (decide (before_2≤b))=true then
     some (.inr false)
    else
     some (.inl ()))
  (fun _=>
   forL (σ:=Unit)
    (fun (i22:Nat) (d:Int) _=>
     (atI a d).bind fun e=>
     if (decide (0≤e))=true then
      some (.inr false)
     else
      some (.inl ()))
    (fun _=>
     some true)
    r_0.outs 0 ())
  r_0.inn 0 ()
noncomputable def ZfP (d:Zu):Option (List Int):=
 (ZfS d).bind fun g=>
 chk (0≤d.nodes∧d.nodes≤1073741824) <|
 iter (σ:=(List Int) × Int × Int)
  (fun s=>
   match s with
   | (i,a,m)=>
   if (decide (a<((A3 d.nodes:Nat):Int)))=true then
    chk (0≤a∧a<((i.length:Nat):Int)) <|
    (i[(A3 a)]?).bind fun u=>
    chk (a<((g.length:Nat):Int)) <|
    (g[(A3 a)]?).bind fun o=>
    some (.inl ((AC i (A3 a) (-1)),(IntKind.i64.wrap (a+1)),(if m<o then o else m)))
   else
    iter (σ:=(List Int) × Int × Int)
     (fun s=>
      match s with
      | (e,j,k)=>
      if (decide (k≤m))=true then
       forL (σ:=(List Int))
        (fun (i109:Nat) (c:Zg) b=>
         chk (0≤c.for_∧c.for_<((g.length:Nat):Int)) <|
         (g[(A3 c.for_)]?).bind fun p=>
         if (p==k)=true then
          chk (c.for_<((e.length:Nat):Int)) <|
          (e[(A3 c.for_)]?).bind fun q=>
          if (decide (q<0))=true then
           (Zas c e j).bind fun t=>
           if t=true then
            chk (b.length+1≤1073741824) <|
            some (.inl (b++[c.for_]))
           else
            some (.inl b)
          else
           some (.inl b)
         else
          some (.inl b))
        (fun b=>
         if (((b.length:Nat):Int)==0)=true then
          some (.inl (e,j,(IntKind.i64.wrap (k+1))))
         else
          forL (σ:=(List Int))
           (fun (i120:Nat) (l:Int) f=>
            chk (0≤l∧l<((f.length:Nat):Int)) <|
            (f[(A3 l)]?).bind fun v=>
            some (.inl (AC f (A3 l) j)))
           (fun f=>
            some (.inl (f,(IntKind.i64.wrap (j+1)),k)))
           b 0 e)
        d.reasons 0 []
      else
       some (.inr (.inr e)))
     (i,0,0))
  ((AJ (A3 d.nodes) 0),0,0)
noncomputable def ZdW (b_0:Zu):Option (List Bool):=
 (ZfP b_0).bind fun b=>
 forL (σ:=(List Bool))
  (fun (i7:Nat) (c:Int) a=>
   chk (a.length+1≤1073741824) <|
   some (.inl (a++[(decide (0≤c))])))
  (fun a=>
   some a)
  b 0 []
noncomputable def ZcT (b:(List Zd)) (b_1:Zu):Option (List Zd):=
 (ZdW b_1).bind fun c=>
 forL (σ:=(List Zd))
  (fun (d:Nat) (e:Bool) a=>
   if e=true then
    (atI b ((d:Nat):Int)).bind fun f=>
    (Yl f).bind fun g=>
    chk (a.length+1≤1073741824) <|
    some (.inl (a++[g]))
   else
    some (.inl a))
  (fun a=>
   some a)
  c 0 []
noncomputable def Zbg (rules_0:(List Zf)) (base_1:(List Zd)):Option ((List Zd) × Bool):=
 (Xe rules_0 base_1).bind fun a=>
 if a.2.2=true then
  (ZcT a.1 a.2.1).bind fun b=>
  some (b,true)
 else
  some ([],false)
noncomputable def ZLU (l_0:(List Zr)):Option Zf:=
 some ({ name:=(⟨#[113]⟩),priority:=0,cond:=l_0,thn:=[({ kind:=3,pattern:=({ rel:=(⟨#[]⟩),args:=[] }:Zv) }:Zx)] }:Zf)
noncomputable def ZKX (l_0:(List Zr)):Option Bool:=
 (ZLU l_0).bind fun a=>
 (ZdT a).bind fun b=>
 some b
noncomputable def ZK4 (a_0:(List Zp)) (a:(List Zp)):Option Bool:=
 if (((a_0.length:Nat):Int) != ((a.length:Nat):Int))=true then
  some false
 else
  forL (σ:=Unit)
   (fun (d:Nat) (b:Zp) _=>
    (atI a ((d:Nat):Int)).bind fun c=>
    if (sEq b.var c.var&&sEq b.value c.value)=true then
     some (.inl ())
    else
     some (.inr false))
   (fun _=>
    some true)
   a_0 0 ()
noncomputable def ZKL (rules_0:(List Zf)) (base_1:(List Zd)) (l_2:(List Zr)):Option ((List (List Zp)) × Bool):=
 (Zbg rules_0 base_1).bind fun c=>
 if c.2=true then
  (ZKX l_2).bind fun e=>
  if e=true then
   (Zam l_2 c.1).bind fun f=>
   forL (σ:=(List (List Zp)))
    (fun (i19:Nat) (d:Zt) a=>
     forL (σ:=Bool)
      (fun (i27:Nat) (g:(List Zp)) b=>
       if b=true then
        some (.inl true)
       else
        (ZK4 g d.binding).bind fun i=>
        some (.inl i))
      (fun b=>
       if b=true then
        some (.inl a)
       else
        chk (a.length+1≤1073741824) <|
        some (.inl (a++[d.binding])))
      a 0 false)
    (fun a=>
     some (a,true))
    f 0 []
  else
   some ([],false)
 else
  some ([],false)
noncomputable def ZqV (code_0:(List Int)):Option Bool:=
 some (decide (4096<((code_0.length:Nat):Int)))
noncomputable def ZhL (code_0:(List Int)):Option ZF:=
 forL (σ:=Int)
  (fun (i5:Nat) (c:Int) a=>
   if (decide (((i5:Nat):Int)<4000))=true then
    some (.inl (ZkD .i64 (IntKind.i64.wrap ((IntKind.i64.wrap ((IntKind.i64.wrap (a * 167))+IntKind.i64.wrap c))+29)) 1073741823))
   else
    some (.inr ({ b:=code_0,i:=0,h:=a }:ZF)))
  (fun a=>
   some ({ b:=code_0,i:=0,h:=a }:ZF))
  code_0 0 (IntKind.i64.wrap (851207+(IntKind.i64.wrap (3 * ((code_0.length:Nat):Int)))))
noncomputable def Zb0 (a:ZF):Option (Int × ZF):=
 if (decide (a.i<((a.b.length:Nat):Int)))=true then
  (atI a.b a.i).bind fun c=>
  some ((ZkD .i64 (IntKind.i64.wrap ((ZkD .i64 (ZuA .i64 (Zsr .i64 (IntKind.i64.wrap ((IntKind.i64.wrap (a.h * 6364136223846793005))+1442695040888963407)) 35) (Zsr .i64 (IntKind.i64.wrap ((IntKind.i64.wrap (a.h * 6364136223846793005))+1442695040888963407)) 45)) 255)+IntKind.i64.wrap c)) 255),({ b:=a.b,i:=(IntKind.i64.wrap (a.i+1)),h:=(IntKind.i64.wrap ((IntKind.i64.wrap (a.h * 6364136223846793005))+1442695040888963407)) }:ZF))
 else
  some ((ZkD .i64 (ZuA .i64 (Zsr .i64 (IntKind.i64.wrap ((IntKind.i64.wrap (a.h * 6364136223846793005))+1442695040888963407)) 35) (Zsr .i64 (IntKind.i64.wrap ((IntKind.i64.wrap (a.h * 6364136223846793005))+1442695040888963407)) 45)) 255),({ b:=a.b,i:=a.i,h:=(IntKind.i64.wrap ((IntKind.i64.wrap (a.h * 6364136223846793005))+1442695040888963407)) }:ZF))
noncomputable def Xb (c_0:ZF) (n_1:Int):Option (Int × ZF):=
 if (decide (n_1≤0))=true then
  some (0,c_0)
 else
  if (decide (n_1≤256))=true then
   (Zb0 c_0).bind fun a=>
   chk (¬n_1=0) <|
   some ((Int.tmod a.1 n_1),a.2)
  else
   (Zb0 c_0).bind fun b=>
   (Zb0 b.2).bind fun c=>
   (Zb0 c.2).bind fun d=>
   chk (¬n_1=0) <|
   some ((Int.tmod (IntKind.i64.wrap ((IntKind.i64.wrap ((IntKind.i64.wrap (b.1 * 65536))+(IntKind.i64.wrap (c.1 * 256))))+d.1)) n_1),d.2)
noncomputable def Za5 (x_0:Int) (least_1:Int) (most_2:Int):Option Bool:=
 if (decide (least_1≤x_0))=true then
  some (decide (x_0≤most_2))
 else
  some false
noncomputable def Q4 (n_0:Int):Option ByteArray:=
 if (n_0==(-9223372036854775808))=true then
  some (⟨#[45,57,50,50,51,51,55,50,48,51,54,56,53,52,55,55,53,56,48,56]⟩)
 else
  if (decide (n_0<0))=true then
   none
  else
   iter (σ:=Int × ByteArray)
    (fun s=>
     match s with
     | (a,b)=>
     chk ((YQ [(IntKind.u8.wrap (IntKind.i64.wrap (48+(Int.tmod a 10))))]).size+b.size≤9223372036854775807) <|
     if ((IntKind.i64.wrap (Int.tdiv a 10))==0)=true then
      some (.inr ((YQ [(IntKind.u8.wrap (IntKind.i64.wrap (48+(Int.tmod a 10))))])++b))
     else
      some (.inl ((IntKind.i64.wrap (Int.tdiv a 10)),((YQ [(IntKind.u8.wrap (IntKind.i64.wrap (48+(Int.tmod a 10))))])++b))))
    (n_0,⟨#[]⟩)
noncomputable def XO (n_0:Int):Option ByteArray:=
 if (n_0==(-9223372036854775808))=true then
  some (⟨#[45,57,50,50,51,51,55,50,48,51,54,56,53,52,55,55,53,56,48,56]⟩)
 else
  if (decide (n_0<0))=true then
   (Q4 (IntKind.i64.wrap (0 - n_0))).bind fun c=>
   chk ((⟨#[45]⟩:ByteArray).size+c.size≤9223372036854775807) <|
   some ((⟨#[45]⟩:ByteArray)++c)
  else
   iter (σ:=Int × ByteArray)
    (fun s=>
     match s with
     | (a,b)=>
     chk ((YQ [(IntKind.u8.wrap (IntKind.i64.wrap (48+(Int.tmod a 10))))]).size+b.size≤9223372036854775807) <|
     if ((IntKind.i64.wrap (Int.tdiv a 10))==0)=true then
      some (.inr ((YQ [(IntKind.u8.wrap (IntKind.i64.wrap (48+(Int.tmod a 10))))])++b))
     else
      some (.inl ((IntKind.i64.wrap (Int.tdiv a 10)),((YQ [(IntKind.u8.wrap (IntKind.i64.wrap (48+(Int.tmod a 10))))])++b))))
    (n_0,⟨#[]⟩)
noncomputable def X0 (s_0:ByteArray):Option (Int × Bool):=
 (Za5 ((s_0.size:Nat):Int) 1 4).bind fun c=>
 if c=true then
  forL (σ:=Int)
   (fun (i7:Nat) (b:UInt8) a=>
    if (decide (((b.toNat:Nat):Int)<48))=true then
     some (.inr (0,false))
    else
     if (decide (57<((b.toNat:Nat):Int)))=true then
      some (.inr (0,false))
     else
      some (.inl (IntKind.i64.wrap ((IntKind.i64.wrap (10 * a))+IntKind.i64.wrap (IntKind.u8.wrap (((b.toNat:Nat):Int) - 48))))))
   (fun a=>
    (XO a).bind fun d=>
    if (sEq d s_0)=true then
     some (a,true)
    else
     some (0,false))
   s_0.data.toList 0 0
 else
  some (0,false)
noncomputable def Qd (b:ByteArray) (c:ByteArray):Option (List ByteArray):=
 if (sEq c ⟨#[]⟩)=true then
  some [b]
 else
  iter (σ:=(List ByteArray) × Int × Int)
   (fun s=>
    match s with
    | (e,d,a)=>
    if (decide ((IntKind.i64.wrap (a+((c.size:Nat):Int)))≤((b.size:Nat):Int)))=true then
     chk (0≤(IntKind.i64.wrap (a+((c.size:Nat):Int)))∧(IntKind.i64.wrap (a+((c.size:Nat):Int)))≤((b.size:Nat):Int)∧0≤a∧a≤(((A3 (IntKind.i64.wrap (a+((c.size:Nat):Int)))):Nat):Int)) <|
     if (sEq (b.extract (A3 a) (A3 (IntKind.i64.wrap (a+((c.size:Nat):Int))))) c)=true then
      chk (a≤((b.size:Nat):Int)∧0≤d∧d≤(((A3 a):Nat):Int)) <|
      chk (e.length+1≤1073741824) <|
      some (.inl ((e++[(b.extract (A3 d) (A3 a))]),(IntKind.i64.wrap (a+((c.size:Nat):Int))),(IntKind.i64.wrap (a+((c.size:Nat):Int)))))
     else
      some (.inl (e,d,(IntKind.i64.wrap (a+1))))
    else
     chk (0≤d∧d≤((b.size:Nat):Int)) <|
     chk (e.length+1≤1073741824) <|
     some (.inr (e++[(b.extract (A3 d) b.size)])))
   ([],0,0)
noncomputable def X3 (s_0:ByteArray):Option Bool:=
 forL (σ:=Unit)
  (fun (i9:Nat) (a:UInt8) _=>
   (Za5 (IntKind.i64.wrap ((a.toNat:Nat):Int)) 97 122).bind fun b=>
   if b=true then
    some (.inl ())
   else
    (Za5 (IntKind.i64.wrap ((a.toNat:Nat):Int)) 48 57).bind fun c=>
    if c=true then
     some (.inl ())
    else
     some (.inr false))
  (fun _=>
   (Za5 ((s_0.size:Nat):Int) 1 8).bind fun d=>
   some d)
  s_0.data.toList 0 ()
noncomputable def ZcY (s_0:ByteArray):Option Bool:=
 (X3 s_0).bind fun a=>
 if a=true then
  (sAt s_0 0).bind fun b=>
  (Za5 (IntKind.i64.wrap ((b.toNat:Nat):Int)) 97 122).bind fun c=>
  some c
 else
  some false
noncomputable def Zab (a:ByteArray):Option Bool:=
 if (decide (1<((a.size:Nat):Int)))=true then
  (sAt a 0).bind fun b=>
  if (((b.toNat:Nat):Int)==63)=true then
   chk (0≤1∧1≤((a.size:Nat):Int)) <|
   (X3 (a.extract (A3 1) a.size)).bind fun c=>
   some c
  else
   some false
 else
  some false
noncomputable def Qv (s_0:ByteArray):Option Bool:=
 (X3 s_0).bind fun a=>
 if a=true then
  some true
 else
  (Zab s_0).bind fun b=>
  some b
noncomputable def YD (p_0:Zv):Option Bool:=
 forL (σ:=Unit)
  (fun (i7:Nat) (a:ByteArray) _=>
   (Qv a).bind fun b=>
   if b=true then
    some (.inl ())
   else
    some (.inr false))
  (fun _=>
   (ZcY p_0.rel).bind fun c=>
   if c=true then
    some (decide (((p_0.args.length:Nat):Int)≤3))
   else
    some false)
  p_0.args 0 ()
noncomputable def Zb1 (x_0:Zr):Option Bool:=
 if (x_0.kind==1)=true then
  (YD x_0.pattern).bind fun a=>
  if a=true then
   if (sEq x_0.left ⟨#[]⟩)=true then
    some (sEq x_0.right ⟨#[]⟩)
   else
    some false
  else
   some false
 else
  if (x_0.kind==2)=true then
   (YD x_0.pattern).bind fun b=>
   if b=true then
    if (sEq x_0.left ⟨#[]⟩)=true then
     some (sEq x_0.right ⟨#[]⟩)
    else
     some false
   else
    some false
  else
   if (x_0.kind==3)=true then
    if (sEq x_0.pattern.rel ⟨#[]⟩)=true then
     if (((x_0.pattern.args.length:Nat):Int)==0)=true then
      (Qv x_0.left).bind fun c=>
      if c=true then
       (Qv x_0.right).bind fun d=>
       some d
      else
       some false
     else
      some false
    else
     some false
   else
    if (x_0.kind==4)=true then
     if (sEq x_0.pattern.rel ⟨#[]⟩)=true then
      if (((x_0.pattern.args.length:Nat):Int)==0)=true then
       (Qv x_0.left).bind fun e=>
       if e=true then
        (Qv x_0.right).bind fun f=>
        some f
       else
        some false
      else
       some false
     else
      some false
    else
     if (x_0.kind==5)=true then
      if (sEq x_0.pattern.rel ⟨#[]⟩)=true then
       if (((x_0.pattern.args.length:Nat):Int)==0)=true then
        (Qv x_0.left).bind fun g=>
        if g=true then
         (Qv x_0.right).bind fun i=>
         some i
        else
         some false
       else
        some false
      else
       some false
     else
      some false
noncomputable def XA (l_0:(List ByteArray)) (s_1:ByteArray):Option (List ByteArray):=
 forL (σ:=(List ByteArray) × Bool)
  (fun (i8:Nat) (b:ByteArray) s=>
   match s with
   | (a,c)=>
   if c=true then
    chk (a.length+1≤1073741824) <|
    some (.inl ((a++[b]),true))
   else
    if (sLt b s_1)=true then
     chk (a.length+1≤1073741824) <|
     some (.inl ((a++[b]),false))
    else
     if (sEq b s_1)=true then
      chk (a.length+1≤1073741824) <|
      some (.inl ((a++[b]),true))
     else
      chk (a.length+1≤1073741824) <|
      chk (a.length+1+1≤1073741824) <|
      some (.inl (((a++[s_1])++[b]),true)))
  (fun s=>
   match s with
   | (a,c)=>
   if c=true then
    some a
   else
    chk (a.length+1≤1073741824) <|
    some (a++[s_1]))
  l_0 0 ([],false)
noncomputable def Za0 (p_0:Zv):Option (List ByteArray):=
 forL (σ:=(List ByteArray))
  (fun (i9:Nat) (b:ByteArray) a=>
   (Zab b).bind fun c=>
   if c=true then
    (XA a b).bind fun d=>
    some (.inl d)
   else
    some (.inl a))
  (fun a=>
   some a)
  p_0.args 0 []
noncomputable def XT (r_0:Zf) (n_1:Int):Option (List ByteArray):=
 forL (σ:=(List ByteArray))
  (fun (i25:Nat) (c:Zr) a=>
   if (decide (((i25:Nat):Int)<n_1))=true then
    if (c.kind==1)=true then
     (Za0 c.pattern).bind fun d=>
     forL (σ:=(List ByteArray))
      (fun (i34:Nat) (e:ByteArray) b=>
       (XA b e).bind fun f=>
       some (.inl f))
      (fun b=>
       some (.inl b))
      d 0 a
    else
     some (.inl a)
   else
    some (.inr a))
  (fun a=>
   some a)
  r_0.cond 0 []
noncomputable def Xz (x_0:Zr):Option (List ByteArray):=
 (Za0 x_0.pattern).bind fun a=>
 (Zab x_0.left).bind fun c=>
 if c=true then
  (XA a x_0.left).bind fun b=>
  (Zab x_0.right).bind fun d=>
  if d=true then
   (XA b x_0.right).bind fun e=>
   some e
  else
   some b
 else
  (Zab x_0.right).bind fun f=>
  if f=true then
   (XA a x_0.right).bind fun g=>
   some g
  else
   some a
noncomputable def ZR (l_0:(List ByteArray)) (s_1:ByteArray):Option Bool:=
 forL (σ:=Unit)
  (fun (i4:Nat) (a:ByteArray) _=>
   if (sEq a s_1)=true then
    some (.inr true)
   else
    some (.inl ()))
  (fun _=>
   some false)
  l_0 0 ()
noncomputable def ZaT (x_0:Zr):Option Bool:=
 (Zb1 x_0).bind fun a=>
 if a=true then
  some (decide (3≤x_0.kind))
 else
  some false
noncomputable def Xu (r_0:Zf) (i_1:Int) (v_2:ByteArray):Option Bool:=
 forL (σ:=Unit)
  (fun (i19:Nat) (a:Zr) _=>
   if (((i19:Nat):Int) != i_1)=true then
    (Xz a).bind fun b=>
    (ZR b v_2).bind fun c=>
    if c=true then
     some (.inr true)
    else
     some (.inl ())
   else
    some (.inl ()))
  (fun _=>
   forL (σ:=Unit)
    (fun (i30:Nat) (d:Zx) _=>
     (Za0 d.pattern).bind fun e=>
     (ZR e v_2).bind fun f=>
     if f=true then
      some (.inr true)
     else
      some (.inl ()))
    (fun _=>
     some false)
    r_0.thn 0 ())
  r_0.cond 0 ()
noncomputable def ZcM (a_0:Zx):Option Bool:=
 if (a_0.kind==1)=true then
  (YD a_0.pattern).bind fun a=>
  some a
 else
  if (a_0.kind==2)=true then
   (YD a_0.pattern).bind fun b=>
   some b
  else
   if (a_0.kind==3)=true then
    if (sEq a_0.pattern.rel ⟨#[]⟩)=true then
     some (((a_0.pattern.args.length:Nat):Int)==0)
    else
     some false
   else
    some false
noncomputable def ZcH (r_0:Zf):Option (List ByteArray):=
 forL (σ:=(List ByteArray))
  (fun (i61:Nat) (e:Zr) a=>
   (Xz e).bind fun f=>
   forL (σ:=(List ByteArray))
    (fun (i70:Nat) (g:ByteArray) b=>
     (XA b g).bind fun i=>
     some (.inl i))
    (fun b=>
     some (.inl b))
    f 0 a)
  (fun a=>
   forL (σ:=(List ByteArray))
    (fun (i97:Nat) (j:Zx) c=>
     (Za0 j.pattern).bind fun k=>
     forL (σ:=(List ByteArray))
      (fun (i106:Nat) (l:ByteArray) d=>
       (XA d l).bind fun m=>
       some (.inl m))
      (fun d=>
       some (.inl d))
      k 0 c)
    (fun c=>
     some c)
    r_0.thn 0 a)
  r_0.cond 0 []
noncomputable def ZbX (append_0:Zf):Option Bool:=
 (ZcY append_0.name).bind fun g=>
 if g=true then
  (Za5 append_0.priority 0 9).bind fun i=>
  if i=true then
   (Za5 ((append_0.cond.length:Nat):Int) 1 4).bind fun j=>
   if j=true then
    (Za5 ((append_0.thn.length:Nat):Int) 1 2).bind fun k=>
    if k=true then
     (XT append_0 ((append_0.cond.length:Nat):Int)).bind fun l=>
     forL (σ:=Unit)
      (fun (i96:Nat) (a:Zr) _=>
       (Zb1 a).bind fun m=>
       if m=true then
        if (((i96:Nat):Int)==0)=true then
         if (a.kind != 1)=true then
          some (.inr false)
         else
          (XT append_0 ((i96:Nat):Int)).bind fun o=>
          (Xz a).bind fun p=>
          forL (σ:=Unit)
           (fun (i110:Nat) (b:ByteArray) _=>
            (ZR o b).bind fun c=>
            (ZaT a).bind fun q=>
            if q=true then
             if c=true then
              if (a.kind==2)=true then
               some (.inl ())
              else
               some (.inl ())
             else
              some (.inr (.inr false))
            else
             if (a.kind==2)=true then
              if c=true then
               some (.inl ())
              else
               (Xu append_0 ((i96:Nat):Int) b).bind fun t=>
               if t=true then
                some (.inr (.inr false))
               else
                some (.inl ())
             else
              some (.inl ()))
           (fun _=>
            some (.inl ()))
           p 0 ()
        else
         (XT append_0 ((i96:Nat):Int)).bind fun u=>
         (Xz a).bind fun v=>
         forL (σ:=Unit)
          (fun (i126:Nat) (d:ByteArray) _=>
           (ZR u d).bind fun e=>
           (ZaT a).bind fun w=>
           if w=true then
            if e=true then
             if (a.kind==2)=true then
              some (.inl ())
             else
              some (.inl ())
            else
             some (.inr (.inr false))
           else
            if (a.kind==2)=true then
             if e=true then
              some (.inl ())
             else
              (Xu append_0 ((i96:Nat):Int) d).bind fun x=>
              if x=true then
               some (.inr (.inr false))
              else
               some (.inl ())
            else
             some (.inl ()))
          (fun _=>
           some (.inl ()))
          v 0 ()
       else
        some (.inr false))
      (fun _=>
       forL (σ:=Unit)
        (fun (i155:Nat) (f:Zx) _=>
         (ZcM f).bind fun y=>
         if y=true then
          (Za0 f.pattern).bind fun z=>
          forL (σ:=Unit)
           (fun (i164:Nat) (A:ByteArray) _=>
            (ZR l A).bind fun B=>
            if B=true then
             some (.inl ())
            else
             some (.inr (.inr false)))
           (fun _=>
            some (.inl ()))
           z 0 ()
         else
          some (.inr false))
        (fun _=>
         (ZcH append_0).bind fun C=>
         some (decide (((C.length:Nat):Int)≤6)))
        append_0.thn 0 ())
      append_0.cond 0 ()
    else
     some false
   else
    some false
  else
   some false
 else
  some false
noncomputable def Zfu (kind_0:Int):Option ByteArray:=
 if (kind_0==3)=true then
  some (⟨#[32,61,32]⟩)
 else
  if (kind_0==4)=true then
   some (⟨#[32,33,61,32]⟩)
  else
   some (⟨#[32,60,32]⟩)
noncomputable def Zd9 (s_0:ByteArray):Option (ByteArray × (List ByteArray) × Bool):=
 (Qd s_0 (⟨#[40]⟩)).bind fun b=>
 if (((b.length:Nat):Int) != 2)=true then
  some ((⟨#[]⟩),[],false)
 else
  chk (0≤1∧1<((b.length:Nat):Int)) <|
  (b[(A3 1)]?).bind fun a=>
  if (((a.size:Nat):Int)==0)=true then
   some ((⟨#[]⟩),[],false)
  else
   (sAt a (IntKind.i64.wrap (((a.size:Nat):Int) - 1))).bind fun c=>
   if (((c.toNat:Nat):Int) != 41)=true then
    some ((⟨#[]⟩),[],false)
   else
    chk (0≤(IntKind.i64.wrap (((a.size:Nat):Int) - 1))∧(IntKind.i64.wrap (((a.size:Nat):Int) - 1))≤((a.size:Nat):Int)) <|
    if (sEq (a.extract 0 (A3 (IntKind.i64.wrap (((a.size:Nat):Int) - 1)))) ⟨#[]⟩)=true then
     chk (0≤0∧0<((b.length:Nat):Int)) <|
     (b[(A3 0)]?).bind fun d=>
     some (d,[],true)
    else
     chk (0≤0∧0<((b.length:Nat):Int)) <|
     (b[(A3 0)]?).bind fun e=>
     (Qd (a.extract 0 (A3 (IntKind.i64.wrap (((a.size:Nat):Int) - 1)))) (⟨#[44]⟩)).bind fun f=>
     some (e,f,true)
noncomputable def Yd (s_0:ByteArray):Option (Zv × Bool):=
 (Zd9 s_0).bind fun a=>
 if a.2.2=true then
  (YD ({ rel:=a.1,args:=a.2.1 }:Zv)).bind fun b=>
  if b=true then
   some (({ rel:=a.1,args:=a.2.1 }:Zv),true)
  else
   some (({ rel:=(⟨#[]⟩),args:=[] }:Zv),false)
 else
  some (({ rel:=(⟨#[]⟩),args:=[] }:Zv),false)
noncomputable def ZaH (a:ByteArray):Option (Zr × Bool):=
 iter (σ:=Int)
  (fun b=>
   if (decide (b≤5))=true then
    (Zfu b).bind fun j=>
    (Qd a j).bind fun c=>
    if (((c.length:Nat):Int)==2)=true then
     chk (0≤0∧0<((c.length:Nat):Int)) <|
     (c[(A3 0)]?).bind fun d=>
     chk (0≤1∧1<((c.length:Nat):Int)) <|
     (c[(A3 1)]?).bind fun e=>
     (Zb1 ({ kind:=b,pattern:=({ rel:=(⟨#[]⟩),args:=[] }:Zv),left:=d,right:=e }:Zr)).bind fun k=>
     if k=true then
      some (.inr (({ kind:=b,pattern:=({ rel:=(⟨#[]⟩),args:=[] }:Zv),left:=d,right:=e }:Zr),true))
     else
      some (.inl (IntKind.i64.wrap (b+1)))
    else
     some (.inl (IntKind.i64.wrap (b+1)))
   else
    if (decide (4<((a.size:Nat):Int)))=true then
     chk (0≤4∧4≤((a.size:Nat):Int)) <|
     if (sEq (a.extract 0 (A3 4)) ⟨#[110,111,116,32]⟩)=true then
      (Yd (a.extract (A3 4) a.size)).bind fun f=>
      if f.2=true then
       some (.inr (({ kind:=2,pattern:=f.1,left:=(⟨#[]⟩),right:=(⟨#[]⟩) }:Zr),true))
      else
       some (.inr (({ kind:=0,pattern:=({ rel:=(⟨#[]⟩),args:=[] }:Zv),left:=(⟨#[]⟩),right:=(⟨#[]⟩) }:Zr),false))
     else
      (Yd a).bind fun g=>
      if g.2=true then
       some (.inr (({ kind:=1,pattern:=g.1,left:=(⟨#[]⟩),right:=(⟨#[]⟩) }:Zr),true))
      else
       some (.inr (({ kind:=0,pattern:=({ rel:=(⟨#[]⟩),args:=[] }:Zv),left:=(⟨#[]⟩),right:=(⟨#[]⟩) }:Zr),false))
    else
     (Yd a).bind fun i=>
     if i.2=true then
      some (.inr (({ kind:=1,pattern:=i.1,left:=(⟨#[]⟩),right:=(⟨#[]⟩) }:Zr),true))
     else
      some (.inr (({ kind:=0,pattern:=({ rel:=(⟨#[]⟩),args:=[] }:Zv),left:=(⟨#[]⟩),right:=(⟨#[]⟩) }:Zr),false)))
  3
noncomputable def Zap (s_0:ByteArray):Option (Zx × Bool):=
 if (sEq s_0 ⟨#[115,116,111,112]⟩)=true then
  some (({ kind:=3,pattern:=({ rel:=(⟨#[]⟩),args:=[] }:Zv) }:Zx),true)
 else
  (Qd s_0 (⟨#[32]⟩)).bind fun a=>
  if (((a.length:Nat):Int) != 2)=true then
   some (({ kind:=0,pattern:=({ rel:=(⟨#[]⟩),args:=[] }:Zv) }:Zx),false)
  else
   chk (0≤0∧0<((a.length:Nat):Int)) <|
   (a[(A3 0)]?).bind fun b=>
   if (sEq b ⟨#[97,100,100]⟩)=true then
    chk (0≤1∧1<((a.length:Nat):Int)) <|
    (a[(A3 1)]?).bind fun e=>
    (Yd e).bind fun c=>
    some (({ kind:=1,pattern:=c.1 }:Zx),c.2)
   else
    if (sEq b ⟨#[100,114,111,112]⟩)=true then
     chk (0≤1∧1<((a.length:Nat):Int)) <|
     (a[(A3 1)]?).bind fun f=>
     (Yd f).bind fun d=>
     some (({ kind:=2,pattern:=d.1 }:Zx),d.2)
    else
     some (({ kind:=0,pattern:=({ rel:=(⟨#[]⟩),args:=[] }:Zv) }:Zx),false)
noncomputable def Zen (append_0:Zf) (String_1:ByteArray) (a_2:ByteArray):Option (Zf × Bool):=
 (Qd String_1 (⟨#[32,38,32]⟩)).bind fun e=>
 forL (σ:=(List Zr))
  (fun (i24:Nat) (f:ByteArray) a=>
   (ZaH f).bind fun c=>
   if c.2=true then
    chk (a.length+1≤1073741824) <|
    some (.inl (a++[c.1]))
   else
    some (.inr (({ name:=append_0.name,priority:=append_0.priority,cond:=a,thn:=[] }:Zf),false)))
  (fun a=>
   (Qd a_2 (⟨#[32,38,32]⟩)).bind fun g=>
   forL (σ:=(List Zx))
    (fun (i37:Nat) (i:ByteArray) b=>
     (Zap i).bind fun d=>
     if d.2=true then
      chk (b.length+1≤1073741824) <|
      some (.inl (b++[d.1]))
     else
      some (.inr (({ name:=append_0.name,priority:=append_0.priority,cond:=a,thn:=b }:Zf),false)))
    (fun b=>
     (ZbX ({ name:=append_0.name,priority:=append_0.priority,cond:=a,thn:=b }:Zf)).bind fun j=>
     some (({ name:=append_0.name,priority:=append_0.priority,cond:=a,thn:=b }:Zf),j))
    g 0 [])
  e 0 []
noncomputable def QB (s_0:ByteArray):Option (Zf × Bool):=
 (Qd s_0 (⟨#[58,32]⟩)).bind fun a=>
 if (((a.length:Nat):Int) != 2)=true then
  some (({ name:=(⟨#[]⟩),priority:=0,cond:=[],thn:=[] }:Zf),false)
 else
  chk (0≤0∧0<((a.length:Nat):Int)) <|
  (a[(A3 0)]?).bind fun f=>
  (Qd f (⟨#[32]⟩)).bind fun b=>
  chk (0≤1∧1<((a.length:Nat):Int)) <|
  (a[(A3 1)]?).bind fun g=>
  (Qd g (⟨#[32,45,62,32]⟩)).bind fun c=>
  if (((b.length:Nat):Int) != 2)=true then
   some (({ name:=(⟨#[]⟩),priority:=0,cond:=[],thn:=[] }:Zf),false)
  else
   if (((c.length:Nat):Int) != 2)=true then
    some (({ name:=(⟨#[]⟩),priority:=0,cond:=[],thn:=[] }:Zf),false)
   else
    chk (1<((b.length:Nat):Int)) <|
    (b[(A3 1)]?).bind fun i=>
    (X0 i).bind fun d=>
    if d.2=true then
     chk (0<((b.length:Nat):Int)) <|
     (b[(A3 0)]?).bind fun j=>
     chk (0<((c.length:Nat):Int)) <|
     (c[(A3 0)]?).bind fun k=>
     chk (1<((c.length:Nat):Int)) <|
     (c[(A3 1)]?).bind fun l=>
     (Zen ({ name:=j,priority:=d.1,cond:=[],thn:=[] }:Zf) k l).bind fun e=>
     if e.2=true then
      some (e.1,true)
     else
      some (({ name:=(⟨#[]⟩),priority:=0,cond:=[],thn:=[] }:Zf),false)
    else
     some (({ name:=(⟨#[]⟩),priority:=0,cond:=[],thn:=[] }:Zf),false)
noncomputable def Zbn (c_0:ZF) (nots_1:Bool):Option (Zf × ZF):=
 if nots_1=true then
  (Xb c_0 11).bind fun a=>
  chk (0≤a.1∧a.1<((11:Nat):Int)) <|
  (([(⟨#[114,32,49,58,32,111,110,40,63,120,44,63,121,41,32,38,32,111,110,40,63,121,44,63,122,41,32,45,62,32,97,100,100,32,111,110,40,63,120,44,63,122,41]⟩),(⟨#[114,32,50,58,32,111,110,40,63,120,44,63,121,41,32,38,32,112,40,63,121,41,32,45,62,32,97,100,100,32,112,40,63,120,41]⟩),(⟨#[114,32,48,58,32,112,40,63,120,41,32,38,32,111,110,40,63,120,44,63,121,41,32,38,32,63,120,32,33,61,32,63,121,32,45,62,32,97,100,100,32,113,40,63,121,41]⟩),(⟨#[114,32,51,58,32,112,40,63,120,41,32,38,32,112,40,63,121,41,32,38,32,63,120,32,60,32,63,121,32,45,62,32,97,100,100,32,122,40,41]⟩),(⟨#[114,32,52,58,32,111,110,40,63,120,44,97,41,32,45,62,32,97,100,100,32,113,40,63,120,41,32,38,32,97,100,100,32,112,40,97,41]⟩),(⟨#[114,32,49,58,32,113,40,63,120,41,32,38,32,112,40,63,120,41,32,45,62,32,97,100,100,32,98,97,100,40,41]⟩),(⟨#[114,32,49,58,32,97,116,40,63,120,44,63,121,41,32,45,62,32,97,100,100,32,111,110,40,63,120,44,63,121,41]⟩),(⟨#[114,32,50,58,32,112,40,63,120,41,32,38,32,110,111,116,32,113,40,63,120,41,32,45,62,32,97,100,100,32,115,40,63,120,41]⟩),(⟨#[114,32,53,58,32,111,110,40,63,120,44,63,121,41,32,38,32,110,111,116,32,112,40,63,121,41,32,45,62,32,97,100,100,32,115,40,63,121,41]⟩),(⟨#[114,32,48,58,32,115,40,63,120,41,32,38,32,110,111,116,32,122,40,41,32,38,32,110,111,116,32,112,40,63,120,41,32,45,62,32,97,100,100,32,98,97,100,40,41]⟩),(⟨#[114,32,49,58,32,113,40,63,120,41,32,38,32,111,110,40,63,120,44,63,121,41,32,38,32,110,111,116,32,113,40,63,121,41,32,45,62,32,97,100,100,32,115,40,63,120,41]⟩)])[(A3 a.1)]?).bind fun c=>
  (QB c).bind fun d=>
  some (d.1,a.2)
 else
  (Xb c_0 7).bind fun b=>
  chk (0≤b.1∧b.1<((11:Nat):Int)) <|
  (([(⟨#[114,32,49,58,32,111,110,40,63,120,44,63,121,41,32,38,32,111,110,40,63,121,44,63,122,41,32,45,62,32,97,100,100,32,111,110,40,63,120,44,63,122,41]⟩),(⟨#[114,32,50,58,32,111,110,40,63,120,44,63,121,41,32,38,32,112,40,63,121,41,32,45,62,32,97,100,100,32,112,40,63,120,41]⟩),(⟨#[114,32,48,58,32,112,40,63,120,41,32,38,32,111,110,40,63,120,44,63,121,41,32,38,32,63,120,32,33,61,32,63,121,32,45,62,32,97,100,100,32,113,40,63,121,41]⟩),(⟨#[114,32,51,58,32,112,40,63,120,41,32,38,32,112,40,63,121,41,32,38,32,63,120,32,60,32,63,121,32,45,62,32,97,100,100,32,122,40,41]⟩),(⟨#[114,32,52,58,32,111,110,40,63,120,44,97,41,32,45,62,32,97,100,100,32,113,40,63,120,41,32,38,32,97,100,100,32,112,40,97,41]⟩),(⟨#[114,32,49,58,32,113,40,63,120,41,32,38,32,112,40,63,120,41,32,45,62,32,97,100,100,32,98,97,100,40,41]⟩),(⟨#[114,32,49,58,32,97,116,40,63,120,44,63,121,41,32,45,62,32,97,100,100,32,111,110,40,63,120,44,63,121,41]⟩),(⟨#[114,32,50,58,32,112,40,63,120,41,32,38,32,110,111,116,32,113,40,63,120,41,32,45,62,32,97,100,100,32,115,40,63,120,41]⟩),(⟨#[114,32,53,58,32,111,110,40,63,120,44,63,121,41,32,38,32,110,111,116,32,112,40,63,121,41,32,45,62,32,97,100,100,32,115,40,63,121,41]⟩),(⟨#[114,32,48,58,32,115,40,63,120,41,32,38,32,110,111,116,32,122,40,41,32,38,32,110,111,116,32,112,40,63,120,41,32,45,62,32,97,100,100,32,98,97,100,40,41]⟩),(⟨#[114,32,49,58,32,113,40,63,120,41,32,38,32,111,110,40,63,120,44,63,121,41,32,38,32,110,111,116,32,113,40,63,121,41,32,45,62,32,97,100,100,32,115,40,63,120,41]⟩)])[(A3 b.1)]?).bind fun e=>
  (QB e).bind fun f=>
  some (f.1,b.2)
noncomputable def Zda (c_0:ZF) (nots_1:Bool):Option ((List Zf) × ZF):=
 (Xb c_0 4).bind fun c=>
 iter (σ:=(List Int) × Int × Int × (List Zf) × Int)
  (fun s=>
   match s with
   | (f,g,j,d,e)=>
   if (decide (0<e))=true then
    (Zbn ({ b:=f,i:=g,h:=j }:ZF) nots_1).bind fun a=>
    (XO e).bind fun k=>
    chk ((⟨#[114]⟩:ByteArray).size+k.size≤9223372036854775807) <|
    chk (d.length+1≤1073741824) <|
    some (.inl (a.2.b,a.2.i,a.2.h,(d++[({ name:=((⟨#[114]⟩:ByteArray)++k),priority:=a.1.priority,cond:=a.1.cond,thn:=a.1.thn }:Zf)]),(IntKind.i64.wrap (e - 1))))
   else
    some (.inr (d,({ b:=f,i:=g,h:=j }:ZF))))
  (c.2.b,c.2.i,c.2.h,[],c.1)
noncomputable def Zgl (a:ByteArray) (b:ByteArray):Option Int:=
 if (sLt a b)=true then
  some (-1)
 else
  if (sLt a b||sEq a b)=true then
   some 0
  else
   some 1
noncomputable def Y0 (a_0:ByteArray) (b_1:ByteArray):Option Int:=
 (X0 a_0).bind fun b=>
 (X0 b_1).bind fun a=>
 if b.2=true then
  if a.2=true then
   if (decide (b.1<a.1))=true then
    some (-1)
   else
    if (decide (a.1<b.1))=true then
     some 1
    else
     some 0
  else
   some (-1)
 else
  if a.2=true then
   some 1
  else
   (Zgl a_0 b_1).bind fun c=>
   some c
noncomputable def YZ (a_0:Zd) (a:Zd):Option Int:=
 if (sEq a_0.rel a.rel)=true then
  forL (σ:=Unit)
   (fun (b:Nat) (d:ByteArray) _=>
    if (decide (((b:Nat):Int)<((a.args.length:Nat):Int)))=true then
     (atI a.args ((b:Nat):Int)).bind fun e=>
     (Y0 d e).bind fun c=>
     if (c != 0)=true then
      some (.inr c)
     else
      some (.inl ())
    else
     if (decide (((a_0.args.length:Nat):Int)<((a.args.length:Nat):Int)))=true then
      some (.inr (-1))
     else
      if (decide (((a.args.length:Nat):Int)<((a_0.args.length:Nat):Int)))=true then
       some (.inr 1)
      else
       some (.inr 0))
   (fun _=>
    if (decide (((a_0.args.length:Nat):Int)<((a.args.length:Nat):Int)))=true then
     some (-1)
    else
     if (decide (((a.args.length:Nat):Int)<((a_0.args.length:Nat):Int)))=true then
      some 1
     else
      some 0)
   a_0.args 0 ()
 else
  (Zgl a_0.rel a.rel).bind fun f=>
  some f
noncomputable def Zeq (l_0:(List ByteArray)):Option (List ByteArray):=
 chk (l_0.length≤1073741824) <|
 some l_0
noncomputable def XM (f_0:Zd):Option Zd:=
 (Zeq f_0.args).bind fun a=>
 some ({ rel:=f_0.rel,args:=a }:Zd)
noncomputable def YI (l_0:(List Zd)) (f_1:Zd):Option (List Zd):=
 forL (σ:=(List Zd) × Bool)
  (fun (i21:Nat) (b:Zd) s=>
   match s with
   | (a,c)=>
   if c=true then
    (XM b).bind fun d=>
    chk (a.length+1≤1073741824) <|
    some (.inl ((a++[d]),true))
   else
    (YZ b f_1).bind fun e=>
    if (decide (0≤e))=true then
     (YZ b f_1).bind fun f=>
     if (decide (0<f))=true then
      (XM f_1).bind fun g=>
      chk (a.length+1≤1073741824) <|
      (XM b).bind fun i=>
      chk (a.length+1+1≤1073741824) <|
      some (.inl (((a++[g])++[i]),true))
     else
      (XM b).bind fun j=>
      chk (a.length+1≤1073741824) <|
      some (.inl ((a++[j]),true))
    else
     (XM b).bind fun k=>
     chk (a.length+1≤1073741824) <|
     some (.inl ((a++[k]),false)))
  (fun s=>
   match s with
   | (a,c)=>
   if c=true then
    some a
   else
    (XM f_1).bind fun l=>
    chk (a.length+1≤1073741824) <|
    some (a++[l]))
  l_0 0 ([],false)
noncomputable def Zdx (c_0:ZF) (a:(List ByteArray)):Option (ByteArray × ZF):=
 (Xb c_0 ((a.length:Nat):Int)).bind fun b=>
 (atI a b.1).bind fun c=>
 some (c,b.2)
noncomputable def Zeo (c_0:ZF) (most_1:Int):Option ((List Zd) × ZF):=
 (Xb c_0 (IntKind.i64.wrap (most_1+1))).bind fun f=>
 iter (σ:=(List Int) × Int × Int × (List Zd) × Int)
  (fun s=>
   match s with
   | (j,k,l,c,d)=>
   if (decide (0<d))=true then
    (Zdx ({ b:=j,i:=k,h:=l }:ZF) ([(⟨#[97]⟩),(⟨#[98]⟩),(⟨#[49]⟩),(⟨#[50]⟩)])).bind fun e=>
    (Zdx e.2 ([(⟨#[97]⟩),(⟨#[98]⟩),(⟨#[49]⟩)])).bind fun g=>
    (Xb g.2 5).bind fun a=>
    if (a.1==0)=true then
     (YI c ({ rel:=(⟨#[112]⟩),args:=[e.1] }:Zd)).bind fun m=>
     some (.inl (a.2.b,a.2.i,a.2.h,m,(IntKind.i64.wrap (d - 1))))
    else
     if (a.1==1)=true then
      (YI c ({ rel:=(⟨#[97,116]⟩),args:=[e.1,g.1] }:Zd)).bind fun o=>
      some (.inl (a.2.b,a.2.i,a.2.h,o,(IntKind.i64.wrap (d - 1))))
     else
      if (a.1==2)=true then
       (YI c ({ rel:=(⟨#[113]⟩),args:=[e.1] }:Zd)).bind fun p=>
       some (.inl (a.2.b,a.2.i,a.2.h,p,(IntKind.i64.wrap (d - 1))))
      else
       (YI c ({ rel:=(⟨#[111,110]⟩),args:=[e.1,g.1] }:Zd)).bind fun q=>
       some (.inl (a.2.b,a.2.i,a.2.h,q,(IntKind.i64.wrap (d - 1))))
   else
    some (.inr (c,({ b:=j,i:=k,h:=l }:ZF))))
  (f.2.b,f.2.i,f.2.h,[],f.1)
noncomputable def ZKJ (c_0:ZF) (most_1:Int):Option (Zf × ZF):=
 (Xb c_0 (if 13<most_1 then 13 else most_1)).bind fun a=>
 chk (0≤a.1∧a.1<((13:Nat):Int)) <|
 (([(⟨#[114,32,49,58,32,111,110,40,63,120,44,63,121,41,32,38,32,111,110,40,63,121,44,63,122,41,32,45,62,32,97,100,100,32,111,110,40,63,120,44,63,122,41]⟩),(⟨#[114,32,50,58,32,111,110,40,63,120,44,63,121,41,32,38,32,112,40,63,121,41,32,45,62,32,97,100,100,32,112,40,63,120,41]⟩),(⟨#[114,32,48,58,32,112,40,63,120,41,32,38,32,111,110,40,63,120,44,63,121,41,32,38,32,63,120,32,33,61,32,63,121,32,45,62,32,97,100,100,32,97,116,40,63,121,44,63,120,41]⟩),(⟨#[114,32,51,58,32,97,116,40,63,120,44,63,121,41,32,38,32,112,40,63,120,41,32,38,32,112,40,63,121,41,32,38,32,63,120,32,60,32,63,121,32,45,62,32,97,100,100,32,122,40,41]⟩),(⟨#[114,32,52,58,32,111,110,40,63,120,44,97,41,32,45,62,32,97,100,100,32,113,40,63,120,41,32,38,32,97,100,100,32,112,40,97,41]⟩),(⟨#[114,32,49,58,32,97,116,40,63,120,44,63,120,41,32,38,32,113,40,49,41,32,45,62,32,97,100,100,32,111,110,40,63,120,44,49,41]⟩),(⟨#[114,32,49,58,32,112,40,63,120,41,32,38,32,110,111,116,32,113,40,63,120,41,32,45,62,32,97,100,100,32,97,116,40,63,120,44,98,41]⟩),(⟨#[114,32,50,58,32,111,110,40,63,120,44,63,121,41,32,38,32,110,111,116,32,97,116,40,63,121,44,63,122,41,32,45,62,32,97,100,100,32,113,40,63,121,41]⟩),(⟨#[114,32,53,58,32,97,116,40,63,120,44,63,121,41,32,38,32,110,111,116,32,112,40,63,121,41,32,38,32,63,120,32,33,61,32,63,121,32,45,62,32,97,100,100,32,122,40,41]⟩),(⟨#[114,32,57,58,32,113,40,63,120,41,32,38,32,112,40,63,120,41,32,45,62,32,100,114,111,112,32,112,40,63,120,41]⟩),(⟨#[114,32,48,58,32,97,116,40,63,120,44,49,41,32,38,32,97,116,40,63,121,44,50,41,32,38,32,63,120,32,61,32,63,121,32,45,62,32,100,114,111,112,32,97,116,40,63,120,44,49,41,32,38,32,115,116,111,112]⟩),(⟨#[114,32,49,58,32,111,110,40,63,120,44,63,120,41,32,45,62,32,115,116,111,112]⟩),(⟨#[114,32,55,58,32,122,40,41,32,38,32,111,110,40,63,120,44,63,121,41,32,45,62,32,100,114,111,112,32,122,40,41,32,38,32,97,100,100,32,111,110,40,63,121,44,63,120,41]⟩)])[(A3 a.1)]?).bind fun b=>
 (QB b).bind fun c=>
 some (c.1,a.2)
noncomputable def ZK1 (c_0:ZF) (n_1:Int):Option (Bool × ZF):=
 (Xb c_0 n_1).bind fun a=>
 some ((a.1==0),a.2)
noncomputable def ZLI (c_0:ZF):Option (ByteArray × Int × ZF):=
 (Xb c_0 6).bind fun a=>
 chk (0≤a.1∧a.1<((6:Nat):Int)) <|
 (([(⟨#[111,110]⟩),(⟨#[111,110]⟩),(⟨#[97,116]⟩),(⟨#[112]⟩),(⟨#[113]⟩),(⟨#[122]⟩)])[(A3 a.1)]?).bind fun b=>
 ([2,2,2,1,1,0][(A3 a.1)]?).bind fun c=>
 some (b,c,a.2)
noncomputable def ZKY (c_0:ZF):Option (ByteArray × ZF):=
 (Zdx c_0 ([(⟨#[97]⟩),(⟨#[98]⟩),(⟨#[99]⟩),(⟨#[49]⟩),(⟨#[50]⟩)])).bind fun a=>
 some (a.1,a.2)
noncomputable def ZK2 (c_0:ZF):Option (ByteArray × ZF):=
 (ZK1 c_0 4).bind fun a=>
 if a.1=true then
  (ZKY a.2).bind fun b=>
  some (b.1,b.2)
 else
  (Zdx a.2 ([(⟨#[63,120]⟩),(⟨#[63,121]⟩),(⟨#[63,122]⟩)])).bind fun c=>
  some (c.1,c.2)
noncomputable def ZKO (c_0:ZF):Option (Zv × ZF):=
 (ZLI c_0).bind fun a=>
 iter (σ:=(List Int) × Int × Int × (List ByteArray) × Int)
  (fun s=>
   match s with
   | (e,f,g,d,j)=>
   if (decide (j<a.2.1))=true then
    (ZK2 ({ b:=e,i:=f,h:=g }:ZF)).bind fun c=>
    chk (d.length+1≤1073741824) <|
    some (.inl (c.2.b,c.2.i,c.2.h,(d++[c.1]),(IntKind.i64.wrap (j+1))))
   else
    some (.inr (({ rel:=a.1,args:=d }:Zv),({ b:=e,i:=f,h:=g }:ZF))))
  (a.2.2.b,a.2.2.i,a.2.2.h,[],0)
noncomputable def ZKN (c_0:ZF) (a:(List Int)):Option (Int × ZF):=
 (Xb c_0 ((a.length:Nat):Int)).bind fun b=>
 (atI a b.1).bind fun c=>
 some (c,b.2)
noncomputable def ZLY (c_0:ZF) (l_1:ByteArray) (r_2:ByteArray):Option (Zr × ZF):=
 (ZKN c_0 [3,4,4,5]).bind fun a=>
 some (({ kind:=a.1,pattern:=({ rel:=(⟨#[]⟩),args:=[] }:Zv),left:=l_1,right:=r_2 }:Zr),a.2)
noncomputable def ZLm (c_0:ZF):Option (Zr × ZF):=
 (Xb c_0 5).bind fun a=>
 if (a.1==0)=true then
  (ZKO a.2).bind fun b=>
  some (({ kind:=1,pattern:=b.1,left:=(⟨#[]⟩),right:=(⟨#[]⟩) }:Zr),b.2)
 else
  if (a.1==1)=true then
   (ZKO a.2).bind fun c=>
   some (({ kind:=1,pattern:=c.1,left:=(⟨#[]⟩),right:=(⟨#[]⟩) }:Zr),c.2)
  else
   if (a.1==2)=true then
    (ZKO a.2).bind fun d=>
    some (({ kind:=2,pattern:=d.1,left:=(⟨#[]⟩),right:=(⟨#[]⟩) }:Zr),d.2)
   else
    (ZK2 a.2).bind fun e=>
    (ZK2 e.2).bind fun f=>
    (ZLY f.2 e.1 f.1).bind fun g=>
    some (g.1,g.2)
noncomputable def ZLc (append_0:ZF):Option (Zf × ZF):=
 (Xb append_0 4).bind fun f=>
 (ZKO f.2).bind fun t=>
 (Xb t.2 3).bind fun k=>
 iter (σ:=(List Int) × Int × Int × (List Zr) × Int)
  (fun s=>
   match s with
   | (u,v,w,c,x)=>
   if (decide (0<x))=true then
    (ZLm ({ b:=u,i:=v,h:=w }:ZF)).bind fun l=>
    chk (c.length+1≤1073741824) <|
    some (.inl (l.2.b,l.2.i,l.2.h,(c++[l.1]),(IntKind.i64.wrap (x - 1))))
   else
    (XT ({ name:=(⟨#[114]⟩),priority:=f.1,cond:=c,thn:=[] }:Zf) ((c.length:Nat):Int)).bind fun B=>
    (ZKO ({ b:=u,i:=v,h:=w }:ZF)).bind fun d=>
    iter (σ:=(List Int) × Int × Int × (List ByteArray) × Int)
     (fun s=>
      match s with
      | (m,o,p,a,e)=>
      if (decide (e<((a.length:Nat):Int)))=true then
       chk (0≤e∧e<((a.length:Nat):Int)) <|
       (a[(A3 e)]?).bind fun y=>
       (Zab y).bind fun C=>
       if C=true then
        (ZR B y).bind fun D=>
        if D=true then
         some (.inl (m,o,p,a,(IntKind.i64.wrap (e+1))))
        else
         (ZKY ({ b:=m,i:=o,h:=p }:ZF)).bind fun q=>
         some (.inl (q.2.b,q.2.i,q.2.h,(AC a (A3 e) q.1),(IntKind.i64.wrap (e+1))))
       else
        some (.inl (m,o,p,a,(IntKind.i64.wrap (e+1))))
      else
       (ZKN ({ b:=m,i:=o,h:=p }:ZF) [1,1,2]).bind fun g=>
       (ZK1 g.2 6).bind fun j=>
       if j.1=true then
        (ZbX ({ name:=(⟨#[114]⟩),priority:=f.1,cond:=c,thn:=[({ kind:=g.1,pattern:=({ rel:=d.1.rel,args:=a }:Zv) }:Zx),({ kind:=3,pattern:=({ rel:=(⟨#[]⟩),args:=[] }:Zv) }:Zx)] }:Zf)).bind fun E=>
        if E=true then
         some (.inr (.inr (({ name:=(⟨#[114]⟩),priority:=f.1,cond:=c,thn:=[({ kind:=g.1,pattern:=({ rel:=d.1.rel,args:=a }:Zv) }:Zx),({ kind:=3,pattern:=({ rel:=(⟨#[]⟩),args:=[] }:Zv) }:Zx)] }:Zf),j.2)))
        else
         (ZKJ j.2 99).bind fun z=>
         some (.inr (.inr (z.1,z.2)))
       else
        (ZbX ({ name:=(⟨#[114]⟩),priority:=f.1,cond:=c,thn:=[({ kind:=g.1,pattern:=({ rel:=d.1.rel,args:=a }:Zv) }:Zx)] }:Zf)).bind fun F=>
        if F=true then
         some (.inr (.inr (({ name:=(⟨#[114]⟩),priority:=f.1,cond:=c,thn:=[({ kind:=g.1,pattern:=({ rel:=d.1.rel,args:=a }:Zv) }:Zx)] }:Zf),j.2)))
        else
         (ZKJ j.2 99).bind fun A=>
         some (.inr (.inr (A.1,A.2))))
     (d.2.b,d.2.i,d.2.h,d.1.args,0))
  (k.2.b,k.2.i,k.2.h,[({ kind:=1,pattern:=t.1,left:=(⟨#[]⟩),right:=(⟨#[]⟩) }:Zr)],k.1)
noncomputable def ZLe (c_0:ZF):Option (Zf × ZF):=
 (ZK1 c_0 3).bind fun a=>
 if a.1=true then
  (ZLc a.2).bind fun b=>
  some (b.1,b.2)
 else
  (ZKJ a.2 99).bind fun c=>
  some (c.1,c.2)
noncomputable def ZL0 (c_0:ZF) (most_1:Int):Option ((List Zf) × ZF):=
 (Xb c_0 (IntKind.i64.wrap (most_1+1))).bind fun c=>
 iter (σ:=(List Int) × Int × Int × (List Zf) × Int)
  (fun s=>
   match s with
   | (f,g,j,d,e)=>
   if (decide (0<e))=true then
    (ZLe ({ b:=f,i:=g,h:=j }:ZF)).bind fun a=>
    (XO e).bind fun k=>
    chk ((⟨#[114]⟩:ByteArray).size+k.size≤9223372036854775807) <|
    chk (d.length+1≤1073741824) <|
    some (.inl (a.2.b,a.2.i,a.2.h,(d++[({ name:=((⟨#[114]⟩:ByteArray)++k),priority:=a.1.priority,cond:=a.1.cond,thn:=a.1.thn }:Zf)]),(IntKind.i64.wrap (e - 1))))
   else
    some (.inr (d,({ b:=f,i:=g,h:=j }:ZF))))
  (c.2.b,c.2.i,c.2.h,[],c.1)
noncomputable def ZKR (c_0:ZF):Option (ByteArray × ZF):=
 (Zdx c_0 ([(⟨#[97]⟩),(⟨#[98]⟩),(⟨#[111,110]⟩),(⟨#[55]⟩),(⟨#[49,48]⟩),(⟨#[57,57,57,57]⟩),(⟨#[49,48,48,48,48]⟩),(⟨#[48,48,55]⟩),(⟨#[48]⟩),(⟨#[]⟩),(⟨#[65]⟩),(⟨#[63,120]⟩),(⟨#[63,63]⟩),(⟨#[63]⟩),(⟨#[97,98,99,100,101,102,103,104]⟩),(⟨#[97,98,99,100,101,102,103,104,105]⟩),(⟨#[63,97,98,99,100,101,102,103,104]⟩),(⟨#[97,45,98]⟩),(⟨#[120,49]⟩),(⟨#[49,120]⟩),(⟨#[45,51]⟩)])).bind fun a=>
 some (a.1,a.2)
noncomputable def ZLj (c_0:ZF):Option (Zv × ZF):=
 (ZKO c_0).bind fun a=>
 (Xb a.2 10).bind fun b=>
 if (b.1==0)=true then
  (ZKR b.2).bind fun d=>
  some (({ rel:=d.1,args:=a.1.args }:Zv),d.2)
 else
  if (b.1==1)=true then
   (ZKR b.2).bind fun e=>
   chk (a.1.args.length+1≤1073741824) <|
   some (({ rel:=a.1.rel,args:=(a.1.args++[e.1]) }:Zv),e.2)
  else
   if (b.1==2)=true then
    (Xb b.2 5).bind fun c=>
    chk (0≤c.1∧c.1≤((4:Nat):Int)) <|
    some (({ rel:=a.1.rel,args:=(AB 0 (AK (A3 c.1) [(⟨#[63,120]⟩),(⟨#[63,120]⟩),(⟨#[63,121]⟩),(⟨#[63,120]⟩)])) }:Zv),c.2)
   else
    some (a.1,b.2)
noncomputable def ZLs (c_0:ZF):Option (Zr × ZF):=
 (ZLm c_0).bind fun a=>
 (Xb a.2 12).bind fun b=>
 if (b.1==0)=true then
  (ZKN b.2 [0,1,3,5,6,(-1)]).bind fun c=>
  some (({ kind:=c.1,pattern:=a.1.pattern,left:=a.1.left,right:=a.1.right }:Zr),c.2)
 else
  if (b.1==1)=true then
   (ZKR b.2).bind fun d=>
   some (({ kind:=a.1.kind,pattern:=a.1.pattern,left:=d.1,right:=a.1.right }:Zr),d.2)
  else
   if (b.1==2)=true then
    (ZLj b.2).bind fun e=>
    some (({ kind:=a.1.kind,pattern:=e.1,left:=a.1.left,right:=a.1.right }:Zr),e.2)
   else
    some (a.1,b.2)
noncomputable def ZLZ (append_0:ZF):Option (Zf × ZF):=
 (ZLe append_0).bind fun a=>
 (Xb a.2 14).bind fun b=>
 if (b.1==0)=true then
  (ZKR b.2).bind fun c=>
  some (({ name:=c.1,priority:=a.1.priority,cond:=a.1.cond,thn:=a.1.thn }:Zf),c.2)
 else
  if (b.1==1)=true then
   (ZKN b.2 [(-1),0,9,10]).bind fun d=>
   some (({ name:=a.1.name,priority:=d.1,cond:=a.1.cond,thn:=a.1.thn }:Zf),d.2)
  else
   if (b.1==2)=true then
    (ZLs b.2).bind fun e=>
    chk (a.1.cond.length+1≤1073741824) <|
    some (({ name:=a.1.name,priority:=a.1.priority,cond:=(a.1.cond++[e.1]),thn:=a.1.thn }:Zf),e.2)
   else
    if (b.1==3)=true then
     (ZKN b.2 [0,1,2,3,4]).bind fun f=>
     (ZLj f.2).bind fun g=>
     chk (a.1.thn.length+1≤1073741824) <|
     some (({ name:=a.1.name,priority:=a.1.priority,cond:=a.1.cond,thn:=(a.1.thn++[({ kind:=f.1,pattern:=g.1 }:Zx)]) }:Zf),g.2)
    else
     if (b.1==4)=true then
      chk (0≤1∧1≤((a.1.cond.length:Nat):Int)) <|
      some (({ name:=a.1.name,priority:=a.1.priority,cond:=(AB (A3 1) a.1.cond),thn:=a.1.thn }:Zf),b.2)
     else
      if (b.1==5)=true then
       chk (0≤1∧1≤((a.1.thn.length:Nat):Int)) <|
       some (({ name:=a.1.name,priority:=a.1.priority,cond:=a.1.cond,thn:=(AB (A3 1) a.1.thn) }:Zf),b.2)
      else
       if (b.1==6)=true then
        (Zdx b.2 ([(⟨#[63,102]⟩),(⟨#[63,97]⟩),(⟨#[63,103]⟩)])).bind fun i=>
        (ZKN i.2 [1,2]).bind fun j=>
        (Zdx j.2 ([(⟨#[63,102]⟩),(⟨#[63,120]⟩)])).bind fun k=>
        some (({ name:=a.1.name,priority:=a.1.priority,cond:=[({ kind:=1,pattern:=({ rel:=(⟨#[116]⟩),args:=[(⟨#[63,97]⟩),(⟨#[63,98]⟩),(⟨#[63,99]⟩)] }:Zv),left:=(⟨#[]⟩),right:=(⟨#[]⟩) }:Zr),({ kind:=1,pattern:=({ rel:=(⟨#[116]⟩),args:=[(⟨#[63,100]⟩),(⟨#[63,101]⟩),i.1] }:Zv),left:=(⟨#[]⟩),right:=(⟨#[]⟩) }:Zr),({ kind:=j.1,pattern:=({ rel:=(⟨#[117]⟩),args:=[k.1] }:Zv),left:=(⟨#[]⟩),right:=(⟨#[]⟩) }:Zr)],thn:=[({ kind:=3,pattern:=({ rel:=(⟨#[]⟩),args:=[] }:Zv) }:Zx)] }:Zf),k.2)
       else
        some (a.1,b.2)
noncomputable def ZLy (c_0:ZF):Option ((List Zf) × ZF):=
 (ZL0 c_0 3).bind fun c=>
 (Xb c.2 10).bind fun d=>
 if (d.1==0)=true then
  (ZLZ d.2).bind fun g=>
  chk (c.1.length+1≤1073741824) <|
  some ((c.1++[g.1]),g.2)
 else
  if (d.1==1)=true then
   (ZKN d.2 [6,7]).bind fun e=>
   iter (σ:=(List Int) × Int × Int × (List Zf) × Int)
    (fun s=>
     match s with
     | (j,k,l,f,m)=>
     if (decide (((f.length:Nat):Int)<e.1))=true then
      (ZKJ ({ b:=j,i:=k,h:=l }:ZF) 6).bind fun a=>
      (XO m).bind fun o=>
      chk ((⟨#[107]⟩:ByteArray).size+o.size≤9223372036854775807) <|
      chk (f.length+1≤1073741824) <|
      some (.inl (a.2.b,a.2.i,a.2.h,(f++[({ name:=((⟨#[107]⟩:ByteArray)++o),priority:=a.1.priority,cond:=a.1.cond,thn:=a.1.thn }:Zf)]),(IntKind.i64.wrap (m+1))))
     else
      some (.inr (f,({ b:=j,i:=k,h:=l }:ZF))))
    (e.2.b,e.2.i,e.2.h,c.1,0)
  else
   some (c.1,d.2)
noncomputable def ZLg (c_0:ZF):Option (Zd × ZF):=
 (ZLI c_0).bind fun a=>
 iter (σ:=(List Int) × Int × Int × (List ByteArray) × Int)
  (fun s=>
   match s with
   | (e,f,g,d,j)=>
   if (decide (j<a.2.1))=true then
    (ZKY ({ b:=e,i:=f,h:=g }:ZF)).bind fun c=>
    chk (d.length+1≤1073741824) <|
    some (.inl (c.2.b,c.2.i,c.2.h,(d++[c.1]),(IntKind.i64.wrap (j+1))))
   else
    some (.inr (({ rel:=a.1,args:=d }:Zd),({ b:=e,i:=f,h:=g }:ZF))))
  (a.2.2.b,a.2.2.i,a.2.2.h,[],0)
noncomputable def ZLS (c_0:ZF) (most_1:Int):Option ((List Zd) × ZF):=
 (Xb c_0 (IntKind.i64.wrap (most_1+1))).bind fun a=>
 iter (σ:=(List Int) × Int × Int × (List Zd) × Int)
  (fun s=>
   match s with
   | (d,e,f,g,j)=>
   if (decide (0<j))=true then
    (ZLg ({ b:=d,i:=e,h:=f }:ZF)).bind fun c=>
    (YI g c.1).bind fun k=>
    some (.inl (c.2.b,c.2.i,c.2.h,k,(IntKind.i64.wrap (j - 1))))
   else
    some (.inr (g,({ b:=d,i:=e,h:=f }:ZF))))
  (a.2.b,a.2.i,a.2.h,[],a.1)
noncomputable def ZLV (c_0:ZF):Option (Zd × ZF):=
 (ZLg c_0).bind fun a=>
 (Xb a.2 10).bind fun b=>
 if (b.1==0)=true then
  (ZKR b.2).bind fun d=>
  some (({ rel:=d.1,args:=a.1.args }:Zd),d.2)
 else
  if (b.1==1)=true then
   (ZKR b.2).bind fun e=>
   chk (a.1.args.length+1≤1073741824) <|
   some (({ rel:=a.1.rel,args:=(a.1.args++[e.1]) }:Zd),e.2)
  else
   if (b.1==2)=true then
    (Xb b.2 5).bind fun c=>
    chk (0≤c.1∧c.1≤((4:Nat):Int)) <|
    some (({ rel:=a.1.rel,args:=(AB 0 (AK (A3 c.1) [(⟨#[97]⟩),(⟨#[98]⟩),(⟨#[99]⟩),(⟨#[97]⟩)])) }:Zd),c.2)
   else
    some (a.1,b.2)
noncomputable def ZLz (c_0:ZF):Option ((List Zd) × ZF):=
 (ZLS c_0 6).bind fun a=>
 (Xb a.2 8).bind fun b=>
 if (b.1==0)=true then
  (ZLV b.2).bind fun f=>
  chk (a.1.length+1≤1073741824) <|
  some ((a.1++[f.1]),f.2)
 else
  if (b.1==1)=true then
   iter (σ:=(List Zd) × Int)
    (fun s=>
     match s with
     | (d,e)=>
     if (decide (e<25))=true then
      (XO e).bind fun g=>
      (YI d ({ rel:=(⟨#[110]⟩),args:=[g] }:Zd)).bind fun i=>
      some (.inl (i,(IntKind.i64.wrap (e+1))))
     else
      (ZKN b.2 [23,24,25]).bind fun c=>
      chk (0≤c.1∧c.1≤((d.length:Nat):Int)) <|
      some (.inr ((AB 0 (AK (A3 c.1) d)),c.2)))
    (a.1,0)
  else
   some (a.1,b.2)
noncomputable def ZLb (c_0:ZF):Option ((List Zf) × (List Zd) × ZF):=
 (Zda c_0 true).bind fun b=>
 (Zeo b.2 5).bind fun c=>
 (Xb c.2 12).bind fun a=>
 if (a.1==0)=true then
  (ZLy a.2).bind fun d=>
  some (d.1,c.1,d.2)
 else
  if (a.1==1)=true then
   (ZLz a.2).bind fun e=>
   some (b.1,e.1,e.2)
  else
   some (b.1,c.1,a.2)
noncomputable def ZKV (s_0:ByteArray) (a_1:(List Zp)):Option ByteArray:=
 forL (σ:=Unit)
  (fun (i4:Nat) (a:Zp) _=>
   if (sEq a.var s_0)=true then
    some (.inr a.value)
   else
    some (.inl ()))
  (fun _=>
   some s_0)
  a_1 0 ()
noncomputable def ZKW (x_0:Zr) (a_1:(List Zp)):Option Zr:=
 (ZKV x_0.left a_1).bind fun b=>
 (ZKV x_0.right a_1).bind fun c=>
 forL (σ:=(List ByteArray))
  (fun (i11:Nat) (d:ByteArray) a=>
   (ZKV d a_1).bind fun e=>
   chk (a.length+1≤1073741824) <|
   some (.inl (a++[e])))
  (fun a=>
   some ({ kind:=x_0.kind,pattern:=({ rel:=x_0.pattern.rel,args:=a }:Zv),left:=b,right:=c }:Zr))
  x_0.pattern.args 0 []
noncomputable def ZLx (x_0:Zr):Option Zr:=
 (ZKW x_0 []).bind fun a=>
 some a
noncomputable def ZK9 (l_0:(List Zr)):Option Zf:=
 forL (σ:=(List Zr))
  (fun (i9:Nat) (b:Zr) a=>
   (ZLx b).bind fun c=>
   chk (a.length+1≤1073741824) <|
   some (.inl (a++[c])))
  (fun a=>
   some ({ name:=(⟨#[97,115,107]⟩),priority:=0,cond:=a,thn:=[({ kind:=3,pattern:=({ rel:=(⟨#[]⟩),args:=[] }:Zv) }:Zx)] }:Zf))
  l_0 0 []
noncomputable def ZKK (l_0:(List Zr)):Option Bool:=
 (ZK9 l_0).bind fun a=>
 (ZbX a).bind fun b=>
 some b
noncomputable def ZKI (s_0:ByteArray):Option ((List Zr) × Bool):=
 (Qd s_0 (⟨#[32,38,32]⟩)).bind fun c=>
 forL (σ:=(List Zr))
  (fun (i9:Nat) (d:ByteArray) a=>
   (ZaH d).bind fun b=>
   if b.2=true then
    chk (a.length+1≤1073741824) <|
    some (.inl (a++[b.1]))
   else
    some (.inr ([],false)))
  (fun a=>
   (ZKK a).bind fun e=>
   if e=true then
    some (a,true)
   else
    some ([],false))
  c 0 []
noncomputable def ZLf (c_0:ZF):Option ((List Zr) × ZF):=
 (Zdx c_0 ([(⟨#[112,40,63,120,41]⟩),(⟨#[111,110,40,63,120,44,63,121,41]⟩),(⟨#[111,110,40,63,120,44,63,121,41,32,38,32,112,40,63,121,41]⟩),(⟨#[113,40,63,120,41,32,38,32,110,111,116,32,112,40,63,120,41]⟩),(⟨#[111,110,40,63,120,44,63,121,41,32,38,32,63,120,32,33,61,32,63,121]⟩),(⟨#[112,40,63,120,41,32,38,32,110,111,116,32,111,110,40,63,120,44,63,122,41]⟩),(⟨#[111,110,40,97,44,63,121,41,32,38,32,111,110,40,63,121,44,63,122,41,32,38,32,110,111,116,32,113,40,63,122,41]⟩),(⟨#[122,40,41]⟩),(⟨#[112,40,63,120,41,32,38,32,112,40,63,121,41,32,38,32,63,120,32,60,32,63,121]⟩),(⟨#[111,110,40,63,120,44,63,120,41]⟩)])).bind fun a=>
 (ZKI a.1).bind fun b=>
 some (b.1,a.2)
noncomputable def ZLn (c_0:ZF):Option ((List Zr) × ZF):=
 (ZLf c_0).bind fun b=>
 (Xb b.2 8).bind fun a=>
 if (a.1==0)=true then
  (ZLs a.2).bind fun c=>
  chk (b.1.length+1≤1073741824) <|
  some ((b.1++[c.1]),c.2)
 else
  if (a.1==1)=true then
   chk (0≤1∧1≤((b.1.length:Nat):Int)) <|
   some ((AB (A3 1) b.1),a.2)
  else
   if (a.1==2)=true then
    (ZLs a.2).bind fun d=>
    some ([d.1],d.2)
   else
    some (b.1,a.2)
noncomputable def ZKP (code_0:(List Int)):Option ((List Zf) × (List Zd) × (List Zr)):=
 (ZhL code_0).bind fun b=>
 (ZLb b).bind fun a=>
 (ZLn a.2.2).bind fun c=>
 some (a.1,a.2.1,c.1)
noncomputable def ZcU (a_0:(List ByteArray)) (b_1:(List ByteArray)):Option Bool:=
 forL (σ:=Unit)
  (fun (i6:Nat) (a:ByteArray) _=>
   (ZR b_1 a).bind fun b=>
   if b=true then
    some (.inl ())
   else
    some (.inr false))
  (fun _=>
   some true)
  a_0 0 ()
noncomputable def ZbL (r_0:Zf):Option Bool:=
 (ZbX r_0).bind fun b=>
 if b=true then
  forL (σ:=Unit)
   (fun (i16:Nat) (a:Zr) _=>
    if (a.kind==2)=true then
     (Xz a).bind fun c=>
     (XT r_0 ((i16:Nat):Int)).bind fun d=>
     (ZcU c d).bind fun e=>
     if e=true then
      some (.inl ())
     else
      some (.inr false)
    else
     some (.inl ()))
   (fun _=>
    forL (σ:=Unit)
     (fun (i24:Nat) (f:Zx) _=>
      if (f.kind != 1)=true then
       some (.inr false)
      else
       some (.inl ()))
     (fun _=>
      some true)
     r_0.thn 0 ())
   r_0.cond 0 ()
 else
  some false
noncomputable def QI (r_0:Zf):Option (List ByteArray):=
 forL (σ:=(List ByteArray))
  (fun (i9:Nat) (b:Zx) a=>
   if (b.kind==1)=true then
    (XA a b.pattern.rel).bind fun c=>
    some (.inl c)
   else
    if (b.kind==2)=true then
     (XA a b.pattern.rel).bind fun d=>
     some (.inl d)
    else
     some (.inl a))
  (fun a=>
   some a)
  r_0.thn 0 []
noncomputable def Zbt (r_0:Zf):Option (List ByteArray):=
 forL (σ:=(List ByteArray))
  (fun (i9:Nat) (b:Zr) a=>
   if (b.kind==1)=true then
    (XA a b.pattern.rel).bind fun c=>
    some (.inl c)
   else
    if (b.kind==2)=true then
     (XA a b.pattern.rel).bind fun d=>
     some (.inl d)
    else
     some (.inl a))
  (fun a=>
   some a)
  r_0.cond 0 []
noncomputable def ZaO (append_0:(List Zf)) (String_1:ByteArray) (a_2:ByteArray):Option Bool:=
 iter (σ:=(List ByteArray) × Int)
  (fun s=>
   match s with
   | (d,c)=>
   if (decide (c<((d.length:Nat):Int)))=true then
    forL (σ:=(List ByteArray))
     (fun (i93:Nat) (e:Zf) a=>
      (QI e).bind fun i=>
      chk (0≤c∧c<((a.length:Nat):Int)) <|
      (a[(A3 c)]?).bind fun j=>
      (ZR i j).bind fun k=>
      if k=true then
       (Zbt e).bind fun f=>
       (ZR f a_2).bind fun l=>
       if l=true then
        some (.inr (.inr true))
       else
        forL (σ:=(List ByteArray))
         (fun (i108:Nat) (g:ByteArray) b=>
          (ZR b g).bind fun m=>
          if m=true then
           some (.inl b)
          else
           chk (b.length+1≤1073741824) <|
           some (.inl (b++[g])))
         (fun b=>
          some (.inl b))
         f 0 a
      else
       some (.inl a))
     (fun a=>
      some (.inl (a,(IntKind.i64.wrap (c+1)))))
     append_0 0 d
   else
    some (.inr false))
  ([String_1],0)
noncomputable def Zev (l_0:(List Zf)) (name_1:ByteArray):Option Int:=
 forL (σ:=Unit)
  (fun (i4:Nat) (a:Zf) _=>
   if (sEq a.name name_1)=true then
    some (.inr ((i4:Nat):Int))
   else
    some (.inl ()))
  (fun _=>
   some (-1))
  l_0 0 ()
noncomputable def Zcz (l_0:(List Zf)):Option Bool:=
 forL (σ:=Unit)
  (fun (i8:Nat) (a:Zf) _=>
   (ZbX a).bind fun b=>
   if b=true then
    (Zev l_0 a.name).bind fun c=>
    if (c != ((i8:Nat):Int))=true then
     some (.inr false)
    else
     some (.inl ())
   else
    some (.inr false))
  (fun _=>
   some (decide (((l_0.length:Nat):Int)≤6)))
  l_0 0 ()
noncomputable def ZaM (append_0:(List Zf)):Option Bool:=
 forL (σ:=Unit)
  (fun (i67:Nat) (a:Zf) _=>
   (ZbL a).bind fun d=>
   if d=true then
    (QI a).bind fun e=>
    forL (σ:=Unit)
     (fun (i90:Nat) (b:Zr) _=>
      forL (σ:=Unit)
       (fun (i97:Nat) (c:ByteArray) _=>
        if (b.kind==2)=true then
         if (sEq b.pattern.rel c)=true then
          some (.inr (.inr (.inr false)))
         else
          (ZaO append_0 b.pattern.rel c).bind fun f=>
          if f=true then
           some (.inr (.inr (.inr false)))
          else
           some (.inl ())
        else
         some (.inr (.inl ())))
       (fun _=>
        some (.inl ()))
       e 0 ())
     (fun _=>
      some (.inl ()))
     a.cond 0 ()
   else
    some (.inr false))
  (fun _=>
   (Zcz append_0).bind fun g=>
   some g)
  append_0 0 ()
noncomputable def ZdZ (f_0:Zd):Option Bool:=
 forL (σ:=Unit)
  (fun (i7:Nat) (a:ByteArray) _=>
   (X3 a).bind fun b=>
   if b=true then
    some (.inl ())
   else
    some (.inr false))
  (fun _=>
   (ZcY f_0.rel).bind fun c=>
   if c=true then
    some (decide (((f_0.args.length:Nat):Int)≤3))
   else
    some false)
  f_0.args 0 ()
noncomputable def Zdd (a:(List Zd)):Option Bool:=
 forL (σ:=Unit)
  (fun (b:Nat) (c:Zd) _=>
   (ZdZ c).bind fun d=>
   if d=true then
    if (decide (0<((b:Nat):Int)))=true then
     (atI a (IntKind.i64.wrap (((b:Nat):Int) - 1))).bind fun e=>
     (YZ e c).bind fun f=>
     if (decide (0≤f))=true then
      some (.inr false)
     else
      some (.inl ())
    else
     some (.inl ())
   else
    some (.inr false))
  (fun _=>
   some (decide (((a.length:Nat):Int)≤24)))
  a 0 ()
noncomputable def Zak (l_0:(List Zd)):Option (List Zd):=
 forL (σ:=(List Zd))
  (fun (i7:Nat) (b:Zd) a=>
   (XM b).bind fun c=>
   chk (a.length+1≤1073741824) <|
   some (.inl (a++[c])))
  (fun a=>
   some a)
  l_0 0 []
noncomputable def Xt (a:(List Zp)):Option Bool:=
 forL (σ:=Unit)
  (fun (c:Nat) (b:Zp) _=>
   (Zab b.var).bind fun d=>
   if d=true then
    (X3 b.value).bind fun e=>
    if e=true then
     if (decide (0<((c:Nat):Int)))=true then
      (atI a (IntKind.i64.wrap (((c:Nat):Int) - 1))).bind fun f=>
      if (sLt f.var b.var)=true then
       some (.inl ())
      else
       some (.inr false)
     else
      some (.inl ())
    else
     some (.inr false)
   else
    some (.inr false))
  (fun _=>
   some (decide (((a.length:Nat):Int)≤6)))
  a 0 ()
noncomputable def Zb7 (b_0:(List Zp)):Option (List Zp):=
 chk (b_0.length≤1073741824) <|
 some b_0
noncomputable def ZaI (b_0:(List Zp)) (term_1:ByteArray):Option (ByteArray × Bool):=
 (X3 term_1).bind fun b=>
 if b=true then
  some (term_1,true)
 else
  forL (σ:=Unit)
   (fun (i7:Nat) (a:Zp) _=>
    if (sEq a.var term_1)=true then
     (Zab term_1).bind fun c=>
     if c=true then
      some (.inr (a.value,true))
     else
      some (.inl ())
    else
     some (.inl ()))
   (fun _=>
    some ((⟨#[]⟩),false))
   b_0 0 ()
noncomputable def Zh3 (b_0:(List Zp)) (c:ByteArray) (value_2:ByteArray):Option (List Zp):=
 forL (σ:=(List Zp) × Bool)
  (fun (i8:Nat) (b:Zp) s=>
   match s with
   | (a,d)=>
   if d=true then
    chk (a.length+1≤1073741824) <|
    some (.inl ((a++[b]),true))
   else
    if (sLt b.var c||sEq b.var c)=true then
     chk (a.length+1≤1073741824) <|
     some (.inl ((a++[b]),false))
    else
     chk (a.length+1≤1073741824) <|
     chk (a.length+1+1≤1073741824) <|
     some (.inl (((a++[({ var:=c,value:=value_2 }:Zp)])++[b]),true)))
  (fun s=>
   match s with
   | (a,d)=>
   if d=true then
    some a
   else
    chk (a.length+1≤1073741824) <|
    some (a++[({ var:=c,value:=value_2 }:Zp)]))
  b_0 0 ([],false)
noncomputable def Zfm (b_0:(List Zp)) (v_1:ByteArray) (value_2:ByteArray):Option ((List Zp) × Bool):=
 (Xt b_0).bind fun b=>
 if b=true then
  (Zab v_1).bind fun c=>
  if c=true then
   (X3 value_2).bind fun d=>
   if d=true then
    (ZaI b_0 v_1).bind fun a=>
    if a.2=true then
     if (sEq a.1 value_2)=true then
      (Zb7 b_0).bind fun e=>
      some (e,true)
     else
      some ([],false)
    else
     if (((b_0.length:Nat):Int)==6)=true then
      some ([],false)
     else
      (Zh3 b_0 v_1 value_2).bind fun f=>
      some (f,true)
   else
    some ([],false)
  else
   some ([],false)
 else
  some ([],false)
noncomputable def Zau (append_0:Zv) (a:Zd) (a_2:(List Zp)):Option ((List Zp) × Bool):=
 (YD append_0).bind fun f=>
 if f=true then
  (ZdZ a).bind fun g=>
  if g=true then
   (Xt a_2).bind fun i=>
   if i=true then
    if (sEq append_0.rel a.rel)=true then
     if (((append_0.args.length:Nat):Int) != ((a.args.length:Nat):Int))=true then
      some ([],false)
     else
      (Zb7 a_2).bind fun j=>
      forL (σ:=(List Zp))
       (fun (d:Nat) (c:ByteArray) b=>
        (X3 c).bind fun k=>
        if k=true then
         (atI a.args ((d:Nat):Int)).bind fun l=>
         if (sEq c l)=true then
          some (.inl b)
         else
          some (.inr ([],false))
        else
         (atI a.args ((d:Nat):Int)).bind fun m=>
         (Zfm b c m).bind fun e=>
         if e.2=true then
          some (.inl e.1)
         else
          some (.inr ([],false)))
       (fun b=>
        some (b,true))
       append_0.args 0 j
    else
     some ([],false)
   else
    some ([],false)
  else
   some ([],false)
 else
  some ([],false)
noncomputable def Xf (p_0:Zv) (b_1:(List Zp)) (facts_2:(List Zd)):Option (List Zd):=
 forL (σ:=(List Zd))
  (fun (i9:Nat) (b:Zd) a=>
   (Zau p_0 b b_1).bind fun c=>
   if c.2=true then
    (XM b).bind fun d=>
    chk (a.length+1≤1073741824) <|
    some (.inl (a++[d]))
   else
    some (.inl a))
  (fun a=>
   some a)
  facts_2 0 []
noncomputable def ZcE (s_0:ByteArray):Option Bool:=
 (X0 s_0).bind fun a=>
 some a.2
noncomputable def ZbO (x_0:Zr) (b_1:(List Zp)):Option Bool:=
 (ZaT x_0).bind fun c=>
 if c=true then
  (Xt b_1).bind fun d=>
  if d=true then
   (ZaI b_1 x_0.left).bind fun a=>
   (ZaI b_1 x_0.right).bind fun b=>
   if a.2=true then
    if b.2=true then
     if (x_0.kind==3)=true then
      some (sEq a.1 b.1)
     else
      if (x_0.kind==4)=true then
       some (!(sEq a.1 b.1))
      else
       (ZcE a.1).bind fun e=>
       if e=true then
        (ZcE b.1).bind fun f=>
        if f=true then
         (Y0 a.1 b.1).bind fun g=>
         some (decide (g<0))
        else
         some false
       else
        some false
    else
     some false
   else
    some false
  else
   some false
 else
  some false
noncomputable def ZbV (x_0:Zr) (a:(List Zp)) (b:(List Zd)):Option Bool:=
 (Zb1 x_0).bind fun c=>
 if c=true then
  (Xt a).bind fun d=>
  if d=true then
   if (x_0.kind==1)=true then
    (Xf x_0.pattern a b).bind fun e=>
    some (decide (0<((e.length:Nat):Int)))
   else
    if (x_0.kind==2)=true then
     (Xf x_0.pattern a b).bind fun f=>
     some (((f.length:Nat):Int)==0)
    else
     (ZbO x_0 a).bind fun g=>
     some g
  else
   some false
 else
  some false
noncomputable def ZfQ (t_0:Zt):Option Zt:=
 (Zak t_0.facts).bind fun a=>
 (Zb7 t_0.binding).bind fun b=>
 some ({ facts:=a,binding:=b }:Zt)
noncomputable def Zfi (append_0:(List Zt)) (String_1:Zr) (a_2:(List Zd)):Option (List Zt):=
 forL (σ:=(List Zt))
  (fun (i45:Nat) (c:Zt) a=>
   if (String_1.kind != 1)=true then
    (ZbV String_1 c.binding a_2).bind fun g=>
    if g=true then
     (ZfQ c).bind fun i=>
     chk (a.length+1≤1073741824) <|
     some (.inl (a++[i]))
    else
     some (.inl a)
   else
    forL (σ:=(List Zt))
     (fun (i59:Nat) (d:Zd) b=>
      (Zau String_1.pattern d c.binding).bind fun e=>
      if e.2=true then
       (Zak c.facts).bind fun f=>
       (XM d).bind fun j=>
       chk (f.length+1≤1073741824) <|
       chk (b.length+1≤1073741824) <|
       some (.inl (b++[({ facts:=(f++[j]),binding:=e.1 }:Zt)]))
      else
       some (.inl b))
     (fun b=>
      some (.inl b))
     a_2 0 a)
  (fun a=>
   some a)
  append_0 0 []
noncomputable def Zai (l_0:(List Zr)) (facts_1:(List Zd)):Option (List Zt):=
 forL (σ:=(List Zt))
  (fun (i7:Nat) (b:Zr) a=>
   (Zfi a b facts_1).bind fun c=>
   some (.inl c))
  (fun a=>
   some a)
  l_0 0 ([({ facts:=[],binding:=[] }:Zt)])
noncomputable def Xv (r_0:Zf):Option (List Zr):=
 forL (σ:=(List Zr))
  (fun (i6:Nat) (b:Zr) a=>
   if (b.kind != 2)=true then
    chk (a.length+1≤1073741824) <|
    some (.inl (a++[b]))
   else
    some (.inl a))
  (fun a=>
   some a)
  r_0.cond 0 []
noncomputable def Y2 (p_0:Zv) (b_1:(List Zp)):Option (Zd × Bool):=
 (YD p_0).bind fun c=>
 if c=true then
  (Xt b_1).bind fun d=>
  if d=true then
   forL (σ:=(List ByteArray))
    (fun (i11:Nat) (e:ByteArray) a=>
     (ZaI b_1 e).bind fun b=>
     if b.2=true then
      chk (a.length+1≤1073741824) <|
      some (.inl (a++[b.1]))
     else
      some (.inr (({ rel:=(⟨#[]⟩),args:=[] }:Zd),false)))
    (fun a=>
     some (({ rel:=p_0.rel,args:=a }:Zd),true))
    p_0.args 0 []
  else
   some (({ rel:=(⟨#[]⟩),args:=[] }:Zd),false)
 else
  some (({ rel:=(⟨#[]⟩),args:=[] }:Zd),false)
noncomputable def Yg (append_0:(List Zf)) (String_1:(List Zd)):Option ((List Zd) × Bool):=
 (ZaM append_0).bind fun f=>
 if f=true then
  (Zdd String_1).bind fun g=>
  if g=true then
   (Zak String_1).bind fun i=>
   iter (σ:=(List Zd) × Bool)
    (fun s=>
     match s with
     | (a,j)=>
     if j=true then
      forL (σ:=(List Zd))
       (fun (i311:Nat) (e:Zf) b=>
        (Xv e).bind fun k=>
        (Zai k a).bind fun l=>
        forL (σ:=(List Zd))
         (fun (i355:Nat) (m:Zt) c=>
          forL (σ:=(List Zd))
           (fun (i368:Nat) (o:Zx) d=>
            (Y2 o.pattern m.binding).bind fun p=>
            (YI d p.1).bind fun q=>
            some (.inl q))
           (fun d=>
            some (.inl d))
           e.thn 0 c)
         (fun c=>
          if (decide (24<((c.length:Nat):Int)))=true then
           some (.inr (.inr ([],false)))
          else
           some (.inl c))
         l 0 b)
       (fun b=>
        some (.inl (b,(decide (((a.length:Nat):Int)<((b.length:Nat):Int))))))
       append_0 0 a
     else
      some (.inr (a,true)))
    (i,true)
  else
   some ([],false)
 else
  some ([],false)
noncomputable def ZdL (a_0:(List ByteArray)) (a:(List ByteArray)):Option Bool:=
 if (((a_0.length:Nat):Int) != ((a.length:Nat):Int))=true then
  some false
 else
  forL (σ:=Unit)
   (fun (b:Nat) (c:ByteArray) _=>
    (atI a ((b:Nat):Int)).bind fun d=>
    if (sEq c d)=true then
     some (.inl ())
    else
     some (.inr false))
   (fun _=>
    some true)
   a_0 0 ()
noncomputable def Zj1 (a_0:Zd) (b_1:Zd):Option Bool:=
 if (sEq a_0.rel b_1.rel)=true then
  (ZdL a_0.args b_1.args).bind fun a=>
  some a
 else
  some false
noncomputable def Ql (l_0:(List Zd)) (f_1:Zd):Option Int:=
 forL (σ:=Unit)
  (fun (i6:Nat) (a:Zd) _=>
   (Zj1 a f_1).bind fun b=>
   if b=true then
    some (.inr ((i6:Nat):Int))
   else
    some (.inl ()))
  (fun _=>
   some (-1))
  l_0 0 ()
noncomputable def Zga (l_0:(List Int)) (x_1:Int):Option (List Int):=
 forL (σ:=(List Int) × Bool)
  (fun (i7:Nat) (b:Int) s=>
   match s with
   | (a,c)=>
   if c=true then
    chk (a.length+1≤1073741824) <|
    some (.inl ((a++[b]),true))
   else
    if (decide (x_1≤b))=true then
     if (b != x_1)=true then
      chk (a.length+1≤1073741824) <|
      chk (a.length+1+1≤1073741824) <|
      some (.inl (((a++[x_1])++[b]),true))
     else
      chk (a.length+1≤1073741824) <|
      some (.inl ((a++[b]),true))
    else
     chk (a.length+1≤1073741824) <|
     some (.inl ((a++[b]),false)))
  (fun s=>
   match s with
   | (a,c)=>
   if c=true then
    some a
   else
    chk (a.length+1≤1073741824) <|
    some (a++[x_1]))
  l_0 0 ([],false)
noncomputable def Zbu (l_0:(List Zd)) (facts_1:(List Zd)):Option (List Int):=
 forL (σ:=(List Int))
  (fun (i9:Nat) (c:Zd) a=>
   (Ql l_0 c).bind fun b=>
   if (decide (0≤b))=true then
    (Zga a b).bind fun d=>
    some (.inl d)
   else
    some (.inl a))
  (fun a=>
   some a)
  facts_1 0 []
noncomputable def ZaD (c:Zf) (e:Int) (b:Zt) (a_3:(List Zd)):Option Zg:=
 (atI c.thn e).bind fun f=>
 (Y2 f.pattern b.binding).bind fun g=>
 forL (σ:=(List Zd))
  (fun (i12:Nat) (d:Zr) a=>
   if (d.kind==2)=true then
    (Y2 d.pattern b.binding).bind fun i=>
    chk (a.length+1≤1073741824) <|
    some (.inl (a++[i.1]))
   else
    some (.inl a))
  (fun a=>
   (Ql a_3 g.1).bind fun j=>
   (Zbu a_3 b.facts).bind fun k=>
   (Zbu a_3 a).bind fun l=>
   some ({ for_:=j,inn:=k,outs:=l }:Zg))
  c.cond 0 []
noncomputable def ZaN (a_0:(List Int)) (a:(List Int)):Option Bool:=
 if (((a_0.length:Nat):Int) != ((a.length:Nat):Int))=true then
  some false
 else
  forL (σ:=Unit)
   (fun (b:Nat) (c:Int) _=>
    (atI a ((b:Nat):Int)).bind fun d=>
    if (c != d)=true then
     some (.inr false)
    else
     some (.inl ()))
   (fun _=>
    some true)
   a_0 0 ()
noncomputable def Zd8 (l_0:(List Zg)) (r_1:Zg):Option Int:=
 forL (σ:=Unit)
  (fun (i8:Nat) (a:Zg) _=>
   if (a.for_==r_1.for_)=true then
    (ZaN a.inn r_1.inn).bind fun b=>
    if b=true then
     (ZaN a.outs r_1.outs).bind fun c=>
     if c=true then
      some (.inr ((i8:Nat):Int))
     else
      some (.inl ())
    else
     some (.inl ())
   else
    some (.inl ()))
  (fun _=>
   some (-1))
  l_0 0 ()
noncomputable def Xl (append_0:(List Zf)) (String_1:(List Zd)):Option ((List Zd) × Zu × (List Xd) × Bool):=
 (Yg append_0 String_1).bind fun b=>
 if b.2=true then
  forL (σ:=(List Zg) × (List Xd))
   (fun (i255:Nat) (o:Zd) s=>
    match s with
    | (d,e)=>
    (Ql b.1 o).bind fun p=>
    chk (d.length+1≤1073741824) <|
    chk (e.length+1≤1073741824) <|
    some (.inl ((d++[({ for_:=p,inn:=[],outs:=[] }:Zg)]),(e++[({ rule:=(⟨#[]⟩),token:=({ facts:=[],binding:=[] }:Zt) }:Xd)]))))
   (fun s=>
    match s with
    | (d,e)=>
    forL (σ:=(List Zg) × (List Xd))
     (fun (i446:Nat) (f:Zf) s=>
      match s with
      | (g,i)=>
      (Xv f).bind fun q=>
      (Zai q b.1).bind fun t=>
      forL (σ:=(List Zg) × (List Xd))
       (fun (i487:Nat) (l:Zt) s=>
        match s with
        | (j,k)=>
        forL (σ:=(List Zg) × (List Xd))
         (fun (i498:Nat) (v:Zx) s=>
          match s with
          | (a,c)=>
          (ZaD f ((i498:Nat):Int) l b.1).bind fun m=>
          (Zd8 a m).bind fun u=>
          if (decide (0≤u))=true then
           some (.inl (a,c))
          else
           if (decide (60≤((a.length:Nat):Int)))=true then
            some (.inr (.inr (.inr ([],({ nodes:=0,reasons:=[] }:Zu),[],false))))
           else
            chk (a.length+1≤1073741824) <|
            chk (c.length+1≤1073741824) <|
            some (.inl ((a++[m]),(c++[({ rule:=f.name,token:=l }:Xd)]))))
         (fun s=>
          match s with
          | (a,c)=>
          some (.inl (a,c)))
         f.thn 0 (j,k))
       (fun s=>
        match s with
        | (j,k)=>
        some (.inl (j,k)))
       t 0 (g,i))
     (fun s=>
      match s with
      | (g,i)=>
      some (b.1,({ nodes:=((b.1.length:Nat):Int),reasons:=g }:Zu),i,true))
     append_0 0 (d,e))
   String_1 0 ([],[])
 else
  some ([],({ nodes:=0,reasons:=[] }:Zu),[],false)
noncomputable def X4 (rules_0:(List Zf)) (base_1:(List Zd)):Option ((List Zd) × Zu × Bool):=
 (Xl rules_0 base_1).bind fun a=>
 if a.2.2.2=true then
  some (a.1,a.2.1,true)
 else
  some ([],({ nodes:=0,reasons:=[] }:Zu),false)
noncomputable def ZD4 (a:(List Int)) (n_1:Int):Option Bool:=
 forL (σ:=Unit)
  (fun (b:Nat) (c:Int) _=>
   (Za5 c 0 (IntKind.i64.wrap (n_1 - 1))).bind fun d=>
   if d=true then
    if (decide (0<((b:Nat):Int)))=true then
     (atI a (IntKind.i64.wrap (((b:Nat):Int) - 1))).bind fun e=>
     if (decide (c≤e))=true then
      some (.inr false)
     else
      some (.inl ())
    else
     some (.inl ())
   else
    some (.inr false))
  (fun _=>
   some true)
  a 0 ()
noncomputable def ZEb (b_0:Zu):Option Bool:=
 forL (σ:=Unit)
  (fun (i11:Nat) (a:Zg) _=>
   (Za5 a.for_ 0 (IntKind.i64.wrap (b_0.nodes - 1))).bind fun b=>
   if b=true then
    (ZD4 a.inn b_0.nodes).bind fun c=>
    if c=true then
     (ZD4 a.outs b_0.nodes).bind fun d=>
     if d=true then
      some (.inl ())
     else
      some (.inr false)
    else
     some (.inr false)
   else
    some (.inr false))
  (fun _=>
   (Za5 b_0.nodes 0 24).bind fun e=>
   if e=true then
    some (decide (((b_0.reasons.length:Nat):Int)≤60))
   else
    some false)
  b_0.reasons 0 ()
noncomputable def ZFr (l_0:(List Int)):Option (List Int):=
 chk (l_0.length≤1073741824) <|
 some l_0
noncomputable def ZEk (g:Zu) (o:Int):Option (List Bool):=
 chk (0≤g.nodes∧g.nodes≤1073741824) <|
 iter (σ:=(List Bool) × (List Int) × Int)
  (fun s=>
   match s with
   | (l,m,d)=>
   if (decide (d<((m.length:Nat):Int)))=true then
    forL (σ:=(List Bool) × (List Int))
     (fun (i95:Nat) (a:Zg) s=>
      match s with
      | (i,b)=>
      chk (0≤d∧d<((b.length:Nat):Int)) <|
      (b[(A3 d)]?).bind fun p=>
      if (a.for_ != p)=true then
       some (.inl (i,b))
      else
       (ZFr a.inn).bind fun j=>
       chk (j.length+a.outs.length≤1073741824) <|
       iter (σ:=(List Bool) × (List Int) × Int)
        (fun s=>
         match s with
         | (e,k,c)=>
         if (decide (c<((j.length+a.outs.length:Nat):Int)))=true then
          chk (0≤c∧c<((j.length+a.outs.length:Nat):Int)) <|
          ((j++a.outs)[(A3 c)]?).bind fun f=>
          chk (0≤f∧f<((e.length:Nat):Int)) <|
          (e[(A3 f)]?).bind fun q=>
          if q=true then
           some (.inl (e,k,(IntKind.i64.wrap (c+1))))
          else
           chk (k.length+1≤1073741824) <|
           some (.inl ((AC e (A3 f) true),(k++[f]),(IntKind.i64.wrap (c+1))))
         else
          some (.inr (.inl (e,k))))
        (i,b,0))
     (fun s=>
      match s with
      | (i,b)=>
      some (.inl (i,b,(IntKind.i64.wrap (d+1)))))
     g.reasons 0 (l,m)
   else
    some (.inr l))
  ((AJ (A3 g.nodes) false),[o],0)
noncomputable def ZDG (b_0:Zu):Option Bool:=
 (ZEb b_0).bind fun d=>
 if d=true then
  forL (σ:=Unit)
   (fun (i27:Nat) (a:Zg) _=>
    forL (σ:=Unit)
     (fun (i36:Nat) (b:Int) _=>
      if (b==a.for_)=true then
       some (.inr (.inr false))
      else
       (ZEk b_0 b).bind fun c=>
       chk (0≤a.for_∧a.for_<((c.length:Nat):Int)) <|
       (c[(A3 a.for_)]?).bind fun e=>
       if e=true then
        some (.inr (.inr false))
       else
        some (.inl ()))
     (fun _=>
      some (.inl ()))
     a.outs 0 ())
   (fun _=>
    some true)
   b_0.reasons 0 ()
 else
  some false
noncomputable def ZEq (d:Zu):Option (List Int):=
 (ZDG d).bind fun p=>
 if p=true then
  chk (0≤d.nodes∧d.nodes≤1073741824) <|
  iter (σ:=(List Int) × Int)
   (fun s=>
    match s with
    | (i,j)=>
    if (decide (j≤d.nodes))=true then
     forL (σ:=(List Int))
      (fun (i194:Nat) (a:Zg) e=>
       forL (σ:=(List Int))
        (fun (i216:Nat) (f:Int) b=>
         chk (0≤a.for_∧a.for_<((b.length:Nat):Int)) <|
         (b[(A3 a.for_)]?).bind fun k=>
         chk (0≤f∧f<((b.length:Nat):Int)) <|
         (b[(A3 f)]?).bind fun l=>
         some (.inl (AC b (A3 a.for_) (if k<l then l else k))))
        (fun b=>
         forL (σ:=(List Int))
          (fun (i228:Nat) (g:Int) c=>
           chk (0≤a.for_∧a.for_<((c.length:Nat):Int)) <|
           (c[(A3 a.for_)]?).bind fun m=>
           chk (0≤g∧g<((c.length:Nat):Int)) <|
           (c[(A3 g)]?).bind fun o=>
           some (.inl (AC c (A3 a.for_) (if m<(IntKind.i64.wrap (o+1)) then (IntKind.i64.wrap (o+1)) else m))))
          (fun c=>
           some (.inl c))
          a.outs 0 b)
        a.inn 0 e)
      (fun e=>
       some (.inl (e,(IntKind.i64.wrap (j+1)))))
      d.reasons 0 i
    else
     some (.inr i))
   ((AJ (A3 d.nodes) 0),0)
 else
  some []
noncomputable def ZDx (l_0:(List Int)) (b:(List Int)) (round_2:Int):Option Bool:=
 forL (σ:=Unit)
  (fun (i6:Nat) (c:Int) _=>
   (atI b c).bind fun a=>
   if (decide (a<0))=true then
    some (.inr false)
   else
    if (decide (round_2≤a))=true then
     some (.inr false)
    else
     some (.inl ()))
  (fun _=>
   some true)
  l_0 0 ()
noncomputable def ZDR (l_0:(List Int)) (a:(List Int)):Option Bool:=
 forL (σ:=Unit)
  (fun (i6:Nat) (b:Int) _=>
   (atI a b).bind fun c=>
   if (decide (0≤c))=true then
    some (.inr false)
   else
    some (.inl ()))
  (fun _=>
   some true)
  l_0 0 ()
noncomputable def ZD5 (append_0:Zu) (e:(List Int)) (a_2:Int) (c:(List Int)) (a_4:Int):Option (List Int):=
 iter (σ:=(List Int) × Int)
  (fun s=>
   match s with
   | (b,a)=>
   if (decide (a<append_0.nodes))=true then
    (atI e a).bind fun f=>
    if (f != a_2)=true then
     some (.inl (b,(IntKind.i64.wrap (a+1))))
    else
     (atI c a).bind fun g=>
     if (decide (0≤g))=true then
      some (.inl (b,(IntKind.i64.wrap (a+1))))
     else
      forL (σ:=Unit)
       (fun (i38:Nat) (d:Zg) _=>
        if (d.for_==a)=true then
         (ZDx d.inn c a_4).bind fun i=>
         if i=true then
          (ZDR d.outs c).bind fun j=>
          if j=true then
           chk (b.length+1≤1073741824) <|
           some (.inr (.inl ((b++[a]),(IntKind.i64.wrap (a+1)))))
          else
           some (.inl ())
         else
          some (.inl ())
        else
         some (.inl ()))
       (fun _=>
        some (.inl (b,(IntKind.i64.wrap (a+1)))))
       append_0.reasons 0 ()
   else
    some (.inr b))
  ([],0)
noncomputable def ZD6 (b_0:Zu):Option (List Int):=
 (ZDG b_0).bind fun m=>
 if m=true then
  (ZEq b_0).bind fun g=>
  iter (σ:=(List Int) × Int)
   (fun s=>
    match s with
    | (e,i)=>
    if (decide (i<b_0.nodes))=true then
     chk (e.length+1≤1073741824) <|
     some (.inl ((e++[(-1)]),(IntKind.i64.wrap (i+1))))
    else
     iter (σ:=(List Int) × Int × Int)
      (fun s=>
       match s with
       | (f,j,b)=>
       if (decide (b<b_0.nodes))=true then
        (ZD5 b_0 g b f j).bind fun o=>
        iter (σ:=(List Int) × (List Int) × Int)
         (fun s=>
          match s with
          | (k,l,c)=>
          if (decide (0<((l.length:Nat):Int)))=true then
           forL (σ:=(List Int))
            (fun (i56:Nat) (d:Int) a=>
             chk (0≤d∧d<((a.length:Nat):Int)) <|
             (a[(A3 d)]?).bind fun q=>
             some (.inl (AC a (A3 d) c)))
            (fun a=>
             (ZD5 b_0 g b a (IntKind.i64.wrap (c+1))).bind fun p=>
             some (.inl (a,p,(IntKind.i64.wrap (c+1)))))
            l 0 k
          else
           some (.inr (.inl (k,c,(IntKind.i64.wrap (b+1))))))
         (f,o,j)
       else
        some (.inr (.inr f)))
      (e,0,0))
   ([],0)
 else
  some []
noncomputable def ZIN (b_0:Zu):Option (List Bool):=
 (ZD6 b_0).bind fun b=>
 forL (σ:=(List Bool))
  (fun (i6:Nat) (c:Int) a=>
   chk (a.length+1≤1073741824) <|
   some (.inl (a++[(decide (0≤c))])))
  (fun a=>
   some a)
  b 0 []
noncomputable def ZI0 (l_0:(List Zd)) (b_1:Zu):Option (List Zd):=
 (ZIN b_1).bind fun b=>
 forL (σ:=(List Zd))
  (fun (i10:Nat) (c:Zd) a=>
   if (decide (((i10:Nat):Int)<((b.length:Nat):Int)))=true then
    chk (0≤((i10:Nat):Int)∧((i10:Nat):Int)<((b.length:Nat):Int)) <|
    (b[i10]?).bind fun d=>
    if d=true then
     (XM c).bind fun e=>
     chk (a.length+1≤1073741824) <|
     some (.inl (a++[e]))
    else
     some (.inl a)
   else
    some (.inr a))
  (fun a=>
   some a)
  l_0 0 []
noncomputable def ZIQ (rules_0:(List Zf)) (base_1:(List Zd)):Option ((List Zd) × Bool):=
 (X4 rules_0 base_1).bind fun a=>
 if a.2.2=true then
  (ZI0 a.1 a.2.1).bind fun b=>
  some (b,true)
 else
  some ([],false)
noncomputable def ZLF (a_0:(List Zp)) (a:(List Zp)):Option Bool:=
 if (((a_0.length:Nat):Int) != ((a.length:Nat):Int))=true then
  some false
 else
  forL (σ:=Unit)
   (fun (d:Nat) (b:Zp) _=>
    (atI a ((d:Nat):Int)).bind fun c=>
    if (sEq b.var c.var&&sEq b.value c.value)=true then
     some (.inl ())
    else
     some (.inr false))
   (fun _=>
    some true)
   a_0 0 ()
noncomputable def ZKF (code_0:(List Int)):Option ((List Zf) × (List Zd) × Zv):=
 (ZhL code_0).bind fun b=>
 (ZLb b).bind fun a=>
 (ZLj a.2.2).bind fun c=>
 some (a.1,a.2.1,c.1)
noncomputable def ZKM (rules_0:(List Zf)) (base_1:(List Zd)) (p_2:Zv):Option ((List Zd) × Bool):=
 (Zbg rules_0 base_1).bind fun a=>
 if a.2=true then
  (YR p_2).bind fun b=>
  if b=true then
   (Xc p_2 [] a.1).bind fun c=>
   some (c,true)
  else
   some ([],false)
 else
  some ([],false)
noncomputable def ZLH (append_0:(List Int)):Option Bool:=
 (ZqV append_0).bind fun p=>
 if p=true then
  some true
 else
  (ZKP append_0).bind fun a=>
  (ZKL a.1 a.2.1 a.2.2).bind fun b=>
  (ZIQ a.1 a.2.1).bind fun e=>
  if e.2=true then
   (ZKK a.2.2).bind fun q=>
   if (b.2==q)=true then
    forL (σ:=Unit)
     (fun (i46:Nat) (i:(List Zp)) _=>
      forL (σ:=Unit)
       (fun (i58:Nat) (t:Zr) _=>
        (ZbV t i e.1).bind fun u=>
        if u=true then
         some (.inl ())
        else
         some (.inr (.inr false)))
       (fun _=>
        iter (σ:=Int)
         (fun f=>
          if (decide (f<((i46:Nat):Int)))=true then
           (atI b.1 f).bind fun v=>
           (ZLF i v).bind fun w=>
           if w=true then
            some (.inr (.inr false))
           else
            some (.inl (IntKind.i64.wrap (f+1)))
          else
           some (.inr (.inl ())))
         0)
       a.2.2 0 ())
     (fun _=>
      (ZKF append_0).bind fun c=>
      (ZKM c.1 c.2.1 c.2.2).bind fun j=>
      (ZKL c.1 c.2.1 ([({ kind:=1,pattern:=c.2.2,left:=(⟨#[]⟩),right:=(⟨#[]⟩) }:Zr)])).bind fun k=>
      if (j.2==k.2)=true then
       some (((j.1.length:Nat):Int)==((k.1.length:Nat):Int))
      else
       some false)
     b.1 0 ()
   else
    some false
  else
   if (b.2==false)=true then
    forL (σ:=Unit)
     (fun (i109:Nat) (l:(List Zp)) _=>
      forL (σ:=Unit)
       (fun (i121:Nat) (x:Zr) _=>
        (ZbV x l e.1).bind fun y=>
        if y=true then
         some (.inl ())
        else
         some (.inr (.inr false)))
       (fun _=>
        iter (σ:=Int)
         (fun g=>
          if (decide (g<((i109:Nat):Int)))=true then
           (atI b.1 g).bind fun z=>
           (ZLF l z).bind fun A=>
           if A=true then
            some (.inr (.inr false))
           else
            some (.inl (IntKind.i64.wrap (g+1)))
          else
           some (.inr (.inl ())))
         0)
       a.2.2 0 ())
     (fun _=>
      (ZKF append_0).bind fun d=>
      (ZKM d.1 d.2.1 d.2.2).bind fun m=>
      (ZKL d.1 d.2.1 ([({ kind:=1,pattern:=d.2.2,left:=(⟨#[]⟩),right:=(⟨#[]⟩) }:Zr)])).bind fun o=>
      if (m.2==o.2)=true then
       some (((m.1.length:Nat):Int)==((o.1.length:Nat):Int))
      else
       some false)
     b.1 0 ()
   else
    some false
noncomputable def ZLq (a:Zf) (b:Int) (c:(List Zd)):Option (List Zt):=
 (ZbX a).bind fun d=>
 if d=true then
  (Zdd c).bind fun e=>
  if e=true then
   (Za5 b 0 ((a.cond.length:Nat):Int)).bind fun f=>
   if f=true then
    chk (0≤b∧b≤((a.cond.length:Nat):Int)) <|
    (Zai (AB 0 (AK (A3 b) a.cond)) c).bind fun g=>
    some g
   else
    some []
  else
   some []
 else
  some []
noncomputable def ZLt (a_0:(List Zp)) (a:(List Zp)):Option Bool:=
 if (((a_0.length:Nat):Int) != ((a.length:Nat):Int))=true then
  some false
 else
  forL (σ:=Unit)
   (fun (d:Nat) (b:Zp) _=>
    (atI a ((d:Nat):Int)).bind fun c=>
    if (sEq b.var c.var&&sEq b.value c.value)=true then
     some (.inl ())
    else
     some (.inr false))
   (fun _=>
    some true)
   a_0 0 ()
noncomputable def ZMm (append_0:(List Zf)) (String_1:(List Zd)) (a_2:(List Zr)):Option ((List (List Zp)) × Bool):=
 (ZIQ append_0 String_1).bind fun c=>
 if c.2=true then
  (ZKK a_2).bind fun e=>
  if e=true then
   (ZK9 a_2).bind fun f=>
   (ZLq f ((a_2.length:Nat):Int) c.1).bind fun g=>
   forL (σ:=(List (List Zp)))
    (fun (i25:Nat) (d:Zt) a=>
     forL (σ:=Bool)
      (fun (i34:Nat) (i:(List Zp)) b=>
       if b=true then
        some (.inl true)
       else
        (ZLt i d.binding).bind fun j=>
        some (.inl j))
      (fun b=>
       if b=true then
        some (.inl a)
       else
        (Zb7 d.binding).bind fun k=>
        chk (a.length+1≤1073741824) <|
        some (.inl (a++[k])))
      a 0 false)
    (fun a=>
     some (a,true))
    g 0 []
  else
   some ([],false)
 else
  some ([],false)
end
section
section
variable {α σ ρ:Type} {body:Nat→α→σ→Option (σ ⊕ ρ)} {fin:σ→Option ρ}
theorem ZkA (i:Nat) (s:σ):forL body fin [] i s=fin s:=rfl
theorem ZV {x:α} {l:List α} {i:Nat} {s s':σ} (h:body i x s=some (.inl s')):forL body fin (x::l) i s=forL body fin l (i+1) s':=by simp only[forL,h]
theorem Ya {x:α} {l:List α} {i:Nat} {s:σ} {r:ρ} (h:body i x s=some (.inr r)):forL body fin (x::l) i s=some r:=by simp only[forL,h]
theorem ZW {p:α→Bool} {r:ρ}:∀{l:List α} {i:Nat} {s:σ},(∀i x,x∈l→body i x s=some (bif p x then .inl s else .inr r))→forL body fin l i s=if l.all p=true then fin s else some r
 | [],_,_,_=>by simp [forL]
 | x::l,i,s,h=>by
  have hx:=h i x (by simp)
  by_cases hp:p x=true
  ·rw [hp,cond_true] at hx
   rw [ZV hx,ZW fun j y my=>h j y (by simp [my])]
   simp [hp]
  ·rw [eq_false_of_ne_true hp,cond_false] at hx
   rw [Ya hx]
   simp [hp]
theorem Zc7 {p:α→Bool} {r:ρ}:∀{l:List α} {i:Nat} {s:σ},(∀i x,x∈l→body i x s=some (bif p x then .inr r else .inl s))→forL body fin l i s=if l.any p=true then some r else fin s
 | [],_,_,_=>by simp [forL]
 | x::l,i,s,h=>by
  have hx:=h i x (by simp)
  by_cases hp:p x=true
  ·rw [hp,cond_true] at hx
   rw [Ya hx]
   simp [hp]
  ·rw [eq_false_of_ne_true hp,cond_false] at hx
   rw [ZV hx,Zc7 fun j y my=>h j y (by simp [my])]
   simp [hp]
theorem XE {f:σ→α→σ} (I:Nat→σ→Prop):∀{l:List α} {i:Nat} {s:σ},I i s→(∀j x s,x∈l→i≤j→j<i+l.length→I j s→body j x s=some (.inl (f s x))∧I (j+1) (f s x))→forL body fin l i s=fin (l.foldl f s)
 | [],_,_,_,_=>rfl
 | x::l,i,s,h0,h=>by
  obtain ⟨h1,h2⟩:=h i x s (by simp) (by omega) (by simp) h0
  rw [ZV h1,XE I h2 fun j y s my hj hl=>h j y s (by simp [my]) (by omega) (by simp at hl ⊢;omega)]
  rfl
theorem Zke {f:σ→α→σ} {l:List α} {i:Nat} {s:σ} (h:∀j x s,x∈l→body j x s=some (.inl (f s x))):forL body fin l i s=fin (l.foldl f s):=
 XE (fun _ _=>True) trivial fun j x s mx _ _ _=>⟨h j x s mx,trivial⟩
theorem Q6 (g:List α→Nat→σ→Option ρ) (I:List α→Nat→σ→Prop) (h0:∀i s,I [] i s→fin s=g [] i s)
  (h1:∀x l i s,I (x::l) i s→(∃s',body i x s=some (.inl s')∧I l (i+1) s'∧g (x::l) i s=g l (i+1) s')∨(∃r,body i x s=some (.inr r)∧g (x::l) i s=some r)):∀(l:List α) (i:Nat) (s:σ),I l i s→forL body fin l i s=g l i s
 | [],i,s,h=>h0 i s h
 | x::l,i,s,h=>by
  rcases h1 x l i s h with ⟨s',e1,e2,e3⟩ | ⟨r,e1,e2⟩
  ·rw [ZV e1,Q6 g I h0 h1 l (i+1) s' e2,e3]
  ·rw [Ya e1,e2]
end
def Zar {α:Type} (p:Nat→α→Bool):List α→Nat→Bool
 | [],_=>true
 | x::l,i=>p i x&&Zar p l (i+1)
theorem ZnB {α:Type} {p:Nat→α→Bool}:∀{l:List α} {i:Nat},Zar p l i=true→∀j x,l[j]?=some x→p (i+j) x=true
 | [],_,_,j,x,hx=>by simp at hx
 | y::l,i,h,0,x,hx=>by simp only[Zar,AA] at h;simp at hx;subst hx;exact h.1
 | y::l,i,h,j+1,x,hx=>by
  simp only[Zar,AA] at h
  have:=ZnB h.2 j x (by simpa using hx)
  rwa [show i+(j+1)=i+1+j by omega]
section
variable {α σ ρ:Type} {body:Nat→α→σ→Option (σ ⊕ ρ)} {fin:σ→Option ρ}
theorem Xh {p:Nat→α→Bool} {r:ρ}:∀{l:List α} {i:Nat} {s:σ},(∀j x,l[j]?=some x→body (i+j) x s=some (bif p (i+j) x then .inl s else .inr r))→forL body fin l i s=if Zar p l i=true then fin s else some r
 | [],_,_,_=>by simp [forL,Zar]
 | x::l,i,s,h=>by
  have hx:=h 0 x (by simp)
  simp only[Nat.add_zero] at hx
  by_cases hp:p i x=true
  ·rw [hp,cond_true] at hx
   rw [ZV hx,Xh fun j y hy=>by have:=h (j+1) y (by simpa using hy);rwa [show i+(j+1)=i+1+j by omega] at this]
   simp [Zar,hp]
  ·rw [eq_false_of_ne_true hp,cond_false] at hx
   rw [Ya hx]
   simp [Zar,hp]
theorem Yk {β:Type} {g:α→Option β} {fin:List β→Option ρ} {body:Nat→α→List β→Option (List β ⊕ ρ)}:∀{l:List α} {i:Nat} {acc:List β},(∀j x s,x∈l→s.length+1≤acc.length+l.length→body j x s=some (.inl (s++(g x).toList)))→forL body fin l i acc=fin (acc++l.filterMap g)
 | [],_,acc,_=>by simp [forL]
 | x::l,i,acc,h=>by
  rw [ZV (h i x acc (by simp) (by simp))]
  rw [Yk fun j y s my hs=>h j y s (by simp [my]) (by cases hg:g x<;>simp [hg] at hs ⊢<;>omega)]
  congr 1
  cases hg:g x<;>simp [hg]
theorem Zk3 {β:Type} {g:α→β} {fin:List β→Option ρ} {body:Nat→α→List β→Option (List β ⊕ ρ)} {l:List α} {i:Nat} {acc:List β} (h:∀j x s,x∈l→s.length+1≤acc.length+l.length→body j x s=some (.inl (s++[g x]))):forL body fin l i acc=fin (acc++l.map g):=by
 rw [Yk (g:=fun x=>some (g x)) h,List.filterMap_eq_map']
theorem ZdF {p:α→Bool} {fin:List α→Option ρ} {body:Nat→α→List α→Option (List α ⊕ ρ)} {l:List α} {i:Nat} {acc:List α} (h:∀j x s,x∈l→s.length+1≤acc.length+l.length→body j x s=some (.inl (if p x=true then s++[x] else s))):forL body fin l i acc=fin (acc++l.filter p):=by
 rw [Yk (g:=fun x=>if p x=true then some x else none) fun j x s mx hs=>by rw [h j x s mx hs];split<;>simp]
 congr 2
 induction l with
 | nil=>rfl
 | cons x l ih=>
  have ih:=ih fun j y s my hs=>h j y s (by simp [my]) (by simp at hs ⊢;omega)
  by_cases hp:p x=true<;>simp [hp,ih]
end
/- texts -/
theorem ZN {x y:ByteArray}:sEq x y=true↔x=y:=by simp [sEq]
theorem ZrS {x y:ByteArray}:sEq x y=false↔¬x=y:=by simp [sEq]
theorem ZtY (x:ByteArray):sEq x x=true:=ZN.2 rfl
theorem ZeP {x y:ByteArray} (h:toL x=toL y):x=y:=by rw [←Zh4 x,←Zh4 y,h]
theorem Zco (x:ByteArray):(toL x).length=x.size:=by rw [toL,Aa,Array.length_toList]
theorem ZgP:∀(a b:List UInt8),Op.bytesLess a b=true↔a<b
 | [],[]=>by simp [Op.bytesLess]
 | [],_::_=>by simp [Op.bytesLess]
 | _::_,[]=>by simp [Op.bytesLess]
 | x::a,y::b=>by
  rw [List.cons_lt_cons_iff,←ZgP a b]
  simp only[Op.bytesLess]
  by_cases h:x<y
  ·simp [h]
  ·by_cases h2:x=y
   ·subst h2;simp [h]
   ·simp [h,h2]
theorem ZeM {x y:ByteArray}:sLt x y=true↔toL x<toL y:=by
 unfold sLt toL
 rw [ZgP,AL,AL]
theorem Zhi (x:ByteArray):sLt x x=false:=by
 cases h:sLt x x with
 | false=>rfl
 | true=>exact absurd (ZeM.1 h) (List.lt_irrefl _)
theorem ZdU {x y z:ByteArray} (h1:sLt x y=true) (h2:sLt y z=true):sLt x z=true:=ZeM.2 (List.lt_trans (ZeM.1 h1) (ZeM.1 h2))
theorem ZiN {x y:ByteArray} (h1:sLt x y=true):sLt y x=false:=by
 cases h:sLt y x with
 | false=>rfl
 | true=>have:=ZdU h1 h;rw [Zhi] at this;simp at this
theorem ZnR {x y:ByteArray} (h:sLt x y=true):¬x=y:=fun e=>by rw [e,Zhi] at h;simp at h
theorem Zd2 {x y:ByteArray} (h1:sLt x y=false) (h2:¬x=y):sLt y x=true:=by
 rcases Std.lt_trichotomy (toL x) (toL y) with h | h | h
 ·rw [ZeM.2 h] at h1;simp at h1
 ·exact absurd (ZeP h) h2
 ·exact ZeM.2 h
def Asc (l:List ByteArray):Prop:=l.Pairwise fun x y=>sLt x y=true
theorem Znf:∀{a b:List ByteArray},Asc a→Asc b→(∀x,x∈a↔x∈b)→a=b
 | [],[],_,_,_=>rfl
 | [],y::b,_,_,h=>by have:=(h y).2 (by simp);simp at this
 | x::a,[],_,_,h=>by have:=(h x).1 (by simp);simp at this
 | x::a,y::b,ha,hb,h=>by
  unfold Asc at ha hb
  rw [A7] at ha hb
  have hxy:x=y:=by
   have h1:=(h x).1 (by simp)
   have h2:=(h y).2 (by simp)
   rcases A5.1 h1 with h1 | h1
   ·exact h1
   ·rcases A5.1 h2 with h2 | h2
    ·exact h2.symm
    ·have:=ZiN (ha.1 y h2);rw [hb.1 x h1] at this;simp at this
  subst hxy
  congr 1
  refine Znf ha.2 hb.2 fun z=>?_
  have hz:=h z
  simp only[A5] at hz
  constructor
  ·intro m
   rcases hz.1 (.inr m) with e | m'
   ·exact absurd e.symm (ZnR (ha.1 z m))
   ·exact m'
  ·intro m
   rcases hz.2 (.inr m) with e | m'
   ·exact absurd e.symm (ZnR (hb.1 z m))
   ·exact m'
def XW:List ByteArray→ByteArray→List ByteArray
 | [],s=>[s]
 | x::r,s=>if sLt x s=true then x::XW r s else if sEq x s=true then x::r else s::x::r
theorem Zhu {y s:ByteArray}:∀{l:List ByteArray},y∈XW l s↔y=s∨y∈l
 | []=>by simp [XW]
 | x::r=>by
  simp only[XW]
  split
  ·simp only[A5,Zhu (l:=r)]
   constructor<;>(intro h;rcases h with h | h | h<;>simp [h])
  ·split
   ·rename_i h
    have:=ZN.1 h
    subst this
    simp
   ·simp
theorem ZfN {s:ByteArray}:∀{l:List ByteArray},Asc l→Asc (XW l s)
 | [],_=>by simp [XW,Asc]
 | x::r,h=>by
  have h':=h
  unfold Asc at h'
  rw [A7] at h'
  simp only[XW]
  split
  ·rename_i hx
   refine A7.2 ⟨fun y my=>?_,ZfN h'.2⟩
   rcases Zhu.1 my with rfl | my
   ·exact hx
   ·exact h'.1 y my
  ·split
   ·exact h
   ·rename_i hx hne
    have hsx:sLt s x=true:=Zd2 (by simpa using hx) (fun e=>hne (ZN.2 e))
    refine A7.2 ⟨fun y my=>?_,h⟩
    rcases A5.1 my with rfl | my
    ·exact hsx
    ·exact ZdU hsx (h'.1 y my)
theorem Zc6 (s:ByteArray):∀l:List ByteArray,(XW l s).length≤l.length+1
 | []=>by simp [XW]
 | x::r=>by
  have:=Zc6 s r
  simp only[XW]
  split
  ·simp;omega
  ·split<;>simp
def ZQ (l:List ByteArray):List ByteArray:=l.foldl XW []
theorem XC:∀(l acc:List ByteArray),Asc acc→Asc (l.foldl XW acc)∧(∀x,x∈l.foldl XW acc↔x∈l∨x∈acc)∧(l.foldl XW acc).length≤l.length+acc.length
 | [],acc,h=>⟨h,fun x=>by simp,by simp⟩
 | y::l,acc,h=>by
  obtain ⟨h1,h2,h3⟩:=XC l (XW acc y) (ZfN h)
  refine ⟨h1,fun x=>?_,?_⟩
  ·rw [AF,h2 x,Zhu]
   rw [A5]
   constructor
   ·rintro (h | h | h)<;>simp [h]
   ·rintro ((h | h) | h)<;>simp [h]
  ·have:=Zc6 y acc
   rw [AF]
   simp only[AD]
   omega
theorem ZbR (l:List ByteArray):Asc (ZQ l):=(XC l [] A8).1
theorem ZS {x:ByteArray} {l:List ByteArray}:x∈ZQ l↔x∈l:=by have:=(XC l [] A8).2.1 x;rw [ZQ,this];simp
theorem Zdy (l:List ByteArray):(ZQ l).length≤l.length:=(XC l [] A8).2.2
theorem Zez {a l:List ByteArray} (h:Asc a) (hm:∀x,x∈a↔x∈l):a=ZQ l:=Znf h (ZbR l) fun x=>by rw [hm,ZS]
theorem Zlx {a b:List ByteArray} (h:∀x,x∈a↔x∈b):ZQ a=ZQ b:=Zez (ZbR a) fun x=>by rw [ZS,h]
def Yj (l:List ByteArray) (s:ByteArray):Bool:=l.any fun x=>sEq x s
theorem XD {l:List ByteArray} {s:ByteArray}:Yj l s=true↔s∈l:=by
 simp only[Yj,List.any_eq_true,ZN]
 constructor
 ·rintro ⟨x,h,rfl⟩;exact h
 ·exact fun h=>⟨s,h,rfl⟩
/- sorting -/
theorem ZrE {x:ByteArray} {l:List ByteArray}:x∈Zeg l↔x∈l:=by
 simp only[Zeg,Ab,List.mem_mergeSort]
 constructor
 ·rintro ⟨y,⟨z,hz,rfl⟩,rfl⟩;rw [Zh4];exact hz
 ·exact fun h=>⟨toL x,⟨x,h,rfl⟩,Zh4 x⟩
theorem ZsJ (l:List ByteArray):(Zeg l).length=l.length:=by simp [Zeg]
theorem Zto (l:List ByteArray):(Zeg l).Pairwise fun x y=>sLt y x=false:=by
 unfold Zeg
 rw [List.pairwise_map]
 have:=List.pairwise_mergeSort (le:=fun x y:List UInt8=>decide (x≤y)) (fun a b c h1 h2=>by simp at h1 h2 ⊢;exact List.le_trans h1 h2) (fun a b=>by simp;exact List.le_total a b) (l.map toL)
 refine this.imp fun {a b} h=>?_
 cases hh:sLt (ofL b) (ofL a) with
 | false=>rfl
 | true=>
  have h1:=ZeM.1 hh
  rw [ZbD,ZbD] at h1
  have h2:a≤b:=by simpa using h
  exact absurd h1 (List.not_lt.2 h2)
end
theorem Zde (a b:ByteArray):toL (a++b)=toL a++toL b:=by simp [toL]
theorem ZqQ (a b:List UInt8):ofL (a++b)=ofL a++ofL b:=ZeP (by rw [Zde,ZbD,ZbD,ZbD])
theorem Zff (a:List UInt8):(ofL a).size=a.length:=by rw [←Zco,ZbD]
theorem Zui (a b c:ByteArray):(a++b)++c=a++(b++c):=ZeP (by simp only[Zde,List.append_assoc])
theorem ZuK (a b:ByteArray):(a++b).size=a.size+b.size:=by rw [←Zco,←Zco,←Zco,Zde,AO]
theorem Zdu {n:Int} (h0:-9223372036854775808≤n) (h1:n≤9223372036854775807):IntKind.i64.wrap n=n:=by rw [IntKind.wrap_i64];omega
theorem ZsN (u:Nat) (hu:u<9223372036854775808):YQ [IntKind.u8.wrap (IntKind.i64.wrap (48+Int.tmod (u:Int) 10))]=ofL [AP (48+u % 10)]:=by
 have h1:Int.tmod (u:Int) 10=((u % 10:Nat):Int):=by rw [Int.tmod_eq_emod_of_nonneg (by omega)];omega
 rw [h1,Zdu (by omega) (by omega),IntKind.wrap_u8,show (48+((u % 10:Nat):Int)) % 256=((48+u % 10:Nat):Int) by omega]
 apply ZeP
 rw [ZbD]
 simp only[YQ,List.map_cons,List.map_nil,toL,AE]
theorem ZuH (u:Nat) (hu:u<9223372036854775808):IntKind.i64.wrap (Int.tdiv (u:Int) 10)=((u / 10:Nat):Int):=by
 rw [Int.tdiv_eq_ediv_of_nonneg (by omega),Zdu (by omega) (by omega)]
 omega
theorem Ztj {body:Int × ByteArray→Option ((Int × ByteArray) ⊕ ByteArray)} (hb:∀n t,body (n,t)=chk ((YQ [IntKind.u8.wrap (IntKind.i64.wrap (48+Int.tmod n 10))]).size+t.size≤9223372036854775807)
   (if (IntKind.i64.wrap (Int.tdiv n 10)==0)=true then some (.inr (YQ [IntKind.u8.wrap (IntKind.i64.wrap (48+Int.tmod n 10))]++t)) else some (.inl (IntKind.i64.wrap (Int.tdiv n 10),YQ [IntKind.u8.wrap (IntKind.i64.wrap (48+Int.tmod n 10))]++t)))):
  ∀(u:Nat) (t:ByteArray),u<9223372036854775808→t.size+Lib.nDigits u≤1000→iter body ((u:Int),t)=some (ofL (Lib.decDigits u)++t):=by
 intro u
 induction u using Nat.strongRecOn with
 | ind u ih=>
  intro t hu ht
  rw [Zig,hb,ZsN u hu,ZuH u hu]
  have hp:=Lib.nDigits_pos u
  rw [Zi _ (by rw [Zff];simp;omega)]
  by_cases h:u<10
  ·have h0:u / 10=0:=by omega
   rw [h0,Lib.decDigits_one h,show u % 10=u by omega]
   rfl
  ·have h0:¬(((u / 10:Nat):Int)==0)=true:=by simp;omega
   rw [if_neg h0]
   have hd:=Lib.nDigits_big h
   show iter body (((u / 10:Nat):Int),ofL [AP (48+u % 10)]++t)=_
   rw [ih (u / 10) (by omega) _ (by omega) (by rw [ZuK,Zff];simp;omega),←Zui,←ZqQ]
   congr 2
   rw [show Lib.decDigits u=Lib.decDigits (u / 10)++[AP (48+u % 10)] by rw [Lib.decDigits,dif_neg h]]
theorem ZyO (t:ByteArray):t++(⟨#[]⟩:ByteArray)=t:=ZeP (by rw [Zde];simp [toL])
theorem Zmt {body:Int × ByteArray→Option ((Int × ByteArray) ⊕ ByteArray)} (hb:∀n t,body (n,t)=chk ((YQ [IntKind.u8.wrap (IntKind.i64.wrap (48+Int.tmod n 10))]).size+t.size≤9223372036854775807)
   (if (IntKind.i64.wrap (Int.tdiv n 10)==0)=true then some (.inr (YQ [IntKind.u8.wrap (IntKind.i64.wrap (48+Int.tmod n 10))]++t)) else some (.inl (IntKind.i64.wrap (Int.tdiv n 10),YQ [IntKind.u8.wrap (IntKind.i64.wrap (48+Int.tmod n 10))]++t))))
  {n:Int} (h0:0≤n) (h1:n≤9223372036854775807):iter body (n,⟨#[]⟩)=some (ofL (Lib.itoa n)):=by
 obtain ⟨u,rfl⟩:∃u:Nat,n=(u:Int):=⟨n.toNat,by omega⟩
 have:=Lib.nDigits_le20 u (by omega)
 rw [Ztj hb u _ (by omega) (by show 0+_≤_;omega),ZyO,Lib.itoa_nonneg]
theorem ZqM:ofL (Lib.itoa (-9223372036854775808))=(⟨#[45,57,50,50,51,51,55,50,48,51,54,56,53,52,55,55,53,56,48,56]⟩:ByteArray):=by
 rw [show (-9223372036854775808:Int)=-((9223372036854775808:Nat):Int) by rfl,Lib.itoa_neg _ (by omega),Lib.decDigits_eq,Lib.nDigits_unique 18 _ (by decide) (by decide)]
 decide +kernel
theorem Zin {n:Int} (h0:0≤n) (h1:n≤9223372036854775807):Q4 n=some (ofL (Lib.itoa n)):=by
 unfold Q4
 rw [if_neg (by simp;omega),if_neg (by simp;omega)]
 exact Zmt (fun _ _=>rfl) h0 h1
theorem ZfT {n:Int} (h:ZoN n):XO n=some (ofL (Lib.itoa n)):=by
 unfold XO
 by_cases hm:n=-9223372036854775808
 ·subst hm
  rw [if_pos (by decide),ZqM]
 ·rw [if_neg (by simpa using hm)]
  by_cases hn:n<0
  ·have h2:ZoN n:=h
   unfold ZoN at h2
   rw [if_pos (by simpa using hn),Zdu (by omega) (by omega),Zin (by omega) (by omega),A0]
   obtain ⟨u,rfl⟩:∃u:Nat,n=-(u:Int):=⟨n.natAbs,by omega⟩
   rw [show (0 - -(u:Int))=(u:Int) by omega,Lib.itoa_nonneg,Lib.itoa_neg u (by omega)]
   have:=Lib.nDigits_le20 u (by omega)
   rw [Zi _ (by rw [Zff,Lib.decDigits_length];show 1+_≤_;omega)]
   exact congrArg some (ZeP (by rw [Zde,ZbD,ZbD];rfl))
  ·rw [if_neg (by simpa using hn)]
   exact Zmt (fun _ _=>rfl) (by omega) h.2
theorem ZcV {n:Int} (h:ZoN n):Zav n=some (ofL (Lib.itoa n)):=by
 have h2:-9223372036854775808≤n∧n≤9223372036854775807:=h
 unfold Zav Zno
 rw [Zi _ h2]
 rfl
theorem Zss {n:Int} (h:ZoN n):(ofL (Lib.itoa n)).size≤21:=by
 rw [Zff]
 exact Lib.itoa_length_le n h.1 h.2
def ZaY (b:UInt8):Bool:=(decide (97≤b.toNat)&&decide (b.toNat≤122))||(decide (48≤b.toNat)&&decide (b.toNat≤57))
def ZP (s:ByteArray):Bool:=decide (1≤s.size)&&decide (s.size≤8)&&(toL s).all ZaY
theorem Zgf (x a b:Int):Za5 x a b=some (decide (a≤x)&&decide (x≤b)):=by
 unfold Za5
 by_cases h:a≤x<;>simp [h]
theorem Zmj (b:UInt8):IntKind.i64.wrap ((b.toNat:Nat):Int)=((b.toNat:Nat):Int):=Xn (by omega) (by have:=b.toNat_lt;omega)
theorem QQ {b:UInt8}:ZaY b=true↔(97≤b.toNat∧b.toNat≤122)∨(48≤b.toNat∧b.toNat≤57):=by
 simp only[ZaY,Ac,AA,decide_eq_true_eq]
theorem XQ (s:ByteArray):X3 s=some (ZP s):=by
 unfold X3 ZP
 rw [show s.data.toList=toL s from rfl,ZW (p:=ZaY) (r:=false)]
 ·simp only[Zgf,A0]
  cases (toL s).all ZaY with
  | true=>
   simp only[if_true,Bool.and_true]
   congr 1
   rw [A9]
   simp only[AA,decide_eq_true_eq]
   omega
  | false=>simp
 ·intro i x _
  simp only[Zgf,A0,Zmj,AA,decide_eq_true_eq]
  cases hp:ZaY x with
  | true=>
   have:=QQ.1 hp
   repeat' split
   all_goals first | rfl | (exfalso;omega) | (exfalso;simp_all;done)
  | false=>
   have:=mt (QQ (b:=x)).2 (by simp [hp])
   repeat' split
   all_goals first | rfl | (exfalso;omega) | (exfalso;simp_all;done)
theorem XP (s:ByteArray):X5 s=some (ZP s):=by
 unfold X5 ZP
 simp only[decide_eq_true_eq]
 rw [show s.data.toList=toL s from rfl,ZW (p:=ZaY) (r:=false)]
 ·repeat' split
  ·rw [decide_eq_false (show ¬1≤s.size by omega)];rfl
  ·rw [decide_eq_false (show ¬s.size≤8 by omega)];simp
  ·rename_i h;rw [h,decide_eq_true (show 1≤s.size by omega),decide_eq_true (show s.size≤8 by omega)];rfl
  ·rename_i h;rw [eq_false_of_ne_true h];simp
 ·intro i x _
  cases hp:ZaY x with
  | true=>
   have:=QQ.1 hp
   repeat' split
   all_goals first | rfl | (exfalso;omega) | (exfalso;simp_all;done)
  | false=>
   have:=mt (QQ (b:=x)).2 (by simp [hp])
   repeat' split
   all_goals first | rfl | (exfalso;omega) | (exfalso;simp_all;done)
def ZgS (s:ByteArray):UInt8:=(toL s).headD 0
theorem ZhG {s:ByteArray} (h:1≤s.size):sAt s 0=some (ZgS s):=by
 unfold sAt ZgS
 have hl:0<(toL s).length:=by rw [Zco];omega
 have:(toL s)[0]?=some ((toL s).headD 0):=by
  cases hh:toL s with
  | nil=>rw [hh] at hl;simp at hl
  | cons a r=>simp
 rw [if_pos (by omega)]
 exact Znm this
def Qc (s:ByteArray):Bool:=ZP s&&decide (97≤(ZgS s).toNat)
theorem ZeH {s:ByteArray} (h:ZP s=true):1≤s.size∧s.size≤8:=by
 simp only[ZP,AA,decide_eq_true_eq] at h
 exact h.1
theorem ZhU {s:ByteArray} (h:ZP s=true):ZaY (ZgS s)=true:=by
 have hs:=ZeH h
 simp only[ZP,AA] at h
 have hl:0<(toL s).length:=by rw [Zco];omega
 refine AG.1 h.2 _ ?_
 unfold ZgS
 cases hh:toL s with
 | nil=>rw [hh] at hl;simp at hl
 | cons a r=>simp
theorem ZfH (s:ByteArray):ZcY s=some (Qc s):=by
 unfold ZcY Qc
 rw [XQ,A0]
 cases h:ZP s with
 | false=>simp
 | true=>
  simp only[if_true,ZhG (ZeH h).1,A0,Zgf,Zmj,A4]
  have hb:=QQ.1 (ZhU h)
  congr 1
  rw [A9]
  simp only[AA,decide_eq_true_eq]
  omega
theorem Zft (s:ByteArray):Zdg s=some (Qc s):=by
 unfold Zdg Qc
 rw [XP,A0]
 cases h:ZP s with
 | false=>simp
 | true=>
  simp only[if_true,ZhG (ZeH h).1,A0,A4]
  congr 1
  rw [A9]
  simp only[decide_eq_true_eq]
  omega
def ZsT (s:ByteArray):ByteArray:=s.extract 1 s.size
def Ye (s:ByteArray):Bool:=decide (1<s.size)&&decide ((ZgS s).toNat=63)&&ZP (ZsT s)
theorem Qt (s:ByteArray):Zab s=some (Ye s):=by
 unfold Zab Ye ZsT
 by_cases h:1<s.size
 ·have h':(1:Int)<((s.size:Nat):Int):=by omega
  simp only[h',h,decide_true,if_true,ZhG (show 1≤s.size by omega),A0,A4]
  rw [Zi _ ⟨by omega,by omega⟩,show A3 1=1 from rfl,XQ,A0]
  by_cases h2:(ZgS s).toNat=63
  ·simp [h2]
  ·have:¬((ZgS s).toNat:Int)=63:=by omega
   simp [h2,this]
 ·have h':¬(1:Int)<((s.size:Nat):Int):=by omega
  simp [h',h]
theorem ZcI (s:ByteArray):Zcp s=some (Ye s):=by
 unfold Zcp Ye ZsT
 by_cases h:1<s.size
 ·have h':(1:Int)<((s.size:Nat):Int):=by omega
  simp only[h',h,decide_true,if_true,ZhG (show 1≤s.size by omega),A0,A4]
  rw [Zi _ ⟨by omega,by omega⟩,show A3 1=1 from rfl,XP,A0]
  by_cases h2:(ZgS s).toNat=63
  ·simp [h2]
  ·have:¬((ZgS s).toNat:Int)=63:=by omega
   simp [h2,this]
 ·have h':¬(1:Int)<((s.size:Nat):Int):=by omega
  simp [h',h]
def Yi (s:ByteArray):Bool:=ZP s||Ye s
theorem Zi3 (s:ByteArray):Qv s=some (Yi s):=by
 unfold Qv Yi
 rw [XQ,Qt]
 cases ZP s<;>simp
theorem ZiT (s:ByteArray):Qx s=some (Yi s):=by
 unfold Qx Yi
 rw [XP,ZcI]
 cases ZP s<;>simp
theorem YF (l:List ByteArray) (s:ByteArray):ZR l s=some (Yj l s):=by
 unfold ZR Yj
 rw [Zc7 (p:=fun x=>sEq x s) (r:=true)]
 ·cases l.any fun x=>sEq x s<;>simp
 ·intro i x _
  cases sEq x s<;>simp
theorem QO (l:List ByteArray) (s:ByteArray):YV l s=some (Yj l s):=by
 unfold YV Yj
 rw [Zc7 (p:=fun x=>sEq x s) (r:=true)]
 ·cases l.any fun x=>sEq x s<;>simp
 ·intro i x _
  cases sEq x s<;>simp
theorem XV (l:List ByteArray) (s:ByteArray) (h:l.length+1≤1073741824):XA l s=some (XW l s):=by
 unfold XA
 refine (Q6 (fun l _ (st:List ByteArray × Bool)=>some (if st.2=true then st.1++l else st.1++XW l s)) (fun l _ (st:List ByteArray × Bool)=>st.1.length+l.length+(if st.2=true then 0 else 1)≤1073741824) ?_ ?_ l 0 ([],false) (by simpa using h)).trans (by simp)
 ·rintro i ⟨row,d⟩ hI
  cases d with
  | true=>simp
  | false=>simp only[A6,if_false,XW];simp at hI;rw [Zi _ (by omega)]
 ·rintro x l i ⟨row,d⟩ hI
  left
  cases d with
  | true=>
   simp at hI
   exact ⟨(row++[x],true),by simp only[if_true];rw [Zi _ (by omega)],by simp;omega,by simp⟩
  | false=>
   simp at hI
   cases h1:sLt x s with
   | true=>exact ⟨(row++[x],false),by simp only[A6,if_false,if_true];rw [Zi _ (by omega)],by simp;omega,by simp [XW,h1]⟩
   | false=>
    cases h2:sEq x s with
    | true=>exact ⟨(row++[x],true),by simp only[A6,if_false,if_true];rw [Zi _ (by omega)],by simp;omega,by simp [XW,h1,h2]⟩
    | false=>exact ⟨(row++[s]++[x],true),by simp only[A6,if_false];rw [Zi _ (by omega),Zi _ (by omega)],by simp;omega,by simp [XW,h1,h2]⟩
def YX:ByteArray→List ByteArray→List ByteArray
 | _,[]=>[]
 | y,x::r=>if sEq y x=true then YX x r else x::YX x r
def ZkN:List ByteArray→List ByteArray
 | []=>[]
 | x::r=>x::YX x r
theorem Zey {z:ByteArray}:∀{l:List ByteArray} {y:ByteArray},z∈YX y l→z∈l
 | [],_,h=>by simp [YX] at h
 | x::r,y,h=>by
  simp only[YX] at h
  split at h
  ·exact AQ _ (Zey h)
  ·rcases A5.1 h with rfl | h
   ·simp
   ·exact AQ _ (Zey h)
theorem Zh9 {z:ByteArray}:∀{l:List ByteArray} {y:ByteArray},z∈l→z=y∨z∈YX y l
 | [],_,h=>by simp at h
 | x::r,y,h=>by
  simp only[YX]
  rcases A5.1 h with rfl | h
  ·split
   ·rename_i e;exact .inl (ZN.1 e).symm
   ·simp
  ·rcases Zh9 (y:=x) h with rfl | h'
   ·split
    ·rename_i e;exact .inl (ZN.1 e).symm
    ·simp
   ·split
    ·exact .inr h'
    ·exact .inr (AQ _ h')
theorem Zhv:∀{l:List ByteArray} {y:ByteArray},(y::l).Pairwise (fun a b=>sLt b a=false)→Asc (y::YX y l)
 | [],_,_=>by simp [YX,Asc]
 | x::r,y,h=>by
  rw [A7] at h
  have ih:=Zhv h.2
  simp only[YX]
  split
  ·rename_i e
   have e':=ZN.1 e
   subst e'
   exact ih
  ·rename_i e
   have hyx:sLt y x=true:=Zd2 (h.1 x (by simp)) (fun h=>e (ZN.2 h.symm))
   refine A7.2 ⟨fun z mz=>?_,ih⟩
   rcases A5.1 mz with rfl | mz
   ·exact hyx
   ·exact ZdU hyx ((A7.1 ih).1 z mz)
theorem ZnU (l:List ByteArray):ZkN (Zeg l)=ZQ l:=by
 have hs:=Zto l
 refine Zez ?_ fun x=>?_
 ·cases h:Zeg l with
  | nil=>simp [ZkN,Asc]
  | cons y r=>rw [h] at hs;exact Zhv hs
 ·rw [←ZrE (l:=l)]
  cases h:Zeg l with
  | nil=>simp [ZkN]
  | cons y r=>
   simp only[ZkN,A5]
   constructor
   ·rintro (rfl | h)
    ·exact .inl rfl
    ·exact .inr (Zey h)
   ·rintro (rfl | h)
    ·exact .inl rfl
    ·exact Zh9 h
theorem XG (l:List ByteArray) (h:l.length≤1073741824):Yb l=some (ZQ l):=by
 unfold Yb
 rw [Zi _ h,ZbK,Zi _ (by omega),A0]
 have hl:=ZsJ l
 rw [←ZnU]
 generalize Zeg l=v at hl
 refine (Q6 (fun r i (row:List ByteArray)=>some (row++match i with | 0=>ZkN r | i+1=>(match v[i]? with | some y=>YX y r | none=>[]))) (fun r i row=>v.drop i=r∧row.length≤i∧i≤v.length) ?_ ?_ v 0 [] ⟨by simp,by simp,by simp⟩).trans (by simp)
 ·rintro i row ⟨h1,h2,h3⟩
  cases i with
  | zero=>simp [ZkN]
  | succ i=>cases hv:v[i]?<;>simp [YX,hv]
 ·rintro x r i row ⟨h1,h2,h3⟩
  left
  have hi:v[i]?=some x:=by have:=congrArg (fun l=>l[0]?) h1;simpa using this
  have hlt:i<v.length:=(AH.1 hi).1
  have hr:v.drop (i+1)=r:=by have:=congrArg AR h1;simpa using this
  cases i with
  | zero=>
   refine ⟨row++[x],?_,⟨hr,by simp at h2 ⊢;simp [h2],by omega⟩,?_⟩
   ·simp only[Int.natCast_zero,beq_self_eq_true,if_true]
    rw [Zi _ (by omega)]
   ·simp [ZkN,hi]
  | succ i=>
   have hw:IntKind.i64.wrap (((i+1:Nat):Int) - 1)=((i:Nat):Int):=by rw [Xn (by omega) (by omega)];omega
   have hne:((((i+1:Nat):Int))==0)=false:=by rw [beq_eq_false_iff_ne];omega
   obtain ⟨y,hy⟩:∃y,v[i]?=some y:=⟨v[i],by simp⟩
   simp only[hne,A6,if_false,hw,AE,hy,A0]
   cases he:sEq y x with
   | true=>
    refine ⟨row,?_,⟨hr,by omega,by omega⟩,?_⟩
    ·rw [Zi _ ⟨by omega,by omega⟩];rfl
    ·simp [YX,he,hi]
   | false=>
    refine ⟨row++[x],?_,⟨hr,by simp;omega,by omega⟩,?_⟩
    ·rw [Zi _ ⟨by omega,by omega⟩]
     simp only[A6,if_false]
     rw [Zi _ (by omega)]
    ·simp [YX,he,hi]
theorem Zfl (l:List ByteArray) (h:l.length≤1073741824):Zaw l=some l:=by
 unfold Zaw
 rw [Zi _ h]
theorem ZnL (l:List ByteArray) (h:l.length≤1073741824):Zeq l=some l:=by
 unfold Zeq
 rw [Zi _ h]
theorem Zkw {ρ:Type} {fin:List ByteArray→Option ρ} {body:Nat→ByteArray→List ByteArray→Option (List ByteArray ⊕ ρ)} (hb:∀j x s,body j x s=(XA s x).bind fun v=>some (.inl v)) {l acc:List ByteArray} (h:acc.length+l.length≤1073741824):forL body fin l 0 acc=fin (l.foldl XW acc):=by
 refine XE (f:=XW) (fun j s=>s.length≤acc.length+j) (by omega) fun j x s mx hj hl hI=>?_
 have hp:=Zc6 x s
 exact ⟨by rw [hb,XV _ _ (by omega)];rfl,by omega⟩
theorem QL {α σ ρ:Type} {body:Nat→α→σ→Option (σ ⊕ ρ)} {fin:σ→Option ρ} (st:List α→σ) (l:List α) (h:∀p x q,l=p++x::q→body p.length x (st p)=some (.inl (st (p++[x])))):forL body fin l 0 (st [])=fin (st l):=by
 have key:∀(q p:List α),l=p++q→forL body fin q p.length (st p)=fin (st l):=by
  intro q
  induction q with
  | nil=>intro p e;rw [ZkA,e,List.append_nil]
  | cons x q ih=>
   intro p e
   rw [ZV (h p x q e)]
   have:=ih (p++[x]) (by rw [e];simp)
   simpa using this
 exact key l [] rfl
def YH (f:Zd):Bool:=Qc f.rel&&decide (f.args.length≤3)&&f.args.all ZP
theorem ZiZ (f:Zd):ZdZ f=some (YH f):=by
 unfold ZdZ YH
 rw [ZW (p:=ZP) (r:=false)]
 ·rw [ZfH,A0]
  cases Qc f.rel<;>cases h:f.args.all ZP<;>simp<;>omega
 ·intro i x _
  rw [XQ,A0]
  cases ZP x<;>rfl
theorem ZiS (f:Zd):Zej f=some (YH f):=by
 unfold Zej YH
 rw [Zft,A0]
 cases Qc f.rel with
 | false=>rfl
 | true=>
  rw [if_pos rfl]
  by_cases h:f.args.length≤3
  ·rw [if_neg (by simp;omega),ZW (p:=ZP) (r:=false)]
   ·cases h2:f.args.all ZP<;>simp [h]
   ·intro i x _
    rw [XP,A0]
    cases ZP x<;>rfl
  ·rw [if_pos (by simp;omega)]
   simp [h]
structure Zm9 {α:Type} (c:α→α→Int):Prop where
 eq:∀a b,c a b=0↔a=b
 anti:∀a b,c b a=- c a b
 tr:∀a b d,c a b<0→c b d<0→c a d<0
def Zg6 (a b:ByteArray):Int:=Lib.compareBytes (toL a) (toL b)
theorem ZgY:∀(x y:List UInt8),Lib.compareBytes x y=if Op.bytesLess x y=true then -1 else if x=y then 0 else 1
 | [],[]=>by simp [Lib.compareBytes,Op.bytesLess]
 | [],_::_=>by simp [Lib.compareBytes,Op.bytesLess]
 | _::_,[]=>by simp [Lib.compareBytes,Op.bytesLess]
 | a::x,b::y=>by
  have ih:=ZgY x y
  unfold Lib.compareBytes Op.bytesLess
  by_cases h1:a<b
  ·simp [h1]
  ·rw [if_neg h1]
   by_cases h2:b<a
   ·have h3:¬a=b:=fun e=>by rw [e] at h2;exact absurd h2 (UInt8.lt_irrefl _)
    rw [if_pos h2]
    simp [h1,h3]
   ·have h3:a=b:=by
     apply UInt8.toNat_inj.1
     rw [UInt8.lt_iff_toNat_lt] at h1 h2
     omega
    subst h3
    rw [if_neg h2,ih]
    simp [h1]
theorem Zgp (a b:ByteArray):Zg6 a b=if sLt a b=true then -1 else if a=b then 0 else 1:=by
 unfold Zg6
 rw [ZgY]
 have h1:Op.bytesLess (toL a) (toL b)=sLt a b:=by unfold sLt toL;rw [AL,AL]
 rw [h1]
 by_cases h:a=b
 ·subst h;simp
 ·rw [if_neg h,if_neg (fun e=>h (ZeP e))]
theorem ZaW:Zm9 Zg6 where
 eq:=fun a b=>by
  rw [Zgp]
  by_cases h:sLt a b=true
  ·simp [h,ZnR h]
  ·rw [if_neg h]
   by_cases h2:a=b<;>simp [h2]
 anti:=fun a b=>by
  rw [Zgp,Zgp]
  by_cases h:sLt a b=true
  ·have h2:=ZiN h
   have h3:=ZnR h
   rw [if_pos h,if_neg (by simp [h2]),if_neg (fun e=>h3 e.symm)];rfl
  ·rw [if_neg h]
   by_cases h2:a=b
   ·subst h2;rw [if_neg h];simp
   ·rw [if_pos (Zd2 (by simpa using h) h2),if_neg h2]
 tr:=fun a b d h1 h2=>by
  have key:∀x y,Zg6 x y<0→sLt x y=true:=fun x y h=>by
   rw [Zgp] at h
   by_cases hx:sLt x y=true
   ·exact hx
   ·rw [if_neg hx] at h;split at h<;>omega
  rw [Zgp,if_pos (ZdU (key _ _ h1) (key _ _ h2))]
  omega
theorem Zkt (a b:ByteArray):Zgl a b=some (Zg6 a b):=by
 unfold Zgl
 rw [Zgp]
 by_cases h:sLt a b=true
 ·rw [if_pos h,if_pos h]
 ·rw [if_neg h,if_neg h]
  by_cases h2:a=b
  ·subst h2;rw [if_pos (by rw [ZtY];simp),if_pos rfl]
  ·rw [if_neg (by simp only[Ac,ZN];rintro (h3 | h3);exact h h3;exact h2 h3),if_neg h2]
theorem ZhQ (a b:ByteArray):Zd1 a b=some (Zg6 a b):=rfl
/- numbers -/
theorem Zl3 {u:Nat} {b:UInt8} (h:b∈Lib.decDigits u):48≤b.toNat∧b.toNat≤57:=by
 rw [Lib.decDigits_eq,Ab] at h
 obtain ⟨t,_,rfl⟩:=h
 unfold Lib.dg
 have:u / 10 ^ (Lib.nDigits u - 1 - t) % 10<10:=Nat.mod_lt _ (by omega)
 rw [UInt8.toNat_ofNat']
 omega
def Qg (s:ByteArray):Option Nat:=
 if 1≤s.size∧s.size≤4 then (match Lib.decNat (toL s) with | some n=>if ofL (Lib.decDigits n)=s then some n else none | none=>none) else none
def ZcZ (s:ByteArray):Int × Bool:=match Qg s with | some n=>((n:Int),true) | none=>(0,false)
theorem Ziz {s:ByteArray} {n:Nat} (h:Qg s=some n):s=ofL (Lib.decDigits n)∧n≤9999:=by
 unfold Qg at h
 split at h
 ·rename_i hs
  split at h
  ·split at h
   ·rename_i m _ he
    obtain rfl:=AS h
    refine ⟨he.symm,?_⟩
    have hl:Lib.nDigits m≤4:=by
     have:=congrArg Aa he
     rw [Zff,Lib.decDigits_length] at this
     omega
    have:=Lib.lt_pow_nDigits m
    have h2:10 ^ Lib.nDigits m≤10 ^ 4:=Ad (by omega) hl
    omega
   ·simp at h
  ·simp at h
 ·simp at h
theorem Zs0 {a b:ByteArray} {n:Nat} (h1:Qg a=some n) (h2:Qg b=some n):a=b:=(Ziz h1).1.trans (Ziz h2).1.symm
theorem ZoS {body:Nat→UInt8→Int→Option (Int ⊕ (Int × Bool))} {fin:Int→Option (Int × Bool)}
  (hb:∀i (x:UInt8) n,body i x n=if (decide (((x.toNat:Nat):Int)<48))=true then some (.inr (0,false)) else if (decide (57<((x.toNat:Nat):Int)))=true then some (.inr (0,false)) else some (.inl (IntKind.i64.wrap ((IntKind.i64.wrap (10 * n))+IntKind.i64.wrap (IntKind.u8.wrap (((x.toNat:Nat):Int) - 48)))))):
  ∀(l:List UInt8) (i acc:Nat),(acc+1) * 10 ^ l.length≤100000→forL body fin l i (acc:Int)=match Lib.decFrom acc l with | some n=>fin (n:Int) | none=>some (0,false)
 | [],i,acc,_=>rfl
 | x::l,i,acc,h=>by
  unfold Lib.decFrom Lib.digitVal
  by_cases h1:48≤x.toNat∧x.toNat≤57
  ·have e:body i x (acc:Int)=some (.inl ((acc * 10+(x.toNat - 48):Nat):Int)):=by
    have hp:1≤10 ^ (x::l).length:=Nat.one_le_pow _ _ (by omega)
    have h2:acc+1≤100000:=AT (Nat.le_mul_of_pos_right _ hp) h
    rw [hb,if_neg (by simp;omega),if_neg (by simp;omega),Zdu (n:=10 * (acc:Int)) (by omega) (by omega),IntKind.wrap_u8,Zdu (n:=(((x.toNat:Nat):Int) - 48) % 256) (by omega) (by omega),Zdu (by omega) (by omega)]
    congr 2
    omega
   rw [ZV e,if_pos h1]
   refine ZoS hb l (i+1) _ ?_
   rw [AD,Nat.pow_succ] at h
   refine AT ?_ h
   rw [show (acc+1) * (10 ^ l.length * 10)=((acc+1) * 10) * 10 ^ l.length by rw [Nat.mul_assoc,Nat.mul_comm 10]]
   exact Nat.mul_le_mul_right _ (by omega)
  ·have e:body i x (acc:Int)=some (.inr (0,false)):=by
    rw [hb]
    by_cases h2:x.toNat<48
    ·rw [if_pos (by simp;omega)]
    ·rw [if_neg (by simp;omega),if_pos (by simp;omega)]
   rw [Ya e,if_neg h1]
theorem Zt2 (n a b:Int):Za5 n a b=some (decide (a≤n)&&decide (n≤b)):=by
 unfold Za5
 by_cases h:a≤n<;>simp [h]
theorem Q0 (s:ByteArray):X0 s=some (ZcZ s):=by
 unfold X0 ZcZ Qg
 rw [Zt2,A0]
 by_cases hs:1≤s.size∧s.size≤4
 ·rw [if_pos (by simp;omega),if_pos hs]
  have hl:s.data.toList.length=s.size:=Zco s
  refine (ZoS (fun _ _ _=>rfl) s.data.toList 0 0 (by
   rw [hl,AM,Nat.one_mul]
   exact AT (Ad (by omega) hs.2) (by omega))).trans ?_
  have hd:Lib.decNat (toL s)=Lib.decFrom 0 s.data.toList:=by
   unfold Lib.decNat
   rw [if_neg]
   ·rfl
   ·intro e
    have:=Zco s
    rw [List.isEmpty_iff.1 e] at this
    simp at this;omega
  rw [hd]
  cases hv:Lib.decFrom 0 s.data.toList with
  | none=>rfl
  | some n=>
   have hb:n<1000000000000000000:=Lib.decFrom_lt18 hv (by omega)
   show (XO ((n:Nat):Int)).bind _=_
   rw [ZfT ⟨by omega,by omega⟩,A0,Lib.itoa_nonneg]
   by_cases he:ofL (Lib.decDigits n)=s
   ·rw [if_pos (ZN.2 he)]
    simp only[he,if_true]
   ·rw [if_neg (by rw [ZN];exact he)]
    simp only[he,if_false]
 ·rw [if_neg (by simp;omega),if_neg hs]
theorem Zs4 {b:UInt8} {r:List UInt8} (h:b=45∨b=43):Lib.decNat (b::r)=none:=by
 rcases h with rfl | rfl<;>simp [Lib.decNat,Lib.decFrom,Lib.digitVal]
theorem Zl7 {s:ByteArray} (h:Lib.decNat (toL s)=none):Qg s=none:=by
 unfold Qg
 rw [h]
 split<;>rfl
theorem Zbx (s:ByteArray):QD s=some (ZcZ s):=by
 unfold QD
 by_cases h1:s.size<1
 ·rw [if_pos (by simp;omega)]
  unfold ZcZ Qg
  rw [if_neg (by omega)]
 by_cases h2:4<s.size
 ·rw [if_neg (by simp;omega),if_pos (by simp;omega)]
  unfold ZcZ Qg
  rw [if_neg (by omega)]
 rw [if_neg (by simp;omega),if_neg (by simp;omega)]
 have hl:=Zco s
 have hx:Zkj s=some (match Lib.atoi (toL s) with | some n=>(n,true) | none=>(0,false)):=by
  unfold Zkj
  exact Zi _ (by omega)
 rw [hx,A0]
 cases hL:toL s with
 | nil=>rw [hL] at hl;simp at hl;omega
 | cons b r=>
  have sgn:b=45∨b=43→ZcZ s=(0,false):=fun h=>by
   unfold ZcZ
   rw [Zl7 (by rw [hL];exact Zs4 h)]
  have bad:∀m,(b=45∨b=43)→¬ofL (Lib.decDigits m)=s:=fun m h e=>by
   have hm:b∈Lib.decDigits m:=by
    have:toL s=Lib.decDigits m:=by rw [←e,ZbD]
    rw [←this,hL];simp
   have:=Zl3 hm
   rcases h with rfl | rfl<;>simp at this
  by_cases hb1:b=45
  ·rw [sgn (.inl hb1)]
   cases hd:Lib.decNat r with
   | none=>simp [Lib.atoi,hb1,hd]
   | some m=>
    have e:Lib.atoi (b::r)=some (-(m:Int)):=by simp [Lib.atoi,hb1,hd]
    rw [e]
    simp only[if_true]
    by_cases hm:m=0
    ·subst hm
     rw [if_neg (by simp),if_neg (by simp)]
     show (Zav ((0:Nat):Int)).bind _=_
     rw [ZcV ⟨by omega,by omega⟩,A0,Lib.itoa_nonneg,if_neg (by rw [ZN];exact bad 0 (.inl hb1))]
    ·rw [if_pos (by simp;omega)]
  ·by_cases hb2:b=43
   ·rw [sgn (.inr hb2)]
    cases hd:Lib.decNat r with
    | none=>simp [Lib.atoi,hb2,hd]
    | some m=>
     have e:Lib.atoi (b::r)=some (m:Int):=by simp [Lib.atoi,hb2,hd]
     rw [e]
     simp only[if_true]
     rw [if_neg (by simp)]
     by_cases hm:9999<m
     ·rw [if_pos (by simp;omega)]
     ·rw [if_neg (by simp;omega),ZcV ⟨by omega,by omega⟩,A0,Lib.itoa_nonneg,if_neg (by rw [ZN];exact bad m (.inr hb2))]
   ·have e:Lib.atoi (b::r)=(Lib.decNat (b::r)).map fun (m:Nat)=>(m:Int):=by simp [Lib.atoi,hb1,hb2]
    rw [e]
    cases hd:Lib.decNat (b::r) with
    | none=>
     unfold ZcZ
     rw [Zl7 (by rw [hL];exact hd)]
     rfl
    | some m=>
     simp only[Option.map_some,if_true]
     rw [if_neg (by simp)]
     have hn:Qg s=if ofL (Lib.decDigits m)=s then some m else none:=by
      unfold Qg
      rw [if_pos (by omega),hL,hd]
     by_cases hm:9999<m
     ·rw [if_pos (by simp;omega)]
      have:Qg s=none:=by
       cases hq:Qg s with
       | none=>rfl
       | some n=>
        have h3:=(Ziz hq).2
        rw [hn] at hq
        split at hq
        ·obtain rfl:=AS hq;omega
        ·simp at hq
      unfold ZcZ
      rw [this]
     ·rw [if_neg (by simp;omega),ZcV ⟨by omega,by omega⟩,A0,Lib.itoa_nonneg]
      unfold ZcZ
      rw [hn]
      by_cases he:ofL (Lib.decDigits m)=s
      ·rw [if_pos (ZN.2 he),if_pos he]
      ·rw [if_neg (by rw [ZN];exact he),if_neg he]
def Zjj (x y:Nat):Int:=if x<y then -1 else if y<x then 1 else 0
theorem Zn3:Zm9 Zjj where
 eq:=fun a b=>by unfold Zjj;split<;>(try split)<;>omega
 anti:=fun a b=>by unfold Zjj;split<;>(try split)<;>(try split)<;>omega
 tr:=fun a b d h1 h2=>by
  unfold Zjj at *
  split at h1
  ·split at h2
   ·rw [if_pos (by omega)];omega
   ·split at h2<;>omega
  ·split at h1<;>omega
def Ze7 (a b:ByteArray):Int:=
 match Qg a,Qg b with
 | some x,some y=>Zjj x y
 | some _,none=>-1
 | none,some _=>1
 | none,none=>Zg6 a b
theorem ZnS:Zm9 Ze7 where
 eq:=fun a b=>by
  unfold Ze7
  cases ha:Qg a with
  | none=>
   cases hb:Qg b with
   | none=>exact ZaW.eq a b
   | some y=>simp only;exact ⟨fun h=>by omega,fun h=>by rw [h,hb] at ha;simp at ha⟩
  | some x=>
   cases hb:Qg b with
   | none=>simp only;exact ⟨fun h=>by omega,fun h=>by rw [h,hb] at ha;simp at ha⟩
   | some y=>
    simp only
    rw [Zn3.eq]
    exact ⟨fun h=>Zs0 ha (h ▸ hb),fun h=>by rw [h,hb] at ha;exact (AS ha).symm⟩
 anti:=fun a b=>by
  unfold Ze7
  cases Qg a<;>cases Qg b<;>simp only
  ·exact ZaW.anti a b
  ·rfl
  ·exact Zn3.anti _ _
 tr:=fun a b d h1 h2=>by
  unfold Ze7 at *
  cases ha:Qg a<;>cases hb:Qg b<;>cases hd:Qg d<;>simp only[ha,hb,hd] at h1 h2 ⊢<;>first | omega | exact ZaW.tr a b d h1 h2 | exact Zn3.tr _ _ _ h1 h2
theorem Zbf (x y:Nat):Xw (x:Int) (y:Int)=some (Zjj x y):=by
 unfold Xw Zjj
 by_cases h1:x<y
 ·rw [if_pos (by simpa using h1),if_pos h1]
 ·rw [if_neg (by simpa using h1),if_neg h1]
  by_cases h2:y<x
  ·rw [if_pos (by simpa using h2),if_pos h2]
  ·rw [if_neg (by simpa using h2),if_neg h2]
theorem Zdt (a b:ByteArray):Y0 a b=some (Ze7 a b):=by
 unfold Y0 Ze7
 rw [Q0,A0,Q0,A0]
 unfold ZcZ
 cases Qg a with
 | none=>
  cases Qg b with
  | none=>simp only[A6,if_false];rw [Zkt];rfl
  | some y=>rfl
 | some x=>
  cases Qg b with
  | none=>rfl
  | some y=>
   simp only[if_true]
   unfold Zjj
   by_cases h1:x<y
   ·rw [if_pos (by simpa using h1),if_pos h1]
   ·rw [if_neg (by simpa using h1),if_neg h1]
    by_cases h2:y<x
    ·rw [if_pos (by simpa using h2),if_pos h2]
    ·rw [if_neg (by simpa using h2),if_neg h2]
theorem ZhT (a b:ByteArray):Qj a b=some (Ze7 a b):=by
 unfold Qj Ze7
 rw [Zbx,A0,Zbx,A0]
 unfold ZcZ
 cases Qg a with
 | none=>
  cases Qg b with
  | none=>simp only[A6,if_false];rw [ZhQ];rfl
  | some y=>rfl
 | some x=>
  cases Qg b with
  | none=>rfl
  | some y=>simp only[if_true];rw [Zbf];rfl
def ZfB {α:Type} (c:α→α→Int):List α→List α→Int
 | [],[]=>0
 | [],_::_=>-1
 | _::_,[]=>1
 | x::l,y::r=>if c x y=0 then ZfB c l r else c x y
theorem ZnA {α:Type} {c:α→α→Int} (h:Zm9 c):Zm9 (ZfB c) where
 eq:=fun a=>by
  induction a with
  | nil=>intro b;cases b<;>simp [ZfB]
  | cons x l ih=>
   intro b
   cases b with
   | nil=>simp [ZfB]
   | cons y r=>
    simp only[ZfB]
    by_cases hx:c x y=0
    ·rw [if_pos hx,ih,(h.eq x y).1 hx];simp
    ·rw [if_neg hx]
     exact ⟨fun e=>absurd e hx,fun e=>absurd ((h.eq x y).2 (by simp at e;exact e.1)) hx⟩
 anti:=fun a=>by
  induction a with
  | nil=>intro b;cases b<;>simp [ZfB]
  | cons x l ih=>
   intro b
   cases b with
   | nil=>simp [ZfB]
   | cons y r=>
    simp only[ZfB]
    have hy:=h.anti x y
    by_cases hx:c x y=0
    ·rw [if_pos hx,if_pos (by omega),ih]
    ·rw [if_neg hx,if_neg (by omega),hy]
 tr:=fun a=>by
  induction a with
  | nil=>
   intro b d h1 h2
   cases b with
   | nil=>simp [ZfB] at h1
   | cons y r=>cases d with
    | nil=>simp [ZfB] at h2
    | cons z q=>simp [ZfB]
  | cons x l ih=>
   intro b d h1 h2
   cases b with
   | nil=>simp [ZfB] at h1
   | cons y r=>cases d with
    | nil=>simp [ZfB] at h2
    | cons z q=>
     simp only[ZfB] at h1 h2 ⊢
     by_cases hx:c x y=0
     ·rw [if_pos hx] at h1
      obtain rfl:=(h.eq x y).1 hx
      by_cases hz:c x z=0
      ·rw [if_pos hz] at h2 ⊢;exact ih r q h1 h2
      ·rw [if_neg hz] at h2 ⊢;exact h2
     ·rw [if_neg hx] at h1
      by_cases hz:c y z=0
      ·obtain rfl:=(h.eq y z).1 hz
       rw [if_neg hx];exact h1
      ·rw [if_neg hz] at h2
       have:=h.tr x y z h1 h2
       rw [if_neg (by omega)];exact this
def Zdl (a b:Zd):Int:=if Zg6 a.rel b.rel=0 then ZfB Ze7 a.args b.args else Zg6 a.rel b.rel
theorem Zo6 {a b:Zd} (h1:a.rel=b.rel) (h2:a.args=b.args):a=b:=by cases a;cases b;simp_all
theorem Zdq:Zm9 Zdl where
 eq:=fun a b=>by
  unfold Zdl
  by_cases h:Zg6 a.rel b.rel=0
  ·rw [if_pos h,(ZnA ZnS).eq]
   exact ⟨fun e=>Zo6 ((ZaW.eq _ _).1 h) e,fun e=>by rw [e]⟩
  ·rw [if_neg h]
   exact ⟨fun e=>absurd e h,fun e=>absurd ((ZaW.eq _ _).2 (by rw [e])) h⟩
 anti:=fun a b=>by
  unfold Zdl
  have hy:=ZaW.anti a.rel b.rel
  by_cases h:Zg6 a.rel b.rel=0
  ·rw [if_pos h,if_pos (by omega),(ZnA ZnS).anti]
  ·rw [if_neg h,if_neg (by omega),hy]
 tr:=fun a b d h1 h2=>by
  unfold Zdl at *
  by_cases hx:Zg6 a.rel b.rel=0
  ·rw [if_pos hx] at h1
   have e:=(ZaW.eq _ _).1 hx
   rw [e]
   by_cases hz:Zg6 b.rel d.rel=0
   ·rw [if_pos hz] at h2 ⊢;exact (ZnA ZnS).tr _ _ _ h1 h2
   ·rw [if_neg hz] at h2 ⊢;exact h2
  ·rw [if_neg hx] at h1
   by_cases hz:Zg6 b.rel d.rel=0
   ·rw [←(ZaW.eq _ _).1 hz,if_neg hx];exact h1
   ·rw [if_neg hz] at h2
    have:=ZaW.tr _ _ _ h1 h2
    rw [if_neg (by omega)];exact this
theorem Zby {α:Type} (l:List α) (i:Nat):atI l (i:Int)=l[i]?:=by unfold atI;rw [if_pos (by omega),AE]
theorem ZiG {A B:List ByteArray} {body:Nat→ByteArray→Unit→Option (Unit ⊕ Int)} {fin:Unit→Option Int}
  (hlt:∀i x y,B[i]?=some y→body i x ()=if Ze7 x y=0 then some (.inl ()) else some (.inr (Ze7 x y))) (hge:∀x,B.length<A.length→body B.length x ()=some (.inr 1)) (hfin:A.length≤B.length→fin ()=some (if A.length<B.length then -1 else 0)):
  ∀(l:List ByteArray) (i:Nat),i+l.length=A.length→i≤B.length→forL body fin l i ()=some (ZfB Ze7 l (B.drop i))
 | [],i,h,hi=>by
  simp at h
  rw [ZkA,hfin (by omega)]
  by_cases hb:A.length<B.length
  ·rw [if_pos hb]
   cases hd:B.drop i with
   | nil=>have:=congrArg List.length hd;simp at this;omega
   | cons y r=>rfl
  ·rw [if_neg hb,AU (by omega)]
   rfl
 | x::l,i,h,hi=>by
  simp only[AD] at h
  by_cases hb:i<B.length
  ·have hy:B[i]?=some B[i]:=AW hb
   rw [Ae hb]
   simp only[ZfB]
   by_cases hc:Ze7 x B[i]=0
   ·rw [ZV (by rw [hlt i x _ hy,if_pos hc]),if_pos hc]
    exact ZiG hlt hge hfin l (i+1) (by omega) (by omega)
   ·rw [Ya (by rw [hlt i x _ hy,if_neg hc]),if_neg hc]
  ·obtain rfl:i=B.length:=by omega
   rw [Ya (hge x (by omega)),AU (Nat.le_refl _)]
   rfl
theorem ZdC (a b:Zd):YZ a b=some (Zdl a b):=by
 unfold YZ Zdl
 by_cases h:a.rel=b.rel
 ·rw [if_pos (ZN.2 h),if_pos ((ZaW.eq _ _).2 h)]
  refine ZiG (A:=a.args) (B:=b.args) (fun i x y hy=>?_) (fun x hx=>?_) (fun hx=>?_) a.args 0 (by simp) (Nat.zero_le _)
  ·have hi:=(AH.1 hy).1
   rw [if_pos (by simpa using hi),Zby,hy,A0,Zdt,A0]
   by_cases hc:Ze7 x y=0
   ·rw [hc];rfl
   ·rw [if_pos (by simpa using hc),if_neg hc]
  ·rw [if_neg (by simp),if_neg (by simp;omega),if_pos (by simpa using hx)]
  ·by_cases h2:a.args.length<b.args.length
   ·rw [if_pos (by simpa using h2),if_pos h2]
   ·rw [if_neg (by simpa using h2),if_neg (by simp;omega),if_neg h2]
 ·rw [if_neg (by rw [ZN];exact h),if_neg (fun e=>h ((ZaW.eq _ _).1 e)),Zkt]
  rfl
theorem Zdo (a b:Zd):XJ a b=some (Zdl a b):=by
 unfold XJ Zdl
 rw [ZhQ,A0]
 by_cases h:Zg6 a.rel b.rel=0
 ·rw [if_neg (by simpa using h),if_pos h]
  refine ZiG (A:=a.args) (B:=b.args) (fun i x y hy=>?_) (fun x hx=>?_) (fun hx=>?_) a.args 0 (by simp) (Nat.zero_le _)
  ·have hi:=(AH.1 hy).1
   rw [if_pos (by simpa using hi),Zby,hy,A0,ZhT,A0]
   by_cases hc:Ze7 x y=0
   ·rw [hc];rfl
   ·rw [if_pos (by simpa using hc),if_neg hc]
  ·rw [if_neg (by simp),Zbf]
   unfold Zjj
   rw [if_neg (by omega),if_pos hx]
   rfl
  ·rw [Zbf]
   unfold Zjj
   by_cases h2:a.args.length<b.args.length
   ·rw [if_pos h2,if_pos h2];rfl
   ·rw [if_neg h2,if_neg (by omega),if_neg h2];rfl
 ·rw [if_pos (by simpa using h),if_neg h]
section
theorem Xo (f:Zd) (h:f.args.length≤1048576):XM f=some f:=by
 unfold XM
 rw [ZnL _ (by omega)]
 rfl
theorem YB (f:Zd) (h:f.args.length≤1048576):Yl f=some f:=by
 unfold Yl
 rw [Zfl _ (by omega)]
 rfl
theorem Zla {B:List ByteArray} {body:Nat→ByteArray→Unit→Option (Unit ⊕ Bool)} (hb:∀i x y,B[i]?=some y→body i x ()=if x=y then some (.inl ()) else some (.inr false)):
  ∀(l:List ByteArray) (i:Nat),i+l.length=B.length→forL body (fun _=>some true) l i ()=some (decide (l=B.drop i))
 | [],i,h=>by
  simp at h
  rw [ZkA,AU (by omega)]
  simp
 | x::l,i,h=>by
  simp only[AD] at h
  have hi:i<B.length:=by omega
  have hd:(x::l=B.drop i)↔(x=B[i]∧l=B.drop (i+1)):=by rw [Ae hi,List.cons.injEq]
  rw [A9.2 (show decide (x::l=B.drop i)=true↔decide (x=B[i]∧l=B.drop (i+1))=true by rw [decide_eq_true_iff,decide_eq_true_iff];exact hd)]
  by_cases hx:x=B[i]
  ·rw [ZV (by rw [hb i x _ (AW hi),if_pos hx]),Zla hb l (i+1) (by omega)]
   simp [hx]
  ·rw [Ya (by rw [hb i x _ (AW hi),if_neg hx])]
   simp [hx]
theorem ZkL (a b:List ByteArray):Zb4 a b=some (decide (a=b)):=by
 unfold Zb4
 by_cases h:a.length=b.length
 ·rw [if_neg (by simp;omega)]
  have:=Zla (B:=b) (body:=fun i6 x7 _=>(atI b ((i6:Nat):Int)).bind fun x8=>if (sEq x7 x8)=true then some (.inl ()) else some (.inr false)) (fun i x y hy=>by
   show (atI b ((i:Nat):Int)).bind _=_
   rw [Zby,hy,A0]
   by_cases hx:x=y
   ·rw [if_pos (ZN.2 hx),if_pos hx]
   ·rw [if_neg (by rw [ZN];exact hx),if_neg hx]) a 0 (by omega)
  simpa using this
 ·rw [if_pos (by simp;omega),decide_eq_false (fun e=>h (by rw [e]))]
open Classical
theorem ZbI (a b:Zd):Zbe a b=some (decide (a=b)):=by
 unfold Zbe
 by_cases h:a.rel=b.rel
 ·rw [if_pos (ZN.2 h),ZkL,A0]
  congr 1
  rw [A9,decide_eq_true_iff,decide_eq_true_iff]
  exact ⟨fun e=>Zo6 h e,fun e=>by rw [e]⟩
 ·rw [if_neg (by rw [ZN];exact h),decide_eq_false (fun e=>h (by rw [e]))]
theorem ZlY (l:List Zd) (f:Zd):∃z,Z8 l f=some z∧(z<0↔f∉l):=by
 unfold Z8
 have key:∀(l:List Zd) (i:Nat),∃z,forL (σ:=Unit) (fun (i6:Nat) (x7:Zd) _=>(Zbe x7 f).bind fun v8=>if v8=true then some (.inr ((i6:Nat):Int)) else some (.inl ())) (fun _=>some (-1)) l i ()=some z∧(z<0↔f∉l):=by
  intro l
  induction l with
  | nil=>intro i;exact ⟨-1,rfl,by simp⟩
  | cons x l ih=>
   intro i
   by_cases hx:x=f
   ·refine ⟨(i:Int),Ya (by rw [ZbI,A0,if_pos (decide_eq_true hx)]),by simp [hx]⟩
   ·obtain ⟨z,e,hz⟩:=ih (i+1)
    refine ⟨z,(ZV (by rw [ZbI,A0,if_neg (by simpa using hx)])).trans e,?_⟩
    rw [hz,A5]
    exact ⟨fun h=>by rintro (h1 | h1);exact hx h1.symm;exact h h1,fun h h1=>h (.inr h1)⟩
 exact key l 0
def Zdn:List Zd→Zd→List Zd
 | [],f=>[f]
 | x::l,f=>if Zdl x f<0 then x::Zdn l f else if Zdl x f=0 then x::l else f::x::l
def ZiF (l:List Zd):Prop:=l.Pairwise fun x y=>Zdl x y<0
theorem Qm {y f:Zd}:∀{l:List Zd},y∈Zdn l f↔y=f∨y∈l
 | []=>by simp [Zdn]
 | x::l=>by
  simp only[Zdn]
  split
  ·rw [A5,Qm,A5]
   exact ⟨fun h=>by rcases h with h | h | h<;>simp [h],fun h=>by rcases h with h | h | h<;>simp [h]⟩
  ·split
   ·rename_i h
    have e:=(Zdq.eq _ _).1 h
    rw [A5,e]
    exact ⟨fun h=>by rcases h with h | h<;>simp [h],fun h=>by rcases h with h | h | h<;>simp [h]⟩
   ·rw [A5]
theorem ZjK (f:Zd):∀l:List Zd,(Zdn l f).length≤l.length+1
 | []=>by simp [Zdn]
 | x::l=>by
  have:=ZjK f l
  simp only[Zdn]
  split
  ·simp;omega
  ·split<;>simp
theorem Zoj {f:Zd}:∀{l:List Zd},ZiF l→ZiF (Zdn l f)
 | [],_=>by simp [Zdn,ZiF]
 | x::l,h=>by
  unfold ZiF at *
  rw [A7] at h
  simp only[Zdn]
  split
  ·rename_i hx
   rw [A7]
   refine ⟨fun y my=>?_,Zoj h.2⟩
   rcases Qm.1 my with rfl | my
   ·exact hx
   ·exact h.1 y my
  ·rename_i hx
   split
   ·rw [A7];exact h
   ·rename_i h0
    have hfx:Zdl f x<0:=by rw [Zdq.anti x f];omega
    rw [A7,A7]
    refine ⟨fun y my=>?_,h⟩
    rcases A5.1 my with rfl | my
    ·exact hfx
    ·exact Zdq.tr _ _ _ hfx (h.1 y my)
theorem Zk2 (l:List Zd) (f:Zd) (hl:l.length≤1048576) (ha:∀x∈l,x.args.length≤1048576) (hf:f.args.length≤1048576):YI l f=some (Zdn l f):=by
 unfold YI
 rw [Q6 (fun l _ s=>some (s.1++(if s.2=true then l else Zdn l f))) (fun l _ s=>s.1.length+2 * l.length+1≤4000000∧∀x∈l,x.args.length≤1048576) ?_ ?_ l 0 ([],false) ⟨by simp;omega,ha⟩]
 ·simp
 ·rintro i ⟨row,done⟩ ⟨h1,_⟩
  cases done with
  | true=>simp
  | false=>
   simp only[A6,if_false]
   simp only[AX] at h1
   rw [Xo f hf,A0,Zi _ (by omega)]
   rfl
 ·rintro x l i ⟨row,done⟩ ⟨h1,h2⟩
  simp only[AD] at h1
  have hx:=h2 x (by simp)
  left
  cases done with
  | true=>
   simp only[if_true]
   rw [Xo x hx,A0,Zi _ (by omega)]
   exact ⟨_,rfl,⟨by simp;omega,fun y my=>h2 y (by simp [my])⟩,by simp⟩
  | false=>
   simp only[A6,if_false]
   rw [ZdC,A0]
   by_cases hlt:Zdl x f<0
   ·rw [if_neg (by simp;omega),Xo x hx,A0,Zi _ (by omega)]
    exact ⟨_,rfl,⟨by simp;omega,fun y my=>h2 y (by simp [my])⟩,by simp [Zdn,hlt]⟩
   ·rw [if_pos (by simp;omega),A0]
    by_cases h0:Zdl x f=0
    ·rw [if_neg (by simp;omega),Xo x hx,A0,Zi _ (by omega)]
     exact ⟨_,rfl,⟨by simp;omega,fun y my=>h2 y (by simp [my])⟩,by simp [Zdn,h0]⟩
    ·rw [if_pos (by simp;omega),Xo f hf,A0,Zi _ (by omega),Xo x hx,A0,Zi _ (by omega)]
     exact ⟨_,rfl,⟨by simp;omega,fun y my=>h2 y (by simp [my])⟩,by simp [Zdn,h0,hlt]⟩
theorem ZnZ (l:List Zd) (f:Zd) (hn:f∉l) (hl:l.length≤1048576) (ha:∀x∈l,x.args.length≤1048576) (hf:f.args.length≤1048576):XF l f=some (Zdn l f):=by
 unfold XF
 rw [Q6 (fun l _ s=>some (s.1++(if s.2=true then l else Zdn l f))) (fun l _ s=>s.1.length+2 * l.length+1≤4000000∧f∉l∧∀x∈l,x.args.length≤1048576) ?_ ?_ l 0 ([],false) ⟨by simp;omega,hn,ha⟩]
 ·simp
 ·rintro i ⟨row,done⟩ ⟨h1,_⟩
  cases done with
  | true=>simp
  | false=>
   simp only[A6,if_false]
   simp only[AX] at h1
   rw [YB f hf,A0,Zi _ (by omega)]
   rfl
 ·rintro x l i ⟨row,done⟩ ⟨h1,h3,h2⟩
  simp only[AD] at h1
  have hx:=h2 x (by simp)
  have h3':f∉l:=fun m=>h3 (by simp [m])
  left
  cases done with
  | true=>
   simp only[if_true]
   rw [YB x hx,A0,Zi _ (by omega)]
   exact ⟨_,rfl,⟨by simp;omega,h3',fun y my=>h2 y (by simp [my])⟩,by simp⟩
  | false=>
   simp only[A6,if_false]
   rw [Zdo,A0]
   have h0:¬Zdl x f=0:=fun e=>h3 (by rw [(Zdq.eq _ _).1 e];simp)
   by_cases hlt:Zdl x f<0
   ·rw [if_neg (by simp;omega),YB x hx,A0,Zi _ (by omega)]
    exact ⟨_,rfl,⟨by simp;omega,h3',fun y my=>h2 y (by simp [my])⟩,by simp [Zdn,hlt]⟩
   ·rw [if_pos (by simp;omega),YB f hf,A0,Zi _ (by omega),YB x hx,A0,Zi _ (by omega)]
    exact ⟨_,rfl,⟨by simp;omega,h3',fun y my=>h2 y (by simp [my])⟩,by simp [Zdn,h0,hlt]⟩
end
def Z0 (p:Zv):Bool:=Qc p.rel&&decide (p.args.length≤3)&&p.args.all Yi
theorem QA (p:Zv):YD p=some (Z0 p):=by
 unfold YD Z0
 rw [ZW (p:=Yi) (r:=false)]
 ·simp only[ZfH,A0]
  have:decide (((p.args.length:Nat):Int)≤3)=decide (p.args.length≤3):=by rw [A9];simp only[decide_eq_true_eq];omega
  rw [this]
  cases p.args.all Yi<;>cases Qc p.rel<;>simp
 ·intro i x _
  rw [Zi3]
  cases Yi x<;>simp
theorem Za8 (p:Zv):YR p=some (Z0 p):=by
 unfold YR Z0
 rw [Zft,ZW (p:=Yi) (r:=false)]
 ·by_cases h:p.args.length≤3
  ·have h':¬(3:Int)<((p.args.length:Nat):Int):=by omega
   cases p.args.all Yi<;>cases Qc p.rel<;>simp [h,h']
  ·have h':(3:Int)<((p.args.length:Nat):Int):=by omega
   cases Qc p.rel<;>simp [h,h']
 ·intro i x _
  rw [ZiT]
  cases Yi x<;>simp
def YO (p:Zv):Bool:=sEq p.rel ⟨#[]⟩&&decide (p.args.length=0)
theorem Zsv {α:Type} (l:List α):((((l.length:Nat):Int))==0)=decide (l.length=0):=by
 rw [A9,beq_iff_eq,decide_eq_true_eq];omega
theorem Zd5 (p:Zv):YS p=some (YO p):=by
 unfold YS YO
 rw [Zsv]
 cases sEq p.rel ⟨#[]⟩<;>simp
def Yz (x:Zr):Bool:=
 if x.kind=1∨x.kind=2 then Z0 x.pattern&&sEq x.left ⟨#[]⟩&&sEq x.right ⟨#[]⟩
 else if x.kind=3∨x.kind=4∨x.kind=5 then YO x.pattern&&Yi x.left&&Yi x.right
 else false
theorem ZbT (x:Zr):Zb1 x=some (Yz x):=by
 unfold Zb1 Yz
 simp only[QA,Zi3,A0,YO,Zsv,beq_iff_eq]
 by_cases h1:x.kind=1
 ·simp only[h1,if_true,true_or];cases Z0 x.pattern<;>cases sEq x.left ⟨#[]⟩<;>simp
 by_cases h2:x.kind=2
 ·simp only[h2,if_true,or_true];cases Z0 x.pattern<;>cases sEq x.left ⟨#[]⟩<;>simp
 simp only[h1,h2,if_false,or_self]
 by_cases h3:x.kind=3
 ·simp only[h3,if_true,true_or];cases sEq x.pattern.rel ⟨#[]⟩<;>cases decide (x.pattern.args.length=0)<;>cases Yi x.left<;>simp
 by_cases h4:x.kind=4
 ·simp only[h4,if_true,true_or,or_true];cases sEq x.pattern.rel ⟨#[]⟩<;>cases decide (x.pattern.args.length=0)<;>cases Yi x.left<;>simp
 by_cases h5:x.kind=5
 ·simp only[h5,if_true,or_true];cases sEq x.pattern.rel ⟨#[]⟩<;>cases decide (x.pattern.args.length=0)<;>cases Yi x.left<;>simp
 simp [h3,h4,h5]
theorem Zfn (x:Zr):Zdj x=some (Yz x):=by
 unfold Zdj Yz
 simp only[Za8,ZiT,Zd5,A0,beq_iff_eq]
 by_cases h1:x.kind=1
 ·simp only[h1,if_true,true_or];cases Z0 x.pattern<;>cases sEq x.left ⟨#[]⟩<;>simp
 by_cases h2:x.kind=2
 ·simp only[h2,if_true,or_true];cases Z0 x.pattern<;>cases sEq x.left ⟨#[]⟩<;>simp
 simp only[h1,h2,if_false,or_self]
 by_cases h3:x.kind=3
 ·simp only[h3,if_true,true_or];cases YO x.pattern<;>cases Yi x.left<;>cases Yi x.right<;>simp
 by_cases h4:x.kind=4
 ·simp only[h4,if_true,true_or,or_true];cases YO x.pattern<;>cases Yi x.left<;>cases Yi x.right<;>simp
 by_cases h5:x.kind=5
 ·simp only[h5,if_true,or_true];cases YO x.pattern<;>cases Yi x.left<;>cases Yi x.right<;>simp
 simp [h3,h4,h5]
theorem Znz {x:Zr} (h:Yz x=true):x.kind=1∨x.kind=2∨x.kind=3∨x.kind=4∨x.kind=5:=by
 unfold Yz at h
 split at h
 ·rename_i h1;omega
 ·split at h
  ·rename_i h1;omega
  ·simp at h
theorem ZoE (x:Zr):ZaT x=some (Yz x&&decide (3≤x.kind)):=by
 unfold ZaT
 rw [ZbT]
 cases Yz x<;>simp
def Xa (a:Zx):Bool:=
 if a.kind=1∨a.kind=2 then Z0 a.pattern else if a.kind=3 then YO a.pattern else false
theorem ZlD (a:Zx):ZcM a=some (Xa a):=by
 unfold ZcM Xa
 simp only[QA,A0,YO,Zsv,beq_iff_eq]
 by_cases h1:a.kind=1
 ·simp [h1]
 by_cases h2:a.kind=2
 ·simp [h2]
 by_cases h3:a.kind=3
 ·simp only[h3,if_true];cases sEq a.pattern.rel ⟨#[]⟩<;>simp
 simp [h1,h2,h3]
theorem ZlK (a:Zx):Zc5 a=some (Xa a):=by
 unfold Zc5 Xa
 simp only[Za8,Zd5,A0,beq_iff_eq]
 by_cases h1:a.kind=1
 ·simp [h1]
 by_cases h2:a.kind=2
 ·simp [h2]
 by_cases h3:a.kind=3
 ·simp [h3]
 simp [h1,h2,h3]
def YM (l:List ByteArray):List ByteArray:=l.filter Ye
theorem Zcw (l:List ByteArray):(YM l).length≤l.length:=List.length_filter_le _ _
theorem Zbo {x:ByteArray} {l:List ByteArray}:x∈YM l↔x∈l∧Ye x=true:=by simp [YM]
theorem Zdf (l:List ByteArray) (h:l.length≤1073741824):Qn l=some (YM l):=by
 unfold Qn
 rw [ZdF (p:=Ye)]
 ·simp [YM]
 ·intro j x s _ hs
  rw [ZcI,A0]
  split
  ·rw [Zi _ (by simp at hs;omega)]
  ·rfl
theorem Zi5 {p:ByteArray→Bool}:∀(l acc:List ByteArray),l.foldl (fun s x=>if p x=true then XW s x else s) acc=(l.filter p).foldl XW acc
 | [],_=>rfl
 | x::l,acc=>by
  rw [AF,Zi5 l]
  by_cases h:p x=true<;>simp [h]
theorem ZbP (p:Zv) (h:p.args.length≤1073741823):Za0 p=some (ZQ (YM p.args)):=by
 unfold Za0
 rw [XE (f:=fun s x=>if Ye x=true then XW s x else s) (fun j s=>s.length≤j) (by simp)]
 ·rw [Zi5];rfl
 ·intro j x s _ _ hl hI
  simp at hl
  have:=Zc6 x s
  rw [Qt,A0]
  split
  ·rw [XV _ _ (by omega)]
   exact ⟨rfl,by omega⟩
  ·exact ⟨rfl,by omega⟩
def Zfz (x:Zr):List ByteArray:=x.pattern.args++[x.left,x.right]
def Yt (x:Zr):List ByteArray:=ZQ (YM (Zfz x))
theorem ZbB (x:Zr) (h:x.pattern.args.length≤1073741822):X1 x=some (Yt x):=by
 unfold X1 Zgs
 rw [Zfl _ (by omega),A0,Zi _ (by omega),A0,Zdf _ (by simp;omega),A0]
 have:=Zcw (x.pattern.args++[x.left,x.right])
 simp at this
 rw [XG _ (by omega)]
 rfl
theorem Zbz (x:Zr) (h:x.pattern.args.length≤1073741820):Xz x=some (Yt x):=by
 unfold Xz
 have h1:=Zdy (YM x.pattern.args)
 have h2:=Zcw x.pattern.args
 have h3:=Zc6 x.left (ZQ (YM x.pattern.args))
 have key:∀l:List ByteArray,(∀y,y∈l↔y∈YM (Zfz x))→Asc l→l=Yt x:=fun l hm ha=>Zez ha hm
 rw [ZbP _ (by omega),A0,Qt,A0,Qt]
 simp only[A0]
 rw [XV _ _ (by omega),A0,XV (XW _ _) _ (by omega),A0,XV _ x.right (by omega),A0]
 cases hl:Ye x.left<;>cases hr:Ye x.right<;>simp only[if_true,A6,if_false]<;>congr 1<;>apply key<;>(try intro y)<;>(try simp only[Zhu,ZS,Zbo,Zfz,AY,A5,Af,or_false])
 all_goals first
  | exact ZbR _
  | exact ZfN (ZbR _)
  | exact ZfN (ZfN (ZbR _))
  | skip
 ·constructor
  ·rintro ⟨a,b⟩;exact ⟨.inl a,b⟩
  ·rintro ⟨a | rfl | rfl,b⟩
   ·exact ⟨a,b⟩
   ·rw [hl] at b;simp at b
   ·rw [hr] at b;simp at b
 ·constructor
  ·rintro (rfl | ⟨a,b⟩)
   ·exact ⟨by simp,hr⟩
   ·exact ⟨.inl a,b⟩
  ·rintro ⟨a | rfl | rfl,b⟩
   ·exact .inr ⟨a,b⟩
   ·rw [hl] at b;simp at b
   ·exact .inl rfl
 ·constructor
  ·rintro (rfl | ⟨a,b⟩)
   ·exact ⟨by simp,hl⟩
   ·exact ⟨.inl a,b⟩
  ·rintro ⟨a | rfl | rfl,b⟩
   ·exact .inr ⟨a,b⟩
   ·exact .inl rfl
   ·rw [hr] at b;simp at b
 ·constructor
  ·rintro (rfl | rfl | ⟨a,b⟩)
   ·exact ⟨by simp,hr⟩
   ·exact ⟨by simp,hl⟩
   ·exact ⟨.inl a,b⟩
  ·rintro ⟨a | rfl | rfl,b⟩
   ·exact .inr (.inr ⟨a,b⟩)
   ·exact .inr (.inl rfl)
   ·exact .inl rfl
theorem Zgv (x:Zr):(Yt x).length≤x.pattern.args.length+2:=by
 have h1:=Zdy (YM (Zfz x))
 have h2:=Zcw (Zfz x)
 have h3:(Zfz x).length=x.pattern.args.length+2:=by simp [Zfz]
 unfold Yt
 omega
theorem ZrV {x:Zr} {v:ByteArray} (h:v∈Yt x):Ye v=true:=(Zbo.1 (ZS.1 h)).2
structure Za6 (r:Zf):Prop where
 cl:r.cond.length≤1048576
 tl:r.thn.length≤1048576
 ca:∀x∈r.cond,x.pattern.args.length≤1048576
 ta:∀a∈r.thn,a.pattern.args.length≤1048576
def Ys (l:List Zr):List ByteArray:=l.flatMap fun x=>if x.kind=1 then YM x.pattern.args else []
def Yr (r:Zf) (n:Nat):List ByteArray:=ZQ (Ys (r.cond.take n))
theorem ZcJ (r:Zf) (n:Int) (h:Za6 r) (h4:r.cond.length≤4):Qu r n=some (Yr r n.toNat):=by
 unfold Qu Yr
 refine (Q6 (fun l i (row:List ByteArray)=>some (ZQ (row++Ys (l.take (n.toNat - i))))) (fun l i row=>r.cond.drop i=l∧row.length≤1048576 * i∧i≤r.cond.length) ?_ ?_ r.cond 0 [] ⟨by simp,by simp,by simp⟩).trans (by simp)
 ·rintro i row ⟨h1,h2,h3⟩
  rw [XG _ (by omega)]
  simp [Ys]
 ·rintro x l i row ⟨h1,h2,h3⟩
  left
  have hi:r.cond[i]?=some x:=by have:=congrArg (fun l=>l[0]?) h1;simpa using this
  have hlt:i<r.cond.length:=(AH.1 hi).1
  have hr:r.cond.drop (i+1)=l:=by have:=congrArg AR h1;simpa using this
  have hx:=h.ca x (AI hi)
  have hv:=Zcw x.pattern.args
  by_cases hn:((i:Nat):Int)<n
  ·have e:n.toNat - i=(n.toNat - (i+1))+1:=by omega
   by_cases hk:x.kind=1
   ·refine ⟨row++YM x.pattern.args,?_,⟨hr,by simp;omega,by omega⟩,?_⟩
    ·simp only[hn,hk,decide_true,beq_self_eq_true,if_true]
     rw [Zdf _ (by omega),A0,Zi _ (by omega)]
    ·rw [e];simp [Ys,hk]
   ·refine ⟨row,?_,⟨hr,by omega,by omega⟩,?_⟩
    ·simp [hn,hk]
    ·rw [e];simp [Ys,hk]
  ·have e:n.toNat - i=0:=by omega
   have e':n.toNat - (i+1)=0:=by omega
   refine ⟨row,?_,⟨hr,by omega,by omega⟩,?_⟩
   ·simp [hn]
   ·rw [e,e'];simp
theorem ZcP (r:Zf) (n:Int) (h:Za6 r) (h4:r.cond.length≤4):XT r n=some (Yr r n.toNat):=by
 unfold XT Yr
 refine (Q6 (fun l i (row:List ByteArray)=>some ((Ys (l.take (n.toNat - i))).foldl XW row)) (fun l i row=>r.cond.drop i=l∧row.length≤1048576 * i∧i≤r.cond.length∧Asc row) ?_ ?_ r.cond 0 [] ⟨by simp,by simp,by simp,A8⟩).trans (by simp [ZQ])
 ·rintro i row ⟨h1,h2,h3,h5⟩
  simp [Ys]
 ·rintro x l i row ⟨h1,h2,h3,h5⟩
  have hi:r.cond[i]?=some x:=by have:=congrArg (fun l=>l[0]?) h1;simpa using this
  have hlt:i<r.cond.length:=(AH.1 hi).1
  have hr:r.cond.drop (i+1)=l:=by have:=congrArg AR h1;simpa using this
  have hx:=h.ca x (AI hi)
  have hv:=Zcw x.pattern.args
  have hs:=Zdy (YM x.pattern.args)
  by_cases hn:((i:Nat):Int)<n
  ·left
   have e:n.toNat - i=(n.toNat - (i+1))+1:=by omega
   by_cases hk:x.kind=1
   ·obtain ⟨f1,f2,f3⟩:=XC (ZQ (YM x.pattern.args)) row h5
    refine ⟨(ZQ (YM x.pattern.args)).foldl XW row,?_,⟨hr,by omega,by omega,f1⟩,?_⟩
    ·simp only[hn,hk,decide_true,beq_self_eq_true,if_true]
     rw [ZbP _ (by omega),A0,Zkw (fun _ _ _=>rfl) (by omega)]
    ·rw [e]
     simp only[Ys,List.take_succ_cons,AN,hk,if_true,Ag]
     congr 2
     obtain ⟨g1,g2,_⟩:=XC (YM x.pattern.args) row h5
     exact Znf g1 f1 fun y=>by rw [g2,f2,ZS]
   ·refine ⟨row,?_,⟨hr,by omega,by omega,h5⟩,?_⟩
    ·simp [hn,hk]
    ·rw [e];simp [Ys,hk]
  ·right
   have e:n.toNat - i=0:=by omega
   refine ⟨row,by simp [hn],by rw [e];simp [Ys]⟩
def Zkp (r:Zf) (i:Int) (v:ByteArray):Bool:=!(Zar (fun k x=>!(decide ((k:Int)≠i)&&Yj (Yt x) v)) r.cond 0&&r.thn.all fun a=>!Yj a.pattern.args v)
theorem ZfR {r:Zf} {i:Int} {v:ByteArray} {f:Zr→Option (List ByteArray)} {g:List ByteArray→ByteArray→Option Bool} (hf:∀x∈r.cond,f x=some (Yt x)) (hg:∀l,g l v=some (Yj l v)) {fin:Unit→Option Bool} (hfin:fin ()=some (!(r.thn.all fun a=>!Yj a.pattern.args v))):
  forL (σ:=Unit) (fun (k:Nat) (x:Zr) _=>if (((k:Nat):Int) != i)=true then (f x).bind fun l=>(g l v).bind fun b=>if b=true then some (.inr true) else some (.inl ()) else some (.inl ())) fin r.cond 0 ()=some (Zkp r i v):=by
 rw [Xh (p:=fun k x=>!(decide ((k:Int)≠i)&&Yj (Yt x) v)) (r:=true)]
 ·unfold Zkp
  cases Zar (fun k x=>!(decide ((k:Int)≠i)&&Yj (Yt x) v)) r.cond 0 with
  | true=>simp only[if_true,hfin,A4]
  | false=>simp
 ·intro j x hj
  rw [hf x (AI hj),A0,hg,A0,AM]
  by_cases h:(j:Int)=i
  ·simp [h]
  ·have:((j:Int) != i)=true:=by simpa using h
   simp only[this,if_true]
   cases Yj (Yt x) v<;>simp [h]
theorem Zfe (r:Zf) (i:Int) (v:ByteArray) (h:Za6 r):Xm r i v=some (Zkp r i v):=by
 unfold Xm
 refine ZfR (f:=X1) (g:=YV) (fun x mx=>ZbB x (by have:=h.ca x mx;omega)) (fun l=>QO l v) ?_
 rw [Zc7 (p:=fun a=>Yj a.pattern.args v) (r:=true)]
 ·simp only[←Ah,Ai]
  cases r.thn.any fun a=>Yj a.pattern.args v<;>rfl
 ·intro j a _
  rw [QO]
  cases Yj a.pattern.args v<;>simp
theorem Zik (r:Zf) (i:Int) (v:ByteArray) (h:Za6 r) (hv:Ye v=true):Xu r i v=some (Zkp r i v):=by
 unfold Xu
 refine ZfR (f:=Xz) (g:=ZR) (fun x mx=>Zbz x (by have:=h.ca x mx;omega)) (fun l=>YF l v) ?_
 rw [Zc7 (p:=fun a=>Yj a.pattern.args v) (r:=true)]
 ·simp only[←Ah,Ai]
  cases r.thn.any fun a=>Yj a.pattern.args v<;>rfl
 ·intro j a ma
  rw [ZbP _ (by have:=h.ta a ma;omega),A0,YF,A0]
  have:Yj (ZQ (YM a.pattern.args)) v=Yj a.pattern.args v:=by
   rw [A9,XD,XD,ZS,Zbo]
   simp [hv]
  rw [this]
  cases Yj a.pattern.args v<;>simp
def Zj5 (r:Zf) (i:Nat) (x:Zr) (v:ByteArray):Bool:=decide (x.kind=1)||Yj (Yr r i) v||(decide (x.kind=2)&&!Zkp r i v)
def ZfL (r:Zf) (i:Nat) (x:Zr):Bool:=(Yt x).all (Zj5 r i x)
theorem Zlp (r:Zf) (i:Nat) (x:Zr) (h:Za6 r) (h4:r.cond.length≤4) (hx:r.cond[i]?=some x):Zbs r i=some (ZfL r i x):=by
 unfold Zbs ZfL
 have ha:atI r.cond (i:Int)=some x:=by unfold atI;rw [if_pos (by omega),AE];exact hx
 rw [ha,A0,ZcJ r _ h h4,A0,ZbB x (by have:=h.ca x (AI hx);omega),A0,AE]
 rw [ZW (p:=Zj5 r i x) (r:=false)]
 ·cases (Yt x).all (Zj5 r i x)<;>rfl
 ·intro j v mv
  rw [QO,Zfe r _ v h]
  simp only[A0,Zj5,beq_iff_eq,bne_iff_ne,ne_eq]
  by_cases h1:x.kind=1
  ·simp [h1]
  ·simp only[h1,if_false,decide_false,Aj]
   cases Yj (Yr r i) v with
   | true=>simp
   | false=>
    by_cases h2:x.kind=2
    ·simp only[h2,not_true_eq_false,if_false,A6,decide_true,A4,Aj]
     cases Zkp r i v<;>simp
    ·simp [h2]
def XX (r:Zf):Bool:=
 Qc r.name&&decide (0≤r.priority)&&decide (r.priority≤9)&&decide (1≤r.cond.length)&&decide (r.cond.length≤4)&&decide (1≤r.thn.length)&&decide (r.thn.length≤2)
  && Zar (fun i x=>Yz x&&(decide (i≠0)||decide (x.kind=1))&&ZfL r i x) r.cond 0
  && r.thn.all (fun a=>Xa a&&(YM a.pattern.args).all (Yj (Yr r r.cond.length)))
  && decide ((ZQ (r.cond.flatMap Yt)).length≤6)
theorem Zjw (l:List Zr) (h:∀x∈l,x.pattern.args.length≤1048576) (h4:l.length≤4):Za4 l=some (l.flatMap Yt):=by
 unfold Za4
 rw [XE (f:=fun s x=>s++Yt x) (fun j s=>s.length≤1048578 * j) (by simp)]
 ·congr 1
  have:∀(l:List Zr) (acc:List ByteArray),l.foldl (fun s x=>s++Yt x) acc=acc++l.flatMap Yt:=by
   intro l
   induction l with
   | nil=>simp
   | cons x l ih=>intro acc;rw [AF,ih];simp
  simpa using this l []
 ·intro j x s mx _ hl hI
  have:=h x mx
  have:=Zgv x
  rw [ZbB x (by omega),A0,Zi _ (by omega)]
  exact ⟨rfl,by simp;omega⟩
theorem ZiV (r:Zf) (h:Za6 r):ZdT r=some (XX r):=by
 unfold ZdT XX
 rw [Zft,A0]
 cases Qc r.name with
 | false=>simp
 | true=>
 simp only[if_true,decide_eq_true_eq,A4]
 split
 ·rw [decide_eq_false (show ¬0≤r.priority by omega)];simp
 split
 ·rw [decide_eq_false (show ¬r.priority≤9 by omega)];simp
 split
 ·rw [decide_eq_false (show ¬1≤r.cond.length by omega)];simp
 split
 ·rw [decide_eq_false (show ¬r.cond.length≤4 by omega)];simp
 split
 ·rw [decide_eq_false (show ¬1≤r.thn.length by omega)];simp
 split
 ·rw [decide_eq_false (show ¬r.thn.length≤2 by omega)];simp
 rw [decide_eq_true (show 0≤r.priority by omega),decide_eq_true (show r.priority≤9 by omega),decide_eq_true (show 1≤r.cond.length by omega),decide_eq_true (show r.cond.length≤4 by omega),decide_eq_true (show 1≤r.thn.length by omega),decide_eq_true (show r.thn.length≤2 by omega)]
 simp only[A4]
 have h4:r.cond.length≤4:=by omega
 rw [Xh (p:=fun i x=>Yz x&&(decide (i≠0)||decide (x.kind=1))&&ZfL r i x) (r:=false)]
 ·cases Zar (fun i x=>Yz x&&(decide (i≠0)||decide (x.kind=1))&&ZfL r i x) r.cond 0 with
  | false=>simp
  | true=>
   simp only[if_true,A4]
   rw [ZcJ r _ h h4,A0,AE,ZW (p:=fun a=>Xa a&&(YM a.pattern.args).all (Yj (Yr r r.cond.length))) (r:=false)]
   ·cases r.thn.all fun a=>Xa a&&(YM a.pattern.args).all (Yj (Yr r r.cond.length)) with
    | false=>simp
    | true=>
     have hl:(r.cond.flatMap Yt).length≤1048578 * r.cond.length:=by
      have:∀l:List Zr,(∀x∈l,x.pattern.args.length≤1048576)→(l.flatMap Yt).length≤1048578 * l.length:=by
       intro l
       induction l with
       | nil=>simp
       | cons x l ih=>
        intro hl
        have h1:=ih fun y my=>hl y (by simp [my])
        have h2:=hl x (by simp)
        have h3:=Zgv x
        simp only[AN,AO,AD]
        omega
      exact this r.cond h.ca
     simp only[if_true,A4]
     rw [Zjw _ h.ca h4,A0,XG _ (by omega),A0]
     congr 1
     rw [A9]
     simp only[decide_eq_true_eq]
     omega
   ·intro j a ma
    rw [ZlK,A0]
    cases Xa a with
    | false=>simp
    | true=>
     simp only[if_true,A4]
     rw [Zdf _ (by have:=h.ta a ma;omega),A0,ZW (p:=Yj (Yr r r.cond.length)) (r:=.inr false)]
     ·cases (YM a.pattern.args).all (Yj (Yr r r.cond.length))<;>rfl
     ·intro k v _
      rw [QO,A0]
      cases Yj (Yr r r.cond.length) v<;>simp
 ·intro j x hj
  rw [AM,Zfn,A0,Zlp r j x h h4 hj]
  simp only[A0]
  cases Yz x with
  | false=>simp
  | true=>
   by_cases h0:j=0
   ·subst h0
    by_cases hk:x.kind=1
    ·simp only[hk];cases ZfL r 0 x<;>simp
    ·simp [hk]
   ·have:((j:Int)==0)=false:=by rw [beq_eq_false_iff_ne];omega
    simp only[this]
    cases ZfL r j x<;>simp [h0]
theorem ZeB {α:Type} (f:α→List ByteArray):∀(l:List α) (acc:List ByteArray),Asc acc→l.foldl (fun s x=>(f x).foldl XW s) acc=(l.flatMap f).foldl XW acc
 | [],_,_=>rfl
 | x::l,acc,h=>by rw [AF,ZeB f l _ (XC (f x) acc h).1,AN,Ag]
def ZkC (r:Zf):List ByteArray:=ZQ (r.cond.flatMap Yt++r.thn.flatMap fun a=>YM a.pattern.args)
theorem ZlU (r:Zf) (h:Za6 r) (h4:r.cond.length≤4) (h2:r.thn.length≤2):ZcH r=some (ZkC r):=by
 unfold ZcH ZkC
 rw [XE (f:=fun s x=>(Yt x).foldl XW s) (fun j s=>s.length≤1048578 * j∧Asc s) ⟨by simp,A8⟩]
 ·have hA:=ZeB Yt r.cond [] A8
  have hB:Asc (r.cond.foldl (fun s x=>(Yt x).foldl XW s) []):=by rw [hA];exact (XC _ [] A8).1
  have hl:(r.cond.foldl (fun s x=>(Yt x).foldl XW s) []).length≤1048578 * 4:=by
   rw [hA]
   have:=(XC (r.cond.flatMap Yt) [] A8).2.2
   have h3:(r.cond.flatMap Yt).length≤1048578 * r.cond.length:=by
    have:∀l:List Zr,(∀x∈l,x.pattern.args.length≤1048576)→(l.flatMap Yt).length≤1048578 * l.length:=by
     intro l
     induction l with
     | nil=>simp
     | cons x l ih=>
      intro hl
      have h1:=ih fun y my=>hl y (by simp [my])
      have h2:=hl x (by simp)
      have h3:=Zgv x
      simp only[AN,AO,AD]
      omega
    exact this r.cond h.ca
   simp only[AX,Nat.add_zero] at this
   omega
  rw [XE (f:=fun s a=>(ZQ (YM a.pattern.args)).foldl XW s) (fun j s=>s.length≤1048578 * 4+1048576 * j∧Asc s) ⟨by omega,hB⟩]
  ·congr 1
   rw [ZeB (fun a:Zx=>ZQ (YM a.pattern.args)) r.thn _ hB,hA]
   refine Zez (XC _ _ (XC _ [] A8).1).1 fun y=>?_
   rw [(XC _ _ (XC _ [] A8).1).2.1 y,(XC _ [] A8).2.1 y]
   simp only[AY,AZ,ZS,Af,or_false]
   exact Or.comm
  ·intro j a s ma _ hj hI
   have h5:=h.ta a ma
   have h6:=Zcw a.pattern.args
   have h7:=Zdy (YM a.pattern.args)
   obtain ⟨f1,f2,f3⟩:=XC (ZQ (YM a.pattern.args)) s hI.2
   rw [ZbP _ (by omega),A0,Zkw (fun _ _ _=>rfl) (by omega)]
   exact ⟨rfl,by omega,f1⟩
 ·intro j x s mx _ hj hI
  have h5:=h.ca x mx
  have h6:=Zgv x
  obtain ⟨f1,f2,f3⟩:=XC (Yt x) s hI.2
  rw [Zbz _ (by omega),A0,Zkw (fun _ _ _=>rfl) (by omega)]
  exact ⟨rfl,by omega,f1⟩
theorem ZoX {l:List Zr} {y:ByteArray} (h:y∈Ys l):y∈l.flatMap Yt:=by
 simp only[Ys,AZ] at h ⊢
 obtain ⟨x,hx,hy⟩:=h
 refine ⟨x,hx,?_⟩
 split at hy
 ·rw [Yt,ZS,Zbo]
  rw [Zbo] at hy
  exact ⟨by simp [Zfz,hy.1],hy.2⟩
 ·simp at hy
theorem Zfr (r:Zf) (h:Za6 r):ZbX r=some (XX r):=by
 unfold ZbX XX
 rw [ZfH,A0]
 cases Qc r.name with
 | false=>simp
 | true=>
 simp only[if_true,Zgf,A0,A4,AA,decide_eq_true_eq]
 split
 rotate_left
 ·rename_i hh
  have:(decide (0≤r.priority)&&decide (r.priority≤9))=false:=by simp;omega
  rw [this];simp
 rename_i hp
 rw [decide_eq_true hp.1,decide_eq_true hp.2]
 split
 rotate_left
 ·rename_i hh
  have:(decide (1≤r.cond.length)&&decide (r.cond.length≤4))=false:=by simp;omega
  simp only[A4,this,Ak]
 rename_i hc
 rw [decide_eq_true (show 1≤r.cond.length by omega),decide_eq_true (show r.cond.length≤4 by omega)]
 split
 rotate_left
 ·rename_i hh
  have:(decide (1≤r.thn.length)&&decide (r.thn.length≤2))=false:=by simp;omega
  simp only[A4,this,Ak]
 rename_i ht
 rw [decide_eq_true (show 1≤r.thn.length by omega),decide_eq_true (show r.thn.length≤2 by omega)]
 simp only[A4]
 have h4:r.cond.length≤4:=by omega
 rw [ZcP r _ h h4,A0,AE]
 rw [Xh (p:=fun i x=>Yz x&&(decide (i≠0)||decide (x.kind=1))&&ZfL r i x) (r:=false)]
 ·cases Zar (fun i x=>Yz x&&(decide (i≠0)||decide (x.kind=1))&&ZfL r i x) r.cond 0 with
  | false=>simp
  | true=>
   simp only[if_true,A4]
   rw [ZW (p:=fun a=>Xa a&&(YM a.pattern.args).all (Yj (Yr r r.cond.length))) (r:=false)]
   ·cases ha:r.thn.all fun a=>Xa a&&(YM a.pattern.args).all (Yj (Yr r r.cond.length)) with
    | false=>simp
    | true=>
     simp only[if_true,A4]
     rw [ZlU r h h4 (by omega),A0]
     have e:ZkC r=ZQ (r.cond.flatMap Yt):=Zlx fun y=>by
      simp only[AY]
      refine ⟨fun hy=>?_,.inl⟩
      rcases hy with hy | hy
      ·exact hy
      ·obtain ⟨a,ma,hy⟩:=AZ.1 hy
       have:=AG.1 ha a ma
       simp only[AA] at this
       have:=AG.1 this.2 y hy
       rw [XD,Yr,ZS,List.take_length] at this
       exact ZoX this
     rw [e]
     congr 1
     rw [A9]
     simp only[decide_eq_true_eq]
     omega
   ·intro j a ma
    rw [ZlD,A0]
    cases Xa a with
    | false=>simp
    | true=>
     simp only[if_true,A4]
     rw [ZbP _ (by have:=h.ta a ma;omega),A0,ZW (p:=Yj (Yr r r.cond.length)) (r:=.inr false)]
     ·have:(ZQ (YM a.pattern.args)).all (Yj (Yr r r.cond.length))=(YM a.pattern.args).all (Yj (Yr r r.cond.length)):=by
       rw [A9,AG,AG]
       simp only[ZS]
      rw [this]
      cases (YM a.pattern.args).all (Yj (Yr r r.cond.length))<;>rfl
     ·intro k v _
      rw [YF,A0]
      cases Yj (Yr r r.cond.length) v<;>simp
 ·intro j x hj
  have hxa:=h.ca x (AI hj)
  rw [AM,ZbT,A0,ZcP r _ h h4,Zbz x (by omega),AE]
  simp only[A0]
  cases hic:Yz x with
  | false=>simp
  | true=>
   have loop:∀{fin:Unit→Option (Unit ⊕ Bool)} (hfin:fin ()=some (.inl ())),forL (σ:=Unit) (ρ:=Unit ⊕ Bool) (fun (_:Nat) (v:ByteArray) _=>(ZR (Yr r j) v).bind fun b=>(ZaT x).bind fun t=>if t=true then (if b=true then (if (x.kind==2)=true then some (.inl ()) else some (.inl ())) else some (.inr (.inr false))) else (if (x.kind==2)=true then (if b=true then some (.inl ()) else (Xu r ((j:Nat):Int) v).bind fun e=>if e=true then some (.inr (.inr false)) else some (.inl ())) else some (.inl ()))) fin (Yt x) 0 ()=some (bif ZfL r j x then .inl () else .inr false):=fun {fin} hfin=>by
    rw [ZW (p:=Zj5 r j x) (r:=.inr false)]
    ·unfold ZfL
     cases (Yt x).all (Zj5 r j x)<;>simp [hfin]
    ·intro k v mv
     rw [YF,ZoE,Zik r _ v h (ZrV mv),hic]
     simp only[A0,A4,decide_eq_true_eq,beq_iff_eq,Zj5]
     rcases Znz hic with hk | hk | hk | hk | hk<;>rw [hk]<;>cases Yj (Yr r j) v<;>cases Zkp r j v<;>simp
   by_cases h0:j=0
   ·subst h0
    by_cases hk:x.kind=1
    ·have hk':(x.kind != 1)=false:=by simp [hk]
     simp only[if_true,hk',show (((0:Nat):Int)==0)=true from rfl,A6,if_false]
     rw [loop rfl]
     simp [hk]
    ·have hk':(x.kind != 1)=true:=by simpa using hk
     simp [hk',hk]
   ·have:((j:Int)==0)=false:=by rw [beq_eq_false_iff_ne];omega
    simp only[if_true,this,A6,if_false]
    rw [loop rfl]
    simp [h0]
end Go.Proofs.YtekbmedphidcgaaGreatDoor
